/- Layer 10: the document's numbers and words. -/
import Derived.Test.YtnjeklpjjceppaaTk6
namespace Go.Proofs.Ytnjeklpjjceppaa.Ab
open Go
set_option linter.all false
def wordsB : List ByteArray := [⟨#[97, 115, 115, 101, 114, 116]⟩, ⟨#[101, 108, 115, 101]⟩, ⟨#[105, 102]⟩, ⟨#[105, 110, 112, 117, 116]⟩, ⟨#[105, 110, 116]⟩, ⟨#[110, 117, 108, 108]⟩, ⟨#[114, 101, 116, 117, 114, 110]⟩, ⟨#[119, 104, 105, 108, 101]⟩]
theorem words_same (s : ByteArray) : hasB wordsB s = isWord s := by
  simp only [hasB, wordsB, isWord, wordsA, List.any_cons, List.any_nil, Bool.or_false]
  ac_rfl
theorem rword_any (s : ByteArray) : CallsD Try.prog 14 [strD s] [] [] (fun d h k => d = .v (.bool (isWord s)) ∧ h = [] ∧ k = []) := by
  refine enter htab Try.func14 rfl rfl rfl rfl rfl (fun C => ?_)
  refine wpD_seq ?_
  refine wpD_region ?_
  refine p_pure htab rfl rfl rfl rfl ?_
  refine ops_nil ?_
  refine then_normal ?_
  refine wpD_seq ?_
  refine wpD_region ?_
  refine p_lit htab rfl rfl rfl rfl rfl rfl rfl rfl rfl rfl rfl rfl rfl rfl ?_
  refine p_pure htab rfl rfl rfl rfl ?_
  refine p_call0 (in_any wordsB s (by decide)) rfl rfl rfl rfl rfl (WkL.cons Wk.no (WkL.refl _)) ?_
  rintro _ rfl
  refine p_pure htab rfl rfl rfl rfl ?_
  refine ops_nil ?_
  refine then_normal ?_
  refine wpD_ret ?_
  refine ret1 (.inl rfl) rfl ?_
  rw [← words_same]
def valF (v : Nat) (l : List UInt8) : Nat := l.foldl (fun v c => 10 * v + dig c) v
theorem valF_ge : ∀ (l : List UInt8) (v : Nat), v ≤ valF v l
  | [], v => Nat.le_refl _
  | c :: l, v => by
    have := valF_ge l (10 * v + dig c)
    show v ≤ valF (10 * v + dig c) l
    omega
theorem valF_big : ∀ (l : List UInt8) (v : Nat), v * 10 ^ l.length ≤ valF v l
  | [], v => by simp [valF]
  | c :: l, v => by
    have := valF_big l (10 * v + dig c)
    show v * 10 ^ (l.length + 1) ≤ valF (10 * v + dig c) l
    refine Nat.le_trans ?_ this
    rw [Nat.pow_succ]
    have e : v * (10 ^ l.length * 10) = (10 * v) * 10 ^ l.length := by
      rw [Nat.mul_comm (10 ^ l.length) 10, ← Nat.mul_assoc, Nat.mul_comm v 10]
    rw [e]
    exact Nat.mul_le_mul_right _ (by omega)
theorem valF_lt : ∀ (l : List UInt8) (v : Nat), (∀ c ∈ l, dig c ≤ 9) → valF v l < (v + 1) * 10 ^ l.length
  | [], v, _ => by simp [valF]
  | c :: l, v, h => by
    have := valF_lt l (10 * v + dig c) fun x hx => h x (by simp [hx])
    have hc := h c (by simp)
    show valF (10 * v + dig c) l < (v + 1) * 10 ^ (l.length + 1)
    refine Nat.lt_of_lt_of_le this ?_
    rw [Nat.pow_succ]
    have e : (v + 1) * (10 ^ l.length * 10) = (10 * (v + 1)) * 10 ^ l.length := by
      rw [Nat.mul_comm (10 ^ l.length) 10, ← Nat.mul_assoc, Nat.mul_comm (v + 1) 10]
    rw [e]
    exact Nat.mul_le_mul_right _ (by omega)
theorem numV_val : ∀ (l : List UInt8) (v : Nat), (∀ c ∈ l, dig c ≤ 9) → v ≤ 9223372036854775807 → numV l v = if valF v l ≤ 9223372036854775807 then some (valF v l) else none
  | [], v, _, hv => by simp [numV, valF, hv]
  | c :: l, v, h, hv => by
    have hc := h c (by simp)
    have hge := valF_ge l (10 * v + dig c)
    have e : valF v (c :: l) = valF (10 * v + dig c) l := rfl
    rw [e]
    simp only [numV]
    by_cases hb : (9223372036854775807 - dig c) / 10 < v
    · rw [if_pos hb, if_neg (by omega)]
    · rw [if_neg hb]
      exact numV_val l _ (fun x hx => h x (by simp [hx])) (by omega)
theorem valD_F (l : List UInt8) : valD l = valF 0 l := rfl
/-- What the document says of digits. -/
def numR (ds : List UInt8) : Int × Int :=
  if (ds.head? == some 48 && decide (1 < ds.length)) = true then (0, 3) else
    match numV ds 0 with
    | none => (0, 4)
    | some v => (v, 0)
theorem numR_form {ds : List UInt8} (h : (ds.head? == some 48 && decide (1 < ds.length)) = true) : numR ds = (0, 3) := if_pos h
theorem numR_big {ds : List UInt8} (h : (ds.head? == some 48 && decide (1 < ds.length)) = false) (h2 : ∀ c ∈ ds, dig c ≤ 9) (h3 : 9223372036854775807 < valD ds) : numR ds = (0, 4) := by
  unfold numR
  rw [if_neg (by rw [h]; simp), numV_val ds 0 h2 (by omega), if_neg (by rw [← valD_F]; omega)]
theorem numR_ok {ds : List UInt8} (h : (ds.head? == some 48 && decide (1 < ds.length)) = false) (h2 : ∀ c ∈ ds, dig c ≤ 9) (h3 : valD ds ≤ 9223372036854775807) : numR ds = ((valD ds : Int), 0) := by
  unfold numR
  rw [if_neg (by rw [h]; simp), numV_val ds 0 h2 (by omega), if_pos (by rw [← valD_F]; omega), valD_F]
theorem long_big {ds : List UInt8} {c : UInt8} (hc : ds.head? = some c) (h : (ds.head? == some 48 && decide (1 < ds.length)) = false) (hd : ∀ c ∈ ds, 48 ≤ c.toNat ∧ c.toNat ≤ 57) (hl : 19 < ds.length) : 9223372036854775807 < valD ds := by
  cases ds with
  | nil => simp at hl
  | cons c0 l =>
    simp only [List.head?_cons, Option.some.injEq] at hc; subst hc
    rw [List.head?_cons, head48] at h
    have h48 : (c0.toNat : Int) ≠ 48 := by
      intro q
      rw [q] at h
      simp at h
      rw [List.length_cons, h] at hl
      simp at hl
    have hb := hd c0 (by simp)
    have h1 : 1 ≤ dig c0 := by unfold dig; omega
    have h2 := valF_big l (dig c0)
    have h3 : valD (c0 :: l) = valF (dig c0) l := by simp [valD, valF]
    rw [h3]
    have h4 : 10 ^ 19 ≤ 10 ^ l.length := Nat.pow_le_pow_right (by omega) (by simp at hl; omega)
    have h5 : 1 * 10 ^ l.length ≤ dig c0 * 10 ^ l.length := Nat.mul_le_mul_right _ h1
    have h6 : (10 : Nat) ^ 19 = 10000000000000000000 := by decide
    omega
theorem lt_ofS {k : Nat} {ds : List UInt8} (h : decide ((k : Int) < ((ByteArray.mk ds.toArray).size : Int)) = true) : k < ds.length := by
  have := of_decide_eq_true h
  simp [ByteArray.size] at this; omega
theorem ge_ofS {k : Nat} {ds : List UInt8} (h : decide ((k : Int) < ((ByteArray.mk ds.toArray).size : Int)) = false) : ds.length ≤ k := by
  have := of_decide_eq_false h
  simp [ByteArray.size] at this; omega
theorem le_ofS {ds : List UInt8} (h : decide ((19 : Int) < ((ByteArray.mk ds.toArray).size : Int)) = false) : ds.length ≤ 19 := by
  have := of_decide_eq_false h
  simp [ByteArray.size] at this; omega
theorem gt_ofS {ds : List UInt8} (h : decide ((19 : Int) < ((ByteArray.mk ds.toArray).size : Int)) = true) : 19 < ds.length := by
  have := of_decide_eq_true h
  simp [ByteArray.size] at this; omega
theorem valD_small {ds : List UInt8} {k : Nat} (hd : ∀ c ∈ ds, dig c ≤ 9) (hk : k ≤ 18) : valD (ds.take k) < 1000000000000000000 := by
  have h1 := valF_lt (ds.take k) 0 fun c h => hd c (List.mem_of_mem_take h)
  have h2 : 10 ^ (ds.take k).length ≤ 10 ^ 18 := Nat.pow_le_pow_right (by omega) (Nat.le_trans (List.length_take_le _ _) hk)
  have h3 : (10 : Nat) ^ 18 = 1000000000000000000 := by decide
  rw [valD_F]; omega
theorem valD_small2 {ds : List UInt8} (hd : ∀ c ∈ ds, dig c ≤ 9) (hk : ds.length ≤ 19) : valD ds < 10000000000000000000 := by
  have h1 := valF_lt ds 0 hd
  have h2 : 10 ^ ds.length ≤ 10 ^ 19 := Nat.pow_le_pow_right (by omega) hk
  have h3 : (10 : Nat) ^ 19 = 10000000000000000000 := by decide
  rw [valD_F]; omega
theorem w_next2 {v d : Nat} (h : d ≤ 9) (hv : v < 1000000000000000000) : IntKind.u64.wrap (IntKind.u64.wrap ((v : Int) * 10) + (d : Int)) = ((10 * v + d : Nat) : Int) := by
  rw [IntKind.wrap_u64, IntKind.wrap_u64]; omega
theorem gt_big {v : Nat} (h : decide ((9223372036854775807 : Int) < (v : Int)) = true) : 9223372036854775807 < v := by have := of_decide_eq_true h; omega
theorem le_big {v : Nat} (h : decide ((9223372036854775807 : Int) < (v : Int)) = false) : v ≤ 9223372036854775807 := by have := of_decide_eq_false h; omega
theorem rnumber_any (ds : List UInt8) (c0 : UInt8) (hc0 : ds.head? = some c0) (hd : ∀ c ∈ ds, 48 ≤ c.toNat ∧ c.toNat ≤ 57) (hs : ds.length ≤ 140737488355328) :
    CallsD Try.prog 29 [.v (.string ⟨ds.toArray⟩)] [] [] (fun d h k => d = .tup [.v (.int .i64 ((numR ds).1)), .v (.int .i64 ((numR ds).2))] ∧ h = [] ∧ k = []) := by
  have hd9 : ∀ c ∈ ds, dig c ≤ 9 := fun c h => by have := hd c h; unfold dig; omega
  have hc0' : (ByteArray.mk ds.toArray).data.toList[((0 : Int)).toNat]? = some c0 := by simpa [List.head?_eq_getElem?] using hc0
  have hsz : (ByteArray.mk ds.toArray).size = ds.length := by simp [ByteArray.size]
  refine enter htab Try.func29 rfl rfl rfl rfl rfl (fun C => ?_)
  refine wpD_seq ?_
  refine wpD_region ?_
  refine p_pure htab rfl rfl rfl rfl ?_
  refine p_pure htab rfl rfl rfl rfl ?_
  refine ops_nil ?_
  refine then_normal ?_
  refine wpD_seq ?_
  refine wpD_seq ?_
  refine wpD_region ?_
  refine p_pure htab rfl rfl rfl rfl ?_
  skip
  refine p_byte htab rfl rfl rfl rfl rfl rfl rfl rfl (by omega) (hc0') ?_
  refine p_pure htab rfl rfl rfl rfl ?_
  refine p_pure htab rfl rfl rfl rfl ?_
  refine p_split (i := 9) rfl (fun hg1 => ?_) (fun hg1 => ?_)
  · skip
    refine p_pure htab rfl rfl rfl rfl ?_
    refine p_lenS htab rfl rfl rfl rfl rfl rfl rfl rfl ?_
    refine p_pure htab rfl rfl rfl rfl ?_
    refine p_pickT rfl rfl rfl rfl rfl rfl ?_
    refine ops_nil ?_
    refine then_normal ?_
    refine wpD_cond rfl (fun hc2 => ?_) (fun hc2 => ?_)
    · skip
      refine wpD_seq ?_
      refine wpD_region ?_
      refine p_pure htab rfl rfl rfl rfl ?_
      refine p_pure htab rfl rfl rfl rfl ?_
      refine ops_nil ?_
      refine then_normal ?_
      refine wpD_ret ?_
      refine then_ret ?_
      refine ret2 (.inl rfl) rfl rfl ?_
      first
      | (rw [numR_form (by rw [hc0, head48]; simp only [Bool.or_eq_true, Bool.and_eq_true, Bool.or_eq_false_iff, Bool.and_eq_false_iff, decide_eq_true_eq, decide_eq_false_iff_not, beq_iff_eq, beq_eq_false_iff_ne, ne_eq] at *; omega)]; rfl)
      | (rw [numR_big (by rw [hc0, head48]; simp only [Bool.or_eq_true, Bool.and_eq_true, Bool.or_eq_false_iff, Bool.and_eq_false_iff, decide_eq_true_eq, decide_eq_false_iff_not, beq_iff_eq, beq_eq_false_iff_ne, ne_eq] at *; omega) hd9 (long_big hc0 (by rw [hc0, head48]; simp only [Bool.or_eq_true, Bool.and_eq_true, Bool.or_eq_false_iff, Bool.and_eq_false_iff, decide_eq_true_eq, decide_eq_false_iff_not, beq_iff_eq, beq_eq_false_iff_ne, ne_eq] at *; omega) hd (gt_ofS (by assumption)))]; rfl)
      | (have e : valD (ds.take k) = valD ds := by rw [List.take_of_length_le (ge_ofS (k := k) (by assumption))]
         rw [numR_big (by rw [hc0, head48]; simp only [Bool.or_eq_true, Bool.and_eq_true, Bool.or_eq_false_iff, Bool.and_eq_false_iff, decide_eq_true_eq, decide_eq_false_iff_not, beq_iff_eq, beq_eq_false_iff_ne, ne_eq] at *; omega) hd9 (e ▸ gt_big (v := valD (ds.take k)) (by assumption))]; rfl)
      | (have e : valD (ds.take k) = valD ds := by rw [List.take_of_length_le (ge_ofS (k := k) (by assumption))]
         have q : valD ds ≤ 9223372036854775807 := e ▸ le_big (v := valD (ds.take k)) (by assumption)
         rw [numR_ok (by rw [hc0, head48]; simp only [Bool.or_eq_true, Bool.and_eq_true, Bool.or_eq_false_iff, Bool.and_eq_false_iff, decide_eq_true_eq, decide_eq_false_iff_not, beq_iff_eq, beq_eq_false_iff_ne, ne_eq] at *; omega) hd9 q]
         show D.tup [.v (.int .i64 (IntKind.i64.wrap (valD (ds.take k) : Nat))), .v (.int .i64 (0))] = _
         rw [e, wrapI (by omega) (by omega)])
    · skip
      refine wpD_skip ?_
      refine then_normal ?_
      refine wpD_seq ?_
      refine wpD_region ?_
      refine p_pure htab rfl rfl rfl rfl ?_
      refine ops_nil ?_
      refine then_normal ?_
      refine wpD_seq ?_
      refine wpD_seq ?_
      refine wpD_region ?_
      refine p_pure htab rfl rfl rfl rfl ?_
      refine ops_nil ?_
      refine then_normal ?_
      refine wpD_block ?_
      refine loop_ind (α := Nat) (fun k => k ≤ ds.length ∧ (0 < k → ds.length ≤ 19)) (fun k => ⟨[(0, .v (.string ⟨ds.toArray⟩)), (4, .v (.int .u64 (valD (ds.take k) : Nat))), (5, .v (.int .i64 (k)))], _, []⟩) (fun k => ds.length - k) 0 ⟨Nat.zero_le _, by simp⟩ (WkS.slots (WkS.cons rfl (Wk.refl _) (WkS.cons rfl (Wk.refl _) (WkS.cons rfl (Wk.refl _) (WkS.nil)))) (List.Sublist.refl _) (List.Sublist.refl _)) ?_
      rintro k ⟨hk, h19⟩
      refine wpD_seq ?_
      refine wpD_seq ?_
      refine wpD_region ?_
      refine p_pure htab rfl rfl rfl rfl ?_
      refine p_pure htab rfl rfl rfl rfl ?_
      refine p_lenS htab rfl rfl rfl rfl rfl rfl rfl rfl ?_
      refine p_pure htab rfl rfl rfl rfl ?_
      refine ops_nil ?_
      refine then_normal ?_
      refine wpD_cond rfl (fun hc3 => ?_) (fun hc3 => ?_)
      · skip
        refine wpD_skip ?_
        refine then_normal ?_
        refine wpD_seq ?_
        refine wpD_block ?_
        refine wpD_seq ?_
        refine wpD_seq ?_
        refine wpD_region ?_
        refine p_pure htab rfl rfl rfl rfl ?_
        refine p_lenS htab rfl rfl rfl rfl rfl rfl rfl rfl ?_
        refine p_pure htab rfl rfl rfl rfl ?_
        refine ops_nil ?_
        refine then_normal ?_
        refine wpD_cond rfl (fun hc4 => ?_) (fun hc4 => ?_)
        · skip
          refine wpD_seq ?_
          refine wpD_region ?_
          refine p_pure htab rfl rfl rfl rfl ?_
          refine p_pure htab rfl rfl rfl rfl ?_
          refine ops_nil ?_
          refine then_normal ?_
          refine wpD_ret ?_
          refine then_ret ?_
          refine block_ret ?_
          refine then_ret ?_
          refine then_ret ?_
          refine block_ret ?_
          refine then_ret ?_
          refine ret2 (.inl rfl) rfl rfl ?_
          first
          | (rw [numR_form (by rw [hc0, head48]; simp only [Bool.or_eq_true, Bool.and_eq_true, Bool.or_eq_false_iff, Bool.and_eq_false_iff, decide_eq_true_eq, decide_eq_false_iff_not, beq_iff_eq, beq_eq_false_iff_ne, ne_eq] at *; omega)]; rfl)
          | (rw [numR_big (by rw [hc0, head48]; simp only [Bool.or_eq_true, Bool.and_eq_true, Bool.or_eq_false_iff, Bool.and_eq_false_iff, decide_eq_true_eq, decide_eq_false_iff_not, beq_iff_eq, beq_eq_false_iff_ne, ne_eq] at *; omega) hd9 (long_big hc0 (by rw [hc0, head48]; simp only [Bool.or_eq_true, Bool.and_eq_true, Bool.or_eq_false_iff, Bool.and_eq_false_iff, decide_eq_true_eq, decide_eq_false_iff_not, beq_iff_eq, beq_eq_false_iff_ne, ne_eq] at *; omega) hd (gt_ofS (by assumption)))]; rfl)
          | (have e : valD (ds.take k) = valD ds := by rw [List.take_of_length_le (ge_ofS (k := k) (by assumption))]
             rw [numR_big (by rw [hc0, head48]; simp only [Bool.or_eq_true, Bool.and_eq_true, Bool.or_eq_false_iff, Bool.and_eq_false_iff, decide_eq_true_eq, decide_eq_false_iff_not, beq_iff_eq, beq_eq_false_iff_ne, ne_eq] at *; omega) hd9 (e ▸ gt_big (v := valD (ds.take k)) (by assumption))]; rfl)
          | (have e : valD (ds.take k) = valD ds := by rw [List.take_of_length_le (ge_ofS (k := k) (by assumption))]
             have q : valD ds ≤ 9223372036854775807 := e ▸ le_big (v := valD (ds.take k)) (by assumption)
             rw [numR_ok (by rw [hc0, head48]; simp only [Bool.or_eq_true, Bool.and_eq_true, Bool.or_eq_false_iff, Bool.and_eq_false_iff, decide_eq_true_eq, decide_eq_false_iff_not, beq_iff_eq, beq_eq_false_iff_ne, ne_eq] at *; omega) hd9 q]
             show D.tup [.v (.int .i64 (IntKind.i64.wrap (valD (ds.take k) : Nat))), .v (.int .i64 (0))] = _
             rw [e, wrapI (by omega) (by omega)])
        · skip
          refine wpD_skip ?_
          refine then_normal ?_
          refine wpD_region ?_
          refine p_pure htab rfl rfl rfl rfl ?_
          refine p_pure htab rfl rfl rfl rfl ?_
          refine p_pure htab rfl rfl rfl rfl ?_
          refine p_pure htab rfl rfl rfl rfl ?_
          have hlt : k < ds.length := (lt_ofS (by assumption)); obtain ⟨c, hc⟩ : ∃ c, ds[k]? = some c := ⟨ds[k]'hlt, by simp⟩; have hdg := hd c (List.mem_of_getElem? hc); have h19' : ds.length ≤ 19 := le_ofS (by assumption)
          refine p_byte htab rfl rfl rfl rfl rfl rfl rfl rfl (by omega) (by simpa using hc) ?_
          refine p_pure htab rfl rfl rfl rfl ?_
          refine p_pure htab rfl rfl rfl rfl ?_
          refine p_pure htab rfl rfl rfl rfl ?_
          refine p_pure htab rfl rfl rfl rfl ?_
          refine ops_nil ?_
          refine block_normal ?_
          refine then_normal ?_
          refine wpD_region ?_
          refine p_pure htab rfl rfl rfl rfl ?_
          refine p_pure htab rfl rfl rfl rfl ?_
          refine p_pure htab rfl rfl rfl rfl ?_
          refine ops_nil ?_
          refine then_normal ?_
          refine ⟨(k + 1), WkS.slots (WkS.cons rfl (Wk.refl _) (WkS.cons rfl (Wk.of_eq (by rw [w_dig hdg, w_next2 (hd9 c (List.mem_of_getElem? hc)) (valD_small hd9 (by omega)), valD_step hc])) (WkS.cons rfl (Wk.of_eq (by rw [wrapS (by omega)])) (WkS.nil)))) (List.Sublist.refl _) (List.Sublist.refl _), ⟨by omega, fun _ => by omega⟩, by omega⟩
      · skip
        refine wpD_exit ?_
        refine then_exit ?_
        refine then_exit ?_
        refine block_hit ?_
        refine then_normal ?_
        refine wpD_seq ?_
        refine wpD_seq ?_
        refine wpD_region ?_
        refine p_pure htab rfl rfl rfl rfl ?_
        refine p_pure htab rfl rfl rfl rfl ?_
        refine ops_nil ?_
        refine then_normal ?_
        refine wpD_cond rfl (fun hc5 => ?_) (fun hc5 => ?_)
        · skip
          refine wpD_seq ?_
          refine wpD_region ?_
          refine p_pure htab rfl rfl rfl rfl ?_
          refine p_pure htab rfl rfl rfl rfl ?_
          refine ops_nil ?_
          refine then_normal ?_
          refine wpD_ret ?_
          refine then_ret ?_
          refine ret2 (.inl rfl) rfl rfl ?_
          first
          | (rw [numR_form (by rw [hc0, head48]; simp only [Bool.or_eq_true, Bool.and_eq_true, Bool.or_eq_false_iff, Bool.and_eq_false_iff, decide_eq_true_eq, decide_eq_false_iff_not, beq_iff_eq, beq_eq_false_iff_ne, ne_eq] at *; omega)]; rfl)
          | (rw [numR_big (by rw [hc0, head48]; simp only [Bool.or_eq_true, Bool.and_eq_true, Bool.or_eq_false_iff, Bool.and_eq_false_iff, decide_eq_true_eq, decide_eq_false_iff_not, beq_iff_eq, beq_eq_false_iff_ne, ne_eq] at *; omega) hd9 (long_big hc0 (by rw [hc0, head48]; simp only [Bool.or_eq_true, Bool.and_eq_true, Bool.or_eq_false_iff, Bool.and_eq_false_iff, decide_eq_true_eq, decide_eq_false_iff_not, beq_iff_eq, beq_eq_false_iff_ne, ne_eq] at *; omega) hd (gt_ofS (by assumption)))]; rfl)
          | (have e : valD (ds.take k) = valD ds := by rw [List.take_of_length_le (ge_ofS (k := k) (by assumption))]
             rw [numR_big (by rw [hc0, head48]; simp only [Bool.or_eq_true, Bool.and_eq_true, Bool.or_eq_false_iff, Bool.and_eq_false_iff, decide_eq_true_eq, decide_eq_false_iff_not, beq_iff_eq, beq_eq_false_iff_ne, ne_eq] at *; omega) hd9 (e ▸ gt_big (v := valD (ds.take k)) (by assumption))]; rfl)
          | (have e : valD (ds.take k) = valD ds := by rw [List.take_of_length_le (ge_ofS (k := k) (by assumption))]
             have q : valD ds ≤ 9223372036854775807 := e ▸ le_big (v := valD (ds.take k)) (by assumption)
             rw [numR_ok (by rw [hc0, head48]; simp only [Bool.or_eq_true, Bool.and_eq_true, Bool.or_eq_false_iff, Bool.and_eq_false_iff, decide_eq_true_eq, decide_eq_false_iff_not, beq_iff_eq, beq_eq_false_iff_ne, ne_eq] at *; omega) hd9 q]
             show D.tup [.v (.int .i64 (IntKind.i64.wrap (valD (ds.take k) : Nat))), .v (.int .i64 (0))] = _
             rw [e, wrapI (by omega) (by omega)])
        · skip
          refine wpD_skip ?_
          refine then_normal ?_
          refine wpD_seq ?_
          refine wpD_region ?_
          refine p_pure htab rfl rfl rfl rfl ?_
          refine p_pure htab rfl rfl rfl rfl ?_
          refine p_pure htab rfl rfl rfl rfl ?_
          refine p_pure htab rfl rfl rfl rfl ?_
          refine ops_nil ?_
          refine then_normal ?_
          refine wpD_ret ?_
          refine ret2 (.inl rfl) rfl rfl ?_
          first
          | (rw [numR_form (by rw [hc0, head48]; simp only [Bool.or_eq_true, Bool.and_eq_true, Bool.or_eq_false_iff, Bool.and_eq_false_iff, decide_eq_true_eq, decide_eq_false_iff_not, beq_iff_eq, beq_eq_false_iff_ne, ne_eq] at *; omega)]; rfl)
          | (rw [numR_big (by rw [hc0, head48]; simp only [Bool.or_eq_true, Bool.and_eq_true, Bool.or_eq_false_iff, Bool.and_eq_false_iff, decide_eq_true_eq, decide_eq_false_iff_not, beq_iff_eq, beq_eq_false_iff_ne, ne_eq] at *; omega) hd9 (long_big hc0 (by rw [hc0, head48]; simp only [Bool.or_eq_true, Bool.and_eq_true, Bool.or_eq_false_iff, Bool.and_eq_false_iff, decide_eq_true_eq, decide_eq_false_iff_not, beq_iff_eq, beq_eq_false_iff_ne, ne_eq] at *; omega) hd (gt_ofS (by assumption)))]; rfl)
          | (have e : valD (ds.take k) = valD ds := by rw [List.take_of_length_le (ge_ofS (k := k) (by assumption))]
             rw [numR_big (by rw [hc0, head48]; simp only [Bool.or_eq_true, Bool.and_eq_true, Bool.or_eq_false_iff, Bool.and_eq_false_iff, decide_eq_true_eq, decide_eq_false_iff_not, beq_iff_eq, beq_eq_false_iff_ne, ne_eq] at *; omega) hd9 (e ▸ gt_big (v := valD (ds.take k)) (by assumption))]; rfl)
          | (have e : valD (ds.take k) = valD ds := by rw [List.take_of_length_le (ge_ofS (k := k) (by assumption))]
             have q : valD ds ≤ 9223372036854775807 := e ▸ le_big (v := valD (ds.take k)) (by assumption)
             rw [numR_ok (by rw [hc0, head48]; simp only [Bool.or_eq_true, Bool.and_eq_true, Bool.or_eq_false_iff, Bool.and_eq_false_iff, decide_eq_true_eq, decide_eq_false_iff_not, beq_iff_eq, beq_eq_false_iff_ne, ne_eq] at *; omega) hd9 q]
             show D.tup [.v (.int .i64 (IntKind.i64.wrap (valD (ds.take k) : Nat))), .v (.int .i64 (0))] = _
             rw [e, wrapI (by omega) (by omega)])
  · skip
    refine p_skip rfl rfl rfl ?_
    refine p_skip rfl rfl rfl ?_
    refine p_skip rfl rfl rfl ?_
    refine p_pickF rfl rfl rfl rfl rfl rfl ?_
    refine ops_nil ?_
    refine then_normal ?_
    refine wpD_false rfl ?_
    refine wpD_skip ?_
    refine then_normal ?_
    refine wpD_seq ?_
    refine wpD_region ?_
    refine p_pure htab rfl rfl rfl rfl ?_
    refine ops_nil ?_
    refine then_normal ?_
    refine wpD_seq ?_
    refine wpD_seq ?_
    refine wpD_region ?_
    refine p_pure htab rfl rfl rfl rfl ?_
    refine ops_nil ?_
    refine then_normal ?_
    refine wpD_block ?_
    refine loop_ind (α := Nat) (fun k => k ≤ ds.length ∧ (0 < k → ds.length ≤ 19)) (fun k => ⟨[(0, .v (.string ⟨ds.toArray⟩)), (4, .v (.int .u64 (valD (ds.take k) : Nat))), (5, .v (.int .i64 (k)))], _, []⟩) (fun k => ds.length - k) 0 ⟨Nat.zero_le _, by simp⟩ (WkS.slots (WkS.cons rfl (Wk.refl _) (WkS.cons rfl (Wk.refl _) (WkS.cons rfl (Wk.refl _) (WkS.nil)))) (List.Sublist.refl _) (List.Sublist.refl _)) ?_
    rintro k ⟨hk, h19⟩
    refine wpD_seq ?_
    refine wpD_seq ?_
    refine wpD_region ?_
    refine p_pure htab rfl rfl rfl rfl ?_
    refine p_pure htab rfl rfl rfl rfl ?_
    refine p_lenS htab rfl rfl rfl rfl rfl rfl rfl rfl ?_
    refine p_pure htab rfl rfl rfl rfl ?_
    refine ops_nil ?_
    refine then_normal ?_
    refine wpD_cond rfl (fun hc6 => ?_) (fun hc6 => ?_)
    · skip
      refine wpD_skip ?_
      refine then_normal ?_
      refine wpD_seq ?_
      refine wpD_block ?_
      refine wpD_seq ?_
      refine wpD_seq ?_
      refine wpD_region ?_
      refine p_pure htab rfl rfl rfl rfl ?_
      refine p_lenS htab rfl rfl rfl rfl rfl rfl rfl rfl ?_
      refine p_pure htab rfl rfl rfl rfl ?_
      refine ops_nil ?_
      refine then_normal ?_
      refine wpD_cond rfl (fun hc7 => ?_) (fun hc7 => ?_)
      · skip
        refine wpD_seq ?_
        refine wpD_region ?_
        refine p_pure htab rfl rfl rfl rfl ?_
        refine p_pure htab rfl rfl rfl rfl ?_
        refine ops_nil ?_
        refine then_normal ?_
        refine wpD_ret ?_
        refine then_ret ?_
        refine block_ret ?_
        refine then_ret ?_
        refine then_ret ?_
        refine block_ret ?_
        refine then_ret ?_
        refine ret2 (.inl rfl) rfl rfl ?_
        first
        | (rw [numR_form (by rw [hc0, head48]; simp only [Bool.or_eq_true, Bool.and_eq_true, Bool.or_eq_false_iff, Bool.and_eq_false_iff, decide_eq_true_eq, decide_eq_false_iff_not, beq_iff_eq, beq_eq_false_iff_ne, ne_eq] at *; omega)]; rfl)
        | (rw [numR_big (by rw [hc0, head48]; simp only [Bool.or_eq_true, Bool.and_eq_true, Bool.or_eq_false_iff, Bool.and_eq_false_iff, decide_eq_true_eq, decide_eq_false_iff_not, beq_iff_eq, beq_eq_false_iff_ne, ne_eq] at *; omega) hd9 (long_big hc0 (by rw [hc0, head48]; simp only [Bool.or_eq_true, Bool.and_eq_true, Bool.or_eq_false_iff, Bool.and_eq_false_iff, decide_eq_true_eq, decide_eq_false_iff_not, beq_iff_eq, beq_eq_false_iff_ne, ne_eq] at *; omega) hd (gt_ofS (by assumption)))]; rfl)
        | (have e : valD (ds.take k) = valD ds := by rw [List.take_of_length_le (ge_ofS (k := k) (by assumption))]
           rw [numR_big (by rw [hc0, head48]; simp only [Bool.or_eq_true, Bool.and_eq_true, Bool.or_eq_false_iff, Bool.and_eq_false_iff, decide_eq_true_eq, decide_eq_false_iff_not, beq_iff_eq, beq_eq_false_iff_ne, ne_eq] at *; omega) hd9 (e ▸ gt_big (v := valD (ds.take k)) (by assumption))]; rfl)
        | (have e : valD (ds.take k) = valD ds := by rw [List.take_of_length_le (ge_ofS (k := k) (by assumption))]
           have q : valD ds ≤ 9223372036854775807 := e ▸ le_big (v := valD (ds.take k)) (by assumption)
           rw [numR_ok (by rw [hc0, head48]; simp only [Bool.or_eq_true, Bool.and_eq_true, Bool.or_eq_false_iff, Bool.and_eq_false_iff, decide_eq_true_eq, decide_eq_false_iff_not, beq_iff_eq, beq_eq_false_iff_ne, ne_eq] at *; omega) hd9 q]
           show D.tup [.v (.int .i64 (IntKind.i64.wrap (valD (ds.take k) : Nat))), .v (.int .i64 (0))] = _
           rw [e, wrapI (by omega) (by omega)])
      · skip
        refine wpD_skip ?_
        refine then_normal ?_
        refine wpD_region ?_
        refine p_pure htab rfl rfl rfl rfl ?_
        refine p_pure htab rfl rfl rfl rfl ?_
        refine p_pure htab rfl rfl rfl rfl ?_
        refine p_pure htab rfl rfl rfl rfl ?_
        have hlt : k < ds.length := (lt_ofS (by assumption)); obtain ⟨c, hc⟩ : ∃ c, ds[k]? = some c := ⟨ds[k]'hlt, by simp⟩; have hdg := hd c (List.mem_of_getElem? hc); have h19' : ds.length ≤ 19 := le_ofS (by assumption)
        refine p_byte htab rfl rfl rfl rfl rfl rfl rfl rfl (by omega) (by simpa using hc) ?_
        refine p_pure htab rfl rfl rfl rfl ?_
        refine p_pure htab rfl rfl rfl rfl ?_
        refine p_pure htab rfl rfl rfl rfl ?_
        refine p_pure htab rfl rfl rfl rfl ?_
        refine ops_nil ?_
        refine block_normal ?_
        refine then_normal ?_
        refine wpD_region ?_
        refine p_pure htab rfl rfl rfl rfl ?_
        refine p_pure htab rfl rfl rfl rfl ?_
        refine p_pure htab rfl rfl rfl rfl ?_
        refine ops_nil ?_
        refine then_normal ?_
        refine ⟨(k + 1), WkS.slots (WkS.cons rfl (Wk.refl _) (WkS.cons rfl (Wk.of_eq (by rw [w_dig hdg, w_next2 (hd9 c (List.mem_of_getElem? hc)) (valD_small hd9 (by omega)), valD_step hc])) (WkS.cons rfl (Wk.of_eq (by rw [wrapS (by omega)])) (WkS.nil)))) (List.Sublist.refl _) (List.Sublist.refl _), ⟨by omega, fun _ => by omega⟩, by omega⟩
    · skip
      refine wpD_exit ?_
      refine then_exit ?_
      refine then_exit ?_
      refine block_hit ?_
      refine then_normal ?_
      refine wpD_seq ?_
      refine wpD_seq ?_
      refine wpD_region ?_
      refine p_pure htab rfl rfl rfl rfl ?_
      refine p_pure htab rfl rfl rfl rfl ?_
      refine ops_nil ?_
      refine then_normal ?_
      refine wpD_cond rfl (fun hc8 => ?_) (fun hc8 => ?_)
      · skip
        refine wpD_seq ?_
        refine wpD_region ?_
        refine p_pure htab rfl rfl rfl rfl ?_
        refine p_pure htab rfl rfl rfl rfl ?_
        refine ops_nil ?_
        refine then_normal ?_
        refine wpD_ret ?_
        refine then_ret ?_
        refine ret2 (.inl rfl) rfl rfl ?_
        first
        | (rw [numR_form (by rw [hc0, head48]; simp only [Bool.or_eq_true, Bool.and_eq_true, Bool.or_eq_false_iff, Bool.and_eq_false_iff, decide_eq_true_eq, decide_eq_false_iff_not, beq_iff_eq, beq_eq_false_iff_ne, ne_eq] at *; omega)]; rfl)
        | (rw [numR_big (by rw [hc0, head48]; simp only [Bool.or_eq_true, Bool.and_eq_true, Bool.or_eq_false_iff, Bool.and_eq_false_iff, decide_eq_true_eq, decide_eq_false_iff_not, beq_iff_eq, beq_eq_false_iff_ne, ne_eq] at *; omega) hd9 (long_big hc0 (by rw [hc0, head48]; simp only [Bool.or_eq_true, Bool.and_eq_true, Bool.or_eq_false_iff, Bool.and_eq_false_iff, decide_eq_true_eq, decide_eq_false_iff_not, beq_iff_eq, beq_eq_false_iff_ne, ne_eq] at *; omega) hd (gt_ofS (by assumption)))]; rfl)
        | (have e : valD (ds.take k) = valD ds := by rw [List.take_of_length_le (ge_ofS (k := k) (by assumption))]
           rw [numR_big (by rw [hc0, head48]; simp only [Bool.or_eq_true, Bool.and_eq_true, Bool.or_eq_false_iff, Bool.and_eq_false_iff, decide_eq_true_eq, decide_eq_false_iff_not, beq_iff_eq, beq_eq_false_iff_ne, ne_eq] at *; omega) hd9 (e ▸ gt_big (v := valD (ds.take k)) (by assumption))]; rfl)
        | (have e : valD (ds.take k) = valD ds := by rw [List.take_of_length_le (ge_ofS (k := k) (by assumption))]
           have q : valD ds ≤ 9223372036854775807 := e ▸ le_big (v := valD (ds.take k)) (by assumption)
           rw [numR_ok (by rw [hc0, head48]; simp only [Bool.or_eq_true, Bool.and_eq_true, Bool.or_eq_false_iff, Bool.and_eq_false_iff, decide_eq_true_eq, decide_eq_false_iff_not, beq_iff_eq, beq_eq_false_iff_ne, ne_eq] at *; omega) hd9 q]
           show D.tup [.v (.int .i64 (IntKind.i64.wrap (valD (ds.take k) : Nat))), .v (.int .i64 (0))] = _
           rw [e, wrapI (by omega) (by omega)])
      · skip
        refine wpD_skip ?_
        refine then_normal ?_
        refine wpD_seq ?_
        refine wpD_region ?_
        refine p_pure htab rfl rfl rfl rfl ?_
        refine p_pure htab rfl rfl rfl rfl ?_
        refine p_pure htab rfl rfl rfl rfl ?_
        refine p_pure htab rfl rfl rfl rfl ?_
        refine ops_nil ?_
        refine then_normal ?_
        refine wpD_ret ?_
        refine ret2 (.inl rfl) rfl rfl ?_
        first
        | (rw [numR_form (by rw [hc0, head48]; simp only [Bool.or_eq_true, Bool.and_eq_true, Bool.or_eq_false_iff, Bool.and_eq_false_iff, decide_eq_true_eq, decide_eq_false_iff_not, beq_iff_eq, beq_eq_false_iff_ne, ne_eq] at *; omega)]; rfl)
        | (rw [numR_big (by rw [hc0, head48]; simp only [Bool.or_eq_true, Bool.and_eq_true, Bool.or_eq_false_iff, Bool.and_eq_false_iff, decide_eq_true_eq, decide_eq_false_iff_not, beq_iff_eq, beq_eq_false_iff_ne, ne_eq] at *; omega) hd9 (long_big hc0 (by rw [hc0, head48]; simp only [Bool.or_eq_true, Bool.and_eq_true, Bool.or_eq_false_iff, Bool.and_eq_false_iff, decide_eq_true_eq, decide_eq_false_iff_not, beq_iff_eq, beq_eq_false_iff_ne, ne_eq] at *; omega) hd (gt_ofS (by assumption)))]; rfl)
        | (have e : valD (ds.take k) = valD ds := by rw [List.take_of_length_le (ge_ofS (k := k) (by assumption))]
           rw [numR_big (by rw [hc0, head48]; simp only [Bool.or_eq_true, Bool.and_eq_true, Bool.or_eq_false_iff, Bool.and_eq_false_iff, decide_eq_true_eq, decide_eq_false_iff_not, beq_iff_eq, beq_eq_false_iff_ne, ne_eq] at *; omega) hd9 (e ▸ gt_big (v := valD (ds.take k)) (by assumption))]; rfl)
        | (have e : valD (ds.take k) = valD ds := by rw [List.take_of_length_le (ge_ofS (k := k) (by assumption))]
           have q : valD ds ≤ 9223372036854775807 := e ▸ le_big (v := valD (ds.take k)) (by assumption)
           rw [numR_ok (by rw [hc0, head48]; simp only [Bool.or_eq_true, Bool.and_eq_true, Bool.or_eq_false_iff, Bool.and_eq_false_iff, decide_eq_true_eq, decide_eq_false_iff_not, beq_iff_eq, beq_eq_false_iff_ne, ne_eq] at *; omega) hd9 q]
           show D.tup [.v (.int .i64 (IntKind.i64.wrap (valD (ds.take k) : Nat))), .v (.int .i64 (0))] = _
           rw [e, wrapI (by omega) (by omega)])
end Go.Proofs.Ytnjeklpjjceppaa.Ab
