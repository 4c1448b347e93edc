/- Layer 10: the document's token at a place. -/
import Derived.Test.YtnjeklpjjceppaaTk7
namespace Go.Proofs.Ytnjeklpjjceppaa.Ab
open Go
set_option linter.all false
def kindOf : Out → Int
  | .tok kd _ _ => kd
  | _ => 0
def textOf (r : List UInt8) : Out → ByteArray
  | .tok _ n _ => subS r n
  | _ => ByteArray.empty
def numOf : Out → Int
  | .tok _ _ num => num
  | _ => 0
def otD (r : List UInt8) (o : Out) : D := .agg [.v (.int .i64 (kindOf o)), .v (.string (textOf r o)), .v (.int .i64 (numOf o)), .v (.int .i64 (0))]
def signsL : List ByteArray := [⟨#[61, 61]⟩, ⟨#[33, 61]⟩, ⟨#[60, 61]⟩, ⟨#[38, 38]⟩, ⟨#[124, 124]⟩, ⟨#[40]⟩, ⟨#[41]⟩, ⟨#[123]⟩, ⟨#[125]⟩, ⟨#[91]⟩, ⟨#[93]⟩, ⟨#[59]⟩, ⟨#[44]⟩, ⟨#[61]⟩, ⟨#[60]⟩, ⟨#[43]⟩, ⟨#[45]⟩, ⟨#[42]⟩, ⟨#[47]⟩, ⟨#[37]⟩, ⟨#[33]⟩, ⟨#[38]⟩]
def preB (r : List UInt8) (x : ByteArray) : Bool := decide (x.size ≤ r.length) && decide (subS r x.size = x)
theorem rletter_any (c : Int) : CallsD Try.prog 21 [.v (.int .u8 c)] [] [] (fun d h k => d = .v (.bool (isLet c)) ∧ h = [] ∧ k = []) := letter_any c
theorem ext0 (r : List UInt8) (n : Nat) : (ByteArray.mk r.toArray).extract 0 n = subS r n := by
  unfold subS
  apply ByteArray.ext
  simp [ByteArray.data_extract]
theorem let_dig (c : UInt8) : spanB true c = (isLet (c.toNat : Int) || isDig (c.toNat : Int)) := by
  unfold spanB kindI
  rw [Bool.eq_iff_iff]
  by_cases hb : isBla (c.toNat : Int) = true
  · rw [if_pos hb]
    simp only [isBla, Bool.or_eq_true, beq_iff_eq] at hb
    simp [isLet, isDig]
    omega
  · rw [if_neg hb]
    by_cases hl : isLet (c.toNat : Int) = true
    · rw [if_pos hl]; simp [hl]
    · rw [if_neg hl]
      by_cases hd : isDig (c.toNat : Int) = true
      · rw [if_pos hd]; simp [hd]
      · rw [if_neg hd]; simp [hl, hd]
theorem dig_only (c : UInt8) (h : spanB true c = true) (hn : isLet (c.toNat : Int) = false) : spanB false c = true := by
  rw [let_dig, hn, Bool.false_or] at h
  unfold spanB kindI
  have hb : isBla (c.toNat : Int) = false := by
    simp only [isDig, Bool.and_eq_true, decide_eq_true_eq] at h
    simp [isBla]; omega
  simp [hb, hn, h]
theorem let_not (c : UInt8) (hn : isLet (c.toNat : Int) = true) : spanB false c = false := by
  unfold spanB kindI
  by_cases hb : isBla (c.toNat : Int) = true
  · rw [if_pos hb]; simp
  · rw [if_neg hb, if_pos hn]; simp
theorem span_end0 {lets : Bool} {r : List UInt8} {n : Nat} {c : UInt8} (hc : r[n]? = some c) (h : n ≤ spanN lets r) (hb : spanB lets c = false) : n = spanN lets r := by
  have := span_end (at_ := 0) (s := r) (lets := lets) (k := n) (c := c) (by simpa using hc) (by simpa using h) hb
  simpa using this
theorem span_out0 {lets : Bool} {r : List UInt8} {n : Nat} (hl : r.length ≤ n) (h : n ≤ spanN lets r) : n = spanN lets r := by
  have := span_out (at_ := 0) (s := r) (lets := lets) (k := n) (by simpa using hl) (by simpa using h)
  simpa using this
theorem span_step0 {lets : Bool} {r : List UInt8} {n : Nat} {c : UInt8} (hc : r[n]? = some c) (h : n ≤ spanN lets r) (hb : spanB lets c = true) : n + 1 ≤ spanN lets r := by
  have := span_step (at_ := 0) (s := r) (lets := lets) (k := n) (c := c) (by simpa using hc) (by simpa using h) hb
  simpa using this
theorem getD_at {r : List UInt8} {n : Nat} (h : n < r.length) : r[n]? = some (r.getD n 0) := by simp [h]
theorem el_of {r : List UInt8} {n : Nat} (h : decide ((n : Int) < ((ByteArray.mk r.toArray).size : Int)) = true) : (ByteArray.mk r.toArray).data.toList[((n : Nat) : Int).toNat]? = some (r.getD n 0) := by
  have := lt_ofS h
  simpa using getD_at this
theorem el_of2 {r : List UInt8} {i n : Nat} (h : decide ((i : Int) < (n : Int)) = true) (hn : n ≤ r.length) : (ByteArray.mk r.toArray).data.toList[((i : Nat) : Int).toNat]? = some (r.getD i 0) := by
  have := lt_of h
  simpa using getD_at (r := r) (n := i) (by omega)
theorem span_le_true (r : List UInt8) : spanN false r ≤ spanN true r := by
  have h : ∀ l : List UInt8, (l.takeWhile (spanB false)).length ≤ (l.takeWhile (spanB true)).length := by
    intro l
    induction l with
    | nil => simp
    | cons c l ih =>
      by_cases h1 : spanB false c = true
      · have h2 : spanB true c = true := by simp only [spanB, Bool.false_and, Bool.or_false] at h1; simp [spanB, h1]
        rw [List.takeWhile_cons_of_pos h1, List.takeWhile_cons_of_pos h2]; simp; exact ih
      · rw [List.takeWhile_cons_of_neg h1]; simp
  exact h r
theorem span_get {lets : Bool} {r : List UInt8} {i : Nat} (h : i < spanN lets r) : spanB lets (r.getD i 0) = true := by
  have hl := spanN_le lets r
  have h1 : (r.take (spanN lets r))[i]? = some (r.getD i 0) := by
    rw [List.getElem?_take, if_pos h]; exact getD_at (by omega)
  exact span_mem (List.mem_of_getElem? h1)
theorem kind_let {c : Int} (h1 : kindI c ≠ 1) (h2 : isLet c = true) : kindI c = 2 := by
  unfold kindI at *
  split at h1
  · exact absurd rfl h1
  · rename_i hb; rw [if_neg hb, if_pos h2]
theorem kind_dig {c : Int} (h1 : kindI c ≠ 1) (h2 : isLet c = false) (h3 : isDig c = true) : kindI c = 3 := by
  unfold kindI at *
  split at h1
  · exact absurd rfl h1
  · rename_i hb; rw [if_neg hb, if_neg (by rw [h2]; simp), if_pos h3]
theorem kind_oth {c : Int} (h1 : kindI c ≠ 1) (h2 : isLet c = false) (h3 : isDig c = false) : kindI c = 0 := by
  unfold kindI at *
  split at h1
  · exact absurd rfl h1
  · rename_i hb; rw [if_neg hb, if_neg (by rw [h2]; simp), if_neg (by rw [h3]; simp)]
theorem otD_ext (r : List UInt8) (kd num : Int) (n : Nat) : D.agg [.v (.int .i64 (kd)), .v (.string ((ByteArray.mk r.toArray).extract 0 n)), .v (.int .i64 (num)), .v (.int .i64 (0))] = otD r (.tok kd n num) := by rw [ext0]; rfl
theorem addO_many {l : List Tok} {kd num : Int} {n : Nat} (h : 4000 ≤ l.length) : addO l kd n num = .err 6 := if_pos h
theorem addO_ok {l : List Tok} {kd num : Int} {n : Nat} (h : ¬ 4000 ≤ l.length) : addO l kd n num = .tok kd n num := if_neg h
theorem nameO_long {r : List UInt8} {l : List Tok} (h : 20 < spanN true r) : nameO r l = .err 6 := if_pos h
theorem nameO_many {r : List UInt8} {l : List Tok} (h : 4000 ≤ l.length) : nameO r l = .err 6 := by
  unfold nameO
  split
  · rfl
  · split <;> exact addO_many h
theorem nameO_word {r : List UInt8} {l : List Tok} (h : ¬ 20 < spanN true r) (h2 : ¬ 4000 ≤ l.length) (h3 : isWord (subS r (spanN true r)) = true) : nameO r l = .tok 3 (spanN true r) 0 := by
  unfold nameO; rw [if_neg h, if_pos h3, addO_ok h2]
theorem nameO_name {r : List UInt8} {l : List Tok} (h : ¬ 20 < spanN true r) (h2 : ¬ 4000 ≤ l.length) (h3 : isWord (subS r (spanN true r)) = false) : nameO r l = .tok 1 (spanN true r) 0 := by
  unfold nameO; rw [if_neg h, if_neg (by rw [h3]; simp), addO_ok h2]
theorem numO_R {r : List UInt8} {l : List Tok} (h : ¬ 4000 ≤ l.length) (h2 : spanN false r = spanN true r) : ((numR (r.take (spanN false r))).2 ≠ 0 → numO r l = .err (numR (r.take (spanN false r))).2) ∧ ((numR (r.take (spanN false r))).2 = 0 → numO r l = .tok 2 (spanN false r) (numR (r.take (spanN false r))).1) := by
  have hl := spanN_le false r
  have hlen : (r.take (spanN false r)).length = spanN false r := by simp; omega
  have hd : decide (spanN false r < spanN true r) = false := by simp; omega
  by_cases h1 : 1 < spanN false r
  · have hh : (r.take (spanN false r)).head? = r.head? := by
      cases r with
      | nil => simp
      | cons c r => rw [show spanN false (c :: r) = (spanN false (c :: r) - 1) + 1 by omega]; simp
    unfold numR numO
    rw [if_neg h, hd, hlen, hh, Bool.false_or]
    by_cases h48 : (r.head? == some 48 && decide (1 < spanN false r)) = true
    · rw [if_pos h48, if_pos h48]; simp
    · rw [if_neg h48, if_neg h48]
      cases hv : numV (r.take (spanN false r)) 0 with
      | none => simp
      | some v => simp [addO_ok h]
  · have hf : ∀ x, (x && decide (1 < spanN false r)) = false := fun x => by simp [h1]
    unfold numR numO
    rw [if_neg h, hd, hlen, hf, hf, Bool.false_or]
    cases hv : numV (r.take (spanN false r)) 0 with
    | none => simp
    | some v => simp [addO_ok h]
theorem getS {j : Nat} (h : decide ((j : Int) < (signsL.length : Int)) = true) : signsL[j]? = some (signsL.getD j ByteArray.empty) := by
  have := lt_of h
  simp [this]
theorem szle {a b : Nat} (h : decide ((a : Int) ≤ (b : Int)) = true) : a ≤ b := by simpa using h
theorem szgt {a b : Nat} (h : decide ((a : Int) ≤ (b : Int)) = false) : ¬ a ≤ b := by simpa using h
theorem find_step {r : List UInt8} {j : Nat} {x : ByteArray} (hx : signsL[j]? = some x) (h : preB r x = false) : (signsL.drop j).find? (preB r) = (signsL.drop (j + 1)).find? (preB r) := by
  rw [List.drop_eq_getElem_cons (List.getElem?_eq_some_iff.1 hx).1, (List.getElem?_eq_some_iff.1 hx).2, List.find?_cons_of_neg (by rw [h]; simp)]
theorem find_hit {r : List UInt8} {j : Nat} {x : ByteArray} (hx : signsL[j]? = some x) (h : preB r x = true) : (signsL.drop j).find? (preB r) = some x := by
  rw [List.drop_eq_getElem_cons (List.getElem?_eq_some_iff.1 hx).1, (List.getElem?_eq_some_iff.1 hx).2, List.find?_cons_of_pos h]
theorem preB_no1 {r : List UInt8} {x : ByteArray} (h : decide ((x.size : Int) ≤ ((ByteArray.mk r.toArray).size : Int)) = false) : preB r x = false := by
  have := szgt h
  rw [show (ByteArray.mk r.toArray).size = r.length by simp [ByteArray.size]] at this
  unfold preB
  rw [Bool.and_eq_false_iff]; left; exact decide_eq_false this
theorem preB_no2 {r : List UInt8} {x : ByteArray} (h : decide ((ByteArray.mk r.toArray).extract 0 x.size = x) = false) : preB r x = false := by
  rw [ext0] at h
  unfold preB
  rw [h]; simp
theorem preB_yes {r : List UInt8} {x : ByteArray} (h0 : decide ((x.size : Int) ≤ ((ByteArray.mk r.toArray).size : Int)) = true) (h : decide ((ByteArray.mk r.toArray).extract 0 x.size = x) = true) : preB r x = true := by
  rw [ext0] at h
  have := szle h0
  unfold preB
  rw [show (ByteArray.mk r.toArray).size = r.length by simp [ByteArray.size]] at this
  rw [h, Bool.and_true]
  exact decide_eq_true this
theorem find_same {r : List UInt8} {m : Nat} (hm : m ≤ r.length) : ∀ L : List ByteArray, (∀ x ∈ L, x.size = m) → L.find? (preB r) = if hasB L (subS r m) = true then some (subS r m) else none
  | [], _ => by simp [hasB]
  | x :: L, h => by
    have hx := h x (by simp)
    have ih := find_same hm L fun y hy => h y (by simp [hy])
    by_cases he : subS r m = x
    · have h1 : preB r x = true := by unfold preB; rw [hx]; rw [decide_eq_true hm, decide_eq_true he]; rfl
      have h2 : hasB (x :: L) (subS r m) = true := by
        unfold hasB
        rw [List.any_cons, decide_eq_true he.symm]; rfl
      rw [List.find?_cons_of_pos h1, if_pos h2, he]
    · have h1 : preB r x = false := by unfold preB; rw [hx]; rw [decide_eq_false he, Bool.and_false]
      have h2 : hasB (x :: L) (subS r m) = hasB L (subS r m) := by
        unfold hasB
        rw [List.any_cons, decide_eq_false (fun q => he q.symm)]; rfl
      rw [List.find?_cons_of_neg (by rw [h1]; simp), h2, ih]
theorem find_none {r : List UInt8} {m : Nat} (hm : ¬ m ≤ r.length) : ∀ L : List ByteArray, (∀ x ∈ L, x.size = m) → L.find? (preB r) = none
  | [], _ => by simp
  | x :: L, h => by
    have hx := h x (by simp)
    have h1 : preB r x = false := by unfold preB; rw [hx, decide_eq_false hm]; rfl
    rw [List.find?_cons_of_neg (by rw [h1]; simp)]
    exact find_none hm L fun y hy => h y (by simp [hy])
theorem idx_mem (c : UInt8) : ∀ l : List UInt8, (0 ≤ Lib.indexByte l c ↔ l.contains c = true) ∧ -1 ≤ Lib.indexByte l c
  | [] => by simp [Lib.indexByte]
  | b :: l => by
    obtain ⟨h1, h2⟩ := idx_mem c l
    unfold Lib.indexByte
    by_cases hb : b = c
    · subst hb; simp
    · have hbc : (b == c) = false := by simpa using hb
      have hcb : (c == b) = false := by simpa using fun q : c = b => hb q.symm
      rw [hbc, List.contains_cons, hcb, Bool.false_or, ← h1]
      simp only [Bool.false_eq_true, if_false]
      by_cases hm : Lib.indexByte l c = -1
      · rw [hm]; simp
      · have : (Lib.indexByte l c == -1) = false := by simpa using hm
        rw [this]
        simp only [Bool.false_eq_true, if_false]
        omega
def onesL : List ByteArray := ones.map fun b => ⟨#[b]⟩
theorem signs_split : signsL = twos ++ onesL := rfl
theorem ones_has (c : UInt8) : ∀ l : List UInt8, hasB (l.map fun b => ByteArray.mk #[b]) ⟨#[c]⟩ = l.contains c
  | [] => rfl
  | b :: l => by
    have ih := ones_has c l
    unfold hasB at ih ⊢
    rw [List.map_cons, List.any_cons, ih, List.contains_cons]
    congr 1
    rw [Bool.eq_iff_iff, decide_eq_true_iff, beq_iff_eq]
    constructor
    · intro h
      have := congrArg ByteArray.data h
      simpa [eq_comm] using this
    · intro h; rw [h]
theorem sign_find (r : List UInt8) (hne : r ≠ []) : signsL.find? (preB r) = if signN r = 0 then none else some (subS r (signN r)) := by
  cases r with
  | nil => exact absurd rfl hne
  | cons c r =>
    have h2 : ∀ x ∈ twos, x.size = 2 := by intro x hx; simp [twos] at hx; rcases hx with rfl | rfl | rfl | rfl | rfl <;> rfl
    have h1 : ∀ x ∈ onesL, x.size = 1 := by
      intro x hx
      simp only [onesL, List.mem_map] at hx
      obtain ⟨b, _, rfl⟩ := hx
      rfl
    have hs1 : subS (c :: r) 1 = ⟨#[c]⟩ := by simp [subS]
    rw [signs_split, List.find?_append, find_same (m := 1) (by simp) onesL h1, hs1]
    unfold onesL
    rw [ones_has c ones]
    have tail : ∀ q : (c :: r).length ≤ 1 ∨ hasB twos (subS (c :: r) 2) = false, (if ones.contains c = true then some (ByteArray.mk #[c]) else none) = if signN (c :: r) = 0 then none else some (subS (c :: r) (signN (c :: r))) := fun q => by
      rw [sign_rest (c := c) (by simp) q]
      by_cases hm : ones.contains c = true
      · rw [if_pos hm, if_pos ((idx_mem c ones).1.2 hm), if_neg (by decide), hs1]
      · rw [if_neg hm, if_neg fun q => hm ((idx_mem c ones).1.1 q), if_pos rfl]
    by_cases hl : 1 < (c :: r).length
    · rw [find_same (m := 2) (by omega) twos h2]
      by_cases hh : hasB twos (subS (c :: r) 2) = true
      · rw [if_pos hh, sign_two hl hh]; rfl
      · rw [if_neg hh, Option.none_or]
        exact tail (.inr (by simpa using hh))
    · rw [find_none (m := 2) (by omega) twos h2, Option.none_or]
      exact tail (.inl (by omega))
theorem gt20 {n : Nat} (h : decide ((20 : Int) < (n : Int)) = true) : 20 < n := by have := of_decide_eq_true h; omega
theorem le20 {n : Nat} (h : decide ((20 : Int) < (n : Int)) = false) : ¬ 20 < n := by have := of_decide_eq_false h; omega
theorem sign_hit {r : List UInt8} {x : ByteArray} (hne : r ≠ []) (h : signsL.find? (preB r) = some x) : signN r ≠ 0 ∧ subS r (signN r) = x := by
  rw [sign_find r hne] at h
  split at h
  · cases h
  · rename_i h0
    simp only [Option.some.injEq] at h
    exact ⟨h0, h⟩
theorem sign_miss {r : List UInt8} (hne : r ≠ []) (h : signsL.find? (preB r) = none) : signN r = 0 := by
  rw [sign_find r hne] at h
  split at h
  · assumption
  · cases h
end Go.Proofs.Ytnjeklpjjceppaa.Ab
