/- Layer 10: numbers and signs. -/
import Derived.Test.YtnjeklpjjceppaaTk3
namespace Go.Proofs.Ytnjeklpjjceppaa.Ab
open Go
set_option linter.all false
def dig (c : UInt8) : Nat := c.toNat - 48
def numV : List UInt8 → Nat → Option Nat
  | [], v => some v
  | c :: cs, v => if (9223372036854775807 - dig c) / 10 < v then none else numV cs (10 * v + dig c)
def valD (l : List UInt8) : Nat := l.foldl (fun v c => 10 * v + dig c) 0
def numO (r : List UInt8) (l : List Tok) : Out :=
  if 4000 ≤ l.length then .err 6 else if (decide (spanN false r < spanN true r) || (r.head? == some 48 && decide (1 < spanN false r))) = true then .err 3 else
    match numV (r.take (spanN false r)) 0 with
    | none => .err 4
    | some v => addO l 2 (spanN false r) v
theorem span_mem {lets : Bool} {r : List UInt8} {c : UInt8} (h : c ∈ r.take (spanN lets r)) : spanB lets c = true := by
  have e : r.take (spanN lets r) = r.takeWhile (spanB lets) := by
    unfold spanN
    have h3 := List.takeWhile_append_dropWhile (p := spanB lets) (l := r)
    generalize r.takeWhile (spanB lets) = p at h3 ⊢
    rw [← h3]; simp
  rw [e] at h
  have := List.all_takeWhile (p := spanB lets) (l := r)
  rw [List.all_eq_true] at this
  exact this c h
theorem dig_of {c : UInt8} (h : spanB false c = true) : 48 ≤ c.toNat ∧ c.toNat ≤ 57 := by
  simp only [spanB, Bool.false_and, Bool.or_false, beq_iff_eq] at h
  unfold kindI at h
  split at h
  · omega
  · split at h
    · omega
    · split at h
      · rename_i h3
        simp only [isDig, Bool.and_eq_true, decide_eq_true_eq] at h3
        omega
      · omega
theorem lenP {s : List UInt8} {at_ n : Nat} (h : at_ + n ≤ s.length) : (((s.map byteD).drop at_).take (at_ + n - at_)).length = n := by
  simp; omega
theorem numV_step {l : List UInt8} {k : Nat} {c : UInt8} (hc : l[k]? = some c) (h : ¬ (9223372036854775807 - dig c) / 10 < valD (l.take k)) : numV (l.drop k) (valD (l.take k)) = numV (l.drop (k + 1)) (valD (l.take (k + 1))) := by
  have hlt := (List.getElem?_eq_some_iff.1 hc).1
  have e : l.drop k = c :: l.drop (k + 1) := by
    rw [List.drop_eq_getElem_cons hlt, (List.getElem?_eq_some_iff.1 hc).2]
  rw [e]
  simp only [numV, if_neg h]
  congr 1
  rw [List.take_add_one, hc]
  simp [valD]
theorem numV_bad {l : List UInt8} {k : Nat} {c : UInt8} (hc : l[k]? = some c) (h : (9223372036854775807 - dig c) / 10 < valD (l.take k)) : numV (l.drop k) (valD (l.take k)) = none := by
  have hlt := (List.getElem?_eq_some_iff.1 hc).1
  have e : l.drop k = c :: l.drop (k + 1) := by
    rw [List.drop_eq_getElem_cons hlt, (List.getElem?_eq_some_iff.1 hc).2]
  rw [e]
  simp only [numV, if_pos h]
theorem valD_step {l : List UInt8} {k : Nat} {c : UInt8} (hc : l[k]? = some c) : valD (l.take (k + 1)) = 10 * valD (l.take k) + dig c := by
  rw [List.take_add_one, hc]
  simp [valD]
theorem w_dig {c : UInt8} (h : 48 ≤ c.toNat ∧ c.toNat ≤ 57) : IntKind.u64.wrap (IntKind.u8.wrap ((c.toNat : Int) - 48)) = (dig c : Int) := by
  rw [IntKind.wrap_u8, IntKind.wrap_u64]; unfold dig; omega
theorem w_quo {d : Nat} (h : d ≤ 9) : IntKind.u64.wrap ((IntKind.u64.wrap (9223372036854775807 - (d : Int))).tdiv 10) = (((9223372036854775807 - d) / 10 : Nat) : Int) := by
  rw [IntKind.wrap_u64, IntKind.wrap_u64]
  have e : (9223372036854775807 - (d : Int)) % 18446744073709551616 = ((9223372036854775807 - d : Nat) : Int) := by omega
  rw [e]
  have e2 : (((9223372036854775807 - d : Nat) : Int)).tdiv 10 = (((9223372036854775807 - d) / 10 : Nat) : Int) := by
    rw [Int.tdiv_eq_ediv_of_nonneg (by omega)]; omega
  rw [e2]; omega
theorem w_next {v d : Nat} (h : d ≤ 9) (hv : v ≤ (9223372036854775807 - d) / 10) : IntKind.u64.wrap (IntKind.u64.wrap (10 * (v : Int)) + (d : Int)) = ((10 * v + d : Nat) : Int) := by
  rw [IntKind.wrap_u64, IntKind.wrap_u64]; omega
theorem ge_of {a b : Nat} (h : decide ((a : Int) < (b : Int)) = false) : b ≤ a := by simpa using h
theorem lt_of {a b : Nat} (h : decide ((a : Int) < (b : Int)) = true) : a < b := by simpa using h
theorem big_no {c : UInt8} {v : Nat} (hdg : 48 ≤ c.toNat ∧ c.toNat ≤ 57) (hd : dig c ≤ 9) (h : decide (IntKind.u64.wrap ((IntKind.u64.wrap (9223372036854775807 - IntKind.u64.wrap (IntKind.u8.wrap ((c.toNat : Int) - 48)))).tdiv 10) < (v : Int)) = false) : v ≤ (9223372036854775807 - dig c) / 10 := by
  rw [w_dig hdg, w_quo hd] at h
  have := of_decide_eq_false h
  omega
theorem head48 (c : UInt8) : (some c == some (48 : UInt8)) = ((c.toNat : Int) == 48) := by
  rw [Bool.eq_iff_iff]
  simp only [beq_iff_eq, Option.some.injEq]
  constructor
  · intro h; rw [h]; rfl
  · intro h; exact UInt8.toNat_inj.1 (by show c.toNat = 48; omega)
theorem big_yes {c : UInt8} {v : Nat} (hdg : 48 ≤ c.toNat ∧ c.toNat ≤ 57) (hd : dig c ≤ 9) (h : decide (IntKind.u64.wrap ((IntKind.u64.wrap (9223372036854775807 - IntKind.u64.wrap (IntKind.u8.wrap ((c.toNat : Int) - 48)))).tdiv 10) < (v : Int)) = true) : (9223372036854775807 - dig c) / 10 < v := by
  rw [w_dig hdg, w_quo hd] at h
  have := of_decide_eq_true h
  omega
theorem numO_many {r : List UInt8} {l : List Tok} (h : 4000 ≤ l.length) : numO r l = .err 6 := if_pos h
theorem numO_form {r : List UInt8} {l : List Tok} (h : ¬ 4000 ≤ l.length) (h2 : (decide (spanN false r < spanN true r) || (r.head? == some 48 && decide (1 < spanN false r))) = true) : numO r l = .err 3 := by
  unfold numO; rw [if_neg h, if_pos h2]
theorem numO_big {r : List UInt8} {l : List Tok} (h : ¬ 4000 ≤ l.length) (h2 : (decide (spanN false r < spanN true r) || (r.head? == some 48 && decide (1 < spanN false r))) = false) (h3 : numV (r.take (spanN false r)) 0 = none) : numO r l = .err 4 := by
  unfold numO; rw [if_neg h, if_neg (by rw [h2]; simp), h3]
theorem numO_ok {r : List UInt8} {l : List Tok} {v : Nat} (h : ¬ 4000 ≤ l.length) (h2 : (decide (spanN false r < spanN true r) || (r.head? == some 48 && decide (1 < spanN false r))) = false) (h3 : numV (r.take (spanN false r)) 0 = some v) : numO r l = addO l 2 (spanN false r) v := by
  unfold numO; rw [if_neg h, if_neg (by rw [h2]; simp), h3]
theorem number_any (s : List UInt8) (at_ : Nat) (l : List Tok) (y : Value) (b : Nat) (T : TypeId) (hs : s.length ≤ 140737488355328) (ha : at_ < s.length) (hl : l.length ≤ 4000) :
    CallsD Try.prog 26 [.ptr b 0] [(b, .cells (rdC s at_ (tkL l y)) T)] [(4, y)] (Gv s at_ l b T (numO (s.drop at_) l)) := by
  have ha' : at_ ≤ s.length := by omega
  have hsp := spanN_at false ha'
  have hw : IntKind.i64.wrap ((at_ : Int) + (spanN false (s.drop at_) : Nat)) = ((at_ + spanN false (s.drop at_) : Nat) : Int) := by rw [wrapI] <;> omega
  have hn : at_ + spanN false (s.drop at_) - at_ = spanN false (s.drop at_) := by omega
  obtain ⟨c0, hc0⟩ : ∃ c, s[at_]? = some c := ⟨s[at_]'ha, by simp⟩
  have hh : (s.drop at_).head? = some c0 := by rw [List.head?_drop]; exact hc0
  have hmap : ((s.map byteD).drop at_).take (at_ + spanN false (s.drop at_) - at_) = ((s.drop at_).take (spanN false (s.drop at_))).map byteD := by rw [hn]; simp
  have hall : ∀ c, c ∈ (s.drop at_).take (spanN false (s.drop at_)) → 48 ≤ c.toNat ∧ c.toNat ≤ 57 := fun c h => dig_of (span_mem h)
  generalize hds : (s.drop at_).take (spanN false (s.drop at_)) = ds at *
  have hdl : ds.length = spanN false (s.drop at_) := by rw [← hds]; simp; omega
  refine enter htab Try.func26 rfl rfl rfl rfl rfl (fun C => ?_)
  refine wpD_seq ?_
  refine wpD_region ?_
  refine p_pure htab rfl rfl rfl rfl ?_
  refine ops_nil ?_
  refine then_normal ?_
  refine wpD_seq ?_
  refine wpD_seq ?_
  refine wpD_region ?_
  refine p_pure htab rfl rfl rfl rfl ?_
  refine p_pure htab rfl rfl rfl rfl ?_
  refine p_pure htab rfl rfl rfl rfl ?_
  refine p_load 0 htab rfl rfl rfl rfl rfl rfl rfl rfl ?_
  refine p_lenL htab rfl rfl rfl rfl rfl rfl rfl (by first | exact List.length_map _ | exact lenP hsp) ?_
  refine p_pure htab rfl rfl rfl rfl ?_
  refine ops_nil ?_
  refine then_normal ?_
  refine wpD_cond rfl (fun hc1 => ?_) (fun hc1 => ?_)
  · skip
    refine wpD_seq ?_
    refine wpD_region ?_
    refine p_pure htab rfl rfl rfl rfl ?_
    refine ops_nil ?_
    refine then_normal ?_
    refine wpD_ret ?_
    refine then_ret ?_
    refine ret1m (.inl rfl) rfl (List.Sublist.cons_cons _ (List.nil_sublist _)) (List.Sublist.cons_cons _ (List.nil_sublist _)) ?_
    first
    | (rw [numO_many (by simp at hc1; omega)]
       exact ⟨_, rfl, rfl, rfl⟩)
    | (rw [numO_form (by simp at hc1; omega) (by rw [hh, head48]; simp only [Bool.or_eq_true, Bool.and_eq_true, Bool.or_eq_false_iff, Bool.and_eq_false_iff, decide_eq_true_eq, decide_eq_false_iff_not, beq_iff_eq, beq_eq_false_iff_ne, ne_eq] at *; omega)]
       exact ⟨_, rfl, rfl, rfl⟩)
    | (rw [numO_big (by simp at hc1; omega) (by rw [hh, head48]; simp only [Bool.or_eq_true, Bool.and_eq_true, Bool.or_eq_false_iff, Bool.and_eq_false_iff, decide_eq_true_eq, decide_eq_false_iff_not, beq_iff_eq, beq_eq_false_iff_ne, ne_eq] at *; omega) (by rw [hds, ← hv]; exact numV_bad hc (big_yes hdg hd9 (by assumption)))]
       exact ⟨_, rfl, rfl, rfl⟩)
    | (have hk2 : ds.length ≤ k := ge_of (by assumption)
       have e2 : addO l 2 (spanN false (s.drop at_)) (IntKind.i64.wrap ((valD (ds.take k) : Nat) : Int)) = numO (s.drop at_) l := by
         rw [wrapI (by omega) (by omega)]
         refine (numO_ok (by simp at hc1; omega) (by rw [hh, head48]; simp only [Bool.or_eq_true, Bool.and_eq_true, Bool.or_eq_false_iff, Bool.and_eq_false_iff, decide_eq_true_eq, decide_eq_false_iff_not, beq_iff_eq, beq_eq_false_iff_ne, ne_eq] at *; omega) ?_).symm
         rw [hds, ← hv, List.drop_of_length_le hk2]; rfl
       rw [← e2]
       exact ⟨_, rfl, rfl, rfl⟩)
  · skip
    refine wpD_skip ?_
    refine then_normal ?_
    refine wpD_seq ?_
    refine wpD_region ?_
    refine p_pure htab rfl rfl rfl rfl ?_
    refine ops_call (s := ⟨_, _, _⟩) (span_any s at_ (tkL l y) false b T hs ha') rfl rfl rfl rfl rfl (WkL.refl _) (perm_at (j := 0) rfl) (List.Perm.refl _) ?_
    rintro _ _ _ ⟨rfl, rfl, rfl⟩
    refine p_pure htab rfl rfl rfl rfl ?_
    refine ops_nil ?_
    refine then_normal ?_
    refine wpD_seq ?_
    refine wpD_seq ?_
    refine bycB (decide ((spanN false (s.drop at_) : Int) < (spanN true (s.drop at_) : Int))) (fun hs2 => ?_) (fun hs2 => ?_)
    · skip
      refine wpD_draws 13 [] [[],[0],[],[0,1],[0,1],[0,1],[0,1],[0,1],[0,1],[0,1],[0,1],[0,1],[0,1]] [0,1] [[],[0],[],[0,1,2],[0,1,2,3],[0,1,2,3,4],[0,1,2,3,4,5],[0,1,2,3,4,5,6],[0,1,2,3,4,5,6,7],[0,1,2,3,4],[0,1,2,3,4,9],[0,1,2,3,4,9,10],[0,1,2,3,4,9,10,11],[0,1,2,3,4,5,6,7,8,9,10,11,12],[0,1,2,3,4,5,6,7,8,9,10,11,12,13],[0,1,2,3,4,5,6,7,8,9,10,11,12,13,14],[0,1,2,3,4,5,6,7,8,9,10,11,12,13,14,15],[0,1,2,3,4,5,6,7,8,9,10,11,12,13,14,15,16],[0,1,2,3,4,5,6,7,8,9,10,11,12,13,14,15,16,17],[0,1,2,3,4,5,6,7,8,9,10,11,12,13,14,15,16,17,18],[0,1,2,3,4,5,6,7,8,9,10,11,12,13,14,15,16,17,18,19]] (by kernel_rfl) (by kernel_rfl) (by kernel_rfl) (by rfl) (by rfl) (by kernel_rfl) ?_
      apply Exists.intro
      apply Exists.intro
      intro bs
      refine z_e rfl rfl (ex_pure htab rfl) rfl rfl rfl rfl rfl rfl ?_
      refine z_callB 0 rfl rfl (span_any s at_ (tkL l y) true b T hs ha') rfl rfl (WkL.refl _) rfl rfl rfl rfl rfl rfl rfl ?_
      refine z_q rfl rfl (ex_pure htab rfl) rfl rfl rfl rfl rfl rfl ?_
      refine z_q rfl rfl (ex_pure htab rfl) rfl rfl rfl rfl rfl rfl ?_
      refine z_q rfl rfl (ex_pure htab rfl) rfl rfl rfl rfl rfl rfl ?_
      refine z_known (j := 20) (b' := true) rfl hs2 ?_
      refine z_skip rfl rfl rfl rfl ?_
      refine z_skip rfl rfl rfl rfl ?_
      refine z_skip rfl rfl rfl rfl ?_
      refine z_skip rfl rfl rfl rfl ?_
      refine z_skip rfl rfl rfl rfl ?_
      refine z_skip rfl rfl rfl rfl ?_
      refine z_skip rfl rfl rfl rfl ?_
      refine z_skip rfl rfl rfl rfl ?_
      refine z_nil rfl rfl (fun e he => by simp [isAl] at he) ?_
      refine p_skip rfl rfl rfl ?_
      refine p_skip rfl rfl rfl ?_
      refine p_skip rfl rfl rfl ?_
      refine p_skip rfl rfl rfl ?_
      refine p_skip rfl rfl rfl ?_
      refine p_skip rfl rfl rfl ?_
      refine p_skip rfl rfl rfl ?_
      refine p_pickT rfl rfl rfl rfl rfl rfl ?_
      refine ops_nil ?_
      refine then_normal ?_
      refine wpD_true rfl ?_
      refine wpD_seq ?_
      refine wpD_region ?_
      refine p_pure htab rfl rfl rfl rfl ?_
      refine ops_nil ?_
      refine then_normal ?_
      refine wpD_ret ?_
      refine then_ret ?_
      refine ret1m (.inl rfl) rfl (List.Sublist.cons_cons _ (List.nil_sublist _)) (List.Sublist.cons_cons _ (List.nil_sublist _)) ?_
      first
      | (rw [numO_many (by simp at hc1; omega)]
         exact ⟨_, rfl, rfl, rfl⟩)
      | (rw [numO_form (by simp at hc1; omega) (by rw [hh, head48]; simp only [Bool.or_eq_true, Bool.and_eq_true, Bool.or_eq_false_iff, Bool.and_eq_false_iff, decide_eq_true_eq, decide_eq_false_iff_not, beq_iff_eq, beq_eq_false_iff_ne, ne_eq] at *; omega)]
         exact ⟨_, rfl, rfl, rfl⟩)
      | (rw [numO_big (by simp at hc1; omega) (by rw [hh, head48]; simp only [Bool.or_eq_true, Bool.and_eq_true, Bool.or_eq_false_iff, Bool.and_eq_false_iff, decide_eq_true_eq, decide_eq_false_iff_not, beq_iff_eq, beq_eq_false_iff_ne, ne_eq] at *; omega) (by rw [hds, ← hv]; exact numV_bad hc (big_yes hdg hd9 (by assumption)))]
         exact ⟨_, rfl, rfl, rfl⟩)
      | (have hk2 : ds.length ≤ k := ge_of (by assumption)
         have e2 : addO l 2 (spanN false (s.drop at_)) (IntKind.i64.wrap ((valD (ds.take k) : Nat) : Int)) = numO (s.drop at_) l := by
           rw [wrapI (by omega) (by omega)]
           refine (numO_ok (by simp at hc1; omega) (by rw [hh, head48]; simp only [Bool.or_eq_true, Bool.and_eq_true, Bool.or_eq_false_iff, Bool.and_eq_false_iff, decide_eq_true_eq, decide_eq_false_iff_not, beq_iff_eq, beq_eq_false_iff_ne, ne_eq] at *; omega) ?_).symm
           rw [hds, ← hv, List.drop_of_length_le hk2]; rfl
         rw [← e2]
         exact ⟨_, rfl, rfl, rfl⟩)
    · skip
      refine wpD_draws 13 [] [[],[0],[],[0,1],[0,1],[0,1],[0,1,5],[0,1,5,6],[0,1,5,6,7],[0,1],[0,1,9],[0,1,9,10],[0,1,9,10,11]] [0,1,5,6,7,8,9,10,11] [[],[0],[],[0,1,2],[0,1,2,3],[0,1,2,3,4],[0,1,2,3,4,5],[0,1,2,3,4,5,6],[0,1,2,3,4,5,6,7],[0,1,2,3,4],[0,1,2,3,4,9],[0,1,2,3,4,9,10],[0,1,2,3,4,9,10,11],[0,1,2,3,4,5,6,7,8,9,10,11,12],[0,1,2,3,4,5,6,7,8,9,10,11,12,13],[0,1,2,3,4,5,6,7,8,9,10,11,12,13,14],[0,1,2,3,4,5,6,7,8,9,10,11,12,13,14,15],[0,1,2,3,4,5,6,7,8,9,10,11,12,13,14,15,16],[0,1,2,3,4,5,6,7,8,9,10,11,12,13,14,15,16,17],[0,1,2,3,4,5,6,7,8,9,10,11,12,13,14,15,16,17,18],[0,1,2,3,4,5,6,7,8,9,10,11,12,13,14,15,16,17,18,19]] (by kernel_rfl) (by kernel_rfl) (by kernel_rfl) (by rfl) (by rfl) (by kernel_rfl) ?_
      apply Exists.intro
      apply Exists.intro
      apply Exists.intro
      apply Exists.intro
      apply Exists.intro
      apply Exists.intro
      apply Exists.intro
      apply Exists.intro
      apply Exists.intro
      intro bs
      refine z_e rfl rfl (ex_pure htab rfl) rfl rfl rfl rfl rfl rfl ?_
      refine z_callB 0 rfl rfl (span_any s at_ (tkL l y) true b T hs ha') rfl rfl (WkL.refl _) rfl rfl rfl rfl rfl rfl rfl ?_
      refine z_q rfl rfl (ex_pure htab rfl) rfl rfl rfl rfl rfl rfl ?_
      refine z_q rfl rfl (ex_pure htab rfl) rfl rfl rfl rfl rfl rfl ?_
      refine z_q rfl rfl (ex_pure htab rfl) rfl rfl rfl rfl rfl rfl ?_
      refine z_known (j := 20) (b' := false) rfl hs2 ?_
      refine z_e rfl rfl (ex_pure htab rfl) rfl rfl rfl rfl rfl rfl ?_
      refine z_e rfl rfl (ex_pure htab rfl) rfl rfl rfl rfl rfl rfl ?_
      refine z_e rfl rfl (ex_pure htab rfl) rfl rfl rfl rfl rfl rfl ?_
      refine z_eM rfl rfl (xm_load 0 htab rfl rfl rfl rfl rfl) rfl rfl rfl rfl rfl rfl ?_
      refine z_e rfl rfl (ex_pure htab rfl) rfl rfl rfl rfl rfl rfl ?_
      refine z_e rfl rfl (ex_pure htab rfl) rfl rfl rfl rfl rfl rfl ?_
      refine z_e rfl rfl (ex_pure htab rfl) rfl rfl rfl rfl rfl rfl ?_
      refine z_qM rfl rfl (xm_load 0 htab rfl rfl rfl rfl rfl) rfl rfl rfl rfl rfl rfl ?_
      refine z_nil rfl rfl (fun e he => by simp [isAl] at he) ?_
      skip
      refine p_elem htab rfl rfl rfl rfl rfl rfl rfl rfl rfl rfl (by omega) (map_get hc0) ?_
      refine p_loadEl htab rfl rfl rfl rfl rfl rfl rfl rfl ?_
      refine p_pure htab rfl rfl rfl rfl ?_
      refine p_pure htab rfl rfl rfl rfl ?_
      refine p_split (i := 32) rfl (fun hg3 => ?_) (fun hg3 => ?_)
      · skip
        refine p_pure htab rfl rfl rfl rfl ?_
        refine p_pure htab rfl rfl rfl rfl ?_
        refine p_pickT rfl rfl rfl rfl rfl rfl ?_
        refine p_pickF rfl rfl rfl rfl rfl rfl ?_
        refine ops_nil ?_
        refine then_normal ?_
        refine wpD_cond rfl (fun hc4 => ?_) (fun hc4 => ?_)
        · skip
          refine wpD_seq ?_
          refine wpD_region ?_
          refine p_pure htab rfl rfl rfl rfl ?_
          refine ops_nil ?_
          refine then_normal ?_
          refine wpD_ret ?_
          refine then_ret ?_
          refine ret1m (.inl rfl) rfl (List.Sublist.cons_cons _ (List.nil_sublist _)) (List.Sublist.cons_cons _ (List.nil_sublist _)) ?_
          first
          | (rw [numO_many (by simp at hc1; omega)]
             exact ⟨_, rfl, rfl, rfl⟩)
          | (rw [numO_form (by simp at hc1; omega) (by rw [hh, head48]; simp only [Bool.or_eq_true, Bool.and_eq_true, Bool.or_eq_false_iff, Bool.and_eq_false_iff, decide_eq_true_eq, decide_eq_false_iff_not, beq_iff_eq, beq_eq_false_iff_ne, ne_eq] at *; omega)]
             exact ⟨_, rfl, rfl, rfl⟩)
          | (rw [numO_big (by simp at hc1; omega) (by rw [hh, head48]; simp only [Bool.or_eq_true, Bool.and_eq_true, Bool.or_eq_false_iff, Bool.and_eq_false_iff, decide_eq_true_eq, decide_eq_false_iff_not, beq_iff_eq, beq_eq_false_iff_ne, ne_eq] at *; omega) (by rw [hds, ← hv]; exact numV_bad hc (big_yes hdg hd9 (by assumption)))]
             exact ⟨_, rfl, rfl, rfl⟩)
          | (have hk2 : ds.length ≤ k := ge_of (by assumption)
             have e2 : addO l 2 (spanN false (s.drop at_)) (IntKind.i64.wrap ((valD (ds.take k) : Nat) : Int)) = numO (s.drop at_) l := by
               rw [wrapI (by omega) (by omega)]
               refine (numO_ok (by simp at hc1; omega) (by rw [hh, head48]; simp only [Bool.or_eq_true, Bool.and_eq_true, Bool.or_eq_false_iff, Bool.and_eq_false_iff, decide_eq_true_eq, decide_eq_false_iff_not, beq_iff_eq, beq_eq_false_iff_ne, ne_eq] at *; omega) ?_).symm
               rw [hds, ← hv, List.drop_of_length_le hk2]; rfl
             rw [← e2]
             exact ⟨_, rfl, rfl, rfl⟩)
        · skip
          refine wpD_skip ?_
          refine then_normal ?_
          refine wpD_seq ?_
          refine wpD_region ?_
          refine p_pure htab rfl rfl rfl rfl ?_
          refine ops_nil ?_
          refine then_normal ?_
          refine wpD_seq ?_
          refine wpD_seq ?_
          refine wpD_draws 17 [] [[],[0],[0,1],[0,1,2],[],[4],[4,5],[4,5,6],[],[8],[8,9],[8,9,10],[],[8,9,10],[0,1,2,3,4,5,6,8,9,10],[0,1,2,3,4,5,6,8,9,10,14],[]] [0,1,2,3,4,5,6,8,9,10,14] [[],[0],[0,1],[0,1,2],[],[4],[4,5],[4,5,6],[],[8],[8,9],[8,9,10],[],[8,9,10,11,12],[0,1,2,3,4,5,6,7,8,9,10,11,12,13],[0,1,2,3,4,5,6,7,8,9,10,11,12,13,14],[]] (by kernel_rfl) (by kernel_rfl) (by kernel_rfl) (by rfl) (by rfl) (by kernel_rfl) ?_
          apply Exists.intro
          apply Exists.intro
          apply Exists.intro
          apply Exists.intro
          apply Exists.intro
          apply Exists.intro
          apply Exists.intro
          apply Exists.intro
          apply Exists.intro
          apply Exists.intro
          apply Exists.intro
          intro bs
          refine z_e rfl rfl (ex_pure htab rfl) rfl rfl rfl rfl rfl rfl ?_
          refine z_e rfl rfl (ex_pure htab rfl) rfl rfl rfl rfl rfl rfl ?_
          refine z_e rfl rfl (ex_pure htab rfl) rfl rfl rfl rfl rfl rfl ?_
          refine z_eM rfl rfl (xm_load 0 htab rfl rfl rfl rfl rfl) rfl rfl rfl rfl rfl rfl ?_
          refine z_e rfl rfl (ex_pure htab rfl) rfl rfl rfl rfl rfl rfl ?_
          refine z_e rfl rfl (ex_pure htab rfl) rfl rfl rfl rfl rfl rfl ?_
          refine z_e rfl rfl (ex_pure htab rfl) rfl rfl rfl rfl rfl rfl ?_
          refine z_qM rfl rfl (xm_load 0 htab rfl rfl rfl rfl rfl) rfl rfl rfl rfl rfl rfl ?_
          refine z_e rfl rfl (ex_pure htab rfl) rfl rfl rfl rfl rfl rfl ?_
          refine z_e rfl rfl (ex_pure htab rfl) rfl rfl rfl rfl rfl rfl ?_
          refine z_e rfl rfl (ex_pure htab rfl) rfl rfl rfl rfl rfl rfl ?_
          refine z_qM rfl rfl (xm_load 0 htab rfl rfl rfl rfl rfl) rfl rfl rfl rfl rfl rfl ?_
          refine z_q rfl rfl (ex_pure htab rfl) rfl rfl rfl rfl rfl rfl ?_
          refine z_q rfl rfl (ex_pure htab rfl) rfl rfl rfl rfl rfl rfl ?_
          refine z_e rfl rfl (x_part htab rfl rfl rfl rfl rfl rfl rfl rfl rfl hw (by omega) (by simpa using hsp)) rfl rfl rfl rfl rfl rfl ?_
          refine z_q rfl rfl (x_lenL htab rfl rfl rfl rfl (by first | exact List.length_map _ | exact lenP hsp)) rfl rfl rfl rfl rfl rfl ?_
          refine z_q rfl rfl (ex_pure htab rfl) rfl rfl rfl rfl rfl rfl ?_
          refine z_nil rfl rfl (fun e he => by simp [isAl] at he) ?_
          refine ops_nil ?_
          refine then_normal ?_
          refine wpD_block ?_
          refine loop_ind (α := Nat) (fun k => k ≤ ds.length ∧ numV (ds.drop k) (valD (ds.take k)) = numV ds 0 ∧ valD (ds.take k) ≤ 9223372036854775807) (fun k => ⟨[(0, .ptr b 0), (3, .v (.int .i64 (spanN false (s.drop at_)))), (4, .v (.int .u64 (valD (ds.take k) : Nat))), (51, .lst 1 (ds.map byteD) .no), (52, .v (.int .i64 (ds.length))), (53, .v (.int .i64 (k)))], _, _⟩) (fun k => ds.length - k) 0 ⟨Nat.zero_le _, rfl, by simp [valD]⟩ (WkS.slots (WkS.cons rfl (Wk.refl _) (WkS.cons rfl (Wk.refl _) (WkS.cons rfl (Wk.refl _) (WkS.cons rfl (Wk.of_eq (congrArg (fun q => D.lst 1 q .no) hmap)) (WkS.cons rfl (Wk.of_eq (by rw [hdl])) (WkS.cons rfl (Wk.refl _) (WkS.nil))))))) (List.Sublist.refl _) (List.Sublist.refl _)) ?_
          rintro k ⟨hk, hv, hle⟩
          refine wpD_seq ?_
          refine wpD_region ?_
          refine p_pure htab rfl rfl rfl rfl ?_
          refine ops_nil ?_
          refine then_normal ?_
          refine wpD_seq ?_
          refine wpD_cond rfl (fun hc5 => ?_) (fun hc5 => ?_)
          · skip
            refine wpD_skip ?_
            refine then_normal ?_
            refine wpD_seq ?_
            refine wpD_block ?_
            refine wpD_seq ?_
            refine wpD_region ?_
            have hlt : k < ds.length := (lt_of (by assumption)); obtain ⟨c, hc⟩ : ∃ c, ds[k]? = some c := ⟨ds[k]'hlt, by simp⟩; have hdg := hall c (List.mem_of_getElem? hc); have hd9 : dig c ≤ 9 := (by unfold dig; omega)
            refine p_elem htab rfl rfl rfl rfl rfl rfl rfl rfl rfl rfl (by omega) (map_get hc) ?_
            refine p_loadEl htab rfl rfl rfl rfl rfl rfl rfl rfl ?_
            refine p_pure htab rfl rfl rfl rfl ?_
            refine ops_nil ?_
            refine then_normal ?_
            refine wpD_seq ?_
            refine wpD_region ?_
            refine p_pure htab rfl rfl rfl rfl ?_
            refine p_pure htab rfl rfl rfl rfl ?_
            refine p_pure htab rfl rfl rfl rfl ?_
            refine p_pure htab rfl rfl rfl rfl ?_
            refine ops_nil ?_
            refine then_normal ?_
            refine wpD_seq ?_
            refine wpD_seq ?_
            refine wpD_region ?_
            refine p_pure htab rfl rfl rfl rfl ?_
            refine p_pure htab rfl rfl rfl rfl ?_
            refine p_pure htab rfl rfl rfl rfl ?_
            refine p_div rfl rfl rfl rfl rfl rfl rfl (by omega) ?_
            refine p_pure htab rfl rfl rfl rfl ?_
            refine ops_nil ?_
            refine then_normal ?_
            refine wpD_cond rfl (fun hc6 => ?_) (fun hc6 => ?_)
            · skip
              refine wpD_seq ?_
              refine wpD_region ?_
              refine p_pure htab rfl rfl rfl rfl ?_
              refine ops_nil ?_
              refine then_normal ?_
              refine wpD_ret ?_
              refine then_ret ?_
              refine block_ret ?_
              refine then_ret ?_
              refine then_ret ?_
              refine block_ret ?_
              refine then_ret ?_
              refine ret1m (.inl rfl) rfl (List.Sublist.cons_cons _ (List.nil_sublist _)) (List.Sublist.cons_cons _ (List.nil_sublist _)) ?_
              first
              | (rw [numO_many (by simp at hc1; omega)]
                 exact ⟨_, rfl, rfl, rfl⟩)
              | (rw [numO_form (by simp at hc1; omega) (by rw [hh, head48]; simp only [Bool.or_eq_true, Bool.and_eq_true, Bool.or_eq_false_iff, Bool.and_eq_false_iff, decide_eq_true_eq, decide_eq_false_iff_not, beq_iff_eq, beq_eq_false_iff_ne, ne_eq] at *; omega)]
                 exact ⟨_, rfl, rfl, rfl⟩)
              | (rw [numO_big (by simp at hc1; omega) (by rw [hh, head48]; simp only [Bool.or_eq_true, Bool.and_eq_true, Bool.or_eq_false_iff, Bool.and_eq_false_iff, decide_eq_true_eq, decide_eq_false_iff_not, beq_iff_eq, beq_eq_false_iff_ne, ne_eq] at *; omega) (by rw [hds, ← hv]; exact numV_bad hc (big_yes hdg hd9 (by assumption)))]
                 exact ⟨_, rfl, rfl, rfl⟩)
              | (have hk2 : ds.length ≤ k := ge_of (by assumption)
                 have e2 : addO l 2 (spanN false (s.drop at_)) (IntKind.i64.wrap ((valD (ds.take k) : Nat) : Int)) = numO (s.drop at_) l := by
                   rw [wrapI (by omega) (by omega)]
                   refine (numO_ok (by simp at hc1; omega) (by rw [hh, head48]; simp only [Bool.or_eq_true, Bool.and_eq_true, Bool.or_eq_false_iff, Bool.and_eq_false_iff, decide_eq_true_eq, decide_eq_false_iff_not, beq_iff_eq, beq_eq_false_iff_ne, ne_eq] at *; omega) ?_).symm
                   rw [hds, ← hv, List.drop_of_length_le hk2]; rfl
                 rw [← e2]
                 exact ⟨_, rfl, rfl, rfl⟩)
            · skip
              refine wpD_skip ?_
              refine then_normal ?_
              refine wpD_region ?_
              refine p_pure htab rfl rfl rfl rfl ?_
              refine p_pure htab rfl rfl rfl rfl ?_
              refine p_pure htab rfl rfl rfl rfl ?_
              refine p_pure htab rfl rfl rfl rfl ?_
              refine p_pure htab rfl rfl rfl rfl ?_
              refine ops_nil ?_
              refine block_normal ?_
              refine then_normal ?_
              refine wpD_region ?_
              refine p_pure htab rfl rfl rfl rfl ?_
              refine p_pure htab rfl rfl rfl rfl ?_
              refine ops_nil ?_
              refine then_normal ?_
              refine ⟨(k + 1), WkS.slots (WkS.cons rfl (Wk.refl _) (WkS.cons rfl (Wk.refl _) (WkS.cons rfl (Wk.of_eq (by rw [w_dig hdg, w_next hd9 (big_no hdg hd9 (by assumption)), valD_step hc])) (WkS.cons rfl (Wk.refl _) (WkS.cons rfl (Wk.refl _) (WkS.cons rfl (Wk.of_eq (by rw [wrapS (by omega)])) (WkS.nil))))))) (List.Sublist.refl _) (List.Sublist.refl _), ⟨by omega, by rw [← numV_step hc (Nat.not_lt.2 (big_no hdg hd9 (by assumption)))]; exact hv, by have := big_no hdg hd9 (by assumption); rw [valD_step hc]; omega⟩, by omega⟩
          · skip
            refine wpD_exit ?_
            refine then_exit ?_
            refine then_exit ?_
            refine block_hit ?_
            refine then_normal ?_
            refine wpD_seq ?_
            refine wpD_region ?_
            refine p_pure htab rfl rfl rfl rfl ?_
            refine p_pure htab rfl rfl rfl rfl ?_
            refine p_pure htab rfl rfl rfl rfl ?_
            refine p_pure htab rfl rfl rfl rfl ?_
            refine ops_call (s := ⟨_, _, _⟩) (add_any s at_ l y b T _ _ _ hs hsp hl) rfl rfl rfl rfl rfl (WkL.refl _) (perm_at (j := 0) rfl) (perm_at (j := 0) rfl) ?_
            rintro _ _ _ ⟨v7, rfl, rfl, rfl⟩
            refine p_pure htab rfl rfl rfl rfl ?_
            refine ops_nil ?_
            refine then_normal ?_
            refine wpD_ret ?_
            refine ret1m (.inl rfl) rfl (List.Sublist.cons_cons _ (List.nil_sublist _)) (List.Sublist.cons_cons _ (List.nil_sublist _)) ?_
            first
            | (rw [numO_many (by simp at hc1; omega)]
               exact ⟨_, rfl, rfl, rfl⟩)
            | (rw [numO_form (by simp at hc1; omega) (by rw [hh, head48]; simp only [Bool.or_eq_true, Bool.and_eq_true, Bool.or_eq_false_iff, Bool.and_eq_false_iff, decide_eq_true_eq, decide_eq_false_iff_not, beq_iff_eq, beq_eq_false_iff_ne, ne_eq] at *; omega)]
               exact ⟨_, rfl, rfl, rfl⟩)
            | (rw [numO_big (by simp at hc1; omega) (by rw [hh, head48]; simp only [Bool.or_eq_true, Bool.and_eq_true, Bool.or_eq_false_iff, Bool.and_eq_false_iff, decide_eq_true_eq, decide_eq_false_iff_not, beq_iff_eq, beq_eq_false_iff_ne, ne_eq] at *; omega) (by rw [hds, ← hv]; exact numV_bad hc (big_yes hdg hd9 (by assumption)))]
               exact ⟨_, rfl, rfl, rfl⟩)
            | (have hk2 : ds.length ≤ k := ge_of (by assumption)
               have e2 : addO l 2 (spanN false (s.drop at_)) (IntKind.i64.wrap ((valD (ds.take k) : Nat) : Int)) = numO (s.drop at_) l := by
                 rw [wrapI (by omega) (by omega)]
                 refine (numO_ok (by simp at hc1; omega) (by rw [hh, head48]; simp only [Bool.or_eq_true, Bool.and_eq_true, Bool.or_eq_false_iff, Bool.and_eq_false_iff, decide_eq_true_eq, decide_eq_false_iff_not, beq_iff_eq, beq_eq_false_iff_ne, ne_eq] at *; omega) ?_).symm
                 rw [hds, ← hv, List.drop_of_length_le hk2]; rfl
               rw [← e2]
               exact ⟨_, rfl, rfl, rfl⟩)
      · skip
        refine p_skip rfl rfl rfl ?_
        refine p_skip rfl rfl rfl ?_
        refine p_pickF rfl rfl rfl rfl rfl rfl ?_
        refine p_pickF rfl rfl rfl rfl rfl rfl ?_
        refine ops_nil ?_
        refine then_normal ?_
        refine wpD_false rfl ?_
        refine wpD_skip ?_
        refine then_normal ?_
        refine wpD_seq ?_
        refine wpD_region ?_
        refine p_pure htab rfl rfl rfl rfl ?_
        refine ops_nil ?_
        refine then_normal ?_
        refine wpD_seq ?_
        refine wpD_seq ?_
        refine wpD_draws 17 [] [[],[0],[0,1],[0,1,2],[],[4],[4,5],[4,5,6],[],[8],[8,9],[8,9,10],[],[8,9,10],[0,1,2,3,4,5,6,8,9,10],[0,1,2,3,4,5,6,8,9,10,14],[]] [0,1,2,3,4,5,6,8,9,10,14] [[],[0],[0,1],[0,1,2],[],[4],[4,5],[4,5,6],[],[8],[8,9],[8,9,10],[],[8,9,10,11,12],[0,1,2,3,4,5,6,7,8,9,10,11,12,13],[0,1,2,3,4,5,6,7,8,9,10,11,12,13,14],[]] (by kernel_rfl) (by kernel_rfl) (by kernel_rfl) (by rfl) (by rfl) (by kernel_rfl) ?_
        apply Exists.intro
        apply Exists.intro
        apply Exists.intro
        apply Exists.intro
        apply Exists.intro
        apply Exists.intro
        apply Exists.intro
        apply Exists.intro
        apply Exists.intro
        apply Exists.intro
        apply Exists.intro
        intro bs
        refine z_e rfl rfl (ex_pure htab rfl) rfl rfl rfl rfl rfl rfl ?_
        refine z_e rfl rfl (ex_pure htab rfl) rfl rfl rfl rfl rfl rfl ?_
        refine z_e rfl rfl (ex_pure htab rfl) rfl rfl rfl rfl rfl rfl ?_
        refine z_eM rfl rfl (xm_load 0 htab rfl rfl rfl rfl rfl) rfl rfl rfl rfl rfl rfl ?_
        refine z_e rfl rfl (ex_pure htab rfl) rfl rfl rfl rfl rfl rfl ?_
        refine z_e rfl rfl (ex_pure htab rfl) rfl rfl rfl rfl rfl rfl ?_
        refine z_e rfl rfl (ex_pure htab rfl) rfl rfl rfl rfl rfl rfl ?_
        refine z_qM rfl rfl (xm_load 0 htab rfl rfl rfl rfl rfl) rfl rfl rfl rfl rfl rfl ?_
        refine z_e rfl rfl (ex_pure htab rfl) rfl rfl rfl rfl rfl rfl ?_
        refine z_e rfl rfl (ex_pure htab rfl) rfl rfl rfl rfl rfl rfl ?_
        refine z_e rfl rfl (ex_pure htab rfl) rfl rfl rfl rfl rfl rfl ?_
        refine z_qM rfl rfl (xm_load 0 htab rfl rfl rfl rfl rfl) rfl rfl rfl rfl rfl rfl ?_
        refine z_q rfl rfl (ex_pure htab rfl) rfl rfl rfl rfl rfl rfl ?_
        refine z_q rfl rfl (ex_pure htab rfl) rfl rfl rfl rfl rfl rfl ?_
        refine z_e rfl rfl (x_part htab rfl rfl rfl rfl rfl rfl rfl rfl rfl hw (by omega) (by simpa using hsp)) rfl rfl rfl rfl rfl rfl ?_
        refine z_q rfl rfl (x_lenL htab rfl rfl rfl rfl (by first | exact List.length_map _ | exact lenP hsp)) rfl rfl rfl rfl rfl rfl ?_
        refine z_q rfl rfl (ex_pure htab rfl) rfl rfl rfl rfl rfl rfl ?_
        refine z_nil rfl rfl (fun e he => by simp [isAl] at he) ?_
        refine ops_nil ?_
        refine then_normal ?_
        refine wpD_block ?_
        refine loop_ind (α := Nat) (fun k => k ≤ ds.length ∧ numV (ds.drop k) (valD (ds.take k)) = numV ds 0 ∧ valD (ds.take k) ≤ 9223372036854775807) (fun k => ⟨[(0, .ptr b 0), (3, .v (.int .i64 (spanN false (s.drop at_)))), (4, .v (.int .u64 (valD (ds.take k) : Nat))), (51, .lst 1 (ds.map byteD) .no), (52, .v (.int .i64 (ds.length))), (53, .v (.int .i64 (k)))], _, _⟩) (fun k => ds.length - k) 0 ⟨Nat.zero_le _, rfl, by simp [valD]⟩ (WkS.slots (WkS.cons rfl (Wk.refl _) (WkS.cons rfl (Wk.refl _) (WkS.cons rfl (Wk.refl _) (WkS.cons rfl (Wk.of_eq (congrArg (fun q => D.lst 1 q .no) hmap)) (WkS.cons rfl (Wk.of_eq (by rw [hdl])) (WkS.cons rfl (Wk.refl _) (WkS.nil))))))) (List.Sublist.refl _) (List.Sublist.refl _)) ?_
        rintro k ⟨hk, hv, hle⟩
        refine wpD_seq ?_
        refine wpD_region ?_
        refine p_pure htab rfl rfl rfl rfl ?_
        refine ops_nil ?_
        refine then_normal ?_
        refine wpD_seq ?_
        refine wpD_cond rfl (fun hc8 => ?_) (fun hc8 => ?_)
        · skip
          refine wpD_skip ?_
          refine then_normal ?_
          refine wpD_seq ?_
          refine wpD_block ?_
          refine wpD_seq ?_
          refine wpD_region ?_
          have hlt : k < ds.length := (lt_of (by assumption)); obtain ⟨c, hc⟩ : ∃ c, ds[k]? = some c := ⟨ds[k]'hlt, by simp⟩; have hdg := hall c (List.mem_of_getElem? hc); have hd9 : dig c ≤ 9 := (by unfold dig; omega)
          refine p_elem htab rfl rfl rfl rfl rfl rfl rfl rfl rfl rfl (by omega) (map_get hc) ?_
          refine p_loadEl htab rfl rfl rfl rfl rfl rfl rfl rfl ?_
          refine p_pure htab rfl rfl rfl rfl ?_
          refine ops_nil ?_
          refine then_normal ?_
          refine wpD_seq ?_
          refine wpD_region ?_
          refine p_pure htab rfl rfl rfl rfl ?_
          refine p_pure htab rfl rfl rfl rfl ?_
          refine p_pure htab rfl rfl rfl rfl ?_
          refine p_pure htab rfl rfl rfl rfl ?_
          refine ops_nil ?_
          refine then_normal ?_
          refine wpD_seq ?_
          refine wpD_seq ?_
          refine wpD_region ?_
          refine p_pure htab rfl rfl rfl rfl ?_
          refine p_pure htab rfl rfl rfl rfl ?_
          refine p_pure htab rfl rfl rfl rfl ?_
          refine p_div rfl rfl rfl rfl rfl rfl rfl (by omega) ?_
          refine p_pure htab rfl rfl rfl rfl ?_
          refine ops_nil ?_
          refine then_normal ?_
          refine wpD_cond rfl (fun hc9 => ?_) (fun hc9 => ?_)
          · skip
            refine wpD_seq ?_
            refine wpD_region ?_
            refine p_pure htab rfl rfl rfl rfl ?_
            refine ops_nil ?_
            refine then_normal ?_
            refine wpD_ret ?_
            refine then_ret ?_
            refine block_ret ?_
            refine then_ret ?_
            refine then_ret ?_
            refine block_ret ?_
            refine then_ret ?_
            refine ret1m (.inl rfl) rfl (List.Sublist.cons_cons _ (List.nil_sublist _)) (List.Sublist.cons_cons _ (List.nil_sublist _)) ?_
            first
            | (rw [numO_many (by simp at hc1; omega)]
               exact ⟨_, rfl, rfl, rfl⟩)
            | (rw [numO_form (by simp at hc1; omega) (by rw [hh, head48]; simp only [Bool.or_eq_true, Bool.and_eq_true, Bool.or_eq_false_iff, Bool.and_eq_false_iff, decide_eq_true_eq, decide_eq_false_iff_not, beq_iff_eq, beq_eq_false_iff_ne, ne_eq] at *; omega)]
               exact ⟨_, rfl, rfl, rfl⟩)
            | (rw [numO_big (by simp at hc1; omega) (by rw [hh, head48]; simp only [Bool.or_eq_true, Bool.and_eq_true, Bool.or_eq_false_iff, Bool.and_eq_false_iff, decide_eq_true_eq, decide_eq_false_iff_not, beq_iff_eq, beq_eq_false_iff_ne, ne_eq] at *; omega) (by rw [hds, ← hv]; exact numV_bad hc (big_yes hdg hd9 (by assumption)))]
               exact ⟨_, rfl, rfl, rfl⟩)
            | (have hk2 : ds.length ≤ k := ge_of (by assumption)
               have e2 : addO l 2 (spanN false (s.drop at_)) (IntKind.i64.wrap ((valD (ds.take k) : Nat) : Int)) = numO (s.drop at_) l := by
                 rw [wrapI (by omega) (by omega)]
                 refine (numO_ok (by simp at hc1; omega) (by rw [hh, head48]; simp only [Bool.or_eq_true, Bool.and_eq_true, Bool.or_eq_false_iff, Bool.and_eq_false_iff, decide_eq_true_eq, decide_eq_false_iff_not, beq_iff_eq, beq_eq_false_iff_ne, ne_eq] at *; omega) ?_).symm
                 rw [hds, ← hv, List.drop_of_length_le hk2]; rfl
               rw [← e2]
               exact ⟨_, rfl, rfl, rfl⟩)
          · skip
            refine wpD_skip ?_
            refine then_normal ?_
            refine wpD_region ?_
            refine p_pure htab rfl rfl rfl rfl ?_
            refine p_pure htab rfl rfl rfl rfl ?_
            refine p_pure htab rfl rfl rfl rfl ?_
            refine p_pure htab rfl rfl rfl rfl ?_
            refine p_pure htab rfl rfl rfl rfl ?_
            refine ops_nil ?_
            refine block_normal ?_
            refine then_normal ?_
            refine wpD_region ?_
            refine p_pure htab rfl rfl rfl rfl ?_
            refine p_pure htab rfl rfl rfl rfl ?_
            refine ops_nil ?_
            refine then_normal ?_
            refine ⟨(k + 1), WkS.slots (WkS.cons rfl (Wk.refl _) (WkS.cons rfl (Wk.refl _) (WkS.cons rfl (Wk.of_eq (by rw [w_dig hdg, w_next hd9 (big_no hdg hd9 (by assumption)), valD_step hc])) (WkS.cons rfl (Wk.refl _) (WkS.cons rfl (Wk.refl _) (WkS.cons rfl (Wk.of_eq (by rw [wrapS (by omega)])) (WkS.nil))))))) (List.Sublist.refl _) (List.Sublist.refl _), ⟨by omega, by rw [← numV_step hc (Nat.not_lt.2 (big_no hdg hd9 (by assumption)))]; exact hv, by have := big_no hdg hd9 (by assumption); rw [valD_step hc]; omega⟩, by omega⟩
        · skip
          refine wpD_exit ?_
          refine then_exit ?_
          refine then_exit ?_
          refine block_hit ?_
          refine then_normal ?_
          refine wpD_seq ?_
          refine wpD_region ?_
          refine p_pure htab rfl rfl rfl rfl ?_
          refine p_pure htab rfl rfl rfl rfl ?_
          refine p_pure htab rfl rfl rfl rfl ?_
          refine p_pure htab rfl rfl rfl rfl ?_
          refine ops_call (s := ⟨_, _, _⟩) (add_any s at_ l y b T _ _ _ hs hsp hl) rfl rfl rfl rfl rfl (WkL.refl _) (perm_at (j := 0) rfl) (perm_at (j := 0) rfl) ?_
          rintro _ _ _ ⟨v10, rfl, rfl, rfl⟩
          refine p_pure htab rfl rfl rfl rfl ?_
          refine ops_nil ?_
          refine then_normal ?_
          refine wpD_ret ?_
          refine ret1m (.inl rfl) rfl (List.Sublist.cons_cons _ (List.nil_sublist _)) (List.Sublist.cons_cons _ (List.nil_sublist _)) ?_
          first
          | (rw [numO_many (by simp at hc1; omega)]
             exact ⟨_, rfl, rfl, rfl⟩)
          | (rw [numO_form (by simp at hc1; omega) (by rw [hh, head48]; simp only [Bool.or_eq_true, Bool.and_eq_true, Bool.or_eq_false_iff, Bool.and_eq_false_iff, decide_eq_true_eq, decide_eq_false_iff_not, beq_iff_eq, beq_eq_false_iff_ne, ne_eq] at *; omega)]
             exact ⟨_, rfl, rfl, rfl⟩)
          | (rw [numO_big (by simp at hc1; omega) (by rw [hh, head48]; simp only [Bool.or_eq_true, Bool.and_eq_true, Bool.or_eq_false_iff, Bool.and_eq_false_iff, decide_eq_true_eq, decide_eq_false_iff_not, beq_iff_eq, beq_eq_false_iff_ne, ne_eq] at *; omega) (by rw [hds, ← hv]; exact numV_bad hc (big_yes hdg hd9 (by assumption)))]
             exact ⟨_, rfl, rfl, rfl⟩)
          | (have hk2 : ds.length ≤ k := ge_of (by assumption)
             have e2 : addO l 2 (spanN false (s.drop at_)) (IntKind.i64.wrap ((valD (ds.take k) : Nat) : Int)) = numO (s.drop at_) l := by
               rw [wrapI (by omega) (by omega)]
               refine (numO_ok (by simp at hc1; omega) (by rw [hh, head48]; simp only [Bool.or_eq_true, Bool.and_eq_true, Bool.or_eq_false_iff, Bool.and_eq_false_iff, decide_eq_true_eq, decide_eq_false_iff_not, beq_iff_eq, beq_eq_false_iff_ne, ne_eq] at *; omega) ?_).symm
               rw [hds, ← hv, List.drop_of_length_le hk2]; rfl
             rw [← e2]
             exact ⟨_, rfl, rfl, rfl⟩)
end Go.Proofs.Ytnjeklpjjceppaa.Ab
