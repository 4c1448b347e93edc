/- Layer 10: signs, a step, reading. -/
import Derived.Test.YtnjeklpjjceppaaTk4
namespace Go.Proofs.Ytnjeklpjjceppaa.Ab
open Go
set_option linter.all false
theorem find_any (s : ByteArray) (c : Int) : CallsD Try.prog 35 [strD s, .v (.int .u8 c)] [] [] (fun d h k => d = .v (.int .i64 (Lib.indexByte s.data.toList c.toNat.toUInt8)) ∧ h = [] ∧ k = []) :=
  of_calls (us := #[.string s, .int .u8 c]) ⟨_, Try.func35, rfl, rfl⟩ rfl (fun _ => rep_v rfl) fun w => (Try.strings_IndexByte s c w).mono fun _ w' ⟨h1, h2⟩ => ⟨h1, by subst h2; exact ⟨rfl, rfl, rfl, Nat.le_refl _, fun _ _ => rfl⟩⟩
def twos : List ByteArray := [⟨#[61, 61]⟩, ⟨#[33, 61]⟩, ⟨#[60, 61]⟩, ⟨#[38, 38]⟩, ⟨#[124, 124]⟩]
def ones : List UInt8 := [40, 41, 123, 125, 91, 93, 59, 44, 61, 60, 43, 45, 42, 47, 37, 33, 38]
def signN (r : List UInt8) : Nat :=
  if (decide (1 < r.length) && hasB twos (subS r 2)) = true then 2 else
    match r with
    | [] => 0
    | c :: _ => if 0 ≤ Lib.indexByte ones c then 1 else 0
theorem sign_two {r : List UInt8} (h1 : 1 < r.length) (h2 : hasB twos (subS r 2) = true) : signN r = 2 := if_pos (by rw [h2]; simpa using h1)
theorem sign_rest {r : List UInt8} {c : UInt8} (hc : r[0]? = some c) (h : r.length ≤ 1 ∨ hasB twos (subS r 2) = false) : signN r = if 0 ≤ Lib.indexByte ones c then 1 else 0 := by
  have e : (decide (1 < r.length) && hasB twos (subS r 2)) = false := by
    rcases h with h | h
    · rw [Bool.and_eq_false_iff]; left; simpa using h
    · rw [h]; simp
  unfold signN
  rw [if_neg (by rw [e]; simp)]
  cases r with
  | nil => simp at hc
  | cons d r => simp only [List.getElem?_cons_zero, Option.some.injEq] at hc; subst hc; rfl
theorem lt1 {n : Nat} (h : decide ((1 : Int) < (n : Int)) = true) : 1 < n := by have := of_decide_eq_true h; omega
theorem le1 {n : Nat} (h : decide ((1 : Int) < (n : Int)) = false) : n ≤ 1 := by have := of_decide_eq_false h; omega
theorem one_yes {c : UInt8} (q : decide ((0 : Int) ≤ Lib.indexByte ones ((c.toNat : Int).toNat.toUInt8)) = true) : 0 ≤ Lib.indexByte ones c := by
  have hcc : (c.toNat : Int).toNat.toUInt8 = c := by simp
  rw [hcc] at q; simpa using q
theorem one_no {c : UInt8} (q : decide ((0 : Int) ≤ Lib.indexByte ones ((c.toNat : Int).toNat.toUInt8)) = false) : ¬ 0 ≤ Lib.indexByte ones c := by
  have hcc : (c.toNat : Int).toNat.toUInt8 = c := by simp
  rw [hcc] at q; simpa using q
theorem sign_any (s : List UInt8) (at_ : Nat) (L : D) (b : Nat) (T : TypeId) (hs : s.length ≤ 140737488355328) (ha : at_ < s.length) :
    CallsD Try.prog 27 [.ptr b 0] [(b, .cells (rdC s at_ L) T)] [] (fun d h k => d = .v (.int .i64 (signN (s.drop at_))) ∧ h = [(b, .cells (rdC s at_ L) T)] ∧ k = []) := by
  have ha' : at_ ≤ s.length := by omega
  obtain ⟨c, hc⟩ : ∃ c, (s.drop at_)[0]? = some c := ⟨s[at_]'ha, by simp⟩
  have hm : ((s.map byteD).drop at_).take (s.length - at_) = (s.drop at_).map byteD := by rw [← List.map_drop, List.take_of_length_le (by simp)]
  have hlen : (((s.map byteD).drop at_).take (s.length - at_)).length = (s.drop at_).length := by rw [hm]; simp
  have hel : (((s.map byteD).drop at_).take (s.length - at_))[((0 : Int)).toNat]? = some (byteD c) := by rw [hm]; exact map_get (k := 0) hc
  have hb : some (D.lst 1 (((((s.map byteD).drop at_).take (s.length - at_)).drop 0).take (2 - 0)) .no) = some (D.lst 1 (((s.drop at_).take 2).map byteD) .no) := by rw [hm]; simp
  refine enter htab Try.func27 rfl rfl rfl rfl rfl (fun C => ?_)
  refine wpD_seq ?_
  refine wpD_region ?_
  refine p_pure htab rfl rfl rfl rfl ?_
  refine ops_nil ?_
  refine then_normal ?_
  refine wpD_seq ?_
  refine wpD_draws 8 [] [[],[0],[0,1],[0,1,2],[],[4],[4,5],[4,5,6]] [0,1,2,3,4,5,6] [[],[0],[0,1],[0,1,2],[],[4],[4,5],[4,5,6],[0,1,2,3,4,5,6,7],[0,1,2,3,4,5,6,7,8]] (by kernel_rfl) (by kernel_rfl) (by kernel_rfl) (by rfl) (by rfl) (by kernel_rfl) ?_
  apply Exists.intro
  apply Exists.intro
  apply Exists.intro
  apply Exists.intro
  apply Exists.intro
  apply Exists.intro
  apply Exists.intro
  intro bs
  refine z_e rfl rfl (ex_pure htab rfl) rfl rfl rfl rfl rfl rfl ?_
  refine z_e rfl rfl (ex_pure htab rfl) rfl rfl rfl rfl rfl rfl ?_
  refine z_e rfl rfl (ex_pure htab rfl) rfl rfl rfl rfl rfl rfl ?_
  refine z_eM rfl rfl (xm_load 0 htab rfl rfl rfl rfl rfl) rfl rfl rfl rfl rfl rfl ?_
  refine z_e rfl rfl (ex_pure htab rfl) rfl rfl rfl rfl rfl rfl ?_
  refine z_e rfl rfl (ex_pure htab rfl) rfl rfl rfl rfl rfl rfl ?_
  refine z_e rfl rfl (ex_pure htab rfl) rfl rfl rfl rfl rfl rfl ?_
  refine z_qM rfl rfl (xm_load 0 htab rfl rfl rfl rfl rfl) rfl rfl rfl rfl rfl rfl ?_
  refine z_nil rfl rfl (fun e he => by simp [isAl] at he) ?_
  refine p_part htab rfl rfl rfl rfl rfl rfl rfl rfl rfl rfl rfl rfl (show ((s.map byteD).length : Int) = (s.length : Int) by simp) (by omega) (by simp) ?_
  refine p_pure htab rfl rfl rfl rfl ?_
  refine ops_nil ?_
  refine then_normal ?_
  refine wpD_seq ?_
  refine wpD_seq ?_
  refine wpD_region ?_
  refine p_pure htab rfl rfl rfl rfl ?_
  refine p_lenL htab rfl rfl rfl rfl rfl rfl rfl (hlen) ?_
  refine p_pure htab rfl rfl rfl rfl ?_
  refine p_pure htab rfl rfl rfl rfl ?_
  refine p_split (i := 16) rfl (fun hg1 => ?_) (fun hg1 => ?_)
  · skip
    refine p_lit htab rfl rfl rfl rfl rfl rfl rfl rfl rfl rfl rfl rfl rfl rfl ?_
    refine p_pure htab rfl rfl rfl rfl ?_
    refine p_part htab rfl rfl rfl rfl rfl rfl rfl rfl rfl rfl rfl (show (0 : Int) = ((0 : Nat) : Int) from rfl) (show (2 : Int) = ((2 : Nat) : Int) from rfl) (by omega) (by rw [hlen]; simp at hg1; simp; omega) ?_
    refine p_toStr htab rfl rfl rfl rfl (hb) rfl rfl rfl rfl rfl rfl ?_
    refine p_call0 (contains_any twos _ (by decide)) rfl rfl rfl rfl rfl (WkL.cons Wk.no (WkL.refl _)) ?_
    rintro _ rfl
    refine p_pickT rfl rfl rfl rfl rfl rfl ?_
    refine ops_nil ?_
    refine then_normal ?_
    refine wpD_cond rfl (fun hc2 => ?_) (fun hc2 => ?_)
    · skip
      refine wpD_seq ?_
      refine wpD_region ?_
      refine p_pure htab rfl rfl rfl rfl ?_
      refine ops_nil ?_
      refine then_normal ?_
      refine wpD_ret ?_
      refine then_ret ?_
      refine ret1m (.inl rfl) rfl (List.Sublist.cons_cons _ (List.nil_sublist _)) (List.nil_sublist _) ?_
      refine ⟨?_, rfl, rfl⟩
      first
      | exact congrArg (fun n : Nat => D.v (.int .i64 (n : Int))) (sign_two (lt1 hg1) (show hasB twos ⟨((s.drop at_).take 2).toArray⟩ = true by assumption)).symm
      | (rw [sign_rest hc (by first | (left; exact le1 hg1) | (right; show hasB twos ⟨((s.drop at_).take 2).toArray⟩ = false; assumption)), if_pos (one_yes (by assumption))]; rfl)
      | (rw [sign_rest hc (by first | (left; exact le1 hg1) | (right; show hasB twos ⟨((s.drop at_).take 2).toArray⟩ = false; assumption)), if_neg (one_no (by assumption))]; rfl)
    · skip
      refine wpD_skip ?_
      refine then_normal ?_
      refine wpD_seq ?_
      refine wpD_seq ?_
      refine wpD_region ?_
      refine p_pure htab rfl rfl rfl rfl ?_
      refine p_elem htab rfl rfl rfl rfl rfl rfl rfl rfl rfl rfl (by decide) (hel) ?_
      refine p_loadEl htab rfl rfl rfl rfl rfl rfl rfl rfl ?_
      refine p_call0 (find_any _ _) rfl rfl rfl rfl rfl (WkL.refl _) ?_
      rintro _ rfl
      refine p_pure htab rfl rfl rfl rfl ?_
      refine ops_nil ?_
      refine then_normal ?_
      refine wpD_cond rfl (fun hc3 => ?_) (fun hc3 => ?_)
      · skip
        refine wpD_seq ?_
        refine wpD_region ?_
        refine p_pure htab rfl rfl rfl rfl ?_
        refine ops_nil ?_
        refine then_normal ?_
        refine wpD_ret ?_
        refine then_ret ?_
        refine ret1m (.inl rfl) rfl (List.Sublist.cons_cons _ (List.nil_sublist _)) (List.nil_sublist _) ?_
        refine ⟨?_, rfl, rfl⟩
        first
        | exact congrArg (fun n : Nat => D.v (.int .i64 (n : Int))) (sign_two (lt1 hg1) (show hasB twos ⟨((s.drop at_).take 2).toArray⟩ = true by assumption)).symm
        | (rw [sign_rest hc (by first | (left; exact le1 hg1) | (right; show hasB twos ⟨((s.drop at_).take 2).toArray⟩ = false; assumption)), if_pos (one_yes (by assumption))]; rfl)
        | (rw [sign_rest hc (by first | (left; exact le1 hg1) | (right; show hasB twos ⟨((s.drop at_).take 2).toArray⟩ = false; assumption)), if_neg (one_no (by assumption))]; rfl)
      · skip
        refine wpD_skip ?_
        refine then_normal ?_
        refine wpD_seq ?_
        refine wpD_region ?_
        refine p_pure htab rfl rfl rfl rfl ?_
        refine ops_nil ?_
        refine then_normal ?_
        refine wpD_ret ?_
        refine ret1m (.inl rfl) rfl (List.Sublist.cons_cons _ (List.nil_sublist _)) (List.nil_sublist _) ?_
        refine ⟨?_, rfl, rfl⟩
        first
        | exact congrArg (fun n : Nat => D.v (.int .i64 (n : Int))) (sign_two (lt1 hg1) (show hasB twos ⟨((s.drop at_).take 2).toArray⟩ = true by assumption)).symm
        | (rw [sign_rest hc (by first | (left; exact le1 hg1) | (right; show hasB twos ⟨((s.drop at_).take 2).toArray⟩ = false; assumption)), if_pos (one_yes (by assumption))]; rfl)
        | (rw [sign_rest hc (by first | (left; exact le1 hg1) | (right; show hasB twos ⟨((s.drop at_).take 2).toArray⟩ = false; assumption)), if_neg (one_no (by assumption))]; rfl)
  · skip
    refine p_skip rfl rfl rfl ?_
    refine p_skip rfl rfl rfl ?_
    refine p_skip rfl rfl rfl ?_
    refine p_skip rfl rfl rfl ?_
    refine p_skip rfl rfl rfl ?_
    refine p_pickF rfl rfl rfl rfl rfl rfl ?_
    refine ops_nil ?_
    refine then_normal ?_
    refine wpD_false rfl ?_
    refine wpD_skip ?_
    refine then_normal ?_
    refine wpD_seq ?_
    refine wpD_seq ?_
    refine wpD_region ?_
    refine p_pure htab rfl rfl rfl rfl ?_
    refine p_elem htab rfl rfl rfl rfl rfl rfl rfl rfl rfl rfl (by decide) (hel) ?_
    refine p_loadEl htab rfl rfl rfl rfl rfl rfl rfl rfl ?_
    refine p_call0 (find_any _ _) rfl rfl rfl rfl rfl (WkL.refl _) ?_
    rintro _ rfl
    refine p_pure htab rfl rfl rfl rfl ?_
    refine ops_nil ?_
    refine then_normal ?_
    refine wpD_cond rfl (fun hc4 => ?_) (fun hc4 => ?_)
    · skip
      refine wpD_seq ?_
      refine wpD_region ?_
      refine p_pure htab rfl rfl rfl rfl ?_
      refine ops_nil ?_
      refine then_normal ?_
      refine wpD_ret ?_
      refine then_ret ?_
      refine ret1m (.inl rfl) rfl (List.Sublist.cons_cons _ (List.nil_sublist _)) (List.nil_sublist _) ?_
      refine ⟨?_, rfl, rfl⟩
      first
      | exact congrArg (fun n : Nat => D.v (.int .i64 (n : Int))) (sign_two (lt1 hg1) (show hasB twos ⟨((s.drop at_).take 2).toArray⟩ = true by assumption)).symm
      | (rw [sign_rest hc (by first | (left; exact le1 hg1) | (right; show hasB twos ⟨((s.drop at_).take 2).toArray⟩ = false; assumption)), if_pos (one_yes (by assumption))]; rfl)
      | (rw [sign_rest hc (by first | (left; exact le1 hg1) | (right; show hasB twos ⟨((s.drop at_).take 2).toArray⟩ = false; assumption)), if_neg (one_no (by assumption))]; rfl)
    · skip
      refine wpD_skip ?_
      refine then_normal ?_
      refine wpD_seq ?_
      refine wpD_region ?_
      refine p_pure htab rfl rfl rfl rfl ?_
      refine ops_nil ?_
      refine then_normal ?_
      refine wpD_ret ?_
      refine ret1m (.inl rfl) rfl (List.Sublist.cons_cons _ (List.nil_sublist _)) (List.nil_sublist _) ?_
      refine ⟨?_, rfl, rfl⟩
      first
      | exact congrArg (fun n : Nat => D.v (.int .i64 (n : Int))) (sign_two (lt1 hg1) (show hasB twos ⟨((s.drop at_).take 2).toArray⟩ = true by assumption)).symm
      | (rw [sign_rest hc (by first | (left; exact le1 hg1) | (right; show hasB twos ⟨((s.drop at_).take 2).toArray⟩ = false; assumption)), if_pos (one_yes (by assumption))]; rfl)
      | (rw [sign_rest hc (by first | (left; exact le1 hg1) | (right; show hasB twos ⟨((s.drop at_).take 2).toArray⟩ = false; assumption)), if_neg (one_no (by assumption))]; rfl)
/-- A step: of what is left. -/
def stepO (r : List UInt8) (l : List Tok) : Out :=
  match r with
  | [] => .err 0
  | c :: _ =>
    if kindI (c.toNat : Int) = 1 then .skip
    else if kindI (c.toNat : Int) = 2 then nameO r l
    else if kindI (c.toNat : Int) = 3 then numO r l
    else if signN r = 0 then .err 3 else addO l 3 (signN r) 0
theorem signN_le (r : List UInt8) (h : r ≠ []) : signN r ≤ r.length := by
  unfold signN
  split
  · rename_i h1
    simp only [Bool.and_eq_true, decide_eq_true_eq] at h1
    omega
  · cases r with
    | nil => simp
    | cons c r => simp only [List.length_cons]; split <;> omega
theorem next_any (s : List UInt8) (at_ : Nat) (l : List Tok) (y : Value) (b : Nat) (T : TypeId) (hs : s.length ≤ 140737488355328) (ha : at_ < s.length) (hl : l.length ≤ 4000) :
    CallsD Try.prog 16 [.ptr b 0] [(b, .cells (rdC s at_ (tkL l y)) T)] [(4, y)] (Gv s at_ l b T (stepO (s.drop at_) l)) := by
  have ha' : at_ ≤ s.length := by omega
  obtain ⟨c, hc⟩ : ∃ c, s[at_]? = some c := ⟨s[at_]'ha, by simp⟩
  have hd : s.drop at_ = c :: s.drop (at_ + 1) := by rw [List.drop_eq_getElem_cons ha, (List.getElem?_eq_some_iff.1 hc).2]
  have hne : s.drop at_ ≠ [] := by rw [hd]; simp
  have hsn : at_ + signN (s.drop at_) ≤ s.length := by
    have := signN_le _ hne
    simp only [List.length_drop] at this
    omega
  have e1 : kindI (c.toNat : Int) = 1 → stepO (s.drop at_) l = .skip := fun h => by rw [hd]; simp only [stepO, if_pos h]
  have e2 : kindI (c.toNat : Int) ≠ 1 → kindI (c.toNat : Int) = 2 → stepO (s.drop at_) l = nameO (s.drop at_) l := fun h1 h => by rw [hd]; simp only [stepO, if_neg h1, if_pos h]
  have e3 : kindI (c.toNat : Int) ≠ 1 → kindI (c.toNat : Int) ≠ 2 → kindI (c.toNat : Int) = 3 → stepO (s.drop at_) l = numO (s.drop at_) l := fun h1 h2 h => by rw [hd]; simp only [stepO, if_neg h1, if_neg h2, if_pos h]
  have e4 : kindI (c.toNat : Int) ≠ 1 → kindI (c.toNat : Int) ≠ 2 → kindI (c.toNat : Int) ≠ 3 → stepO (s.drop at_) l = if signN (s.drop at_) = 0 then .err 3 else addO l 3 (signN (s.drop at_)) 0 := fun h1 h2 h => by rw [hd]; simp only [stepO, if_neg h1, if_neg h2, if_neg h]
  have hw1 : IntKind.i64.wrap ((at_ : Int) + 1) = ((at_ + 1 : Nat) : Int) := wrapS (by omega)
  refine enter htab Try.func16 rfl rfl rfl rfl rfl (fun C => ?_)
  refine wpD_seq ?_
  refine wpD_region ?_
  refine p_pure htab rfl rfl rfl rfl ?_
  refine ops_nil ?_
  refine then_normal ?_
  refine wpD_seq ?_
  refine wpD_seq ?_
  refine wpD_draws 8 [] [[],[0],[0,1],[0,1,2],[],[4],[4,5],[4,5,6]] [0,1,2,3,4,5,6] [[],[0],[0,1],[0,1,2],[],[4],[4,5],[4,5,6],[0,1,2,3,4,5,6,7],[0,1,2,3,4,5,6,7,8],[0,1,2,3,4,5,6,7,8,9],[0,1,2,3,4,5,6,7,8,9,10]] (by kernel_rfl) (by kernel_rfl) (by kernel_rfl) (by rfl) (by rfl) (by kernel_rfl) ?_
  apply Exists.intro
  apply Exists.intro
  apply Exists.intro
  apply Exists.intro
  apply Exists.intro
  apply Exists.intro
  apply Exists.intro
  intro bs
  refine z_e rfl rfl (ex_pure htab rfl) rfl rfl rfl rfl rfl rfl ?_
  refine z_e rfl rfl (ex_pure htab rfl) rfl rfl rfl rfl rfl rfl ?_
  refine z_e rfl rfl (ex_pure htab rfl) rfl rfl rfl rfl rfl rfl ?_
  refine z_eM rfl rfl (xm_load 0 htab rfl rfl rfl rfl rfl) rfl rfl rfl rfl rfl rfl ?_
  refine z_e rfl rfl (ex_pure htab rfl) rfl rfl rfl rfl rfl rfl ?_
  refine z_e rfl rfl (ex_pure htab rfl) rfl rfl rfl rfl rfl rfl ?_
  refine z_e rfl rfl (ex_pure htab rfl) rfl rfl rfl rfl rfl rfl ?_
  refine z_qM rfl rfl (xm_load 0 htab rfl rfl rfl rfl rfl) rfl rfl rfl rfl rfl rfl ?_
  refine z_nil rfl rfl (fun e he => by simp [isAl] at he) ?_
  refine p_elem htab rfl rfl rfl rfl rfl rfl rfl rfl rfl rfl (by omega) (map_get hc) ?_
  refine p_loadEl htab rfl rfl rfl rfl rfl rfl rfl rfl ?_
  refine p_pure htab rfl rfl rfl rfl ?_
  refine p_call0 (kindB c) rfl rfl rfl rfl rfl (WkL.refl _) ?_
  rintro _ rfl
  refine ops_nil ?_
  refine then_normal ?_
  refine wpD_block ?_
  refine wpD_seq ?_
  refine wpD_region ?_
  refine p_pure htab rfl rfl rfl rfl ?_
  refine p_pure htab rfl rfl rfl rfl ?_
  refine ops_nil ?_
  refine then_normal ?_
  refine wpD_cond rfl (fun hc1 => ?_) (fun hc1 => ?_)
  · skip
    refine wpD_seq ?_
    refine wpD_region ?_
    refine p_pure htab rfl rfl rfl rfl ?_
    refine p_pure htab rfl rfl rfl rfl ?_
    refine p_pure htab rfl rfl rfl rfl ?_
    refine p_load 0 htab rfl rfl rfl rfl rfl rfl rfl rfl ?_
    refine p_pure htab rfl rfl rfl rfl ?_
    refine p_pure htab rfl rfl rfl rfl ?_
    refine p_pure htab rfl rfl rfl rfl ?_
    refine p_store 0 htab rfl rfl rfl rfl rfl rfl rfl rfl rfl rfl rfl rfl ?_
    refine ops_nil ?_
    refine then_normal ?_
    refine wpD_seq ?_
    refine wpD_region ?_
    refine p_pure htab rfl rfl rfl rfl ?_
    refine ops_nil ?_
    refine then_normal ?_
    refine wpD_ret ?_
    refine block_ret ?_
    refine then_ret ?_
    refine ret1m (.inl rfl) rfl (List.Sublist.cons_cons _ (List.nil_sublist _)) (List.Sublist.cons_cons _ (List.nil_sublist _)) ?_
    simp only [beq_iff_eq, beq_eq_false_iff_ne, ne_eq] at *
    first
    | (rw [e1 (by assumption)]; refine ⟨_, rfl, ?_, rfl⟩; show [(b, Blk.cells [.lst 1 (s.map byteD) .no, .v (.int .i64 (IntKind.i64.wrap ((at_ : Int) + 1))), tkL l _] T)] = _; rw [hw1]; rfl)
    | (rw [e2 (by assumption) (by assumption)]; exact ⟨_, rfl, rfl, rfl⟩)
    | (rw [e3 (by assumption) (by assumption) (by assumption)]; exact ⟨_, rfl, rfl, rfl⟩)
    | (rw [e4 (by assumption) (by assumption) (by assumption), if_pos (by omega)]; exact ⟨_, rfl, rfl, rfl⟩)
    | (rw [e4 (by assumption) (by assumption) (by assumption), if_neg (by omega)]; exact ⟨_, rfl, rfl, rfl⟩)
  · skip
    refine wpD_seq ?_
    refine wpD_region ?_
    refine p_pure htab rfl rfl rfl rfl ?_
    refine p_pure htab rfl rfl rfl rfl ?_
    refine ops_nil ?_
    refine then_normal ?_
    refine wpD_cond rfl (fun hc2 => ?_) (fun hc2 => ?_)
    · skip
      refine wpD_seq ?_
      refine wpD_region ?_
      refine p_pure htab rfl rfl rfl rfl ?_
      refine ops_call (s := ⟨_, _, _⟩) (name_any s at_ l y b T hs ha' hl) rfl rfl rfl rfl rfl (WkL.refl _) (perm_at (j := 0) rfl) (perm_at (j := 0) rfl) ?_
      rintro _ _ _ ⟨v3, rfl, rfl, rfl⟩
      refine p_pure htab rfl rfl rfl rfl ?_
      refine ops_nil ?_
      refine then_normal ?_
      refine wpD_ret ?_
      refine block_ret ?_
      refine then_ret ?_
      refine ret1m (.inl rfl) rfl (List.Sublist.cons_cons _ (List.nil_sublist _)) (List.Sublist.cons_cons _ (List.nil_sublist _)) ?_
      simp only [beq_iff_eq, beq_eq_false_iff_ne, ne_eq] at *
      first
      | (rw [e1 (by assumption)]; refine ⟨_, rfl, ?_, rfl⟩; show [(b, Blk.cells [.lst 1 (s.map byteD) .no, .v (.int .i64 (IntKind.i64.wrap ((at_ : Int) + 1))), tkL l _] T)] = _; rw [hw1]; rfl)
      | (rw [e2 (by assumption) (by assumption)]; exact ⟨_, rfl, rfl, rfl⟩)
      | (rw [e3 (by assumption) (by assumption) (by assumption)]; exact ⟨_, rfl, rfl, rfl⟩)
      | (rw [e4 (by assumption) (by assumption) (by assumption), if_pos (by omega)]; exact ⟨_, rfl, rfl, rfl⟩)
      | (rw [e4 (by assumption) (by assumption) (by assumption), if_neg (by omega)]; exact ⟨_, rfl, rfl, rfl⟩)
    · skip
      refine wpD_seq ?_
      refine wpD_region ?_
      refine p_pure htab rfl rfl rfl rfl ?_
      refine p_pure htab rfl rfl rfl rfl ?_
      refine ops_nil ?_
      refine then_normal ?_
      refine wpD_cond rfl (fun hc4 => ?_) (fun hc4 => ?_)
      · skip
        refine wpD_seq ?_
        refine wpD_region ?_
        refine p_pure htab rfl rfl rfl rfl ?_
        refine ops_call (s := ⟨_, _, _⟩) (number_any s at_ l y b T hs ha hl) rfl rfl rfl rfl rfl (WkL.refl _) (perm_at (j := 0) rfl) (perm_at (j := 0) rfl) ?_
        rintro _ _ _ ⟨v5, rfl, rfl, rfl⟩
        refine p_pure htab rfl rfl rfl rfl ?_
        refine ops_nil ?_
        refine then_normal ?_
        refine wpD_ret ?_
        refine block_ret ?_
        refine then_ret ?_
        refine ret1m (.inl rfl) rfl (List.Sublist.cons_cons _ (List.nil_sublist _)) (List.Sublist.cons_cons _ (List.nil_sublist _)) ?_
        simp only [beq_iff_eq, beq_eq_false_iff_ne, ne_eq] at *
        first
        | (rw [e1 (by assumption)]; refine ⟨_, rfl, ?_, rfl⟩; show [(b, Blk.cells [.lst 1 (s.map byteD) .no, .v (.int .i64 (IntKind.i64.wrap ((at_ : Int) + 1))), tkL l _] T)] = _; rw [hw1]; rfl)
        | (rw [e2 (by assumption) (by assumption)]; exact ⟨_, rfl, rfl, rfl⟩)
        | (rw [e3 (by assumption) (by assumption) (by assumption)]; exact ⟨_, rfl, rfl, rfl⟩)
        | (rw [e4 (by assumption) (by assumption) (by assumption), if_pos (by omega)]; exact ⟨_, rfl, rfl, rfl⟩)
        | (rw [e4 (by assumption) (by assumption) (by assumption), if_neg (by omega)]; exact ⟨_, rfl, rfl, rfl⟩)
      · skip
        refine wpD_skip ?_
        refine block_normal ?_
        refine then_normal ?_
        refine wpD_seq ?_
        refine wpD_region ?_
        refine p_pure htab rfl rfl rfl rfl ?_
        refine ops_call (s := ⟨_, _, _⟩) (sign_any s at_ (tkL l y) b T hs ha) rfl rfl rfl rfl rfl (WkL.refl _) (perm_at (j := 0) rfl) (List.Perm.refl _) ?_
        rintro _ _ _ ⟨rfl, rfl, rfl⟩
        refine p_pure htab rfl rfl rfl rfl ?_
        refine ops_nil ?_
        refine then_normal ?_
        refine wpD_seq ?_
        refine wpD_seq ?_
        refine wpD_region ?_
        refine p_pure htab rfl rfl rfl rfl ?_
        refine p_pure htab rfl rfl rfl rfl ?_
        refine ops_nil ?_
        refine then_normal ?_
        refine wpD_cond rfl (fun hc6 => ?_) (fun hc6 => ?_)
        · skip
          refine wpD_seq ?_
          refine wpD_region ?_
          refine p_pure htab rfl rfl rfl rfl ?_
          refine ops_nil ?_
          refine then_normal ?_
          refine wpD_ret ?_
          refine then_ret ?_
          refine ret1m (.inl rfl) rfl (List.Sublist.cons_cons _ (List.nil_sublist _)) (List.Sublist.cons_cons _ (List.nil_sublist _)) ?_
          simp only [beq_iff_eq, beq_eq_false_iff_ne, ne_eq] at *
          first
          | (rw [e1 (by assumption)]; refine ⟨_, rfl, ?_, rfl⟩; show [(b, Blk.cells [.lst 1 (s.map byteD) .no, .v (.int .i64 (IntKind.i64.wrap ((at_ : Int) + 1))), tkL l _] T)] = _; rw [hw1]; rfl)
          | (rw [e2 (by assumption) (by assumption)]; exact ⟨_, rfl, rfl, rfl⟩)
          | (rw [e3 (by assumption) (by assumption) (by assumption)]; exact ⟨_, rfl, rfl, rfl⟩)
          | (rw [e4 (by assumption) (by assumption) (by assumption), if_pos (by omega)]; exact ⟨_, rfl, rfl, rfl⟩)
          | (rw [e4 (by assumption) (by assumption) (by assumption), if_neg (by omega)]; exact ⟨_, rfl, rfl, rfl⟩)
        · skip
          refine wpD_skip ?_
          refine then_normal ?_
          refine wpD_seq ?_
          refine wpD_region ?_
          refine p_pure htab rfl rfl rfl rfl ?_
          refine p_pure htab rfl rfl rfl rfl ?_
          refine ops_call (s := ⟨_, _, _⟩) (add_any s at_ l y b T _ _ _ hs hsn hl) rfl rfl rfl rfl rfl (WkL.refl _) (perm_at (j := 0) rfl) (perm_at (j := 0) rfl) ?_
          rintro _ _ _ ⟨v7, rfl, rfl, rfl⟩
          refine p_pure htab rfl rfl rfl rfl ?_
          refine ops_nil ?_
          refine then_normal ?_
          refine wpD_ret ?_
          refine ret1m (.inl rfl) rfl (List.Sublist.cons_cons _ (List.nil_sublist _)) (List.Sublist.cons_cons _ (List.nil_sublist _)) ?_
          simp only [beq_iff_eq, beq_eq_false_iff_ne, ne_eq] at *
          first
          | (rw [e1 (by assumption)]; refine ⟨_, rfl, ?_, rfl⟩; show [(b, Blk.cells [.lst 1 (s.map byteD) .no, .v (.int .i64 (IntKind.i64.wrap ((at_ : Int) + 1))), tkL l _] T)] = _; rw [hw1]; rfl)
          | (rw [e2 (by assumption) (by assumption)]; exact ⟨_, rfl, rfl, rfl⟩)
          | (rw [e3 (by assumption) (by assumption) (by assumption)]; exact ⟨_, rfl, rfl, rfl⟩)
          | (rw [e4 (by assumption) (by assumption) (by assumption), if_pos (by omega)]; exact ⟨_, rfl, rfl, rfl⟩)
          | (rw [e4 (by assumption) (by assumption) (by assumption), if_neg (by omega)]; exact ⟨_, rfl, rfl, rfl⟩)
end Go.Proofs.Ytnjeklpjjceppaa.Ab
