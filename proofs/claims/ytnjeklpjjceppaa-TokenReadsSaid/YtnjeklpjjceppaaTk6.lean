/- Layer 10: a text is read. -/
import Derived.Test.YtnjeklpjjceppaaTk5
namespace Go.Proofs.Ytnjeklpjjceppaa.Ab
open Go
set_option linter.all false
inductive Res where
  | ok (l : List Tok)
  | bad (at_ : Nat) (e : Int)
def readF (s : List UInt8) : Nat → Nat → List Tok → Res
  | 0, at_, _ => .bad at_ 0
  | f + 1, at_, l => if s.length ≤ at_ then .ok (l ++ [⟨0, ⟨#[]⟩, 0, s.length⟩]) else
    match stepO (s.drop at_) l with
    | .err e => .bad at_ e
    | o => readF s f (advA at_ o) (advT s at_ l o)
def readR (s : List UInt8) : Res := if 20000 < s.length then .bad 0 6 else readF s (s.length + 1) 0 []
def resD : Res → D → Prop
  | .ok l, d => ∃ c, d = .tup [.lst 4 (l.map tokD) c, .v (.int .i64 (0)), .v (.int .i64 (0))]
  | .bad a e, d => d = .tup [.lst 1 [] .full, .v (.int .i64 (a)), .v (.int .i64 (e))]
/-- A token's step goes on, within the text. -/
def Goes1 (r : List UInt8) (o : Out) : Prop :=
  match o with
  | .err e => e ≠ 0
  | .skip => 1 ≤ r.length
  | .tok _ n _ => 0 < n ∧ n ≤ r.length
theorem goes_add {r : List UInt8} {l : List Tok} {kd num : Int} {n : Nat} (h0 : 0 < n) (h1 : n ≤ r.length) : Goes1 r (addO l kd n num) := by
  unfold addO
  split
  · simp [Goes1]
  · exact ⟨h0, h1⟩
theorem span_pos {lets : Bool} {c : UInt8} {r : List UInt8} (h : spanB lets c = true) : 0 < spanN lets (c :: r) := by
  unfold spanN
  rw [List.takeWhile_cons_of_pos h]; simp
theorem step_goes (r : List UInt8) (l : List Tok) (h : r ≠ []) : Goes1 r (stepO r l) := by
  cases r with
  | nil => exact absurd rfl h
  | cons c r =>
    unfold stepO
    simp only []
    split
    · simp [Goes1]
    · split
      · rename_i h2
        unfold nameO
        have hp : 0 < spanN true (c :: r) := span_pos (by simp [spanB, h2])
        split
        · simp [Goes1]
        · split
          · exact goes_add hp (spanN_le _ _)
          · exact goes_add hp (spanN_le _ _)
      · split
        · rename_i h3
          unfold numO
          have hp : 0 < spanN false (c :: r) := span_pos (by simp [spanB, h3])
          split
          · simp [Goes1]
          · split
            · simp [Goes1]
            · split
              · simp [Goes1]
              · exact goes_add hp (spanN_le _ _)
        · split
          · simp [Goes1]
          · exact goes_add (by omega) (signN_le _ (by simp))
theorem step_len (r : List UInt8) (l : List Tok) (hl : l.length ≤ 4000) (s : List UInt8) (at_ : Nat) : (advT s at_ l (stepO r l)).length ≤ 4000 := by
  have key : ∀ kd n num, (advT s at_ l (addO l kd n num)).length ≤ 4000 := by
    intro kd n num
    unfold addO
    split
    · exact hl
    · simp [advT]; omega
  unfold stepO
  split
  · exact hl
  · split
    · exact hl
    · split
      · unfold nameO
        split
        · exact hl
        · split <;> exact key _ _ _
      · split
        · unfold numO
          split
          · exact hl
          · split
            · exact hl
            · split
              · exact hl
              · exact key _ _ _
        · split
          · exact hl
          · exact key _ _ _
theorem step_on {s : List UInt8} {at_ f : Nat} {l : List Tok} (ha : at_ < s.length) (hl : l.length ≤ 4000) (hf : s.length < f + at_) (he : errOf (stepO (s.drop at_) l) = 0) :
    s.length < (f - 1) + advA at_ (stepO (s.drop at_) l) ∧ advA at_ (stepO (s.drop at_) l) ≤ s.length ∧ (advT s at_ l (stepO (s.drop at_) l)).length ≤ 4000 ∧ at_ < advA at_ (stepO (s.drop at_) l) ∧
      readF s (f - 1) (advA at_ (stepO (s.drop at_) l)) (advT s at_ l (stepO (s.drop at_) l)) = readF s f at_ l := by
  have hne : s.drop at_ ≠ [] := by
    intro q
    have := congrArg List.length q
    simp only [List.length_drop, List.length_nil] at this
    omega
  have hg := step_goes (s.drop at_) l hne
  have hlen := step_len (s.drop at_) l hl s at_
  obtain ⟨f', rfl⟩ : ∃ f', f = f' + 1 := ⟨f - 1, by omega⟩
  have hr : readF s (f' + 1) at_ l = match stepO (s.drop at_) l with
    | .err e => .bad at_ e
    | o => readF s f' (advA at_ o) (advT s at_ l o) := by
    rw [readF, if_neg (by omega)]
  rw [hr]
  generalize stepO (s.drop at_) l = o at *
  simp only [Nat.add_sub_cancel]
  cases o with
  | err e => exact absurd he hg
  | skip =>
    simp only [Goes1, List.length_drop] at hg
    refine ⟨?_, ?_, hlen, ?_, rfl⟩ <;> simp only [advA] <;> omega
  | tok kd n num =>
    simp only [Goes1, List.length_drop] at hg
    refine ⟨?_, ?_, hlen, ?_, rfl⟩ <;> simp only [advA] <;> omega
theorem step_bad {s : List UInt8} {at_ f : Nat} {l : List Tok} (ha : at_ < s.length) (hf : s.length < f + at_) (he : errOf (stepO (s.drop at_) l) ≠ 0) :
    readF s f at_ l = .bad at_ (errOf (stepO (s.drop at_) l)) ∧ advA at_ (stepO (s.drop at_) l) = at_ := by
  obtain ⟨f', rfl⟩ : ∃ f', f = f' + 1 := ⟨f - 1, by omega⟩
  have hr : readF s (f' + 1) at_ l = match stepO (s.drop at_) l with
    | .err e => .bad at_ e
    | o => readF s f' (advA at_ o) (advT s at_ l o) := by
    rw [readF, if_neg (by omega)]
  rw [hr]
  generalize stepO (s.drop at_) l = o at *
  cases o with
  | err e => exact ⟨rfl, rfl⟩
  | skip => exact absurd rfl he
  | tok kd n num => exact absurd rfl he
theorem read_any (s : List UInt8) (hs : s.length ≤ 140737488355328) : CallsD Try.prog 6 [.lst 1 (s.map byteD) .no] [] [] (fun d h k => resD (readR s) d ∧ h = [] ∧ k = []) := by
  refine enter htab Try.func6 rfl rfl rfl rfl rfl (fun C => ?_)
  refine wpD_seq ?_
  refine wpD_region ?_
  refine p_pure htab rfl rfl rfl rfl ?_
  refine p_pure htab rfl rfl rfl rfl ?_
  refine p_pure htab rfl rfl rfl rfl ?_
  refine ops_nil ?_
  refine then_normal ?_
  refine wpD_seq ?_
  refine wpD_seq ?_
  refine wpD_region ?_
  refine p_pure htab rfl rfl rfl rfl ?_
  refine p_lenL htab rfl rfl rfl rfl rfl rfl rfl (by first | exact List.length_map _ | rfl) ?_
  refine p_pure htab rfl rfl rfl rfl ?_
  refine ops_nil ?_
  refine then_normal ?_
  refine wpD_cond rfl (fun hc1 => ?_) (fun hc1 => ?_)
  · skip
    refine wpD_seq ?_
    refine wpD_region ?_
    refine p_pure htab rfl rfl rfl rfl ?_
    refine p_pure htab rfl rfl rfl rfl ?_
    refine p_pure htab rfl rfl rfl rfl ?_
    refine ops_nil ?_
    refine then_normal ?_
    refine wpD_ret ?_
    refine then_ret ?_
    refine ret3 (.inl rfl) rfl rfl rfl ?_
    first
    | (have e : readR s = .bad 0 6 := if_pos (by simp at hc1; omega)
       rw [e]
       exact rfl)
    | (obtain ⟨q1, q2⟩ := step_bad (lt_of (a := at_) (b := s.length) hc4) hf (by simpa using hc6)
       have e : readR s = readF s (s.length + 1) 0 [] := if_neg (by simp at hc1; omega)
       rw [e, ← hr, q1]
       show D.tup [.lst 1 [] .full, .v (.int .i64 ((advA at_ (stepO (s.drop at_) l) : Nat))), .v (.int .i64 (errOf (stepO (s.drop at_) l)))] = _
       rw [q2])
    | (have e : readR s = readF s (s.length + 1) 0 [] := if_neg (by simp at hc1; omega)
       have h2 : readF s f at_ l = .ok (l ++ [⟨0, ⟨#[]⟩, 0, s.length⟩]) := by
         obtain ⟨f', rfl⟩ : ∃ f', f = f' + 1 := ⟨f - 1, by omega⟩
         rw [readF, if_pos (ge_of hc4)]
       rw [e, ← hr, h2]
       refine ⟨.cur v7, ?_⟩
       rw [List.map_append]
       rfl)
  · skip
    refine wpD_skip ?_
    refine then_normal ?_
    refine wpD_seq ?_
    refine wpD_region ?_
    refine p_pure htab rfl rfl rfl rfl ?_
    refine p_build htab rfl rfl rfl rfl rfl rfl rfl rfl rfl ?_
    refine p_box rfl rfl rfl rfl rfl rfl rfl (fun b2 => ?_)
    refine p_pure htab rfl rfl rfl rfl ?_
    refine ops_nil ?_
    refine then_normal ?_
    refine wpD_seq ?_
    refine wpD_block ?_
    refine w_tok0 4 0 (off := 2) rfl rfl (fun v3 => ?_)
    refine loop_ind (α := Nat × Nat × List Tok × Value) (fun x => s.length < x.1 + x.2.1 ∧ x.2.1 ≤ s.length ∧ x.2.2.1.length ≤ 4000 ∧ readF s x.1 x.2.1 x.2.2.1 = readF s (s.length + 1) 0 []) (fun x => ⟨[(0, .lst 1 (s.map byteD) .no), (5, .ptr b2 0)], [(b2, .cells (rdC s x.2.1 (tkL x.2.2.1 x.2.2.2)) 37)], [(4, x.2.2.2)]⟩) (fun x => s.length - x.2.1) (s.length + 1, 0, [], v3) ⟨by simp, by simp, by simp, rfl⟩ (WkS.slots (WkS.cons rfl (Wk.refl _) (WkS.cons rfl (Wk.refl _) (WkS.nil))) (List.Sublist.refl _) (List.Sublist.refl _)) ?_
    rintro ⟨f, at_, l, y⟩ ⟨hf, ha, hl, hr⟩
    dsimp only at hf ha hl hr
    refine wpD_seq ?_
    refine wpD_seq ?_
    refine wpD_region ?_
    refine p_pure htab rfl rfl rfl rfl ?_
    refine p_pure htab rfl rfl rfl rfl ?_
    refine p_pure htab rfl rfl rfl rfl ?_
    refine p_load 0 htab rfl rfl rfl rfl rfl rfl rfl rfl ?_
    refine p_pure htab rfl rfl rfl rfl ?_
    refine p_lenL htab rfl rfl rfl rfl rfl rfl rfl (by first | exact List.length_map _ | rfl) ?_
    refine p_pure htab rfl rfl rfl rfl ?_
    refine ops_nil ?_
    refine then_normal ?_
    refine wpD_cond rfl (fun hc4 => ?_) (fun hc4 => ?_)
    · skip
      refine wpD_skip ?_
      refine then_normal ?_
      refine wpD_block ?_
      refine wpD_seq ?_
      refine wpD_region ?_
      refine p_pure htab rfl rfl rfl rfl ?_
      refine ops_call (s := ⟨_, _, _⟩) (next_any s at_ l y b2 37 hs (lt_of (by assumption)) hl) rfl rfl rfl rfl rfl (WkL.refl _) (perm_at (j := 0) rfl) (perm_at (j := 0) rfl) ?_
      rintro _ _ _ ⟨v5, rfl, rfl, rfl⟩
      refine p_pure htab rfl rfl rfl rfl ?_
      refine ops_nil ?_
      refine then_normal ?_
      refine wpD_seq ?_
      refine wpD_region ?_
      refine p_pure htab rfl rfl rfl rfl ?_
      refine p_pure htab rfl rfl rfl rfl ?_
      refine ops_nil ?_
      refine then_normal ?_
      refine wpD_cond rfl (fun hc6 => ?_) (fun hc6 => ?_)
      · skip
        refine wpD_seq ?_
        refine wpD_draws 7 [] [[],[0],[0,1],[0,1,2],[],[],[0,1,2,5]] [0,1,2,5] [[],[0],[0,1],[0,1,2],[],[],[0,1,2,3,5],[0,1,2,3,4,5,6]] (by kernel_rfl) (by kernel_rfl) (by kernel_rfl) (by rfl) (by rfl) (by kernel_rfl) ?_
        apply Exists.intro
        apply Exists.intro
        apply Exists.intro
        apply Exists.intro
        intro bs
        refine z_e rfl rfl (ex_pure htab rfl) rfl rfl rfl rfl rfl rfl ?_
        refine z_e rfl rfl (ex_pure htab rfl) rfl rfl rfl rfl rfl rfl ?_
        refine z_e rfl rfl (ex_pure htab rfl) rfl rfl rfl rfl rfl rfl ?_
        refine z_qM rfl rfl (xm_load 0 htab rfl rfl rfl rfl rfl) rfl rfl rfl rfl rfl rfl ?_
        refine z_q rfl rfl (ex_pure htab rfl) rfl rfl rfl rfl rfl rfl ?_
        refine z_e rfl rfl (ex_pure htab rfl) rfl rfl rfl rfl rfl rfl ?_
        refine z_q rfl rfl (ex_pure htab rfl) rfl rfl rfl rfl rfl rfl ?_
        refine z_nil rfl rfl (fun e he => by simp [isAl] at he) ?_
        refine p_pure htab rfl rfl rfl rfl ?_
        refine ops_nil ?_
        refine then_normal ?_
        refine wpD_ret ?_
        refine block_ret ?_
        refine then_ret ?_
        refine block_ret ?_
        refine then_ret ?_
        refine ret3 (.inl rfl) rfl rfl rfl ?_
        first
        | (have e : readR s = .bad 0 6 := if_pos (by simp at hc1; omega)
           rw [e]
           exact rfl)
        | (obtain ⟨q1, q2⟩ := step_bad (lt_of (a := at_) (b := s.length) hc4) hf (by simpa using hc6)
           have e : readR s = readF s (s.length + 1) 0 [] := if_neg (by simp at hc1; omega)
           rw [e, ← hr, q1]
           show D.tup [.lst 1 [] .full, .v (.int .i64 ((advA at_ (stepO (s.drop at_) l) : Nat))), .v (.int .i64 (errOf (stepO (s.drop at_) l)))] = _
           rw [q2])
        | (have e : readR s = readF s (s.length + 1) 0 [] := if_neg (by simp at hc1; omega)
           have h2 : readF s f at_ l = .ok (l ++ [⟨0, ⟨#[]⟩, 0, s.length⟩]) := by
             obtain ⟨f', rfl⟩ : ∃ f', f = f' + 1 := ⟨f - 1, by omega⟩
             rw [readF, if_pos (ge_of hc4)]
           rw [e, ← hr, h2]
           refine ⟨.cur v7, ?_⟩
           rw [List.map_append]
           rfl)
      · skip
        refine wpD_skip ?_
        refine block_normal ?_
        refine then_normal ?_
        refine ⟨(f - 1, advA at_ (stepO (s.drop at_) l), advT s at_ l (stepO (s.drop at_) l), _), WkS.slots (WkS.cons rfl (Wk.refl _) (WkS.cons rfl (Wk.refl _) (WkS.nil))) (List.Sublist.refl _) (List.Sublist.refl _), (by obtain ⟨q1, q2, q3, _, q5⟩ := step_on (lt_of (a := at_) (b := s.length) hc4) hl hf (by simpa using hc6); exact ⟨q1, q2, q3, q5.trans hr⟩), (by obtain ⟨_, q2, _, q4, _⟩ := step_on (lt_of (a := at_) (b := s.length) hc4) hl hf (by simpa using hc6); show s.length - advA at_ (stepO (s.drop at_) l) < s.length - at_; omega)⟩
    · skip
      refine wpD_exit ?_
      refine then_exit ?_
      refine then_exit ?_
      refine block_hit ?_
      refine then_normal ?_
      refine wpD_seq ?_
      refine wpD_region ?_
      refine p_pure htab rfl rfl rfl rfl ?_
      refine p_pure htab rfl rfl rfl rfl ?_
      refine p_pure htab rfl rfl rfl rfl ?_
      refine p_load 0 htab rfl rfl rfl rfl rfl rfl rfl rfl ?_
      refine p_pure htab rfl rfl rfl rfl ?_
      refine p_lenL htab rfl rfl rfl rfl rfl rfl rfl (by first | exact List.length_map _ | rfl) ?_
      refine p_build htab rfl rfl rfl rfl rfl rfl rfl rfl rfl ?_
      refine p_lit htab rfl rfl rfl rfl rfl rfl rfl rfl rfl rfl rfl rfl rfl rfl ?_
      refine p_appC 0 htab rfl rfl rfl rfl rfl rfl rfl rfl rfl rfl rfl rfl rfl rfl rfl rfl rfl (by simp [chunk_length]; omega) (fun v7 => ?_)
      refine p_pure htab rfl rfl rfl rfl ?_
      refine p_pure htab rfl rfl rfl rfl ?_
      refine p_pure htab rfl rfl rfl rfl ?_
      refine ops_nil ?_
      refine then_normal ?_
      refine wpD_ret ?_
      refine ret3 (.inl rfl) rfl rfl rfl ?_
      first
      | (have e : readR s = .bad 0 6 := if_pos (by simp at hc1; omega)
         rw [e]
         exact rfl)
      | (obtain ⟨q1, q2⟩ := step_bad (lt_of (a := at_) (b := s.length) hc4) hf (by simpa using hc6)
         have e : readR s = readF s (s.length + 1) 0 [] := if_neg (by simp at hc1; omega)
         rw [e, ← hr, q1]
         show D.tup [.lst 1 [] .full, .v (.int .i64 ((advA at_ (stepO (s.drop at_) l) : Nat))), .v (.int .i64 (errOf (stepO (s.drop at_) l)))] = _
         rw [q2])
      | (have e : readR s = readF s (s.length + 1) 0 [] := if_neg (by simp at hc1; omega)
         have h2 : readF s f at_ l = .ok (l ++ [⟨0, ⟨#[]⟩, 0, s.length⟩]) := by
           obtain ⟨f', rfl⟩ : ∃ f', f = f' + 1 := ⟨f - 1, by omega⟩
           rw [readF, if_pos (ge_of hc4)]
         rw [e, ← hr, h2]
         refine ⟨.cur v7, ?_⟩
         rw [List.map_append]
         rfl)
end Go.Proofs.Ytnjeklpjjceppaa.Ab
