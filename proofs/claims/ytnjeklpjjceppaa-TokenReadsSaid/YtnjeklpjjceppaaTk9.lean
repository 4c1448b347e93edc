/- Layer 10: the document's token at a place: the walk. -/
import Derived.Test.YtnjeklpjjceppaaTk8
namespace Go.Proofs.Ytnjeklpjjceppaa.Ab
open Go
set_option linter.all false
set_option maxHeartbeats 4000000 in
theorem rone_any (r : List UInt8) (c : UInt8) (r' : List UInt8) (hr : r = c :: r') (l : List Tok) (hk : kindI (c.toNat : Int) ≠ 1) (hs : r.length ≤ 140737488355328) :
    CallsD Try.prog 17 [.v (.string ⟨r.toArray⟩), .v (.bool (decide (4000 ≤ l.length)))] [] [] (fun d h k => d = .tup [otD r (stepO r l), .v (.int .i64 (errOf (stepO r l)))] ∧ h = [] ∧ k = []) := by
  have e0 : (ByteArray.mk r.toArray).data.toList[((0 : Int)).toNat]? = some c := by rw [hr]; simp
  have hsz : (ByteArray.mk r.toArray).size = r.length := by simp [ByteArray.size]
  have hName : isLet (c.toNat : Int) = true → stepO r l = nameO r l := fun h => by
    have := kind_let hk h
    rw [hr]; simp only [stepO]; rw [if_neg hk, if_pos this]
  have hNum : isLet (c.toNat : Int) = false → isDig (c.toNat : Int) = true → stepO r l = numO r l := fun h h' => by
    have := kind_dig hk h h'
    rw [hr]; simp only [stepO]; rw [if_neg hk, if_neg (by rw [this]; decide), if_pos this]
  have hSig : isLet (c.toNat : Int) = false → isDig (c.toNat : Int) = false → stepO r l = if signN r = 0 then .err 3 else addO l 3 (signN r) 0 := fun h h' => by
    have := kind_oth hk h h'
    rw [hr]; simp only [stepO]; rw [if_neg hk, if_neg (by rw [this]; decide), if_neg (by rw [this]; decide)]
  have hdc : isLet (c.toNat : Int) = false → isDig (c.toNat : Int) = true → 0 < spanN false r := fun h h' => by
    rw [hr]; exact span_pos (by simp [spanB, kind_dig hk h h'])
  have hcall : ∀ n, n = spanN false r → 0 < n → CallsD Try.prog 29 [.v (.string (subS r n))] [] [] (fun d h k => d = .tup [.v (.int .i64 ((numR (r.take n)).1)), .v (.int .i64 ((numR (r.take n)).2))] ∧ h = [] ∧ k = []) := fun n hn h0 => by
    subst hn
    refine rnumber_any (r.take (spanN false r)) c ?_ (fun x hx => dig_of (span_mem hx)) (by simp; omega)
    rw [hr] at h0 ⊢
    rw [show spanN false (c :: r') = (spanN false (c :: r') - 1) + 1 by omega]; simp
  refine enter htab Try.func17 rfl rfl rfl rfl rfl (fun C => ?_)
  refine wpD_seq ?_
  refine wpD_region ?_
  refine p_alloc htab rfl rfl rfl rfl rfl rfl rfl (fun b1 => ?_)
  refine p_pure htab rfl rfl rfl rfl ?_
  refine ops_nil ?_
  refine then_normal ?_
  refine wpD_seq ?_
  refine wpD_region ?_
  refine p_pure htab rfl rfl rfl rfl ?_
  refine ops_nil ?_
  refine then_normal ?_
  refine wpD_seq ?_
  refine wpD_block ?_
  refine loop_ind (α := Nat) (fun n => n ≤ spanN true r ∧ n ≤ r.length) (fun n => ⟨[(0, .v (.string ⟨r.toArray⟩)), (1, .v (.bool (decide (4000 ≤ l.length)))), (4, .ptr b1 0), (6, .v (.int .i64 (n)))], _, []⟩) (fun n => r.length - n) 0 ⟨Nat.zero_le _, Nat.zero_le _⟩ (WkS.slots (WkS.cons rfl (Wk.refl _) (WkS.cons rfl (Wk.refl _) (WkS.cons rfl (Wk.refl _) (WkS.cons rfl (Wk.refl _) (WkS.nil))))) (List.Sublist.refl _) (List.Sublist.refl _)) ?_
  rintro n ⟨h1, h2⟩
  refine wpD_seq ?_
  refine wpD_seq ?_
  refine wpD_region ?_
  refine p_pure htab rfl rfl rfl rfl ?_
  refine p_pure htab rfl rfl rfl rfl ?_
  refine p_lenS htab rfl rfl rfl rfl rfl rfl rfl rfl ?_
  refine p_pure htab rfl rfl rfl rfl ?_
  refine p_pure htab rfl rfl rfl rfl ?_
  refine p_split (i := 17) rfl (fun hg2 => ?_) (fun hg2 => ?_)
  · skip
    refine p_pure htab rfl rfl rfl rfl ?_
    refine p_pure htab rfl rfl rfl rfl ?_
    refine p_byte htab rfl rfl rfl rfl rfl rfl rfl rfl (by omega) (by first | exact e0 | exact el_of (by assumption) | exact el_of2 (by assumption) (by assumption) | exact map_get (f := strD) (getS (by assumption))) ?_
    refine p_call0 (letter_any _) rfl rfl rfl rfl rfl (WkL.refl _) ?_
    rintro _ rfl
    refine p_pure htab rfl rfl rfl rfl ?_
    refine p_split (i := 22) rfl (fun hg3 => ?_) (fun hg3 => ?_)
    · skip
      refine p_skip rfl rfl rfl ?_
      refine p_skip rfl rfl rfl ?_
      refine p_skip rfl rfl rfl ?_
      refine p_skip rfl rfl rfl ?_
      refine p_pickT rfl rfl rfl rfl rfl rfl ?_
      refine p_pickT rfl rfl rfl rfl rfl rfl ?_
      refine ops_nil ?_
      refine then_normal ?_
      refine wpD_true rfl ?_
      refine wpD_skip ?_
      refine then_normal ?_
      refine wpD_block ?_
      refine wpD_region ?_
      refine p_pure htab rfl rfl rfl rfl ?_
      refine p_pure htab rfl rfl rfl rfl ?_
      refine p_pure htab rfl rfl rfl rfl ?_
      refine ops_nil ?_
      refine block_normal ?_
      refine then_normal ?_
      refine ⟨(n + 1), WkS.slots (WkS.cons rfl (Wk.refl _) (WkS.cons rfl (Wk.refl _) (WkS.cons rfl (Wk.refl _) (WkS.cons rfl (Wk.of_eq (by rw [wrapS (by omega)])) (WkS.nil))))) (List.Sublist.refl _) (List.Sublist.refl _), ⟨span_step0 (getD_at (lt_ofS (by assumption))) h1 (by rw [let_dig]; first | (rw [show isLet ((r.getD n 0).toNat : Int) = true by assumption]; rfl) | (rw [show isDig ((r.getD n 0).toNat : Int) = true by assumption]; simp)), by have := lt_ofS (k := n) (ds := r) (by assumption); omega⟩, by have := lt_ofS (k := n) (ds := r) (by assumption); omega⟩
    · skip
      refine p_pure htab rfl rfl rfl rfl ?_
      refine p_pure htab rfl rfl rfl rfl ?_
      refine p_byte htab rfl rfl rfl rfl rfl rfl rfl rfl (by omega) (by first | exact e0 | exact el_of (by assumption) | exact el_of2 (by assumption) (by assumption) | exact map_get (f := strD) (getS (by assumption))) ?_
      refine p_call0 (digit_any _) rfl rfl rfl rfl rfl (WkL.refl _) ?_
      rintro _ rfl
      refine p_pickF rfl rfl rfl rfl rfl rfl ?_
      refine p_pickT rfl rfl rfl rfl rfl rfl ?_
      refine ops_nil ?_
      refine then_normal ?_
      refine wpD_cond rfl (fun hc4 => ?_) (fun hc4 => ?_)
      · skip
        refine wpD_skip ?_
        refine then_normal ?_
        refine wpD_block ?_
        refine wpD_region ?_
        refine p_pure htab rfl rfl rfl rfl ?_
        refine p_pure htab rfl rfl rfl rfl ?_
        refine p_pure htab rfl rfl rfl rfl ?_
        refine ops_nil ?_
        refine block_normal ?_
        refine then_normal ?_
        refine ⟨(n + 1), WkS.slots (WkS.cons rfl (Wk.refl _) (WkS.cons rfl (Wk.refl _) (WkS.cons rfl (Wk.refl _) (WkS.cons rfl (Wk.of_eq (by rw [wrapS (by omega)])) (WkS.nil))))) (List.Sublist.refl _) (List.Sublist.refl _), ⟨span_step0 (getD_at (lt_ofS (by assumption))) h1 (by rw [let_dig]; first | (rw [show isLet ((r.getD n 0).toNat : Int) = true by assumption]; rfl) | (rw [show isDig ((r.getD n 0).toNat : Int) = true by assumption]; simp)), by have := lt_ofS (k := n) (ds := r) (by assumption); omega⟩, by have := lt_ofS (k := n) (ds := r) (by assumption); omega⟩
      · skip
        refine wpD_exit ?_
        refine then_exit ?_
        refine then_exit ?_
        refine block_hit ?_
        have hsp : n = spanN true r := by first | exact span_out0 (ge_ofS (by assumption)) h1 | exact span_end0 (getD_at (lt_ofS (by assumption))) h1 (by rw [let_dig, show isLet ((r.getD n 0).toNat : Int) = false by assumption, show isDig ((r.getD n 0).toNat : Int) = false by assumption]; rfl)
        refine then_normal ?_
        refine wpD_seq ?_
        refine wpD_seq ?_
        refine wpD_region ?_
        refine p_pure htab rfl rfl rfl rfl ?_
        refine p_byte htab rfl rfl rfl rfl rfl rfl rfl rfl (by omega) (by first | exact e0 | exact el_of (by assumption) | exact el_of2 (by assumption) (by assumption) | exact map_get (f := strD) (getS (by assumption))) ?_
        refine p_call0 (letter_any _) rfl rfl rfl rfl rfl (WkL.refl _) ?_
        rintro _ rfl
        refine ops_nil ?_
        refine then_normal ?_
        refine wpD_cond rfl (fun hc5 => ?_) (fun hc5 => ?_)
        · skip
          refine wpD_seq ?_
          refine wpD_seq ?_
          refine wpD_region ?_
          refine p_pure htab rfl rfl rfl rfl ?_
          refine p_pure htab rfl rfl rfl rfl ?_
          refine p_pure htab rfl rfl rfl rfl ?_
          refine p_split (i := 36) rfl (fun hg6 => ?_) (fun hg6 => ?_)
          · skip
            refine p_skip rfl rfl rfl ?_
            refine p_pickT rfl rfl rfl rfl rfl rfl ?_
            refine ops_nil ?_
            refine then_normal ?_
            refine wpD_true rfl ?_
            refine wpD_seq ?_
            refine wpD_region ?_
            refine p_build htab rfl rfl rfl rfl rfl rfl rfl rfl rfl ?_
            refine p_store 0 htab rfl rfl rfl rfl rfl rfl rfl rfl rfl rfl rfl rfl ?_
            refine p_pure htab rfl rfl rfl rfl ?_
            refine ops_nil ?_
            refine then_normal ?_
            refine wpD_ret ?_
            refine then_ret ?_
            refine then_ret ?_
            refine ret_cell_tmp 0 (.inl rfl) rfl rfl rfl rfl rfl ?_
            first
            | (have q : isLet (c.toNat : Int) = true := by assumption
               rw [hName q, nameO_long (hsp ▸ gt20 (n := n) (by assumption))]
               rfl)
            | (have q : isLet (c.toNat : Int) = true := by assumption
               have q2 : decide (4000 ≤ l.length) = true := by assumption
               rw [hName q, nameO_many (of_decide_eq_true q2)]
               rfl)
            | (have q : isLet (c.toNat : Int) = true := by assumption
               have q2 : decide (4000 ≤ l.length) = false := by assumption
               have q3 : isWord ((ByteArray.mk r.toArray).extract 0 n) = true := by assumption
               rw [hName q, nameO_word (hsp ▸ le20 (n := n) (by assumption)) (of_decide_eq_false q2) (by rw [← hsp, ← ext0]; exact q3), ← hsp]
               exact congrArg (fun q => D.tup [q, .v (.int .i64 (0))]) (otD_ext r 3 0 n))
            | (have q : isLet (c.toNat : Int) = true := by assumption
               have q2 : decide (4000 ≤ l.length) = false := by assumption
               have q3 : isWord ((ByteArray.mk r.toArray).extract 0 n) = false := by assumption
               rw [hName q, nameO_name (hsp ▸ le20 (n := n) (by assumption)) (of_decide_eq_false q2) (by rw [← hsp, ← ext0]; exact q3), ← hsp]
               exact congrArg (fun q => D.tup [q, .v (.int .i64 (0))]) (otD_ext r 1 0 n))
            | (have q : isDig (c.toNat : Int) = true := by assumption
               have q2 : decide (4000 ≤ l.length) = true := by assumption
               rw [hNum (by assumption) q, numO_many (of_decide_eq_true q2)]
               rfl)
            | (have q : isDig (c.toNat : Int) = true := by assumption
               have q2 : decide (4000 ≤ l.length) = false := by assumption
               have q3 : isLet ((r.getD i 0).toNat : Int) = true := by assumption
               have q4 := lt_of (a := i) (b := n) (by assumption)
               have q5 := span_end0 (getD_at (r := r) (n := i) (by omega)) h4 (let_not _ q3)
               rw [hNum (by assumption) q, numO_form (of_decide_eq_false q2) (by rw [show decide (spanN false r < spanN true r) = true from decide_eq_true (by omega)]; rfl)]
               rfl)
            | (have q : isDig (c.toNat : Int) = true := by assumption
               have q2 : decide (4000 ≤ l.length) = false := by assumption
               have q3 : ((numR (r.take n)).2 != 0) = true := by assumption
               have q4 := (numO_R (of_decide_eq_false q2) (hsp2.symm.trans hsp)).1 (by rw [← hsp2]; simpa using q3)
               rw [hNum (by assumption) q, q4, ← hsp2]
               rfl)
            | (have q : isDig (c.toNat : Int) = true := by assumption
               have q2 : decide (4000 ≤ l.length) = false := by assumption
               have q3 : ((numR (r.take n)).2 != 0) = false := by assumption
               have q4 := (numO_R (of_decide_eq_false q2) (hsp2.symm.trans hsp)).2 (by rw [← hsp2]; simpa using q3)
               rw [hNum (by assumption) q, q4, ← hsp2]
               exact congrArg (fun q => D.tup [q, .v (.int .i64 (0))]) (otD_ext r 2 _ n))
            | (have q : isDig (c.toNat : Int) = false := by assumption
               have q2 : decide (4000 ≤ l.length) = true := by assumption
               obtain ⟨q3, q4⟩ := sign_hit (by rw [hr]; simp) (h4.trans (find_hit (getS (by assumption)) (preB_yes (by assumption) (by assumption))))
               rw [hSig (by assumption) q, if_neg q3, addO_many (of_decide_eq_true q2)]
               rfl)
            | (have q : isDig (c.toNat : Int) = false := by assumption
               have q2 : decide (4000 ≤ l.length) = false := by assumption
               obtain ⟨q3, q4⟩ := sign_hit (by rw [hr]; simp) (h4.trans (find_hit (getS (by assumption)) (preB_yes (by assumption) (by assumption))))
               rw [hSig (by assumption) q, if_neg q3, addO_ok (of_decide_eq_false q2)]
               show D.tup [.agg [_, .v (.string (signsL.getD j ByteArray.empty)), _, _], _] = D.tup [.agg [_, .v (.string (subS r (signN r))), _, _], _]
               rw [q4]
               rfl)
            | (have q : isDig (c.toNat : Int) = false := by assumption
               have q5 : signsL.length ≤ j := ge_of (by assumption)
               have q3 := sign_miss (by rw [hr]; simp) (h4.trans (by rw [List.drop_of_length_le q5]; rfl))
               rw [hSig (by assumption) q, if_pos q3]
               rfl)
          · skip
            refine p_pure htab rfl rfl rfl rfl ?_
            refine p_pickF rfl rfl rfl rfl rfl rfl ?_
            refine ops_nil ?_
            refine then_normal ?_
            refine wpD_cond rfl (fun hc7 => ?_) (fun hc7 => ?_)
            · skip
              refine wpD_seq ?_
              refine wpD_region ?_
              refine p_build htab rfl rfl rfl rfl rfl rfl rfl rfl rfl ?_
              refine p_store 0 htab rfl rfl rfl rfl rfl rfl rfl rfl rfl rfl rfl rfl ?_
              refine p_pure htab rfl rfl rfl rfl ?_
              refine ops_nil ?_
              refine then_normal ?_
              refine wpD_ret ?_
              refine then_ret ?_
              refine then_ret ?_
              refine ret_cell_tmp 0 (.inl rfl) rfl rfl rfl rfl rfl ?_
              first
              | (have q : isLet (c.toNat : Int) = true := by assumption
                 rw [hName q, nameO_long (hsp ▸ gt20 (n := n) (by assumption))]
                 rfl)
              | (have q : isLet (c.toNat : Int) = true := by assumption
                 have q2 : decide (4000 ≤ l.length) = true := by assumption
                 rw [hName q, nameO_many (of_decide_eq_true q2)]
                 rfl)
              | (have q : isLet (c.toNat : Int) = true := by assumption
                 have q2 : decide (4000 ≤ l.length) = false := by assumption
                 have q3 : isWord ((ByteArray.mk r.toArray).extract 0 n) = true := by assumption
                 rw [hName q, nameO_word (hsp ▸ le20 (n := n) (by assumption)) (of_decide_eq_false q2) (by rw [← hsp, ← ext0]; exact q3), ← hsp]
                 exact congrArg (fun q => D.tup [q, .v (.int .i64 (0))]) (otD_ext r 3 0 n))
              | (have q : isLet (c.toNat : Int) = true := by assumption
                 have q2 : decide (4000 ≤ l.length) = false := by assumption
                 have q3 : isWord ((ByteArray.mk r.toArray).extract 0 n) = false := by assumption
                 rw [hName q, nameO_name (hsp ▸ le20 (n := n) (by assumption)) (of_decide_eq_false q2) (by rw [← hsp, ← ext0]; exact q3), ← hsp]
                 exact congrArg (fun q => D.tup [q, .v (.int .i64 (0))]) (otD_ext r 1 0 n))
              | (have q : isDig (c.toNat : Int) = true := by assumption
                 have q2 : decide (4000 ≤ l.length) = true := by assumption
                 rw [hNum (by assumption) q, numO_many (of_decide_eq_true q2)]
                 rfl)
              | (have q : isDig (c.toNat : Int) = true := by assumption
                 have q2 : decide (4000 ≤ l.length) = false := by assumption
                 have q3 : isLet ((r.getD i 0).toNat : Int) = true := by assumption
                 have q4 := lt_of (a := i) (b := n) (by assumption)
                 have q5 := span_end0 (getD_at (r := r) (n := i) (by omega)) h4 (let_not _ q3)
                 rw [hNum (by assumption) q, numO_form (of_decide_eq_false q2) (by rw [show decide (spanN false r < spanN true r) = true from decide_eq_true (by omega)]; rfl)]
                 rfl)
              | (have q : isDig (c.toNat : Int) = true := by assumption
                 have q2 : decide (4000 ≤ l.length) = false := by assumption
                 have q3 : ((numR (r.take n)).2 != 0) = true := by assumption
                 have q4 := (numO_R (of_decide_eq_false q2) (hsp2.symm.trans hsp)).1 (by rw [← hsp2]; simpa using q3)
                 rw [hNum (by assumption) q, q4, ← hsp2]
                 rfl)
              | (have q : isDig (c.toNat : Int) = true := by assumption
                 have q2 : decide (4000 ≤ l.length) = false := by assumption
                 have q3 : ((numR (r.take n)).2 != 0) = false := by assumption
                 have q4 := (numO_R (of_decide_eq_false q2) (hsp2.symm.trans hsp)).2 (by rw [← hsp2]; simpa using q3)
                 rw [hNum (by assumption) q, q4, ← hsp2]
                 exact congrArg (fun q => D.tup [q, .v (.int .i64 (0))]) (otD_ext r 2 _ n))
              | (have q : isDig (c.toNat : Int) = false := by assumption
                 have q2 : decide (4000 ≤ l.length) = true := by assumption
                 obtain ⟨q3, q4⟩ := sign_hit (by rw [hr]; simp) (h4.trans (find_hit (getS (by assumption)) (preB_yes (by assumption) (by assumption))))
                 rw [hSig (by assumption) q, if_neg q3, addO_many (of_decide_eq_true q2)]
                 rfl)
              | (have q : isDig (c.toNat : Int) = false := by assumption
                 have q2 : decide (4000 ≤ l.length) = false := by assumption
                 obtain ⟨q3, q4⟩ := sign_hit (by rw [hr]; simp) (h4.trans (find_hit (getS (by assumption)) (preB_yes (by assumption) (by assumption))))
                 rw [hSig (by assumption) q, if_neg q3, addO_ok (of_decide_eq_false q2)]
                 show D.tup [.agg [_, .v (.string (signsL.getD j ByteArray.empty)), _, _], _] = D.tup [.agg [_, .v (.string (subS r (signN r))), _, _], _]
                 rw [q4]
                 rfl)
              | (have q : isDig (c.toNat : Int) = false := by assumption
                 have q5 : signsL.length ≤ j := ge_of (by assumption)
                 have q3 := sign_miss (by rw [hr]; simp) (h4.trans (by rw [List.drop_of_length_le q5]; rfl))
                 rw [hSig (by assumption) q, if_pos q3]
                 rfl)
            · skip
              refine wpD_skip ?_
              refine then_normal ?_
              refine wpD_seq ?_
              refine wpD_seq ?_
              refine wpD_region ?_
              refine p_pure htab rfl rfl rfl rfl ?_
              refine p_pure htab rfl rfl rfl rfl ?_
              refine p_sub htab rfl rfl rfl rfl rfl rfl rfl rfl rfl (show (0 : Int) = ((0 : Nat) : Int) from rfl) rfl (by omega) (by first | (rw [hsz]; assumption) | exact szle (by assumption)) ?_
              refine p_call0 (rword_any _) rfl rfl rfl rfl rfl (WkL.refl _) ?_
              rintro _ rfl
              refine ops_nil ?_
              refine then_normal ?_
              refine wpD_cond rfl (fun hc8 => ?_) (fun hc8 => ?_)
              · skip
                refine wpD_seq ?_
                refine wpD_region ?_
                refine p_pure htab rfl rfl rfl rfl ?_
                refine p_pure htab rfl rfl rfl rfl ?_
                refine p_sub htab rfl rfl rfl rfl rfl rfl rfl rfl rfl (show (0 : Int) = ((0 : Nat) : Int) from rfl) rfl (by omega) (by first | (rw [hsz]; assumption) | exact szle (by assumption)) ?_
                refine p_build htab rfl rfl rfl rfl rfl rfl rfl rfl rfl ?_
                refine p_store 0 htab rfl rfl rfl rfl rfl rfl rfl rfl rfl rfl rfl rfl ?_
                refine p_pure htab rfl rfl rfl rfl ?_
                refine ops_nil ?_
                refine then_normal ?_
                refine wpD_ret ?_
                refine then_ret ?_
                refine then_ret ?_
                refine ret_cell_tmp 0 (.inl rfl) rfl rfl rfl rfl rfl ?_
                first
                | (have q : isLet (c.toNat : Int) = true := by assumption
                   rw [hName q, nameO_long (hsp ▸ gt20 (n := n) (by assumption))]
                   rfl)
                | (have q : isLet (c.toNat : Int) = true := by assumption
                   have q2 : decide (4000 ≤ l.length) = true := by assumption
                   rw [hName q, nameO_many (of_decide_eq_true q2)]
                   rfl)
                | (have q : isLet (c.toNat : Int) = true := by assumption
                   have q2 : decide (4000 ≤ l.length) = false := by assumption
                   have q3 : isWord ((ByteArray.mk r.toArray).extract 0 n) = true := by assumption
                   rw [hName q, nameO_word (hsp ▸ le20 (n := n) (by assumption)) (of_decide_eq_false q2) (by rw [← hsp, ← ext0]; exact q3), ← hsp]
                   exact congrArg (fun q => D.tup [q, .v (.int .i64 (0))]) (otD_ext r 3 0 n))
                | (have q : isLet (c.toNat : Int) = true := by assumption
                   have q2 : decide (4000 ≤ l.length) = false := by assumption
                   have q3 : isWord ((ByteArray.mk r.toArray).extract 0 n) = false := by assumption
                   rw [hName q, nameO_name (hsp ▸ le20 (n := n) (by assumption)) (of_decide_eq_false q2) (by rw [← hsp, ← ext0]; exact q3), ← hsp]
                   exact congrArg (fun q => D.tup [q, .v (.int .i64 (0))]) (otD_ext r 1 0 n))
                | (have q : isDig (c.toNat : Int) = true := by assumption
                   have q2 : decide (4000 ≤ l.length) = true := by assumption
                   rw [hNum (by assumption) q, numO_many (of_decide_eq_true q2)]
                   rfl)
                | (have q : isDig (c.toNat : Int) = true := by assumption
                   have q2 : decide (4000 ≤ l.length) = false := by assumption
                   have q3 : isLet ((r.getD i 0).toNat : Int) = true := by assumption
                   have q4 := lt_of (a := i) (b := n) (by assumption)
                   have q5 := span_end0 (getD_at (r := r) (n := i) (by omega)) h4 (let_not _ q3)
                   rw [hNum (by assumption) q, numO_form (of_decide_eq_false q2) (by rw [show decide (spanN false r < spanN true r) = true from decide_eq_true (by omega)]; rfl)]
                   rfl)
                | (have q : isDig (c.toNat : Int) = true := by assumption
                   have q2 : decide (4000 ≤ l.length) = false := by assumption
                   have q3 : ((numR (r.take n)).2 != 0) = true := by assumption
                   have q4 := (numO_R (of_decide_eq_false q2) (hsp2.symm.trans hsp)).1 (by rw [← hsp2]; simpa using q3)
                   rw [hNum (by assumption) q, q4, ← hsp2]
                   rfl)
                | (have q : isDig (c.toNat : Int) = true := by assumption
                   have q2 : decide (4000 ≤ l.length) = false := by assumption
                   have q3 : ((numR (r.take n)).2 != 0) = false := by assumption
                   have q4 := (numO_R (of_decide_eq_false q2) (hsp2.symm.trans hsp)).2 (by rw [← hsp2]; simpa using q3)
                   rw [hNum (by assumption) q, q4, ← hsp2]
                   exact congrArg (fun q => D.tup [q, .v (.int .i64 (0))]) (otD_ext r 2 _ n))
                | (have q : isDig (c.toNat : Int) = false := by assumption
                   have q2 : decide (4000 ≤ l.length) = true := by assumption
                   obtain ⟨q3, q4⟩ := sign_hit (by rw [hr]; simp) (h4.trans (find_hit (getS (by assumption)) (preB_yes (by assumption) (by assumption))))
                   rw [hSig (by assumption) q, if_neg q3, addO_many (of_decide_eq_true q2)]
                   rfl)
                | (have q : isDig (c.toNat : Int) = false := by assumption
                   have q2 : decide (4000 ≤ l.length) = false := by assumption
                   obtain ⟨q3, q4⟩ := sign_hit (by rw [hr]; simp) (h4.trans (find_hit (getS (by assumption)) (preB_yes (by assumption) (by assumption))))
                   rw [hSig (by assumption) q, if_neg q3, addO_ok (of_decide_eq_false q2)]
                   show D.tup [.agg [_, .v (.string (signsL.getD j ByteArray.empty)), _, _], _] = D.tup [.agg [_, .v (.string (subS r (signN r))), _, _], _]
                   rw [q4]
                   rfl)
                | (have q : isDig (c.toNat : Int) = false := by assumption
                   have q5 : signsL.length ≤ j := ge_of (by assumption)
                   have q3 := sign_miss (by rw [hr]; simp) (h4.trans (by rw [List.drop_of_length_le q5]; rfl))
                   rw [hSig (by assumption) q, if_pos q3]
                   rfl)
              · skip
                refine wpD_skip ?_
                refine then_normal ?_
                refine wpD_seq ?_
                refine wpD_region ?_
                refine p_pure htab rfl rfl rfl rfl ?_
                refine p_pure htab rfl rfl rfl rfl ?_
                refine p_sub htab rfl rfl rfl rfl rfl rfl rfl rfl rfl (show (0 : Int) = ((0 : Nat) : Int) from rfl) rfl (by omega) (by first | (rw [hsz]; assumption) | exact szle (by assumption)) ?_
                refine p_build htab rfl rfl rfl rfl rfl rfl rfl rfl rfl ?_
                refine p_store 0 htab rfl rfl rfl rfl rfl rfl rfl rfl rfl rfl rfl rfl ?_
                refine p_pure htab rfl rfl rfl rfl ?_
                refine ops_nil ?_
                refine then_normal ?_
                refine wpD_ret ?_
                refine then_ret ?_
                refine ret_cell_tmp 0 (.inl rfl) rfl rfl rfl rfl rfl ?_
                first
                | (have q : isLet (c.toNat : Int) = true := by assumption
                   rw [hName q, nameO_long (hsp ▸ gt20 (n := n) (by assumption))]
                   rfl)
                | (have q : isLet (c.toNat : Int) = true := by assumption
                   have q2 : decide (4000 ≤ l.length) = true := by assumption
                   rw [hName q, nameO_many (of_decide_eq_true q2)]
                   rfl)
                | (have q : isLet (c.toNat : Int) = true := by assumption
                   have q2 : decide (4000 ≤ l.length) = false := by assumption
                   have q3 : isWord ((ByteArray.mk r.toArray).extract 0 n) = true := by assumption
                   rw [hName q, nameO_word (hsp ▸ le20 (n := n) (by assumption)) (of_decide_eq_false q2) (by rw [← hsp, ← ext0]; exact q3), ← hsp]
                   exact congrArg (fun q => D.tup [q, .v (.int .i64 (0))]) (otD_ext r 3 0 n))
                | (have q : isLet (c.toNat : Int) = true := by assumption
                   have q2 : decide (4000 ≤ l.length) = false := by assumption
                   have q3 : isWord ((ByteArray.mk r.toArray).extract 0 n) = false := by assumption
                   rw [hName q, nameO_name (hsp ▸ le20 (n := n) (by assumption)) (of_decide_eq_false q2) (by rw [← hsp, ← ext0]; exact q3), ← hsp]
                   exact congrArg (fun q => D.tup [q, .v (.int .i64 (0))]) (otD_ext r 1 0 n))
                | (have q : isDig (c.toNat : Int) = true := by assumption
                   have q2 : decide (4000 ≤ l.length) = true := by assumption
                   rw [hNum (by assumption) q, numO_many (of_decide_eq_true q2)]
                   rfl)
                | (have q : isDig (c.toNat : Int) = true := by assumption
                   have q2 : decide (4000 ≤ l.length) = false := by assumption
                   have q3 : isLet ((r.getD i 0).toNat : Int) = true := by assumption
                   have q4 := lt_of (a := i) (b := n) (by assumption)
                   have q5 := span_end0 (getD_at (r := r) (n := i) (by omega)) h4 (let_not _ q3)
                   rw [hNum (by assumption) q, numO_form (of_decide_eq_false q2) (by rw [show decide (spanN false r < spanN true r) = true from decide_eq_true (by omega)]; rfl)]
                   rfl)
                | (have q : isDig (c.toNat : Int) = true := by assumption
                   have q2 : decide (4000 ≤ l.length) = false := by assumption
                   have q3 : ((numR (r.take n)).2 != 0) = true := by assumption
                   have q4 := (numO_R (of_decide_eq_false q2) (hsp2.symm.trans hsp)).1 (by rw [← hsp2]; simpa using q3)
                   rw [hNum (by assumption) q, q4, ← hsp2]
                   rfl)
                | (have q : isDig (c.toNat : Int) = true := by assumption
                   have q2 : decide (4000 ≤ l.length) = false := by assumption
                   have q3 : ((numR (r.take n)).2 != 0) = false := by assumption
                   have q4 := (numO_R (of_decide_eq_false q2) (hsp2.symm.trans hsp)).2 (by rw [← hsp2]; simpa using q3)
                   rw [hNum (by assumption) q, q4, ← hsp2]
                   exact congrArg (fun q => D.tup [q, .v (.int .i64 (0))]) (otD_ext r 2 _ n))
                | (have q : isDig (c.toNat : Int) = false := by assumption
                   have q2 : decide (4000 ≤ l.length) = true := by assumption
                   obtain ⟨q3, q4⟩ := sign_hit (by rw [hr]; simp) (h4.trans (find_hit (getS (by assumption)) (preB_yes (by assumption) (by assumption))))
                   rw [hSig (by assumption) q, if_neg q3, addO_many (of_decide_eq_true q2)]
                   rfl)
                | (have q : isDig (c.toNat : Int) = false := by assumption
                   have q2 : decide (4000 ≤ l.length) = false := by assumption
                   obtain ⟨q3, q4⟩ := sign_hit (by rw [hr]; simp) (h4.trans (find_hit (getS (by assumption)) (preB_yes (by assumption) (by assumption))))
                   rw [hSig (by assumption) q, if_neg q3, addO_ok (of_decide_eq_false q2)]
                   show D.tup [.agg [_, .v (.string (signsL.getD j ByteArray.empty)), _, _], _] = D.tup [.agg [_, .v (.string (subS r (signN r))), _, _], _]
                   rw [q4]
                   rfl)
                | (have q : isDig (c.toNat : Int) = false := by assumption
                   have q5 : signsL.length ≤ j := ge_of (by assumption)
                   have q3 := sign_miss (by rw [hr]; simp) (h4.trans (by rw [List.drop_of_length_le q5]; rfl))
                   rw [hSig (by assumption) q, if_pos q3]
                   rfl)
        · skip
          refine wpD_skip ?_
          refine then_normal ?_
          refine wpD_seq ?_
          refine wpD_seq ?_
          refine wpD_region ?_
          refine p_pure htab rfl rfl rfl rfl ?_
          refine p_byte htab rfl rfl rfl rfl rfl rfl rfl rfl (by omega) (by first | exact e0 | exact el_of (by assumption) | exact el_of2 (by assumption) (by assumption) | exact map_get (f := strD) (getS (by assumption))) ?_
          refine p_call0 (digit_any _) rfl rfl rfl rfl rfl (WkL.refl _) ?_
          rintro _ rfl
          refine ops_nil ?_
          refine then_normal ?_
          refine wpD_cond rfl (fun hc9 => ?_) (fun hc9 => ?_)
          · skip
            refine wpD_seq ?_
            refine wpD_seq ?_
            refine wpD_region ?_
            refine p_pure htab rfl rfl rfl rfl ?_
            refine ops_nil ?_
            refine then_normal ?_
            refine wpD_cond rfl (fun hc10 => ?_) (fun hc10 => ?_)
            · skip
              refine wpD_seq ?_
              refine wpD_region ?_
              refine p_build htab rfl rfl rfl rfl rfl rfl rfl rfl rfl ?_
              refine p_store 0 htab rfl rfl rfl rfl rfl rfl rfl rfl rfl rfl rfl rfl ?_
              refine p_pure htab rfl rfl rfl rfl ?_
              refine ops_nil ?_
              refine then_normal ?_
              refine wpD_ret ?_
              refine then_ret ?_
              refine then_ret ?_
              refine ret_cell_tmp 0 (.inl rfl) rfl rfl rfl rfl rfl ?_
              first
              | (have q : isLet (c.toNat : Int) = true := by assumption
                 rw [hName q, nameO_long (hsp ▸ gt20 (n := n) (by assumption))]
                 rfl)
              | (have q : isLet (c.toNat : Int) = true := by assumption
                 have q2 : decide (4000 ≤ l.length) = true := by assumption
                 rw [hName q, nameO_many (of_decide_eq_true q2)]
                 rfl)
              | (have q : isLet (c.toNat : Int) = true := by assumption
                 have q2 : decide (4000 ≤ l.length) = false := by assumption
                 have q3 : isWord ((ByteArray.mk r.toArray).extract 0 n) = true := by assumption
                 rw [hName q, nameO_word (hsp ▸ le20 (n := n) (by assumption)) (of_decide_eq_false q2) (by rw [← hsp, ← ext0]; exact q3), ← hsp]
                 exact congrArg (fun q => D.tup [q, .v (.int .i64 (0))]) (otD_ext r 3 0 n))
              | (have q : isLet (c.toNat : Int) = true := by assumption
                 have q2 : decide (4000 ≤ l.length) = false := by assumption
                 have q3 : isWord ((ByteArray.mk r.toArray).extract 0 n) = false := by assumption
                 rw [hName q, nameO_name (hsp ▸ le20 (n := n) (by assumption)) (of_decide_eq_false q2) (by rw [← hsp, ← ext0]; exact q3), ← hsp]
                 exact congrArg (fun q => D.tup [q, .v (.int .i64 (0))]) (otD_ext r 1 0 n))
              | (have q : isDig (c.toNat : Int) = true := by assumption
                 have q2 : decide (4000 ≤ l.length) = true := by assumption
                 rw [hNum (by assumption) q, numO_many (of_decide_eq_true q2)]
                 rfl)
              | (have q : isDig (c.toNat : Int) = true := by assumption
                 have q2 : decide (4000 ≤ l.length) = false := by assumption
                 have q3 : isLet ((r.getD i 0).toNat : Int) = true := by assumption
                 have q4 := lt_of (a := i) (b := n) (by assumption)
                 have q5 := span_end0 (getD_at (r := r) (n := i) (by omega)) h4 (let_not _ q3)
                 rw [hNum (by assumption) q, numO_form (of_decide_eq_false q2) (by rw [show decide (spanN false r < spanN true r) = true from decide_eq_true (by omega)]; rfl)]
                 rfl)
              | (have q : isDig (c.toNat : Int) = true := by assumption
                 have q2 : decide (4000 ≤ l.length) = false := by assumption
                 have q3 : ((numR (r.take n)).2 != 0) = true := by assumption
                 have q4 := (numO_R (of_decide_eq_false q2) (hsp2.symm.trans hsp)).1 (by rw [← hsp2]; simpa using q3)
                 rw [hNum (by assumption) q, q4, ← hsp2]
                 rfl)
              | (have q : isDig (c.toNat : Int) = true := by assumption
                 have q2 : decide (4000 ≤ l.length) = false := by assumption
                 have q3 : ((numR (r.take n)).2 != 0) = false := by assumption
                 have q4 := (numO_R (of_decide_eq_false q2) (hsp2.symm.trans hsp)).2 (by rw [← hsp2]; simpa using q3)
                 rw [hNum (by assumption) q, q4, ← hsp2]
                 exact congrArg (fun q => D.tup [q, .v (.int .i64 (0))]) (otD_ext r 2 _ n))
              | (have q : isDig (c.toNat : Int) = false := by assumption
                 have q2 : decide (4000 ≤ l.length) = true := by assumption
                 obtain ⟨q3, q4⟩ := sign_hit (by rw [hr]; simp) (h4.trans (find_hit (getS (by assumption)) (preB_yes (by assumption) (by assumption))))
                 rw [hSig (by assumption) q, if_neg q3, addO_many (of_decide_eq_true q2)]
                 rfl)
              | (have q : isDig (c.toNat : Int) = false := by assumption
                 have q2 : decide (4000 ≤ l.length) = false := by assumption
                 obtain ⟨q3, q4⟩ := sign_hit (by rw [hr]; simp) (h4.trans (find_hit (getS (by assumption)) (preB_yes (by assumption) (by assumption))))
                 rw [hSig (by assumption) q, if_neg q3, addO_ok (of_decide_eq_false q2)]
                 show D.tup [.agg [_, .v (.string (signsL.getD j ByteArray.empty)), _, _], _] = D.tup [.agg [_, .v (.string (subS r (signN r))), _, _], _]
                 rw [q4]
                 rfl)
              | (have q : isDig (c.toNat : Int) = false := by assumption
                 have q5 : signsL.length ≤ j := ge_of (by assumption)
                 have q3 := sign_miss (by rw [hr]; simp) (h4.trans (by rw [List.drop_of_length_le q5]; rfl))
                 rw [hSig (by assumption) q, if_pos q3]
                 rfl)
            · skip
              refine wpD_skip ?_
              refine then_normal ?_
              refine wpD_seq ?_
              refine wpD_seq ?_
              refine wpD_region ?_
              refine p_pure htab rfl rfl rfl rfl ?_
              refine ops_nil ?_
              refine then_normal ?_
              refine wpD_block ?_
              refine loop_ind (α := Nat) (fun i => i ≤ n ∧ i ≤ spanN false r) (fun i => ⟨[(0, .v (.string ⟨r.toArray⟩)), (1, .v (.bool (decide (4000 ≤ l.length)))), (4, .ptr b1 0), (6, .v (.int .i64 (n))), (7, .v (.int .i64 (i)))], _, []⟩) (fun i => n - i) 0 ⟨Nat.zero_le _, Nat.zero_le _⟩ (WkS.slots (WkS.cons rfl (Wk.refl _) (WkS.cons rfl (Wk.refl _) (WkS.cons rfl (Wk.refl _) (WkS.cons rfl (Wk.refl _) (WkS.cons rfl (Wk.refl _) (WkS.nil)))))) (List.Sublist.refl _) (List.Sublist.refl _)) ?_
              rintro i ⟨h3, h4⟩
              refine wpD_seq ?_
              refine wpD_seq ?_
              refine wpD_region ?_
              refine p_pure htab rfl rfl rfl rfl ?_
              refine p_pure htab rfl rfl rfl rfl ?_
              refine p_pure htab rfl rfl rfl rfl ?_
              refine ops_nil ?_
              refine then_normal ?_
              refine wpD_cond rfl (fun hc11 => ?_) (fun hc11 => ?_)
              · skip
                refine wpD_skip ?_
                refine then_normal ?_
                refine wpD_seq ?_
                refine wpD_block ?_
                refine wpD_seq ?_
                refine wpD_region ?_
                refine p_pure htab rfl rfl rfl rfl ?_
                refine p_pure htab rfl rfl rfl rfl ?_
                refine p_byte htab rfl rfl rfl rfl rfl rfl rfl rfl (by omega) (by first | exact e0 | exact el_of (by assumption) | exact el_of2 (by assumption) (by assumption) | exact map_get (f := strD) (getS (by assumption))) ?_
                refine p_call0 (letter_any _) rfl rfl rfl rfl rfl (WkL.refl _) ?_
                rintro _ rfl
                refine ops_nil ?_
                refine then_normal ?_
                refine wpD_cond rfl (fun hc12 => ?_) (fun hc12 => ?_)
                · skip
                  refine wpD_seq ?_
                  refine wpD_region ?_
                  refine p_build htab rfl rfl rfl rfl rfl rfl rfl rfl rfl ?_
                  refine p_store 0 htab rfl rfl rfl rfl rfl rfl rfl rfl rfl rfl rfl rfl ?_
                  refine p_pure htab rfl rfl rfl rfl ?_
                  refine ops_nil ?_
                  refine then_normal ?_
                  refine wpD_ret ?_
                  refine block_ret ?_
                  refine then_ret ?_
                  refine then_ret ?_
                  refine block_ret ?_
                  refine then_ret ?_
                  refine then_ret ?_
                  refine ret_cell_tmp 0 (.inl rfl) rfl rfl rfl rfl rfl ?_
                  first
                  | (have q : isLet (c.toNat : Int) = true := by assumption
                     rw [hName q, nameO_long (hsp ▸ gt20 (n := n) (by assumption))]
                     rfl)
                  | (have q : isLet (c.toNat : Int) = true := by assumption
                     have q2 : decide (4000 ≤ l.length) = true := by assumption
                     rw [hName q, nameO_many (of_decide_eq_true q2)]
                     rfl)
                  | (have q : isLet (c.toNat : Int) = true := by assumption
                     have q2 : decide (4000 ≤ l.length) = false := by assumption
                     have q3 : isWord ((ByteArray.mk r.toArray).extract 0 n) = true := by assumption
                     rw [hName q, nameO_word (hsp ▸ le20 (n := n) (by assumption)) (of_decide_eq_false q2) (by rw [← hsp, ← ext0]; exact q3), ← hsp]
                     exact congrArg (fun q => D.tup [q, .v (.int .i64 (0))]) (otD_ext r 3 0 n))
                  | (have q : isLet (c.toNat : Int) = true := by assumption
                     have q2 : decide (4000 ≤ l.length) = false := by assumption
                     have q3 : isWord ((ByteArray.mk r.toArray).extract 0 n) = false := by assumption
                     rw [hName q, nameO_name (hsp ▸ le20 (n := n) (by assumption)) (of_decide_eq_false q2) (by rw [← hsp, ← ext0]; exact q3), ← hsp]
                     exact congrArg (fun q => D.tup [q, .v (.int .i64 (0))]) (otD_ext r 1 0 n))
                  | (have q : isDig (c.toNat : Int) = true := by assumption
                     have q2 : decide (4000 ≤ l.length) = true := by assumption
                     rw [hNum (by assumption) q, numO_many (of_decide_eq_true q2)]
                     rfl)
                  | (have q : isDig (c.toNat : Int) = true := by assumption
                     have q2 : decide (4000 ≤ l.length) = false := by assumption
                     have q3 : isLet ((r.getD i 0).toNat : Int) = true := by assumption
                     have q4 := lt_of (a := i) (b := n) (by assumption)
                     have q5 := span_end0 (getD_at (r := r) (n := i) (by omega)) h4 (let_not _ q3)
                     rw [hNum (by assumption) q, numO_form (of_decide_eq_false q2) (by rw [show decide (spanN false r < spanN true r) = true from decide_eq_true (by omega)]; rfl)]
                     rfl)
                  | (have q : isDig (c.toNat : Int) = true := by assumption
                     have q2 : decide (4000 ≤ l.length) = false := by assumption
                     have q3 : ((numR (r.take n)).2 != 0) = true := by assumption
                     have q4 := (numO_R (of_decide_eq_false q2) (hsp2.symm.trans hsp)).1 (by rw [← hsp2]; simpa using q3)
                     rw [hNum (by assumption) q, q4, ← hsp2]
                     rfl)
                  | (have q : isDig (c.toNat : Int) = true := by assumption
                     have q2 : decide (4000 ≤ l.length) = false := by assumption
                     have q3 : ((numR (r.take n)).2 != 0) = false := by assumption
                     have q4 := (numO_R (of_decide_eq_false q2) (hsp2.symm.trans hsp)).2 (by rw [← hsp2]; simpa using q3)
                     rw [hNum (by assumption) q, q4, ← hsp2]
                     exact congrArg (fun q => D.tup [q, .v (.int .i64 (0))]) (otD_ext r 2 _ n))
                  | (have q : isDig (c.toNat : Int) = false := by assumption
                     have q2 : decide (4000 ≤ l.length) = true := by assumption
                     obtain ⟨q3, q4⟩ := sign_hit (by rw [hr]; simp) (h4.trans (find_hit (getS (by assumption)) (preB_yes (by assumption) (by assumption))))
                     rw [hSig (by assumption) q, if_neg q3, addO_many (of_decide_eq_true q2)]
                     rfl)
                  | (have q : isDig (c.toNat : Int) = false := by assumption
                     have q2 : decide (4000 ≤ l.length) = false := by assumption
                     obtain ⟨q3, q4⟩ := sign_hit (by rw [hr]; simp) (h4.trans (find_hit (getS (by assumption)) (preB_yes (by assumption) (by assumption))))
                     rw [hSig (by assumption) q, if_neg q3, addO_ok (of_decide_eq_false q2)]
                     show D.tup [.agg [_, .v (.string (signsL.getD j ByteArray.empty)), _, _], _] = D.tup [.agg [_, .v (.string (subS r (signN r))), _, _], _]
                     rw [q4]
                     rfl)
                  | (have q : isDig (c.toNat : Int) = false := by assumption
                     have q5 : signsL.length ≤ j := ge_of (by assumption)
                     have q3 := sign_miss (by rw [hr]; simp) (h4.trans (by rw [List.drop_of_length_le q5]; rfl))
                     rw [hSig (by assumption) q, if_pos q3]
                     rfl)
                · skip
                  refine wpD_skip ?_
                  refine block_normal ?_
                  refine then_normal ?_
                  refine wpD_region ?_
                  refine p_pure htab rfl rfl rfl rfl ?_
                  refine p_pure htab rfl rfl rfl rfl ?_
                  refine p_pure htab rfl rfl rfl rfl ?_
                  refine ops_nil ?_
                  refine then_normal ?_
                  refine ⟨(i + 1), WkS.slots (WkS.cons rfl (Wk.refl _) (WkS.cons rfl (Wk.refl _) (WkS.cons rfl (Wk.refl _) (WkS.cons rfl (Wk.refl _) (WkS.cons rfl (Wk.of_eq (by rw [wrapS (by omega)])) (WkS.nil)))))) (List.Sublist.refl _) (List.Sublist.refl _), ⟨by have := lt_of (a := i) (b := n) (by assumption); omega, span_step0 (getD_at (by have := lt_of (a := i) (b := n) (by assumption); omega)) h4 (dig_only _ (span_get (by have := lt_of (a := i) (b := n) (by assumption); omega)) (by assumption))⟩, by have := lt_of (a := i) (b := n) (by assumption); omega⟩
              · skip
                refine wpD_exit ?_
                refine then_exit ?_
                refine then_exit ?_
                refine block_hit ?_
                have hsp2 : n = spanN false r := by have hge := ge_of (a := i) (b := n) (by assumption); have := span_le_true r; omega
                refine then_normal ?_
                refine wpD_seq ?_
                refine wpD_region ?_
                refine p_pure htab rfl rfl rfl rfl ?_
                refine p_pure htab rfl rfl rfl rfl ?_
                refine p_sub htab rfl rfl rfl rfl rfl rfl rfl rfl rfl (show (0 : Int) = ((0 : Nat) : Int) from rfl) rfl (by omega) (by first | (rw [hsz]; assumption) | exact szle (by assumption)) ?_
                refine p_call0 (hcall n hsp2 (by have := hdc (by assumption) (by assumption); omega)) rfl rfl rfl rfl rfl (WkL.cons (Wk.of_eq (congrArg (fun q => D.v (.string q)) (ext0 r n))) (WkL.refl _)) ?_
                rintro _ rfl
                refine p_pure htab rfl rfl rfl rfl ?_
                refine p_pure htab rfl rfl rfl rfl ?_
                refine p_pure htab rfl rfl rfl rfl ?_
                refine p_pure htab rfl rfl rfl rfl ?_
                refine p_pure htab rfl rfl rfl rfl ?_
                refine ops_nil ?_
                refine then_normal ?_
                refine wpD_seq ?_
                refine wpD_seq ?_
                refine wpD_region ?_
                refine p_pure htab rfl rfl rfl rfl ?_
                refine p_pure htab rfl rfl rfl rfl ?_
                refine ops_nil ?_
                refine then_normal ?_
                refine wpD_cond rfl (fun hc13 => ?_) (fun hc13 => ?_)
                · skip
                  refine wpD_seq ?_
                  refine wpD_region ?_
                  refine p_build htab rfl rfl rfl rfl rfl rfl rfl rfl rfl ?_
                  refine p_pure htab rfl rfl rfl rfl ?_
                  refine p_store 0 htab rfl rfl rfl rfl rfl rfl rfl rfl rfl rfl rfl rfl ?_
                  refine p_pure htab rfl rfl rfl rfl ?_
                  refine ops_nil ?_
                  refine then_normal ?_
                  refine wpD_ret ?_
                  refine then_ret ?_
                  refine then_ret ?_
                  refine ret_cell_tmp 0 (.inl rfl) rfl rfl rfl rfl rfl ?_
                  first
                  | (have q : isLet (c.toNat : Int) = true := by assumption
                     rw [hName q, nameO_long (hsp ▸ gt20 (n := n) (by assumption))]
                     rfl)
                  | (have q : isLet (c.toNat : Int) = true := by assumption
                     have q2 : decide (4000 ≤ l.length) = true := by assumption
                     rw [hName q, nameO_many (of_decide_eq_true q2)]
                     rfl)
                  | (have q : isLet (c.toNat : Int) = true := by assumption
                     have q2 : decide (4000 ≤ l.length) = false := by assumption
                     have q3 : isWord ((ByteArray.mk r.toArray).extract 0 n) = true := by assumption
                     rw [hName q, nameO_word (hsp ▸ le20 (n := n) (by assumption)) (of_decide_eq_false q2) (by rw [← hsp, ← ext0]; exact q3), ← hsp]
                     exact congrArg (fun q => D.tup [q, .v (.int .i64 (0))]) (otD_ext r 3 0 n))
                  | (have q : isLet (c.toNat : Int) = true := by assumption
                     have q2 : decide (4000 ≤ l.length) = false := by assumption
                     have q3 : isWord ((ByteArray.mk r.toArray).extract 0 n) = false := by assumption
                     rw [hName q, nameO_name (hsp ▸ le20 (n := n) (by assumption)) (of_decide_eq_false q2) (by rw [← hsp, ← ext0]; exact q3), ← hsp]
                     exact congrArg (fun q => D.tup [q, .v (.int .i64 (0))]) (otD_ext r 1 0 n))
                  | (have q : isDig (c.toNat : Int) = true := by assumption
                     have q2 : decide (4000 ≤ l.length) = true := by assumption
                     rw [hNum (by assumption) q, numO_many (of_decide_eq_true q2)]
                     rfl)
                  | (have q : isDig (c.toNat : Int) = true := by assumption
                     have q2 : decide (4000 ≤ l.length) = false := by assumption
                     have q3 : isLet ((r.getD i 0).toNat : Int) = true := by assumption
                     have q4 := lt_of (a := i) (b := n) (by assumption)
                     have q5 := span_end0 (getD_at (r := r) (n := i) (by omega)) h4 (let_not _ q3)
                     rw [hNum (by assumption) q, numO_form (of_decide_eq_false q2) (by rw [show decide (spanN false r < spanN true r) = true from decide_eq_true (by omega)]; rfl)]
                     rfl)
                  | (have q : isDig (c.toNat : Int) = true := by assumption
                     have q2 : decide (4000 ≤ l.length) = false := by assumption
                     have q3 : ((numR (r.take n)).2 != 0) = true := by assumption
                     have q4 := (numO_R (of_decide_eq_false q2) (hsp2.symm.trans hsp)).1 (by rw [← hsp2]; simpa using q3)
                     rw [hNum (by assumption) q, q4, ← hsp2]
                     rfl)
                  | (have q : isDig (c.toNat : Int) = true := by assumption
                     have q2 : decide (4000 ≤ l.length) = false := by assumption
                     have q3 : ((numR (r.take n)).2 != 0) = false := by assumption
                     have q4 := (numO_R (of_decide_eq_false q2) (hsp2.symm.trans hsp)).2 (by rw [← hsp2]; simpa using q3)
                     rw [hNum (by assumption) q, q4, ← hsp2]
                     exact congrArg (fun q => D.tup [q, .v (.int .i64 (0))]) (otD_ext r 2 _ n))
                  | (have q : isDig (c.toNat : Int) = false := by assumption
                     have q2 : decide (4000 ≤ l.length) = true := by assumption
                     obtain ⟨q3, q4⟩ := sign_hit (by rw [hr]; simp) (h4.trans (find_hit (getS (by assumption)) (preB_yes (by assumption) (by assumption))))
                     rw [hSig (by assumption) q, if_neg q3, addO_many (of_decide_eq_true q2)]
                     rfl)
                  | (have q : isDig (c.toNat : Int) = false := by assumption
                     have q2 : decide (4000 ≤ l.length) = false := by assumption
                     obtain ⟨q3, q4⟩ := sign_hit (by rw [hr]; simp) (h4.trans (find_hit (getS (by assumption)) (preB_yes (by assumption) (by assumption))))
                     rw [hSig (by assumption) q, if_neg q3, addO_ok (of_decide_eq_false q2)]
                     show D.tup [.agg [_, .v (.string (signsL.getD j ByteArray.empty)), _, _], _] = D.tup [.agg [_, .v (.string (subS r (signN r))), _, _], _]
                     rw [q4]
                     rfl)
                  | (have q : isDig (c.toNat : Int) = false := by assumption
                     have q5 : signsL.length ≤ j := ge_of (by assumption)
                     have q3 := sign_miss (by rw [hr]; simp) (h4.trans (by rw [List.drop_of_length_le q5]; rfl))
                     rw [hSig (by assumption) q, if_pos q3]
                     rfl)
                · skip
                  refine wpD_skip ?_
                  refine then_normal ?_
                  refine wpD_seq ?_
                  refine wpD_region ?_
                  refine p_pure htab rfl rfl rfl rfl ?_
                  refine p_pure htab rfl rfl rfl rfl ?_
                  refine p_sub htab rfl rfl rfl rfl rfl rfl rfl rfl rfl (show (0 : Int) = ((0 : Nat) : Int) from rfl) rfl (by omega) (by first | (rw [hsz]; assumption) | exact szle (by assumption)) ?_
                  refine p_pure htab rfl rfl rfl rfl ?_
                  refine p_build htab rfl rfl rfl rfl rfl rfl rfl rfl rfl ?_
                  refine p_store 0 htab rfl rfl rfl rfl rfl rfl rfl rfl rfl rfl rfl rfl ?_
                  refine p_pure htab rfl rfl rfl rfl ?_
                  refine ops_nil ?_
                  refine then_normal ?_
                  refine wpD_ret ?_
                  refine then_ret ?_
                  refine ret_cell_tmp 0 (.inl rfl) rfl rfl rfl rfl rfl ?_
                  first
                  | (have q : isLet (c.toNat : Int) = true := by assumption
                     rw [hName q, nameO_long (hsp ▸ gt20 (n := n) (by assumption))]
                     rfl)
                  | (have q : isLet (c.toNat : Int) = true := by assumption
                     have q2 : decide (4000 ≤ l.length) = true := by assumption
                     rw [hName q, nameO_many (of_decide_eq_true q2)]
                     rfl)
                  | (have q : isLet (c.toNat : Int) = true := by assumption
                     have q2 : decide (4000 ≤ l.length) = false := by assumption
                     have q3 : isWord ((ByteArray.mk r.toArray).extract 0 n) = true := by assumption
                     rw [hName q, nameO_word (hsp ▸ le20 (n := n) (by assumption)) (of_decide_eq_false q2) (by rw [← hsp, ← ext0]; exact q3), ← hsp]
                     exact congrArg (fun q => D.tup [q, .v (.int .i64 (0))]) (otD_ext r 3 0 n))
                  | (have q : isLet (c.toNat : Int) = true := by assumption
                     have q2 : decide (4000 ≤ l.length) = false := by assumption
                     have q3 : isWord ((ByteArray.mk r.toArray).extract 0 n) = false := by assumption
                     rw [hName q, nameO_name (hsp ▸ le20 (n := n) (by assumption)) (of_decide_eq_false q2) (by rw [← hsp, ← ext0]; exact q3), ← hsp]
                     exact congrArg (fun q => D.tup [q, .v (.int .i64 (0))]) (otD_ext r 1 0 n))
                  | (have q : isDig (c.toNat : Int) = true := by assumption
                     have q2 : decide (4000 ≤ l.length) = true := by assumption
                     rw [hNum (by assumption) q, numO_many (of_decide_eq_true q2)]
                     rfl)
                  | (have q : isDig (c.toNat : Int) = true := by assumption
                     have q2 : decide (4000 ≤ l.length) = false := by assumption
                     have q3 : isLet ((r.getD i 0).toNat : Int) = true := by assumption
                     have q4 := lt_of (a := i) (b := n) (by assumption)
                     have q5 := span_end0 (getD_at (r := r) (n := i) (by omega)) h4 (let_not _ q3)
                     rw [hNum (by assumption) q, numO_form (of_decide_eq_false q2) (by rw [show decide (spanN false r < spanN true r) = true from decide_eq_true (by omega)]; rfl)]
                     rfl)
                  | (have q : isDig (c.toNat : Int) = true := by assumption
                     have q2 : decide (4000 ≤ l.length) = false := by assumption
                     have q3 : ((numR (r.take n)).2 != 0) = true := by assumption
                     have q4 := (numO_R (of_decide_eq_false q2) (hsp2.symm.trans hsp)).1 (by rw [← hsp2]; simpa using q3)
                     rw [hNum (by assumption) q, q4, ← hsp2]
                     rfl)
                  | (have q : isDig (c.toNat : Int) = true := by assumption
                     have q2 : decide (4000 ≤ l.length) = false := by assumption
                     have q3 : ((numR (r.take n)).2 != 0) = false := by assumption
                     have q4 := (numO_R (of_decide_eq_false q2) (hsp2.symm.trans hsp)).2 (by rw [← hsp2]; simpa using q3)
                     rw [hNum (by assumption) q, q4, ← hsp2]
                     exact congrArg (fun q => D.tup [q, .v (.int .i64 (0))]) (otD_ext r 2 _ n))
                  | (have q : isDig (c.toNat : Int) = false := by assumption
                     have q2 : decide (4000 ≤ l.length) = true := by assumption
                     obtain ⟨q3, q4⟩ := sign_hit (by rw [hr]; simp) (h4.trans (find_hit (getS (by assumption)) (preB_yes (by assumption) (by assumption))))
                     rw [hSig (by assumption) q, if_neg q3, addO_many (of_decide_eq_true q2)]
                     rfl)
                  | (have q : isDig (c.toNat : Int) = false := by assumption
                     have q2 : decide (4000 ≤ l.length) = false := by assumption
                     obtain ⟨q3, q4⟩ := sign_hit (by rw [hr]; simp) (h4.trans (find_hit (getS (by assumption)) (preB_yes (by assumption) (by assumption))))
                     rw [hSig (by assumption) q, if_neg q3, addO_ok (of_decide_eq_false q2)]
                     show D.tup [.agg [_, .v (.string (signsL.getD j ByteArray.empty)), _, _], _] = D.tup [.agg [_, .v (.string (subS r (signN r))), _, _], _]
                     rw [q4]
                     rfl)
                  | (have q : isDig (c.toNat : Int) = false := by assumption
                     have q5 : signsL.length ≤ j := ge_of (by assumption)
                     have q3 := sign_miss (by rw [hr]; simp) (h4.trans (by rw [List.drop_of_length_le q5]; rfl))
                     rw [hSig (by assumption) q, if_pos q3]
                     rfl)
          · skip
            refine wpD_skip ?_
            refine then_normal ?_
            refine wpD_seq ?_
            refine wpD_region ?_
            refine p_lit htab rfl rfl rfl rfl rfl rfl rfl rfl rfl rfl rfl rfl rfl rfl ?_
            refine p_pure htab rfl rfl rfl rfl ?_
            refine ops_nil ?_
            refine then_normal ?_
            refine wpD_seq ?_
            refine wpD_seq ?_
            refine wpD_region ?_
            refine p_pure htab rfl rfl rfl rfl ?_
            refine ops_nil ?_
            refine then_normal ?_
            refine wpD_block ?_
            refine loop_ind (α := Nat) (fun j => j ≤ 22 ∧ signsL.find? (preB r) = (signsL.drop j).find? (preB r)) (fun j => ⟨[(0, .v (.string ⟨r.toArray⟩)), (1, .v (.bool (decide (4000 ≤ l.length)))), (4, .ptr b1 0), (10, .lst 1 (signsL.map strD) .full), (11, .v (.int .i64 (j)))], _, []⟩) (fun j => 22 - j) 0 ⟨Nat.zero_le _, rfl⟩ (WkS.slots (WkS.cons rfl (Wk.refl _) (WkS.cons rfl (Wk.refl _) (WkS.cons rfl (Wk.refl _) (WkS.cons rfl (Wk.refl _) (WkS.cons rfl (Wk.refl _) (WkS.nil)))))) (List.Sublist.refl _) (List.Sublist.refl _)) ?_
            rintro j ⟨h3, h4⟩
            refine wpD_seq ?_
            refine wpD_seq ?_
            refine wpD_region ?_
            refine p_pure htab rfl rfl rfl rfl ?_
            refine p_pure htab rfl rfl rfl rfl ?_
            refine p_lenL htab rfl rfl rfl rfl rfl rfl rfl (by first | exact List.length_map _ | rfl) ?_
            refine p_pure htab rfl rfl rfl rfl ?_
            refine ops_nil ?_
            refine then_normal ?_
            refine wpD_cond rfl (fun hc14 => ?_) (fun hc14 => ?_)
            · skip
              refine wpD_skip ?_
              refine then_normal ?_
              refine wpD_seq ?_
              refine wpD_block ?_
              refine wpD_seq ?_
              refine wpD_region ?_
              refine p_pure htab rfl rfl rfl rfl ?_
              refine p_pure htab rfl rfl rfl rfl ?_
              refine p_elem htab rfl rfl rfl rfl rfl rfl rfl rfl rfl rfl (by omega) (by first | exact e0 | exact el_of (by assumption) | exact el_of2 (by assumption) (by assumption) | exact map_get (f := strD) (getS (by assumption))) ?_
              refine p_loadEl htab rfl rfl rfl rfl rfl rfl rfl rfl ?_
              refine p_lenS htab rfl rfl rfl rfl rfl rfl rfl rfl ?_
              refine p_pure htab rfl rfl rfl rfl ?_
              refine ops_nil ?_
              refine then_normal ?_
              refine wpD_seq ?_
              refine bycB (decide (((signsL.getD j ByteArray.empty).size : Int) ≤ ((ByteArray.mk r.toArray).size : Int))) (fun hs15 => ?_) (fun hs15 => ?_)
              · skip
                refine wpD_draws 12 [] [[],[],[],[],[],[],[],[],[],[],[8],[8,10]] [8,10] [[],[0],[],[0,1,2],[0,1,2,3],[0,1,2,3,4],[0,1,2,3,4],[0,1,2,3,4,5,6],[0,1,2,3,4],[0,1,2,3,4],[0,1,2,3,4,8,9],[0,1,2,3,4,8,9,10],[0,1,2,3,4,5,6,7,8,9,10,11],[0,1,2,3,4,5,6,7,8,9,10,11,12]] (by kernel_rfl) (by kernel_rfl) (by kernel_rfl) (by rfl) (by rfl) (by kernel_rfl) ?_
                apply Exists.intro
                apply Exists.intro
                intro bs
                refine z_q rfl rfl (ex_pure htab rfl) rfl rfl rfl rfl rfl rfl ?_
                refine z_q rfl rfl (x_lenS htab rfl rfl rfl rfl rfl) rfl rfl rfl rfl rfl rfl ?_
                refine z_q rfl rfl (ex_pure htab rfl) rfl rfl rfl rfl rfl rfl ?_
                refine z_q rfl rfl (ex_pure htab rfl) rfl rfl rfl rfl rfl rfl ?_
                refine z_q rfl rfl (ex_pure htab rfl) rfl rfl rfl rfl rfl rfl ?_
                refine z_known (j := 99) (b' := true) rfl hs15 ?_
                refine z_q rfl rfl (ex_pure htab rfl) rfl rfl rfl rfl rfl rfl ?_
                refine z_q rfl rfl (ex_pure htab rfl) rfl rfl rfl rfl rfl rfl ?_
                refine z_q rfl rfl (x_sub htab rfl rfl rfl rfl rfl rfl (show (0 : Int) = ((0 : Nat) : Int) from rfl) rfl (by omega) (by first | (rw [hsz]; assumption) | exact szle (by assumption))) rfl rfl rfl rfl rfl rfl ?_
                refine z_e rfl rfl (ex_pure htab rfl) rfl rfl rfl rfl rfl rfl ?_
                refine z_q rfl rfl (ex_pure htab rfl) rfl rfl rfl rfl rfl rfl ?_
                refine z_e rfl rfl (x_elem htab rfl rfl rfl rfl rfl rfl rfl (by omega) (by first | exact e0 | exact el_of (by assumption) | exact el_of2 (by assumption) (by assumption) | exact map_get (f := strD) (getS (by assumption)))) rfl rfl rfl rfl rfl rfl ?_
                refine z_qM rfl rfl (xm_loadEl htab rfl rfl rfl rfl rfl) rfl rfl rfl rfl rfl rfl ?_
                refine z_nil rfl rfl (fun e he => by simp [isAl] at he) ?_
                refine p_pure htab rfl rfl rfl rfl ?_
                refine p_pickT rfl rfl rfl rfl rfl rfl ?_
                refine ops_nil ?_
                refine then_normal ?_
                refine wpD_cond rfl (fun hc16 => ?_) (fun hc16 => ?_)
                · skip
                  refine wpD_seq ?_
                  refine wpD_seq ?_
                  refine wpD_region ?_
                  refine p_pure htab rfl rfl rfl rfl ?_
                  refine ops_nil ?_
                  refine then_normal ?_
                  refine wpD_cond rfl (fun hc17 => ?_) (fun hc17 => ?_)
                  · skip
                    refine wpD_seq ?_
                    refine wpD_region ?_
                    refine p_build htab rfl rfl rfl rfl rfl rfl rfl rfl rfl ?_
                    refine p_store 0 htab rfl rfl rfl rfl rfl rfl rfl rfl rfl rfl rfl rfl ?_
                    refine p_pure htab rfl rfl rfl rfl ?_
                    refine ops_nil ?_
                    refine then_normal ?_
                    refine wpD_ret ?_
                    refine then_ret ?_
                    refine block_ret ?_
                    refine then_ret ?_
                    refine then_ret ?_
                    refine block_ret ?_
                    refine then_ret ?_
                    refine ret_cell_tmp 0 (.inl rfl) rfl rfl rfl rfl rfl ?_
                    first
                    | (have q : isLet (c.toNat : Int) = true := by assumption
                       rw [hName q, nameO_long (hsp ▸ gt20 (n := n) (by assumption))]
                       rfl)
                    | (have q : isLet (c.toNat : Int) = true := by assumption
                       have q2 : decide (4000 ≤ l.length) = true := by assumption
                       rw [hName q, nameO_many (of_decide_eq_true q2)]
                       rfl)
                    | (have q : isLet (c.toNat : Int) = true := by assumption
                       have q2 : decide (4000 ≤ l.length) = false := by assumption
                       have q3 : isWord ((ByteArray.mk r.toArray).extract 0 n) = true := by assumption
                       rw [hName q, nameO_word (hsp ▸ le20 (n := n) (by assumption)) (of_decide_eq_false q2) (by rw [← hsp, ← ext0]; exact q3), ← hsp]
                       exact congrArg (fun q => D.tup [q, .v (.int .i64 (0))]) (otD_ext r 3 0 n))
                    | (have q : isLet (c.toNat : Int) = true := by assumption
                       have q2 : decide (4000 ≤ l.length) = false := by assumption
                       have q3 : isWord ((ByteArray.mk r.toArray).extract 0 n) = false := by assumption
                       rw [hName q, nameO_name (hsp ▸ le20 (n := n) (by assumption)) (of_decide_eq_false q2) (by rw [← hsp, ← ext0]; exact q3), ← hsp]
                       exact congrArg (fun q => D.tup [q, .v (.int .i64 (0))]) (otD_ext r 1 0 n))
                    | (have q : isDig (c.toNat : Int) = true := by assumption
                       have q2 : decide (4000 ≤ l.length) = true := by assumption
                       rw [hNum (by assumption) q, numO_many (of_decide_eq_true q2)]
                       rfl)
                    | (have q : isDig (c.toNat : Int) = true := by assumption
                       have q2 : decide (4000 ≤ l.length) = false := by assumption
                       have q3 : isLet ((r.getD i 0).toNat : Int) = true := by assumption
                       have q4 := lt_of (a := i) (b := n) (by assumption)
                       have q5 := span_end0 (getD_at (r := r) (n := i) (by omega)) h4 (let_not _ q3)
                       rw [hNum (by assumption) q, numO_form (of_decide_eq_false q2) (by rw [show decide (spanN false r < spanN true r) = true from decide_eq_true (by omega)]; rfl)]
                       rfl)
                    | (have q : isDig (c.toNat : Int) = true := by assumption
                       have q2 : decide (4000 ≤ l.length) = false := by assumption
                       have q3 : ((numR (r.take n)).2 != 0) = true := by assumption
                       have q4 := (numO_R (of_decide_eq_false q2) (hsp2.symm.trans hsp)).1 (by rw [← hsp2]; simpa using q3)
                       rw [hNum (by assumption) q, q4, ← hsp2]
                       rfl)
                    | (have q : isDig (c.toNat : Int) = true := by assumption
                       have q2 : decide (4000 ≤ l.length) = false := by assumption
                       have q3 : ((numR (r.take n)).2 != 0) = false := by assumption
                       have q4 := (numO_R (of_decide_eq_false q2) (hsp2.symm.trans hsp)).2 (by rw [← hsp2]; simpa using q3)
                       rw [hNum (by assumption) q, q4, ← hsp2]
                       exact congrArg (fun q => D.tup [q, .v (.int .i64 (0))]) (otD_ext r 2 _ n))
                    | (have q : isDig (c.toNat : Int) = false := by assumption
                       have q2 : decide (4000 ≤ l.length) = true := by assumption
                       obtain ⟨q3, q4⟩ := sign_hit (by rw [hr]; simp) (h4.trans (find_hit (getS (by assumption)) (preB_yes (by assumption) (by assumption))))
                       rw [hSig (by assumption) q, if_neg q3, addO_many (of_decide_eq_true q2)]
                       rfl)
                    | (have q : isDig (c.toNat : Int) = false := by assumption
                       have q2 : decide (4000 ≤ l.length) = false := by assumption
                       obtain ⟨q3, q4⟩ := sign_hit (by rw [hr]; simp) (h4.trans (find_hit (getS (by assumption)) (preB_yes (by assumption) (by assumption))))
                       rw [hSig (by assumption) q, if_neg q3, addO_ok (of_decide_eq_false q2)]
                       show D.tup [.agg [_, .v (.string (signsL.getD j ByteArray.empty)), _, _], _] = D.tup [.agg [_, .v (.string (subS r (signN r))), _, _], _]
                       rw [q4]
                       rfl)
                    | (have q : isDig (c.toNat : Int) = false := by assumption
                       have q5 : signsL.length ≤ j := ge_of (by assumption)
                       have q3 := sign_miss (by rw [hr]; simp) (h4.trans (by rw [List.drop_of_length_le q5]; rfl))
                       rw [hSig (by assumption) q, if_pos q3]
                       rfl)
                  · skip
                    refine wpD_skip ?_
                    refine then_normal ?_
                    refine wpD_seq ?_
                    refine wpD_region ?_
                    refine p_pure htab rfl rfl rfl rfl ?_
                    refine p_pure htab rfl rfl rfl rfl ?_
                    refine p_elem htab rfl rfl rfl rfl rfl rfl rfl rfl rfl rfl (by omega) (by first | exact e0 | exact el_of (by assumption) | exact el_of2 (by assumption) (by assumption) | exact map_get (f := strD) (getS (by assumption))) ?_
                    refine p_loadEl htab rfl rfl rfl rfl rfl rfl rfl rfl ?_
                    refine p_build htab rfl rfl rfl rfl rfl rfl rfl rfl rfl ?_
                    refine p_store 0 htab rfl rfl rfl rfl rfl rfl rfl rfl rfl rfl rfl rfl ?_
                    refine p_pure htab rfl rfl rfl rfl ?_
                    refine ops_nil ?_
                    refine then_normal ?_
                    refine wpD_ret ?_
                    refine block_ret ?_
                    refine then_ret ?_
                    refine then_ret ?_
                    refine block_ret ?_
                    refine then_ret ?_
                    refine ret_cell_tmp 0 (.inl rfl) rfl rfl rfl rfl rfl ?_
                    first
                    | (have q : isLet (c.toNat : Int) = true := by assumption
                       rw [hName q, nameO_long (hsp ▸ gt20 (n := n) (by assumption))]
                       rfl)
                    | (have q : isLet (c.toNat : Int) = true := by assumption
                       have q2 : decide (4000 ≤ l.length) = true := by assumption
                       rw [hName q, nameO_many (of_decide_eq_true q2)]
                       rfl)
                    | (have q : isLet (c.toNat : Int) = true := by assumption
                       have q2 : decide (4000 ≤ l.length) = false := by assumption
                       have q3 : isWord ((ByteArray.mk r.toArray).extract 0 n) = true := by assumption
                       rw [hName q, nameO_word (hsp ▸ le20 (n := n) (by assumption)) (of_decide_eq_false q2) (by rw [← hsp, ← ext0]; exact q3), ← hsp]
                       exact congrArg (fun q => D.tup [q, .v (.int .i64 (0))]) (otD_ext r 3 0 n))
                    | (have q : isLet (c.toNat : Int) = true := by assumption
                       have q2 : decide (4000 ≤ l.length) = false := by assumption
                       have q3 : isWord ((ByteArray.mk r.toArray).extract 0 n) = false := by assumption
                       rw [hName q, nameO_name (hsp ▸ le20 (n := n) (by assumption)) (of_decide_eq_false q2) (by rw [← hsp, ← ext0]; exact q3), ← hsp]
                       exact congrArg (fun q => D.tup [q, .v (.int .i64 (0))]) (otD_ext r 1 0 n))
                    | (have q : isDig (c.toNat : Int) = true := by assumption
                       have q2 : decide (4000 ≤ l.length) = true := by assumption
                       rw [hNum (by assumption) q, numO_many (of_decide_eq_true q2)]
                       rfl)
                    | (have q : isDig (c.toNat : Int) = true := by assumption
                       have q2 : decide (4000 ≤ l.length) = false := by assumption
                       have q3 : isLet ((r.getD i 0).toNat : Int) = true := by assumption
                       have q4 := lt_of (a := i) (b := n) (by assumption)
                       have q5 := span_end0 (getD_at (r := r) (n := i) (by omega)) h4 (let_not _ q3)
                       rw [hNum (by assumption) q, numO_form (of_decide_eq_false q2) (by rw [show decide (spanN false r < spanN true r) = true from decide_eq_true (by omega)]; rfl)]
                       rfl)
                    | (have q : isDig (c.toNat : Int) = true := by assumption
                       have q2 : decide (4000 ≤ l.length) = false := by assumption
                       have q3 : ((numR (r.take n)).2 != 0) = true := by assumption
                       have q4 := (numO_R (of_decide_eq_false q2) (hsp2.symm.trans hsp)).1 (by rw [← hsp2]; simpa using q3)
                       rw [hNum (by assumption) q, q4, ← hsp2]
                       rfl)
                    | (have q : isDig (c.toNat : Int) = true := by assumption
                       have q2 : decide (4000 ≤ l.length) = false := by assumption
                       have q3 : ((numR (r.take n)).2 != 0) = false := by assumption
                       have q4 := (numO_R (of_decide_eq_false q2) (hsp2.symm.trans hsp)).2 (by rw [← hsp2]; simpa using q3)
                       rw [hNum (by assumption) q, q4, ← hsp2]
                       exact congrArg (fun q => D.tup [q, .v (.int .i64 (0))]) (otD_ext r 2 _ n))
                    | (have q : isDig (c.toNat : Int) = false := by assumption
                       have q2 : decide (4000 ≤ l.length) = true := by assumption
                       obtain ⟨q3, q4⟩ := sign_hit (by rw [hr]; simp) (h4.trans (find_hit (getS (by assumption)) (preB_yes (by assumption) (by assumption))))
                       rw [hSig (by assumption) q, if_neg q3, addO_many (of_decide_eq_true q2)]
                       rfl)
                    | (have q : isDig (c.toNat : Int) = false := by assumption
                       have q2 : decide (4000 ≤ l.length) = false := by assumption
                       obtain ⟨q3, q4⟩ := sign_hit (by rw [hr]; simp) (h4.trans (find_hit (getS (by assumption)) (preB_yes (by assumption) (by assumption))))
                       rw [hSig (by assumption) q, if_neg q3, addO_ok (of_decide_eq_false q2)]
                       show D.tup [.agg [_, .v (.string (signsL.getD j ByteArray.empty)), _, _], _] = D.tup [.agg [_, .v (.string (subS r (signN r))), _, _], _]
                       rw [q4]
                       rfl)
                    | (have q : isDig (c.toNat : Int) = false := by assumption
                       have q5 : signsL.length ≤ j := ge_of (by assumption)
                       have q3 := sign_miss (by rw [hr]; simp) (h4.trans (by rw [List.drop_of_length_le q5]; rfl))
                       rw [hSig (by assumption) q, if_pos q3]
                       rfl)
                · skip
                  refine wpD_skip ?_
                  refine block_normal ?_
                  refine then_normal ?_
                  refine wpD_region ?_
                  refine p_pure htab rfl rfl rfl rfl ?_
                  refine p_pure htab rfl rfl rfl rfl ?_
                  refine p_pure htab rfl rfl rfl rfl ?_
                  refine ops_nil ?_
                  refine then_normal ?_
                  refine ⟨(j + 1), WkS.slots (WkS.cons rfl (Wk.refl _) (WkS.cons rfl (Wk.refl _) (WkS.cons rfl (Wk.refl _) (WkS.cons rfl (Wk.refl _) (WkS.cons rfl (Wk.of_eq (by rw [wrapS (by omega)])) (WkS.nil)))))) (List.Sublist.refl _) (List.Sublist.refl _), ⟨by have : j < 22 := lt_of (a := j) (b := signsL.length) (by assumption); omega, h4.trans (find_step (getS (by assumption)) (by first | exact preB_no1 (by assumption) | exact preB_no2 (by assumption)))⟩, by have : j < 22 := lt_of (a := j) (b := signsL.length) (by assumption); omega⟩
              · skip
                refine wpD_draws 12 [] [[],[],[],[],[],[],[],[],[],[],[],[]] [] [[],[0],[],[0,1,2],[0,1,2,3],[0,1,2,3,4],[0,1,2,3,4],[0,1,2,3,4,5,6],[0,1,2,3,4],[0,1,2,3,4],[0,1,2,3,4,8,9],[0,1,2,3,4,8,9,10],[0,1,2,3,4,5,6,7,8,9,10,11],[0,1,2,3,4,5,6,7,8,9,10,11,12]] (by kernel_rfl) (by kernel_rfl) (by kernel_rfl) (by rfl) (by rfl) (by kernel_rfl) ?_
                intro bs
                refine z_q rfl rfl (ex_pure htab rfl) rfl rfl rfl rfl rfl rfl ?_
                refine z_q rfl rfl (x_lenS htab rfl rfl rfl rfl rfl) rfl rfl rfl rfl rfl rfl ?_
                refine z_q rfl rfl (ex_pure htab rfl) rfl rfl rfl rfl rfl rfl ?_
                refine z_q rfl rfl (ex_pure htab rfl) rfl rfl rfl rfl rfl rfl ?_
                refine z_q rfl rfl (ex_pure htab rfl) rfl rfl rfl rfl rfl rfl ?_
                refine z_known (j := 99) (b' := false) rfl hs15 ?_
                refine z_skip rfl rfl rfl rfl ?_
                refine z_skip rfl rfl rfl rfl ?_
                refine z_skip rfl rfl rfl rfl ?_
                refine z_skip rfl rfl rfl rfl ?_
                refine z_skip rfl rfl rfl rfl ?_
                refine z_skip rfl rfl rfl rfl ?_
                refine z_skip rfl rfl rfl rfl ?_
                refine z_nil rfl rfl (fun e he => by simp [isAl] at he) ?_
                refine p_skip rfl rfl rfl ?_
                refine p_pickF rfl rfl rfl rfl rfl rfl ?_
                refine ops_nil ?_
                refine then_normal ?_
                refine wpD_false rfl ?_
                refine wpD_skip ?_
                refine block_normal ?_
                refine then_normal ?_
                refine wpD_region ?_
                refine p_pure htab rfl rfl rfl rfl ?_
                refine p_pure htab rfl rfl rfl rfl ?_
                refine p_pure htab rfl rfl rfl rfl ?_
                refine ops_nil ?_
                refine then_normal ?_
                refine ⟨(j + 1), WkS.slots (WkS.cons rfl (Wk.refl _) (WkS.cons rfl (Wk.refl _) (WkS.cons rfl (Wk.refl _) (WkS.cons rfl (Wk.refl _) (WkS.cons rfl (Wk.of_eq (by rw [wrapS (by omega)])) (WkS.nil)))))) (List.Sublist.refl _) (List.Sublist.refl _), ⟨by have : j < 22 := lt_of (a := j) (b := signsL.length) (by assumption); omega, h4.trans (find_step (getS (by assumption)) (by first | exact preB_no1 (by assumption) | exact preB_no2 (by assumption)))⟩, by have : j < 22 := lt_of (a := j) (b := signsL.length) (by assumption); omega⟩
            · skip
              refine wpD_exit ?_
              refine then_exit ?_
              refine then_exit ?_
              refine block_hit ?_
              refine then_normal ?_
              refine wpD_seq ?_
              refine wpD_region ?_
              refine p_build htab rfl rfl rfl rfl rfl rfl rfl rfl rfl ?_
              refine p_store 0 htab rfl rfl rfl rfl rfl rfl rfl rfl rfl rfl rfl rfl ?_
              refine p_pure htab rfl rfl rfl rfl ?_
              refine ops_nil ?_
              refine then_normal ?_
              refine wpD_ret ?_
              refine ret_cell_tmp 0 (.inl rfl) rfl rfl rfl rfl rfl ?_
              first
              | (have q : isLet (c.toNat : Int) = true := by assumption
                 rw [hName q, nameO_long (hsp ▸ gt20 (n := n) (by assumption))]
                 rfl)
              | (have q : isLet (c.toNat : Int) = true := by assumption
                 have q2 : decide (4000 ≤ l.length) = true := by assumption
                 rw [hName q, nameO_many (of_decide_eq_true q2)]
                 rfl)
              | (have q : isLet (c.toNat : Int) = true := by assumption
                 have q2 : decide (4000 ≤ l.length) = false := by assumption
                 have q3 : isWord ((ByteArray.mk r.toArray).extract 0 n) = true := by assumption
                 rw [hName q, nameO_word (hsp ▸ le20 (n := n) (by assumption)) (of_decide_eq_false q2) (by rw [← hsp, ← ext0]; exact q3), ← hsp]
                 exact congrArg (fun q => D.tup [q, .v (.int .i64 (0))]) (otD_ext r 3 0 n))
              | (have q : isLet (c.toNat : Int) = true := by assumption
                 have q2 : decide (4000 ≤ l.length) = false := by assumption
                 have q3 : isWord ((ByteArray.mk r.toArray).extract 0 n) = false := by assumption
                 rw [hName q, nameO_name (hsp ▸ le20 (n := n) (by assumption)) (of_decide_eq_false q2) (by rw [← hsp, ← ext0]; exact q3), ← hsp]
                 exact congrArg (fun q => D.tup [q, .v (.int .i64 (0))]) (otD_ext r 1 0 n))
              | (have q : isDig (c.toNat : Int) = true := by assumption
                 have q2 : decide (4000 ≤ l.length) = true := by assumption
                 rw [hNum (by assumption) q, numO_many (of_decide_eq_true q2)]
                 rfl)
              | (have q : isDig (c.toNat : Int) = true := by assumption
                 have q2 : decide (4000 ≤ l.length) = false := by assumption
                 have q3 : isLet ((r.getD i 0).toNat : Int) = true := by assumption
                 have q4 := lt_of (a := i) (b := n) (by assumption)
                 have q5 := span_end0 (getD_at (r := r) (n := i) (by omega)) h4 (let_not _ q3)
                 rw [hNum (by assumption) q, numO_form (of_decide_eq_false q2) (by rw [show decide (spanN false r < spanN true r) = true from decide_eq_true (by omega)]; rfl)]
                 rfl)
              | (have q : isDig (c.toNat : Int) = true := by assumption
                 have q2 : decide (4000 ≤ l.length) = false := by assumption
                 have q3 : ((numR (r.take n)).2 != 0) = true := by assumption
                 have q4 := (numO_R (of_decide_eq_false q2) (hsp2.symm.trans hsp)).1 (by rw [← hsp2]; simpa using q3)
                 rw [hNum (by assumption) q, q4, ← hsp2]
                 rfl)
              | (have q : isDig (c.toNat : Int) = true := by assumption
                 have q2 : decide (4000 ≤ l.length) = false := by assumption
                 have q3 : ((numR (r.take n)).2 != 0) = false := by assumption
                 have q4 := (numO_R (of_decide_eq_false q2) (hsp2.symm.trans hsp)).2 (by rw [← hsp2]; simpa using q3)
                 rw [hNum (by assumption) q, q4, ← hsp2]
                 exact congrArg (fun q => D.tup [q, .v (.int .i64 (0))]) (otD_ext r 2 _ n))
              | (have q : isDig (c.toNat : Int) = false := by assumption
                 have q2 : decide (4000 ≤ l.length) = true := by assumption
                 obtain ⟨q3, q4⟩ := sign_hit (by rw [hr]; simp) (h4.trans (find_hit (getS (by assumption)) (preB_yes (by assumption) (by assumption))))
                 rw [hSig (by assumption) q, if_neg q3, addO_many (of_decide_eq_true q2)]
                 rfl)
              | (have q : isDig (c.toNat : Int) = false := by assumption
                 have q2 : decide (4000 ≤ l.length) = false := by assumption
                 obtain ⟨q3, q4⟩ := sign_hit (by rw [hr]; simp) (h4.trans (find_hit (getS (by assumption)) (preB_yes (by assumption) (by assumption))))
                 rw [hSig (by assumption) q, if_neg q3, addO_ok (of_decide_eq_false q2)]
                 show D.tup [.agg [_, .v (.string (signsL.getD j ByteArray.empty)), _, _], _] = D.tup [.agg [_, .v (.string (subS r (signN r))), _, _], _]
                 rw [q4]
                 rfl)
              | (have q : isDig (c.toNat : Int) = false := by assumption
                 have q5 : signsL.length ≤ j := ge_of (by assumption)
                 have q3 := sign_miss (by rw [hr]; simp) (h4.trans (by rw [List.drop_of_length_le q5]; rfl))
                 rw [hSig (by assumption) q, if_pos q3]
                 rfl)
  · skip
    refine p_skip rfl rfl rfl ?_
    refine p_skip rfl rfl rfl ?_
    refine p_skip rfl rfl rfl ?_
    refine p_skip rfl rfl rfl ?_
    refine p_skip rfl rfl rfl ?_
    refine p_skip rfl rfl rfl ?_
    refine p_skip rfl rfl rfl ?_
    refine p_skip rfl rfl rfl ?_
    refine p_skip rfl rfl rfl ?_
    refine p_skip rfl rfl rfl ?_
    refine p_pickF rfl rfl rfl rfl rfl rfl ?_
    refine ops_nil ?_
    refine then_normal ?_
    refine wpD_false rfl ?_
    refine wpD_exit ?_
    refine then_exit ?_
    refine then_exit ?_
    refine block_hit ?_
    have hsp : n = spanN true r := by first | exact span_out0 (ge_ofS (by assumption)) h1 | exact span_end0 (getD_at (lt_ofS (by assumption))) h1 (by rw [let_dig, show isLet ((r.getD n 0).toNat : Int) = false by assumption, show isDig ((r.getD n 0).toNat : Int) = false by assumption]; rfl)
    refine then_normal ?_
    refine wpD_seq ?_
    refine wpD_seq ?_
    refine wpD_region ?_
    refine p_pure htab rfl rfl rfl rfl ?_
    refine p_byte htab rfl rfl rfl rfl rfl rfl rfl rfl (by omega) (by first | exact e0 | exact el_of (by assumption) | exact el_of2 (by assumption) (by assumption) | exact map_get (f := strD) (getS (by assumption))) ?_
    refine p_call0 (letter_any _) rfl rfl rfl rfl rfl (WkL.refl _) ?_
    rintro _ rfl
    refine ops_nil ?_
    refine then_normal ?_
    refine wpD_cond rfl (fun hc18 => ?_) (fun hc18 => ?_)
    · skip
      refine wpD_seq ?_
      refine wpD_seq ?_
      refine wpD_region ?_
      refine p_pure htab rfl rfl rfl rfl ?_
      refine p_pure htab rfl rfl rfl rfl ?_
      refine p_pure htab rfl rfl rfl rfl ?_
      refine p_split (i := 36) rfl (fun hg19 => ?_) (fun hg19 => ?_)
      · skip
        refine p_skip rfl rfl rfl ?_
        refine p_pickT rfl rfl rfl rfl rfl rfl ?_
        refine ops_nil ?_
        refine then_normal ?_
        refine wpD_true rfl ?_
        refine wpD_seq ?_
        refine wpD_region ?_
        refine p_build htab rfl rfl rfl rfl rfl rfl rfl rfl rfl ?_
        refine p_store 0 htab rfl rfl rfl rfl rfl rfl rfl rfl rfl rfl rfl rfl ?_
        refine p_pure htab rfl rfl rfl rfl ?_
        refine ops_nil ?_
        refine then_normal ?_
        refine wpD_ret ?_
        refine then_ret ?_
        refine then_ret ?_
        refine ret_cell_tmp 0 (.inl rfl) rfl rfl rfl rfl rfl ?_
        first
        | (have q : isLet (c.toNat : Int) = true := by assumption
           rw [hName q, nameO_long (hsp ▸ gt20 (n := n) (by assumption))]
           rfl)
        | (have q : isLet (c.toNat : Int) = true := by assumption
           have q2 : decide (4000 ≤ l.length) = true := by assumption
           rw [hName q, nameO_many (of_decide_eq_true q2)]
           rfl)
        | (have q : isLet (c.toNat : Int) = true := by assumption
           have q2 : decide (4000 ≤ l.length) = false := by assumption
           have q3 : isWord ((ByteArray.mk r.toArray).extract 0 n) = true := by assumption
           rw [hName q, nameO_word (hsp ▸ le20 (n := n) (by assumption)) (of_decide_eq_false q2) (by rw [← hsp, ← ext0]; exact q3), ← hsp]
           exact congrArg (fun q => D.tup [q, .v (.int .i64 (0))]) (otD_ext r 3 0 n))
        | (have q : isLet (c.toNat : Int) = true := by assumption
           have q2 : decide (4000 ≤ l.length) = false := by assumption
           have q3 : isWord ((ByteArray.mk r.toArray).extract 0 n) = false := by assumption
           rw [hName q, nameO_name (hsp ▸ le20 (n := n) (by assumption)) (of_decide_eq_false q2) (by rw [← hsp, ← ext0]; exact q3), ← hsp]
           exact congrArg (fun q => D.tup [q, .v (.int .i64 (0))]) (otD_ext r 1 0 n))
        | (have q : isDig (c.toNat : Int) = true := by assumption
           have q2 : decide (4000 ≤ l.length) = true := by assumption
           rw [hNum (by assumption) q, numO_many (of_decide_eq_true q2)]
           rfl)
        | (have q : isDig (c.toNat : Int) = true := by assumption
           have q2 : decide (4000 ≤ l.length) = false := by assumption
           have q3 : isLet ((r.getD i 0).toNat : Int) = true := by assumption
           have q4 := lt_of (a := i) (b := n) (by assumption)
           have q5 := span_end0 (getD_at (r := r) (n := i) (by omega)) h4 (let_not _ q3)
           rw [hNum (by assumption) q, numO_form (of_decide_eq_false q2) (by rw [show decide (spanN false r < spanN true r) = true from decide_eq_true (by omega)]; rfl)]
           rfl)
        | (have q : isDig (c.toNat : Int) = true := by assumption
           have q2 : decide (4000 ≤ l.length) = false := by assumption
           have q3 : ((numR (r.take n)).2 != 0) = true := by assumption
           have q4 := (numO_R (of_decide_eq_false q2) (hsp2.symm.trans hsp)).1 (by rw [← hsp2]; simpa using q3)
           rw [hNum (by assumption) q, q4, ← hsp2]
           rfl)
        | (have q : isDig (c.toNat : Int) = true := by assumption
           have q2 : decide (4000 ≤ l.length) = false := by assumption
           have q3 : ((numR (r.take n)).2 != 0) = false := by assumption
           have q4 := (numO_R (of_decide_eq_false q2) (hsp2.symm.trans hsp)).2 (by rw [← hsp2]; simpa using q3)
           rw [hNum (by assumption) q, q4, ← hsp2]
           exact congrArg (fun q => D.tup [q, .v (.int .i64 (0))]) (otD_ext r 2 _ n))
        | (have q : isDig (c.toNat : Int) = false := by assumption
           have q2 : decide (4000 ≤ l.length) = true := by assumption
           obtain ⟨q3, q4⟩ := sign_hit (by rw [hr]; simp) (h4.trans (find_hit (getS (by assumption)) (preB_yes (by assumption) (by assumption))))
           rw [hSig (by assumption) q, if_neg q3, addO_many (of_decide_eq_true q2)]
           rfl)
        | (have q : isDig (c.toNat : Int) = false := by assumption
           have q2 : decide (4000 ≤ l.length) = false := by assumption
           obtain ⟨q3, q4⟩ := sign_hit (by rw [hr]; simp) (h4.trans (find_hit (getS (by assumption)) (preB_yes (by assumption) (by assumption))))
           rw [hSig (by assumption) q, if_neg q3, addO_ok (of_decide_eq_false q2)]
           show D.tup [.agg [_, .v (.string (signsL.getD j ByteArray.empty)), _, _], _] = D.tup [.agg [_, .v (.string (subS r (signN r))), _, _], _]
           rw [q4]
           rfl)
        | (have q : isDig (c.toNat : Int) = false := by assumption
           have q5 : signsL.length ≤ j := ge_of (by assumption)
           have q3 := sign_miss (by rw [hr]; simp) (h4.trans (by rw [List.drop_of_length_le q5]; rfl))
           rw [hSig (by assumption) q, if_pos q3]
           rfl)
      · skip
        refine p_pure htab rfl rfl rfl rfl ?_
        refine p_pickF rfl rfl rfl rfl rfl rfl ?_
        refine ops_nil ?_
        refine then_normal ?_
        refine wpD_cond rfl (fun hc20 => ?_) (fun hc20 => ?_)
        · skip
          refine wpD_seq ?_
          refine wpD_region ?_
          refine p_build htab rfl rfl rfl rfl rfl rfl rfl rfl rfl ?_
          refine p_store 0 htab rfl rfl rfl rfl rfl rfl rfl rfl rfl rfl rfl rfl ?_
          refine p_pure htab rfl rfl rfl rfl ?_
          refine ops_nil ?_
          refine then_normal ?_
          refine wpD_ret ?_
          refine then_ret ?_
          refine then_ret ?_
          refine ret_cell_tmp 0 (.inl rfl) rfl rfl rfl rfl rfl ?_
          first
          | (have q : isLet (c.toNat : Int) = true := by assumption
             rw [hName q, nameO_long (hsp ▸ gt20 (n := n) (by assumption))]
             rfl)
          | (have q : isLet (c.toNat : Int) = true := by assumption
             have q2 : decide (4000 ≤ l.length) = true := by assumption
             rw [hName q, nameO_many (of_decide_eq_true q2)]
             rfl)
          | (have q : isLet (c.toNat : Int) = true := by assumption
             have q2 : decide (4000 ≤ l.length) = false := by assumption
             have q3 : isWord ((ByteArray.mk r.toArray).extract 0 n) = true := by assumption
             rw [hName q, nameO_word (hsp ▸ le20 (n := n) (by assumption)) (of_decide_eq_false q2) (by rw [← hsp, ← ext0]; exact q3), ← hsp]
             exact congrArg (fun q => D.tup [q, .v (.int .i64 (0))]) (otD_ext r 3 0 n))
          | (have q : isLet (c.toNat : Int) = true := by assumption
             have q2 : decide (4000 ≤ l.length) = false := by assumption
             have q3 : isWord ((ByteArray.mk r.toArray).extract 0 n) = false := by assumption
             rw [hName q, nameO_name (hsp ▸ le20 (n := n) (by assumption)) (of_decide_eq_false q2) (by rw [← hsp, ← ext0]; exact q3), ← hsp]
             exact congrArg (fun q => D.tup [q, .v (.int .i64 (0))]) (otD_ext r 1 0 n))
          | (have q : isDig (c.toNat : Int) = true := by assumption
             have q2 : decide (4000 ≤ l.length) = true := by assumption
             rw [hNum (by assumption) q, numO_many (of_decide_eq_true q2)]
             rfl)
          | (have q : isDig (c.toNat : Int) = true := by assumption
             have q2 : decide (4000 ≤ l.length) = false := by assumption
             have q3 : isLet ((r.getD i 0).toNat : Int) = true := by assumption
             have q4 := lt_of (a := i) (b := n) (by assumption)
             have q5 := span_end0 (getD_at (r := r) (n := i) (by omega)) h4 (let_not _ q3)
             rw [hNum (by assumption) q, numO_form (of_decide_eq_false q2) (by rw [show decide (spanN false r < spanN true r) = true from decide_eq_true (by omega)]; rfl)]
             rfl)
          | (have q : isDig (c.toNat : Int) = true := by assumption
             have q2 : decide (4000 ≤ l.length) = false := by assumption
             have q3 : ((numR (r.take n)).2 != 0) = true := by assumption
             have q4 := (numO_R (of_decide_eq_false q2) (hsp2.symm.trans hsp)).1 (by rw [← hsp2]; simpa using q3)
             rw [hNum (by assumption) q, q4, ← hsp2]
             rfl)
          | (have q : isDig (c.toNat : Int) = true := by assumption
             have q2 : decide (4000 ≤ l.length) = false := by assumption
             have q3 : ((numR (r.take n)).2 != 0) = false := by assumption
             have q4 := (numO_R (of_decide_eq_false q2) (hsp2.symm.trans hsp)).2 (by rw [← hsp2]; simpa using q3)
             rw [hNum (by assumption) q, q4, ← hsp2]
             exact congrArg (fun q => D.tup [q, .v (.int .i64 (0))]) (otD_ext r 2 _ n))
          | (have q : isDig (c.toNat : Int) = false := by assumption
             have q2 : decide (4000 ≤ l.length) = true := by assumption
             obtain ⟨q3, q4⟩ := sign_hit (by rw [hr]; simp) (h4.trans (find_hit (getS (by assumption)) (preB_yes (by assumption) (by assumption))))
             rw [hSig (by assumption) q, if_neg q3, addO_many (of_decide_eq_true q2)]
             rfl)
          | (have q : isDig (c.toNat : Int) = false := by assumption
             have q2 : decide (4000 ≤ l.length) = false := by assumption
             obtain ⟨q3, q4⟩ := sign_hit (by rw [hr]; simp) (h4.trans (find_hit (getS (by assumption)) (preB_yes (by assumption) (by assumption))))
             rw [hSig (by assumption) q, if_neg q3, addO_ok (of_decide_eq_false q2)]
             show D.tup [.agg [_, .v (.string (signsL.getD j ByteArray.empty)), _, _], _] = D.tup [.agg [_, .v (.string (subS r (signN r))), _, _], _]
             rw [q4]
             rfl)
          | (have q : isDig (c.toNat : Int) = false := by assumption
             have q5 : signsL.length ≤ j := ge_of (by assumption)
             have q3 := sign_miss (by rw [hr]; simp) (h4.trans (by rw [List.drop_of_length_le q5]; rfl))
             rw [hSig (by assumption) q, if_pos q3]
             rfl)
        · skip
          refine wpD_skip ?_
          refine then_normal ?_
          refine wpD_seq ?_
          refine wpD_seq ?_
          refine wpD_region ?_
          refine p_pure htab rfl rfl rfl rfl ?_
          refine p_pure htab rfl rfl rfl rfl ?_
          refine p_sub htab rfl rfl rfl rfl rfl rfl rfl rfl rfl (show (0 : Int) = ((0 : Nat) : Int) from rfl) rfl (by omega) (by first | (rw [hsz]; assumption) | exact szle (by assumption)) ?_
          refine p_call0 (rword_any _) rfl rfl rfl rfl rfl (WkL.refl _) ?_
          rintro _ rfl
          refine ops_nil ?_
          refine then_normal ?_
          refine wpD_cond rfl (fun hc21 => ?_) (fun hc21 => ?_)
          · skip
            refine wpD_seq ?_
            refine wpD_region ?_
            refine p_pure htab rfl rfl rfl rfl ?_
            refine p_pure htab rfl rfl rfl rfl ?_
            refine p_sub htab rfl rfl rfl rfl rfl rfl rfl rfl rfl (show (0 : Int) = ((0 : Nat) : Int) from rfl) rfl (by omega) (by first | (rw [hsz]; assumption) | exact szle (by assumption)) ?_
            refine p_build htab rfl rfl rfl rfl rfl rfl rfl rfl rfl ?_
            refine p_store 0 htab rfl rfl rfl rfl rfl rfl rfl rfl rfl rfl rfl rfl ?_
            refine p_pure htab rfl rfl rfl rfl ?_
            refine ops_nil ?_
            refine then_normal ?_
            refine wpD_ret ?_
            refine then_ret ?_
            refine then_ret ?_
            refine ret_cell_tmp 0 (.inl rfl) rfl rfl rfl rfl rfl ?_
            first
            | (have q : isLet (c.toNat : Int) = true := by assumption
               rw [hName q, nameO_long (hsp ▸ gt20 (n := n) (by assumption))]
               rfl)
            | (have q : isLet (c.toNat : Int) = true := by assumption
               have q2 : decide (4000 ≤ l.length) = true := by assumption
               rw [hName q, nameO_many (of_decide_eq_true q2)]
               rfl)
            | (have q : isLet (c.toNat : Int) = true := by assumption
               have q2 : decide (4000 ≤ l.length) = false := by assumption
               have q3 : isWord ((ByteArray.mk r.toArray).extract 0 n) = true := by assumption
               rw [hName q, nameO_word (hsp ▸ le20 (n := n) (by assumption)) (of_decide_eq_false q2) (by rw [← hsp, ← ext0]; exact q3), ← hsp]
               exact congrArg (fun q => D.tup [q, .v (.int .i64 (0))]) (otD_ext r 3 0 n))
            | (have q : isLet (c.toNat : Int) = true := by assumption
               have q2 : decide (4000 ≤ l.length) = false := by assumption
               have q3 : isWord ((ByteArray.mk r.toArray).extract 0 n) = false := by assumption
               rw [hName q, nameO_name (hsp ▸ le20 (n := n) (by assumption)) (of_decide_eq_false q2) (by rw [← hsp, ← ext0]; exact q3), ← hsp]
               exact congrArg (fun q => D.tup [q, .v (.int .i64 (0))]) (otD_ext r 1 0 n))
            | (have q : isDig (c.toNat : Int) = true := by assumption
               have q2 : decide (4000 ≤ l.length) = true := by assumption
               rw [hNum (by assumption) q, numO_many (of_decide_eq_true q2)]
               rfl)
            | (have q : isDig (c.toNat : Int) = true := by assumption
               have q2 : decide (4000 ≤ l.length) = false := by assumption
               have q3 : isLet ((r.getD i 0).toNat : Int) = true := by assumption
               have q4 := lt_of (a := i) (b := n) (by assumption)
               have q5 := span_end0 (getD_at (r := r) (n := i) (by omega)) h4 (let_not _ q3)
               rw [hNum (by assumption) q, numO_form (of_decide_eq_false q2) (by rw [show decide (spanN false r < spanN true r) = true from decide_eq_true (by omega)]; rfl)]
               rfl)
            | (have q : isDig (c.toNat : Int) = true := by assumption
               have q2 : decide (4000 ≤ l.length) = false := by assumption
               have q3 : ((numR (r.take n)).2 != 0) = true := by assumption
               have q4 := (numO_R (of_decide_eq_false q2) (hsp2.symm.trans hsp)).1 (by rw [← hsp2]; simpa using q3)
               rw [hNum (by assumption) q, q4, ← hsp2]
               rfl)
            | (have q : isDig (c.toNat : Int) = true := by assumption
               have q2 : decide (4000 ≤ l.length) = false := by assumption
               have q3 : ((numR (r.take n)).2 != 0) = false := by assumption
               have q4 := (numO_R (of_decide_eq_false q2) (hsp2.symm.trans hsp)).2 (by rw [← hsp2]; simpa using q3)
               rw [hNum (by assumption) q, q4, ← hsp2]
               exact congrArg (fun q => D.tup [q, .v (.int .i64 (0))]) (otD_ext r 2 _ n))
            | (have q : isDig (c.toNat : Int) = false := by assumption
               have q2 : decide (4000 ≤ l.length) = true := by assumption
               obtain ⟨q3, q4⟩ := sign_hit (by rw [hr]; simp) (h4.trans (find_hit (getS (by assumption)) (preB_yes (by assumption) (by assumption))))
               rw [hSig (by assumption) q, if_neg q3, addO_many (of_decide_eq_true q2)]
               rfl)
            | (have q : isDig (c.toNat : Int) = false := by assumption
               have q2 : decide (4000 ≤ l.length) = false := by assumption
               obtain ⟨q3, q4⟩ := sign_hit (by rw [hr]; simp) (h4.trans (find_hit (getS (by assumption)) (preB_yes (by assumption) (by assumption))))
               rw [hSig (by assumption) q, if_neg q3, addO_ok (of_decide_eq_false q2)]
               show D.tup [.agg [_, .v (.string (signsL.getD j ByteArray.empty)), _, _], _] = D.tup [.agg [_, .v (.string (subS r (signN r))), _, _], _]
               rw [q4]
               rfl)
            | (have q : isDig (c.toNat : Int) = false := by assumption
               have q5 : signsL.length ≤ j := ge_of (by assumption)
               have q3 := sign_miss (by rw [hr]; simp) (h4.trans (by rw [List.drop_of_length_le q5]; rfl))
               rw [hSig (by assumption) q, if_pos q3]
               rfl)
          · skip
            refine wpD_skip ?_
            refine then_normal ?_
            refine wpD_seq ?_
            refine wpD_region ?_
            refine p_pure htab rfl rfl rfl rfl ?_
            refine p_pure htab rfl rfl rfl rfl ?_
            refine p_sub htab rfl rfl rfl rfl rfl rfl rfl rfl rfl (show (0 : Int) = ((0 : Nat) : Int) from rfl) rfl (by omega) (by first | (rw [hsz]; assumption) | exact szle (by assumption)) ?_
            refine p_build htab rfl rfl rfl rfl rfl rfl rfl rfl rfl ?_
            refine p_store 0 htab rfl rfl rfl rfl rfl rfl rfl rfl rfl rfl rfl rfl ?_
            refine p_pure htab rfl rfl rfl rfl ?_
            refine ops_nil ?_
            refine then_normal ?_
            refine wpD_ret ?_
            refine then_ret ?_
            refine ret_cell_tmp 0 (.inl rfl) rfl rfl rfl rfl rfl ?_
            first
            | (have q : isLet (c.toNat : Int) = true := by assumption
               rw [hName q, nameO_long (hsp ▸ gt20 (n := n) (by assumption))]
               rfl)
            | (have q : isLet (c.toNat : Int) = true := by assumption
               have q2 : decide (4000 ≤ l.length) = true := by assumption
               rw [hName q, nameO_many (of_decide_eq_true q2)]
               rfl)
            | (have q : isLet (c.toNat : Int) = true := by assumption
               have q2 : decide (4000 ≤ l.length) = false := by assumption
               have q3 : isWord ((ByteArray.mk r.toArray).extract 0 n) = true := by assumption
               rw [hName q, nameO_word (hsp ▸ le20 (n := n) (by assumption)) (of_decide_eq_false q2) (by rw [← hsp, ← ext0]; exact q3), ← hsp]
               exact congrArg (fun q => D.tup [q, .v (.int .i64 (0))]) (otD_ext r 3 0 n))
            | (have q : isLet (c.toNat : Int) = true := by assumption
               have q2 : decide (4000 ≤ l.length) = false := by assumption
               have q3 : isWord ((ByteArray.mk r.toArray).extract 0 n) = false := by assumption
               rw [hName q, nameO_name (hsp ▸ le20 (n := n) (by assumption)) (of_decide_eq_false q2) (by rw [← hsp, ← ext0]; exact q3), ← hsp]
               exact congrArg (fun q => D.tup [q, .v (.int .i64 (0))]) (otD_ext r 1 0 n))
            | (have q : isDig (c.toNat : Int) = true := by assumption
               have q2 : decide (4000 ≤ l.length) = true := by assumption
               rw [hNum (by assumption) q, numO_many (of_decide_eq_true q2)]
               rfl)
            | (have q : isDig (c.toNat : Int) = true := by assumption
               have q2 : decide (4000 ≤ l.length) = false := by assumption
               have q3 : isLet ((r.getD i 0).toNat : Int) = true := by assumption
               have q4 := lt_of (a := i) (b := n) (by assumption)
               have q5 := span_end0 (getD_at (r := r) (n := i) (by omega)) h4 (let_not _ q3)
               rw [hNum (by assumption) q, numO_form (of_decide_eq_false q2) (by rw [show decide (spanN false r < spanN true r) = true from decide_eq_true (by omega)]; rfl)]
               rfl)
            | (have q : isDig (c.toNat : Int) = true := by assumption
               have q2 : decide (4000 ≤ l.length) = false := by assumption
               have q3 : ((numR (r.take n)).2 != 0) = true := by assumption
               have q4 := (numO_R (of_decide_eq_false q2) (hsp2.symm.trans hsp)).1 (by rw [← hsp2]; simpa using q3)
               rw [hNum (by assumption) q, q4, ← hsp2]
               rfl)
            | (have q : isDig (c.toNat : Int) = true := by assumption
               have q2 : decide (4000 ≤ l.length) = false := by assumption
               have q3 : ((numR (r.take n)).2 != 0) = false := by assumption
               have q4 := (numO_R (of_decide_eq_false q2) (hsp2.symm.trans hsp)).2 (by rw [← hsp2]; simpa using q3)
               rw [hNum (by assumption) q, q4, ← hsp2]
               exact congrArg (fun q => D.tup [q, .v (.int .i64 (0))]) (otD_ext r 2 _ n))
            | (have q : isDig (c.toNat : Int) = false := by assumption
               have q2 : decide (4000 ≤ l.length) = true := by assumption
               obtain ⟨q3, q4⟩ := sign_hit (by rw [hr]; simp) (h4.trans (find_hit (getS (by assumption)) (preB_yes (by assumption) (by assumption))))
               rw [hSig (by assumption) q, if_neg q3, addO_many (of_decide_eq_true q2)]
               rfl)
            | (have q : isDig (c.toNat : Int) = false := by assumption
               have q2 : decide (4000 ≤ l.length) = false := by assumption
               obtain ⟨q3, q4⟩ := sign_hit (by rw [hr]; simp) (h4.trans (find_hit (getS (by assumption)) (preB_yes (by assumption) (by assumption))))
               rw [hSig (by assumption) q, if_neg q3, addO_ok (of_decide_eq_false q2)]
               show D.tup [.agg [_, .v (.string (signsL.getD j ByteArray.empty)), _, _], _] = D.tup [.agg [_, .v (.string (subS r (signN r))), _, _], _]
               rw [q4]
               rfl)
            | (have q : isDig (c.toNat : Int) = false := by assumption
               have q5 : signsL.length ≤ j := ge_of (by assumption)
               have q3 := sign_miss (by rw [hr]; simp) (h4.trans (by rw [List.drop_of_length_le q5]; rfl))
               rw [hSig (by assumption) q, if_pos q3]
               rfl)
    · skip
      refine wpD_skip ?_
      refine then_normal ?_
      refine wpD_seq ?_
      refine wpD_seq ?_
      refine wpD_region ?_
      refine p_pure htab rfl rfl rfl rfl ?_
      refine p_byte htab rfl rfl rfl rfl rfl rfl rfl rfl (by omega) (by first | exact e0 | exact el_of (by assumption) | exact el_of2 (by assumption) (by assumption) | exact map_get (f := strD) (getS (by assumption))) ?_
      refine p_call0 (digit_any _) rfl rfl rfl rfl rfl (WkL.refl _) ?_
      rintro _ rfl
      refine ops_nil ?_
      refine then_normal ?_
      refine wpD_cond rfl (fun hc22 => ?_) (fun hc22 => ?_)
      · skip
        refine wpD_seq ?_
        refine wpD_seq ?_
        refine wpD_region ?_
        refine p_pure htab rfl rfl rfl rfl ?_
        refine ops_nil ?_
        refine then_normal ?_
        refine wpD_cond rfl (fun hc23 => ?_) (fun hc23 => ?_)
        · skip
          refine wpD_seq ?_
          refine wpD_region ?_
          refine p_build htab rfl rfl rfl rfl rfl rfl rfl rfl rfl ?_
          refine p_store 0 htab rfl rfl rfl rfl rfl rfl rfl rfl rfl rfl rfl rfl ?_
          refine p_pure htab rfl rfl rfl rfl ?_
          refine ops_nil ?_
          refine then_normal ?_
          refine wpD_ret ?_
          refine then_ret ?_
          refine then_ret ?_
          refine ret_cell_tmp 0 (.inl rfl) rfl rfl rfl rfl rfl ?_
          first
          | (have q : isLet (c.toNat : Int) = true := by assumption
             rw [hName q, nameO_long (hsp ▸ gt20 (n := n) (by assumption))]
             rfl)
          | (have q : isLet (c.toNat : Int) = true := by assumption
             have q2 : decide (4000 ≤ l.length) = true := by assumption
             rw [hName q, nameO_many (of_decide_eq_true q2)]
             rfl)
          | (have q : isLet (c.toNat : Int) = true := by assumption
             have q2 : decide (4000 ≤ l.length) = false := by assumption
             have q3 : isWord ((ByteArray.mk r.toArray).extract 0 n) = true := by assumption
             rw [hName q, nameO_word (hsp ▸ le20 (n := n) (by assumption)) (of_decide_eq_false q2) (by rw [← hsp, ← ext0]; exact q3), ← hsp]
             exact congrArg (fun q => D.tup [q, .v (.int .i64 (0))]) (otD_ext r 3 0 n))
          | (have q : isLet (c.toNat : Int) = true := by assumption
             have q2 : decide (4000 ≤ l.length) = false := by assumption
             have q3 : isWord ((ByteArray.mk r.toArray).extract 0 n) = false := by assumption
             rw [hName q, nameO_name (hsp ▸ le20 (n := n) (by assumption)) (of_decide_eq_false q2) (by rw [← hsp, ← ext0]; exact q3), ← hsp]
             exact congrArg (fun q => D.tup [q, .v (.int .i64 (0))]) (otD_ext r 1 0 n))
          | (have q : isDig (c.toNat : Int) = true := by assumption
             have q2 : decide (4000 ≤ l.length) = true := by assumption
             rw [hNum (by assumption) q, numO_many (of_decide_eq_true q2)]
             rfl)
          | (have q : isDig (c.toNat : Int) = true := by assumption
             have q2 : decide (4000 ≤ l.length) = false := by assumption
             have q3 : isLet ((r.getD i 0).toNat : Int) = true := by assumption
             have q4 := lt_of (a := i) (b := n) (by assumption)
             have q5 := span_end0 (getD_at (r := r) (n := i) (by omega)) h4 (let_not _ q3)
             rw [hNum (by assumption) q, numO_form (of_decide_eq_false q2) (by rw [show decide (spanN false r < spanN true r) = true from decide_eq_true (by omega)]; rfl)]
             rfl)
          | (have q : isDig (c.toNat : Int) = true := by assumption
             have q2 : decide (4000 ≤ l.length) = false := by assumption
             have q3 : ((numR (r.take n)).2 != 0) = true := by assumption
             have q4 := (numO_R (of_decide_eq_false q2) (hsp2.symm.trans hsp)).1 (by rw [← hsp2]; simpa using q3)
             rw [hNum (by assumption) q, q4, ← hsp2]
             rfl)
          | (have q : isDig (c.toNat : Int) = true := by assumption
             have q2 : decide (4000 ≤ l.length) = false := by assumption
             have q3 : ((numR (r.take n)).2 != 0) = false := by assumption
             have q4 := (numO_R (of_decide_eq_false q2) (hsp2.symm.trans hsp)).2 (by rw [← hsp2]; simpa using q3)
             rw [hNum (by assumption) q, q4, ← hsp2]
             exact congrArg (fun q => D.tup [q, .v (.int .i64 (0))]) (otD_ext r 2 _ n))
          | (have q : isDig (c.toNat : Int) = false := by assumption
             have q2 : decide (4000 ≤ l.length) = true := by assumption
             obtain ⟨q3, q4⟩ := sign_hit (by rw [hr]; simp) (h4.trans (find_hit (getS (by assumption)) (preB_yes (by assumption) (by assumption))))
             rw [hSig (by assumption) q, if_neg q3, addO_many (of_decide_eq_true q2)]
             rfl)
          | (have q : isDig (c.toNat : Int) = false := by assumption
             have q2 : decide (4000 ≤ l.length) = false := by assumption
             obtain ⟨q3, q4⟩ := sign_hit (by rw [hr]; simp) (h4.trans (find_hit (getS (by assumption)) (preB_yes (by assumption) (by assumption))))
             rw [hSig (by assumption) q, if_neg q3, addO_ok (of_decide_eq_false q2)]
             show D.tup [.agg [_, .v (.string (signsL.getD j ByteArray.empty)), _, _], _] = D.tup [.agg [_, .v (.string (subS r (signN r))), _, _], _]
             rw [q4]
             rfl)
          | (have q : isDig (c.toNat : Int) = false := by assumption
             have q5 : signsL.length ≤ j := ge_of (by assumption)
             have q3 := sign_miss (by rw [hr]; simp) (h4.trans (by rw [List.drop_of_length_le q5]; rfl))
             rw [hSig (by assumption) q, if_pos q3]
             rfl)
        · skip
          refine wpD_skip ?_
          refine then_normal ?_
          refine wpD_seq ?_
          refine wpD_seq ?_
          refine wpD_region ?_
          refine p_pure htab rfl rfl rfl rfl ?_
          refine ops_nil ?_
          refine then_normal ?_
          refine wpD_block ?_
          refine loop_ind (α := Nat) (fun i => i ≤ n ∧ i ≤ spanN false r) (fun i => ⟨[(0, .v (.string ⟨r.toArray⟩)), (1, .v (.bool (decide (4000 ≤ l.length)))), (4, .ptr b1 0), (6, .v (.int .i64 (n))), (7, .v (.int .i64 (i)))], _, []⟩) (fun i => n - i) 0 ⟨Nat.zero_le _, Nat.zero_le _⟩ (WkS.slots (WkS.cons rfl (Wk.refl _) (WkS.cons rfl (Wk.refl _) (WkS.cons rfl (Wk.refl _) (WkS.cons rfl (Wk.refl _) (WkS.cons rfl (Wk.refl _) (WkS.nil)))))) (List.Sublist.refl _) (List.Sublist.refl _)) ?_
          rintro i ⟨h3, h4⟩
          refine wpD_seq ?_
          refine wpD_seq ?_
          refine wpD_region ?_
          refine p_pure htab rfl rfl rfl rfl ?_
          refine p_pure htab rfl rfl rfl rfl ?_
          refine p_pure htab rfl rfl rfl rfl ?_
          refine ops_nil ?_
          refine then_normal ?_
          refine wpD_cond rfl (fun hc24 => ?_) (fun hc24 => ?_)
          · skip
            refine wpD_skip ?_
            refine then_normal ?_
            refine wpD_seq ?_
            refine wpD_block ?_
            refine wpD_seq ?_
            refine wpD_region ?_
            refine p_pure htab rfl rfl rfl rfl ?_
            refine p_pure htab rfl rfl rfl rfl ?_
            refine p_byte htab rfl rfl rfl rfl rfl rfl rfl rfl (by omega) (by first | exact e0 | exact el_of (by assumption) | exact el_of2 (by assumption) (by assumption) | exact map_get (f := strD) (getS (by assumption))) ?_
            refine p_call0 (letter_any _) rfl rfl rfl rfl rfl (WkL.refl _) ?_
            rintro _ rfl
            refine ops_nil ?_
            refine then_normal ?_
            refine wpD_cond rfl (fun hc25 => ?_) (fun hc25 => ?_)
            · skip
              refine wpD_seq ?_
              refine wpD_region ?_
              refine p_build htab rfl rfl rfl rfl rfl rfl rfl rfl rfl ?_
              refine p_store 0 htab rfl rfl rfl rfl rfl rfl rfl rfl rfl rfl rfl rfl ?_
              refine p_pure htab rfl rfl rfl rfl ?_
              refine ops_nil ?_
              refine then_normal ?_
              refine wpD_ret ?_
              refine block_ret ?_
              refine then_ret ?_
              refine then_ret ?_
              refine block_ret ?_
              refine then_ret ?_
              refine then_ret ?_
              refine ret_cell_tmp 0 (.inl rfl) rfl rfl rfl rfl rfl ?_
              first
              | (have q : isLet (c.toNat : Int) = true := by assumption
                 rw [hName q, nameO_long (hsp ▸ gt20 (n := n) (by assumption))]
                 rfl)
              | (have q : isLet (c.toNat : Int) = true := by assumption
                 have q2 : decide (4000 ≤ l.length) = true := by assumption
                 rw [hName q, nameO_many (of_decide_eq_true q2)]
                 rfl)
              | (have q : isLet (c.toNat : Int) = true := by assumption
                 have q2 : decide (4000 ≤ l.length) = false := by assumption
                 have q3 : isWord ((ByteArray.mk r.toArray).extract 0 n) = true := by assumption
                 rw [hName q, nameO_word (hsp ▸ le20 (n := n) (by assumption)) (of_decide_eq_false q2) (by rw [← hsp, ← ext0]; exact q3), ← hsp]
                 exact congrArg (fun q => D.tup [q, .v (.int .i64 (0))]) (otD_ext r 3 0 n))
              | (have q : isLet (c.toNat : Int) = true := by assumption
                 have q2 : decide (4000 ≤ l.length) = false := by assumption
                 have q3 : isWord ((ByteArray.mk r.toArray).extract 0 n) = false := by assumption
                 rw [hName q, nameO_name (hsp ▸ le20 (n := n) (by assumption)) (of_decide_eq_false q2) (by rw [← hsp, ← ext0]; exact q3), ← hsp]
                 exact congrArg (fun q => D.tup [q, .v (.int .i64 (0))]) (otD_ext r 1 0 n))
              | (have q : isDig (c.toNat : Int) = true := by assumption
                 have q2 : decide (4000 ≤ l.length) = true := by assumption
                 rw [hNum (by assumption) q, numO_many (of_decide_eq_true q2)]
                 rfl)
              | (have q : isDig (c.toNat : Int) = true := by assumption
                 have q2 : decide (4000 ≤ l.length) = false := by assumption
                 have q3 : isLet ((r.getD i 0).toNat : Int) = true := by assumption
                 have q4 := lt_of (a := i) (b := n) (by assumption)
                 have q5 := span_end0 (getD_at (r := r) (n := i) (by omega)) h4 (let_not _ q3)
                 rw [hNum (by assumption) q, numO_form (of_decide_eq_false q2) (by rw [show decide (spanN false r < spanN true r) = true from decide_eq_true (by omega)]; rfl)]
                 rfl)
              | (have q : isDig (c.toNat : Int) = true := by assumption
                 have q2 : decide (4000 ≤ l.length) = false := by assumption
                 have q3 : ((numR (r.take n)).2 != 0) = true := by assumption
                 have q4 := (numO_R (of_decide_eq_false q2) (hsp2.symm.trans hsp)).1 (by rw [← hsp2]; simpa using q3)
                 rw [hNum (by assumption) q, q4, ← hsp2]
                 rfl)
              | (have q : isDig (c.toNat : Int) = true := by assumption
                 have q2 : decide (4000 ≤ l.length) = false := by assumption
                 have q3 : ((numR (r.take n)).2 != 0) = false := by assumption
                 have q4 := (numO_R (of_decide_eq_false q2) (hsp2.symm.trans hsp)).2 (by rw [← hsp2]; simpa using q3)
                 rw [hNum (by assumption) q, q4, ← hsp2]
                 exact congrArg (fun q => D.tup [q, .v (.int .i64 (0))]) (otD_ext r 2 _ n))
              | (have q : isDig (c.toNat : Int) = false := by assumption
                 have q2 : decide (4000 ≤ l.length) = true := by assumption
                 obtain ⟨q3, q4⟩ := sign_hit (by rw [hr]; simp) (h4.trans (find_hit (getS (by assumption)) (preB_yes (by assumption) (by assumption))))
                 rw [hSig (by assumption) q, if_neg q3, addO_many (of_decide_eq_true q2)]
                 rfl)
              | (have q : isDig (c.toNat : Int) = false := by assumption
                 have q2 : decide (4000 ≤ l.length) = false := by assumption
                 obtain ⟨q3, q4⟩ := sign_hit (by rw [hr]; simp) (h4.trans (find_hit (getS (by assumption)) (preB_yes (by assumption) (by assumption))))
                 rw [hSig (by assumption) q, if_neg q3, addO_ok (of_decide_eq_false q2)]
                 show D.tup [.agg [_, .v (.string (signsL.getD j ByteArray.empty)), _, _], _] = D.tup [.agg [_, .v (.string (subS r (signN r))), _, _], _]
                 rw [q4]
                 rfl)
              | (have q : isDig (c.toNat : Int) = false := by assumption
                 have q5 : signsL.length ≤ j := ge_of (by assumption)
                 have q3 := sign_miss (by rw [hr]; simp) (h4.trans (by rw [List.drop_of_length_le q5]; rfl))
                 rw [hSig (by assumption) q, if_pos q3]
                 rfl)
            · skip
              refine wpD_skip ?_
              refine block_normal ?_
              refine then_normal ?_
              refine wpD_region ?_
              refine p_pure htab rfl rfl rfl rfl ?_
              refine p_pure htab rfl rfl rfl rfl ?_
              refine p_pure htab rfl rfl rfl rfl ?_
              refine ops_nil ?_
              refine then_normal ?_
              refine ⟨(i + 1), WkS.slots (WkS.cons rfl (Wk.refl _) (WkS.cons rfl (Wk.refl _) (WkS.cons rfl (Wk.refl _) (WkS.cons rfl (Wk.refl _) (WkS.cons rfl (Wk.of_eq (by rw [wrapS (by omega)])) (WkS.nil)))))) (List.Sublist.refl _) (List.Sublist.refl _), ⟨by have := lt_of (a := i) (b := n) (by assumption); omega, span_step0 (getD_at (by have := lt_of (a := i) (b := n) (by assumption); omega)) h4 (dig_only _ (span_get (by have := lt_of (a := i) (b := n) (by assumption); omega)) (by assumption))⟩, by have := lt_of (a := i) (b := n) (by assumption); omega⟩
          · skip
            refine wpD_exit ?_
            refine then_exit ?_
            refine then_exit ?_
            refine block_hit ?_
            have hsp2 : n = spanN false r := by have hge := ge_of (a := i) (b := n) (by assumption); have := span_le_true r; omega
            refine then_normal ?_
            refine wpD_seq ?_
            refine wpD_region ?_
            refine p_pure htab rfl rfl rfl rfl ?_
            refine p_pure htab rfl rfl rfl rfl ?_
            refine p_sub htab rfl rfl rfl rfl rfl rfl rfl rfl rfl (show (0 : Int) = ((0 : Nat) : Int) from rfl) rfl (by omega) (by first | (rw [hsz]; assumption) | exact szle (by assumption)) ?_
            refine p_call0 (hcall n hsp2 (by have := hdc (by assumption) (by assumption); omega)) rfl rfl rfl rfl rfl (WkL.cons (Wk.of_eq (congrArg (fun q => D.v (.string q)) (ext0 r n))) (WkL.refl _)) ?_
            rintro _ rfl
            refine p_pure htab rfl rfl rfl rfl ?_
            refine p_pure htab rfl rfl rfl rfl ?_
            refine p_pure htab rfl rfl rfl rfl ?_
            refine p_pure htab rfl rfl rfl rfl ?_
            refine p_pure htab rfl rfl rfl rfl ?_
            refine ops_nil ?_
            refine then_normal ?_
            refine wpD_seq ?_
            refine wpD_seq ?_
            refine wpD_region ?_
            refine p_pure htab rfl rfl rfl rfl ?_
            refine p_pure htab rfl rfl rfl rfl ?_
            refine ops_nil ?_
            refine then_normal ?_
            refine wpD_cond rfl (fun hc26 => ?_) (fun hc26 => ?_)
            · skip
              refine wpD_seq ?_
              refine wpD_region ?_
              refine p_build htab rfl rfl rfl rfl rfl rfl rfl rfl rfl ?_
              refine p_pure htab rfl rfl rfl rfl ?_
              refine p_store 0 htab rfl rfl rfl rfl rfl rfl rfl rfl rfl rfl rfl rfl ?_
              refine p_pure htab rfl rfl rfl rfl ?_
              refine ops_nil ?_
              refine then_normal ?_
              refine wpD_ret ?_
              refine then_ret ?_
              refine then_ret ?_
              refine ret_cell_tmp 0 (.inl rfl) rfl rfl rfl rfl rfl ?_
              first
              | (have q : isLet (c.toNat : Int) = true := by assumption
                 rw [hName q, nameO_long (hsp ▸ gt20 (n := n) (by assumption))]
                 rfl)
              | (have q : isLet (c.toNat : Int) = true := by assumption
                 have q2 : decide (4000 ≤ l.length) = true := by assumption
                 rw [hName q, nameO_many (of_decide_eq_true q2)]
                 rfl)
              | (have q : isLet (c.toNat : Int) = true := by assumption
                 have q2 : decide (4000 ≤ l.length) = false := by assumption
                 have q3 : isWord ((ByteArray.mk r.toArray).extract 0 n) = true := by assumption
                 rw [hName q, nameO_word (hsp ▸ le20 (n := n) (by assumption)) (of_decide_eq_false q2) (by rw [← hsp, ← ext0]; exact q3), ← hsp]
                 exact congrArg (fun q => D.tup [q, .v (.int .i64 (0))]) (otD_ext r 3 0 n))
              | (have q : isLet (c.toNat : Int) = true := by assumption
                 have q2 : decide (4000 ≤ l.length) = false := by assumption
                 have q3 : isWord ((ByteArray.mk r.toArray).extract 0 n) = false := by assumption
                 rw [hName q, nameO_name (hsp ▸ le20 (n := n) (by assumption)) (of_decide_eq_false q2) (by rw [← hsp, ← ext0]; exact q3), ← hsp]
                 exact congrArg (fun q => D.tup [q, .v (.int .i64 (0))]) (otD_ext r 1 0 n))
              | (have q : isDig (c.toNat : Int) = true := by assumption
                 have q2 : decide (4000 ≤ l.length) = true := by assumption
                 rw [hNum (by assumption) q, numO_many (of_decide_eq_true q2)]
                 rfl)
              | (have q : isDig (c.toNat : Int) = true := by assumption
                 have q2 : decide (4000 ≤ l.length) = false := by assumption
                 have q3 : isLet ((r.getD i 0).toNat : Int) = true := by assumption
                 have q4 := lt_of (a := i) (b := n) (by assumption)
                 have q5 := span_end0 (getD_at (r := r) (n := i) (by omega)) h4 (let_not _ q3)
                 rw [hNum (by assumption) q, numO_form (of_decide_eq_false q2) (by rw [show decide (spanN false r < spanN true r) = true from decide_eq_true (by omega)]; rfl)]
                 rfl)
              | (have q : isDig (c.toNat : Int) = true := by assumption
                 have q2 : decide (4000 ≤ l.length) = false := by assumption
                 have q3 : ((numR (r.take n)).2 != 0) = true := by assumption
                 have q4 := (numO_R (of_decide_eq_false q2) (hsp2.symm.trans hsp)).1 (by rw [← hsp2]; simpa using q3)
                 rw [hNum (by assumption) q, q4, ← hsp2]
                 rfl)
              | (have q : isDig (c.toNat : Int) = true := by assumption
                 have q2 : decide (4000 ≤ l.length) = false := by assumption
                 have q3 : ((numR (r.take n)).2 != 0) = false := by assumption
                 have q4 := (numO_R (of_decide_eq_false q2) (hsp2.symm.trans hsp)).2 (by rw [← hsp2]; simpa using q3)
                 rw [hNum (by assumption) q, q4, ← hsp2]
                 exact congrArg (fun q => D.tup [q, .v (.int .i64 (0))]) (otD_ext r 2 _ n))
              | (have q : isDig (c.toNat : Int) = false := by assumption
                 have q2 : decide (4000 ≤ l.length) = true := by assumption
                 obtain ⟨q3, q4⟩ := sign_hit (by rw [hr]; simp) (h4.trans (find_hit (getS (by assumption)) (preB_yes (by assumption) (by assumption))))
                 rw [hSig (by assumption) q, if_neg q3, addO_many (of_decide_eq_true q2)]
                 rfl)
              | (have q : isDig (c.toNat : Int) = false := by assumption
                 have q2 : decide (4000 ≤ l.length) = false := by assumption
                 obtain ⟨q3, q4⟩ := sign_hit (by rw [hr]; simp) (h4.trans (find_hit (getS (by assumption)) (preB_yes (by assumption) (by assumption))))
                 rw [hSig (by assumption) q, if_neg q3, addO_ok (of_decide_eq_false q2)]
                 show D.tup [.agg [_, .v (.string (signsL.getD j ByteArray.empty)), _, _], _] = D.tup [.agg [_, .v (.string (subS r (signN r))), _, _], _]
                 rw [q4]
                 rfl)
              | (have q : isDig (c.toNat : Int) = false := by assumption
                 have q5 : signsL.length ≤ j := ge_of (by assumption)
                 have q3 := sign_miss (by rw [hr]; simp) (h4.trans (by rw [List.drop_of_length_le q5]; rfl))
                 rw [hSig (by assumption) q, if_pos q3]
                 rfl)
            · skip
              refine wpD_skip ?_
              refine then_normal ?_
              refine wpD_seq ?_
              refine wpD_region ?_
              refine p_pure htab rfl rfl rfl rfl ?_
              refine p_pure htab rfl rfl rfl rfl ?_
              refine p_sub htab rfl rfl rfl rfl rfl rfl rfl rfl rfl (show (0 : Int) = ((0 : Nat) : Int) from rfl) rfl (by omega) (by first | (rw [hsz]; assumption) | exact szle (by assumption)) ?_
              refine p_pure htab rfl rfl rfl rfl ?_
              refine p_build htab rfl rfl rfl rfl rfl rfl rfl rfl rfl ?_
              refine p_store 0 htab rfl rfl rfl rfl rfl rfl rfl rfl rfl rfl rfl rfl ?_
              refine p_pure htab rfl rfl rfl rfl ?_
              refine ops_nil ?_
              refine then_normal ?_
              refine wpD_ret ?_
              refine then_ret ?_
              refine ret_cell_tmp 0 (.inl rfl) rfl rfl rfl rfl rfl ?_
              first
              | (have q : isLet (c.toNat : Int) = true := by assumption
                 rw [hName q, nameO_long (hsp ▸ gt20 (n := n) (by assumption))]
                 rfl)
              | (have q : isLet (c.toNat : Int) = true := by assumption
                 have q2 : decide (4000 ≤ l.length) = true := by assumption
                 rw [hName q, nameO_many (of_decide_eq_true q2)]
                 rfl)
              | (have q : isLet (c.toNat : Int) = true := by assumption
                 have q2 : decide (4000 ≤ l.length) = false := by assumption
                 have q3 : isWord ((ByteArray.mk r.toArray).extract 0 n) = true := by assumption
                 rw [hName q, nameO_word (hsp ▸ le20 (n := n) (by assumption)) (of_decide_eq_false q2) (by rw [← hsp, ← ext0]; exact q3), ← hsp]
                 exact congrArg (fun q => D.tup [q, .v (.int .i64 (0))]) (otD_ext r 3 0 n))
              | (have q : isLet (c.toNat : Int) = true := by assumption
                 have q2 : decide (4000 ≤ l.length) = false := by assumption
                 have q3 : isWord ((ByteArray.mk r.toArray).extract 0 n) = false := by assumption
                 rw [hName q, nameO_name (hsp ▸ le20 (n := n) (by assumption)) (of_decide_eq_false q2) (by rw [← hsp, ← ext0]; exact q3), ← hsp]
                 exact congrArg (fun q => D.tup [q, .v (.int .i64 (0))]) (otD_ext r 1 0 n))
              | (have q : isDig (c.toNat : Int) = true := by assumption
                 have q2 : decide (4000 ≤ l.length) = true := by assumption
                 rw [hNum (by assumption) q, numO_many (of_decide_eq_true q2)]
                 rfl)
              | (have q : isDig (c.toNat : Int) = true := by assumption
                 have q2 : decide (4000 ≤ l.length) = false := by assumption
                 have q3 : isLet ((r.getD i 0).toNat : Int) = true := by assumption
                 have q4 := lt_of (a := i) (b := n) (by assumption)
                 have q5 := span_end0 (getD_at (r := r) (n := i) (by omega)) h4 (let_not _ q3)
                 rw [hNum (by assumption) q, numO_form (of_decide_eq_false q2) (by rw [show decide (spanN false r < spanN true r) = true from decide_eq_true (by omega)]; rfl)]
                 rfl)
              | (have q : isDig (c.toNat : Int) = true := by assumption
                 have q2 : decide (4000 ≤ l.length) = false := by assumption
                 have q3 : ((numR (r.take n)).2 != 0) = true := by assumption
                 have q4 := (numO_R (of_decide_eq_false q2) (hsp2.symm.trans hsp)).1 (by rw [← hsp2]; simpa using q3)
                 rw [hNum (by assumption) q, q4, ← hsp2]
                 rfl)
              | (have q : isDig (c.toNat : Int) = true := by assumption
                 have q2 : decide (4000 ≤ l.length) = false := by assumption
                 have q3 : ((numR (r.take n)).2 != 0) = false := by assumption
                 have q4 := (numO_R (of_decide_eq_false q2) (hsp2.symm.trans hsp)).2 (by rw [← hsp2]; simpa using q3)
                 rw [hNum (by assumption) q, q4, ← hsp2]
                 exact congrArg (fun q => D.tup [q, .v (.int .i64 (0))]) (otD_ext r 2 _ n))
              | (have q : isDig (c.toNat : Int) = false := by assumption
                 have q2 : decide (4000 ≤ l.length) = true := by assumption
                 obtain ⟨q3, q4⟩ := sign_hit (by rw [hr]; simp) (h4.trans (find_hit (getS (by assumption)) (preB_yes (by assumption) (by assumption))))
                 rw [hSig (by assumption) q, if_neg q3, addO_many (of_decide_eq_true q2)]
                 rfl)
              | (have q : isDig (c.toNat : Int) = false := by assumption
                 have q2 : decide (4000 ≤ l.length) = false := by assumption
                 obtain ⟨q3, q4⟩ := sign_hit (by rw [hr]; simp) (h4.trans (find_hit (getS (by assumption)) (preB_yes (by assumption) (by assumption))))
                 rw [hSig (by assumption) q, if_neg q3, addO_ok (of_decide_eq_false q2)]
                 show D.tup [.agg [_, .v (.string (signsL.getD j ByteArray.empty)), _, _], _] = D.tup [.agg [_, .v (.string (subS r (signN r))), _, _], _]
                 rw [q4]
                 rfl)
              | (have q : isDig (c.toNat : Int) = false := by assumption
                 have q5 : signsL.length ≤ j := ge_of (by assumption)
                 have q3 := sign_miss (by rw [hr]; simp) (h4.trans (by rw [List.drop_of_length_le q5]; rfl))
                 rw [hSig (by assumption) q, if_pos q3]
                 rfl)
      · skip
        refine wpD_skip ?_
        refine then_normal ?_
        refine wpD_seq ?_
        refine wpD_region ?_
        refine p_lit htab rfl rfl rfl rfl rfl rfl rfl rfl rfl rfl rfl rfl rfl rfl ?_
        refine p_pure htab rfl rfl rfl rfl ?_
        refine ops_nil ?_
        refine then_normal ?_
        refine wpD_seq ?_
        refine wpD_seq ?_
        refine wpD_region ?_
        refine p_pure htab rfl rfl rfl rfl ?_
        refine ops_nil ?_
        refine then_normal ?_
        refine wpD_block ?_
        refine loop_ind (α := Nat) (fun j => j ≤ 22 ∧ signsL.find? (preB r) = (signsL.drop j).find? (preB r)) (fun j => ⟨[(0, .v (.string ⟨r.toArray⟩)), (1, .v (.bool (decide (4000 ≤ l.length)))), (4, .ptr b1 0), (10, .lst 1 (signsL.map strD) .full), (11, .v (.int .i64 (j)))], _, []⟩) (fun j => 22 - j) 0 ⟨Nat.zero_le _, rfl⟩ (WkS.slots (WkS.cons rfl (Wk.refl _) (WkS.cons rfl (Wk.refl _) (WkS.cons rfl (Wk.refl _) (WkS.cons rfl (Wk.refl _) (WkS.cons rfl (Wk.refl _) (WkS.nil)))))) (List.Sublist.refl _) (List.Sublist.refl _)) ?_
        rintro j ⟨h3, h4⟩
        refine wpD_seq ?_
        refine wpD_seq ?_
        refine wpD_region ?_
        refine p_pure htab rfl rfl rfl rfl ?_
        refine p_pure htab rfl rfl rfl rfl ?_
        refine p_lenL htab rfl rfl rfl rfl rfl rfl rfl (by first | exact List.length_map _ | rfl) ?_
        refine p_pure htab rfl rfl rfl rfl ?_
        refine ops_nil ?_
        refine then_normal ?_
        refine wpD_cond rfl (fun hc27 => ?_) (fun hc27 => ?_)
        · skip
          refine wpD_skip ?_
          refine then_normal ?_
          refine wpD_seq ?_
          refine wpD_block ?_
          refine wpD_seq ?_
          refine wpD_region ?_
          refine p_pure htab rfl rfl rfl rfl ?_
          refine p_pure htab rfl rfl rfl rfl ?_
          refine p_elem htab rfl rfl rfl rfl rfl rfl rfl rfl rfl rfl (by omega) (by first | exact e0 | exact el_of (by assumption) | exact el_of2 (by assumption) (by assumption) | exact map_get (f := strD) (getS (by assumption))) ?_
          refine p_loadEl htab rfl rfl rfl rfl rfl rfl rfl rfl ?_
          refine p_lenS htab rfl rfl rfl rfl rfl rfl rfl rfl ?_
          refine p_pure htab rfl rfl rfl rfl ?_
          refine ops_nil ?_
          refine then_normal ?_
          refine wpD_seq ?_
          refine bycB (decide (((signsL.getD j ByteArray.empty).size : Int) ≤ ((ByteArray.mk r.toArray).size : Int))) (fun hs28 => ?_) (fun hs28 => ?_)
          · skip
            refine wpD_draws 12 [] [[],[],[],[],[],[],[],[],[],[],[8],[8,10]] [8,10] [[],[0],[],[0,1,2],[0,1,2,3],[0,1,2,3,4],[0,1,2,3,4],[0,1,2,3,4,5,6],[0,1,2,3,4],[0,1,2,3,4],[0,1,2,3,4,8,9],[0,1,2,3,4,8,9,10],[0,1,2,3,4,5,6,7,8,9,10,11],[0,1,2,3,4,5,6,7,8,9,10,11,12]] (by kernel_rfl) (by kernel_rfl) (by kernel_rfl) (by rfl) (by rfl) (by kernel_rfl) ?_
            apply Exists.intro
            apply Exists.intro
            intro bs
            refine z_q rfl rfl (ex_pure htab rfl) rfl rfl rfl rfl rfl rfl ?_
            refine z_q rfl rfl (x_lenS htab rfl rfl rfl rfl rfl) rfl rfl rfl rfl rfl rfl ?_
            refine z_q rfl rfl (ex_pure htab rfl) rfl rfl rfl rfl rfl rfl ?_
            refine z_q rfl rfl (ex_pure htab rfl) rfl rfl rfl rfl rfl rfl ?_
            refine z_q rfl rfl (ex_pure htab rfl) rfl rfl rfl rfl rfl rfl ?_
            refine z_known (j := 99) (b' := true) rfl hs28 ?_
            refine z_q rfl rfl (ex_pure htab rfl) rfl rfl rfl rfl rfl rfl ?_
            refine z_q rfl rfl (ex_pure htab rfl) rfl rfl rfl rfl rfl rfl ?_
            refine z_q rfl rfl (x_sub htab rfl rfl rfl rfl rfl rfl (show (0 : Int) = ((0 : Nat) : Int) from rfl) rfl (by omega) (by first | (rw [hsz]; assumption) | exact szle (by assumption))) rfl rfl rfl rfl rfl rfl ?_
            refine z_e rfl rfl (ex_pure htab rfl) rfl rfl rfl rfl rfl rfl ?_
            refine z_q rfl rfl (ex_pure htab rfl) rfl rfl rfl rfl rfl rfl ?_
            refine z_e rfl rfl (x_elem htab rfl rfl rfl rfl rfl rfl rfl (by omega) (by first | exact e0 | exact el_of (by assumption) | exact el_of2 (by assumption) (by assumption) | exact map_get (f := strD) (getS (by assumption)))) rfl rfl rfl rfl rfl rfl ?_
            refine z_qM rfl rfl (xm_loadEl htab rfl rfl rfl rfl rfl) rfl rfl rfl rfl rfl rfl ?_
            refine z_nil rfl rfl (fun e he => by simp [isAl] at he) ?_
            refine p_pure htab rfl rfl rfl rfl ?_
            refine p_pickT rfl rfl rfl rfl rfl rfl ?_
            refine ops_nil ?_
            refine then_normal ?_
            refine wpD_cond rfl (fun hc29 => ?_) (fun hc29 => ?_)
            · skip
              refine wpD_seq ?_
              refine wpD_seq ?_
              refine wpD_region ?_
              refine p_pure htab rfl rfl rfl rfl ?_
              refine ops_nil ?_
              refine then_normal ?_
              refine wpD_cond rfl (fun hc30 => ?_) (fun hc30 => ?_)
              · skip
                refine wpD_seq ?_
                refine wpD_region ?_
                refine p_build htab rfl rfl rfl rfl rfl rfl rfl rfl rfl ?_
                refine p_store 0 htab rfl rfl rfl rfl rfl rfl rfl rfl rfl rfl rfl rfl ?_
                refine p_pure htab rfl rfl rfl rfl ?_
                refine ops_nil ?_
                refine then_normal ?_
                refine wpD_ret ?_
                refine then_ret ?_
                refine block_ret ?_
                refine then_ret ?_
                refine then_ret ?_
                refine block_ret ?_
                refine then_ret ?_
                refine ret_cell_tmp 0 (.inl rfl) rfl rfl rfl rfl rfl ?_
                first
                | (have q : isLet (c.toNat : Int) = true := by assumption
                   rw [hName q, nameO_long (hsp ▸ gt20 (n := n) (by assumption))]
                   rfl)
                | (have q : isLet (c.toNat : Int) = true := by assumption
                   have q2 : decide (4000 ≤ l.length) = true := by assumption
                   rw [hName q, nameO_many (of_decide_eq_true q2)]
                   rfl)
                | (have q : isLet (c.toNat : Int) = true := by assumption
                   have q2 : decide (4000 ≤ l.length) = false := by assumption
                   have q3 : isWord ((ByteArray.mk r.toArray).extract 0 n) = true := by assumption
                   rw [hName q, nameO_word (hsp ▸ le20 (n := n) (by assumption)) (of_decide_eq_false q2) (by rw [← hsp, ← ext0]; exact q3), ← hsp]
                   exact congrArg (fun q => D.tup [q, .v (.int .i64 (0))]) (otD_ext r 3 0 n))
                | (have q : isLet (c.toNat : Int) = true := by assumption
                   have q2 : decide (4000 ≤ l.length) = false := by assumption
                   have q3 : isWord ((ByteArray.mk r.toArray).extract 0 n) = false := by assumption
                   rw [hName q, nameO_name (hsp ▸ le20 (n := n) (by assumption)) (of_decide_eq_false q2) (by rw [← hsp, ← ext0]; exact q3), ← hsp]
                   exact congrArg (fun q => D.tup [q, .v (.int .i64 (0))]) (otD_ext r 1 0 n))
                | (have q : isDig (c.toNat : Int) = true := by assumption
                   have q2 : decide (4000 ≤ l.length) = true := by assumption
                   rw [hNum (by assumption) q, numO_many (of_decide_eq_true q2)]
                   rfl)
                | (have q : isDig (c.toNat : Int) = true := by assumption
                   have q2 : decide (4000 ≤ l.length) = false := by assumption
                   have q3 : isLet ((r.getD i 0).toNat : Int) = true := by assumption
                   have q4 := lt_of (a := i) (b := n) (by assumption)
                   have q5 := span_end0 (getD_at (r := r) (n := i) (by omega)) h4 (let_not _ q3)
                   rw [hNum (by assumption) q, numO_form (of_decide_eq_false q2) (by rw [show decide (spanN false r < spanN true r) = true from decide_eq_true (by omega)]; rfl)]
                   rfl)
                | (have q : isDig (c.toNat : Int) = true := by assumption
                   have q2 : decide (4000 ≤ l.length) = false := by assumption
                   have q3 : ((numR (r.take n)).2 != 0) = true := by assumption
                   have q4 := (numO_R (of_decide_eq_false q2) (hsp2.symm.trans hsp)).1 (by rw [← hsp2]; simpa using q3)
                   rw [hNum (by assumption) q, q4, ← hsp2]
                   rfl)
                | (have q : isDig (c.toNat : Int) = true := by assumption
                   have q2 : decide (4000 ≤ l.length) = false := by assumption
                   have q3 : ((numR (r.take n)).2 != 0) = false := by assumption
                   have q4 := (numO_R (of_decide_eq_false q2) (hsp2.symm.trans hsp)).2 (by rw [← hsp2]; simpa using q3)
                   rw [hNum (by assumption) q, q4, ← hsp2]
                   exact congrArg (fun q => D.tup [q, .v (.int .i64 (0))]) (otD_ext r 2 _ n))
                | (have q : isDig (c.toNat : Int) = false := by assumption
                   have q2 : decide (4000 ≤ l.length) = true := by assumption
                   obtain ⟨q3, q4⟩ := sign_hit (by rw [hr]; simp) (h4.trans (find_hit (getS (by assumption)) (preB_yes (by assumption) (by assumption))))
                   rw [hSig (by assumption) q, if_neg q3, addO_many (of_decide_eq_true q2)]
                   rfl)
                | (have q : isDig (c.toNat : Int) = false := by assumption
                   have q2 : decide (4000 ≤ l.length) = false := by assumption
                   obtain ⟨q3, q4⟩ := sign_hit (by rw [hr]; simp) (h4.trans (find_hit (getS (by assumption)) (preB_yes (by assumption) (by assumption))))
                   rw [hSig (by assumption) q, if_neg q3, addO_ok (of_decide_eq_false q2)]
                   show D.tup [.agg [_, .v (.string (signsL.getD j ByteArray.empty)), _, _], _] = D.tup [.agg [_, .v (.string (subS r (signN r))), _, _], _]
                   rw [q4]
                   rfl)
                | (have q : isDig (c.toNat : Int) = false := by assumption
                   have q5 : signsL.length ≤ j := ge_of (by assumption)
                   have q3 := sign_miss (by rw [hr]; simp) (h4.trans (by rw [List.drop_of_length_le q5]; rfl))
                   rw [hSig (by assumption) q, if_pos q3]
                   rfl)
              · skip
                refine wpD_skip ?_
                refine then_normal ?_
                refine wpD_seq ?_
                refine wpD_region ?_
                refine p_pure htab rfl rfl rfl rfl ?_
                refine p_pure htab rfl rfl rfl rfl ?_
                refine p_elem htab rfl rfl rfl rfl rfl rfl rfl rfl rfl rfl (by omega) (by first | exact e0 | exact el_of (by assumption) | exact el_of2 (by assumption) (by assumption) | exact map_get (f := strD) (getS (by assumption))) ?_
                refine p_loadEl htab rfl rfl rfl rfl rfl rfl rfl rfl ?_
                refine p_build htab rfl rfl rfl rfl rfl rfl rfl rfl rfl ?_
                refine p_store 0 htab rfl rfl rfl rfl rfl rfl rfl rfl rfl rfl rfl rfl ?_
                refine p_pure htab rfl rfl rfl rfl ?_
                refine ops_nil ?_
                refine then_normal ?_
                refine wpD_ret ?_
                refine block_ret ?_
                refine then_ret ?_
                refine then_ret ?_
                refine block_ret ?_
                refine then_ret ?_
                refine ret_cell_tmp 0 (.inl rfl) rfl rfl rfl rfl rfl ?_
                first
                | (have q : isLet (c.toNat : Int) = true := by assumption
                   rw [hName q, nameO_long (hsp ▸ gt20 (n := n) (by assumption))]
                   rfl)
                | (have q : isLet (c.toNat : Int) = true := by assumption
                   have q2 : decide (4000 ≤ l.length) = true := by assumption
                   rw [hName q, nameO_many (of_decide_eq_true q2)]
                   rfl)
                | (have q : isLet (c.toNat : Int) = true := by assumption
                   have q2 : decide (4000 ≤ l.length) = false := by assumption
                   have q3 : isWord ((ByteArray.mk r.toArray).extract 0 n) = true := by assumption
                   rw [hName q, nameO_word (hsp ▸ le20 (n := n) (by assumption)) (of_decide_eq_false q2) (by rw [← hsp, ← ext0]; exact q3), ← hsp]
                   exact congrArg (fun q => D.tup [q, .v (.int .i64 (0))]) (otD_ext r 3 0 n))
                | (have q : isLet (c.toNat : Int) = true := by assumption
                   have q2 : decide (4000 ≤ l.length) = false := by assumption
                   have q3 : isWord ((ByteArray.mk r.toArray).extract 0 n) = false := by assumption
                   rw [hName q, nameO_name (hsp ▸ le20 (n := n) (by assumption)) (of_decide_eq_false q2) (by rw [← hsp, ← ext0]; exact q3), ← hsp]
                   exact congrArg (fun q => D.tup [q, .v (.int .i64 (0))]) (otD_ext r 1 0 n))
                | (have q : isDig (c.toNat : Int) = true := by assumption
                   have q2 : decide (4000 ≤ l.length) = true := by assumption
                   rw [hNum (by assumption) q, numO_many (of_decide_eq_true q2)]
                   rfl)
                | (have q : isDig (c.toNat : Int) = true := by assumption
                   have q2 : decide (4000 ≤ l.length) = false := by assumption
                   have q3 : isLet ((r.getD i 0).toNat : Int) = true := by assumption
                   have q4 := lt_of (a := i) (b := n) (by assumption)
                   have q5 := span_end0 (getD_at (r := r) (n := i) (by omega)) h4 (let_not _ q3)
                   rw [hNum (by assumption) q, numO_form (of_decide_eq_false q2) (by rw [show decide (spanN false r < spanN true r) = true from decide_eq_true (by omega)]; rfl)]
                   rfl)
                | (have q : isDig (c.toNat : Int) = true := by assumption
                   have q2 : decide (4000 ≤ l.length) = false := by assumption
                   have q3 : ((numR (r.take n)).2 != 0) = true := by assumption
                   have q4 := (numO_R (of_decide_eq_false q2) (hsp2.symm.trans hsp)).1 (by rw [← hsp2]; simpa using q3)
                   rw [hNum (by assumption) q, q4, ← hsp2]
                   rfl)
                | (have q : isDig (c.toNat : Int) = true := by assumption
                   have q2 : decide (4000 ≤ l.length) = false := by assumption
                   have q3 : ((numR (r.take n)).2 != 0) = false := by assumption
                   have q4 := (numO_R (of_decide_eq_false q2) (hsp2.symm.trans hsp)).2 (by rw [← hsp2]; simpa using q3)
                   rw [hNum (by assumption) q, q4, ← hsp2]
                   exact congrArg (fun q => D.tup [q, .v (.int .i64 (0))]) (otD_ext r 2 _ n))
                | (have q : isDig (c.toNat : Int) = false := by assumption
                   have q2 : decide (4000 ≤ l.length) = true := by assumption
                   obtain ⟨q3, q4⟩ := sign_hit (by rw [hr]; simp) (h4.trans (find_hit (getS (by assumption)) (preB_yes (by assumption) (by assumption))))
                   rw [hSig (by assumption) q, if_neg q3, addO_many (of_decide_eq_true q2)]
                   rfl)
                | (have q : isDig (c.toNat : Int) = false := by assumption
                   have q2 : decide (4000 ≤ l.length) = false := by assumption
                   obtain ⟨q3, q4⟩ := sign_hit (by rw [hr]; simp) (h4.trans (find_hit (getS (by assumption)) (preB_yes (by assumption) (by assumption))))
                   rw [hSig (by assumption) q, if_neg q3, addO_ok (of_decide_eq_false q2)]
                   show D.tup [.agg [_, .v (.string (signsL.getD j ByteArray.empty)), _, _], _] = D.tup [.agg [_, .v (.string (subS r (signN r))), _, _], _]
                   rw [q4]
                   rfl)
                | (have q : isDig (c.toNat : Int) = false := by assumption
                   have q5 : signsL.length ≤ j := ge_of (by assumption)
                   have q3 := sign_miss (by rw [hr]; simp) (h4.trans (by rw [List.drop_of_length_le q5]; rfl))
                   rw [hSig (by assumption) q, if_pos q3]
                   rfl)
            · skip
              refine wpD_skip ?_
              refine block_normal ?_
              refine then_normal ?_
              refine wpD_region ?_
              refine p_pure htab rfl rfl rfl rfl ?_
              refine p_pure htab rfl rfl rfl rfl ?_
              refine p_pure htab rfl rfl rfl rfl ?_
              refine ops_nil ?_
              refine then_normal ?_
              refine ⟨(j + 1), WkS.slots (WkS.cons rfl (Wk.refl _) (WkS.cons rfl (Wk.refl _) (WkS.cons rfl (Wk.refl _) (WkS.cons rfl (Wk.refl _) (WkS.cons rfl (Wk.of_eq (by rw [wrapS (by omega)])) (WkS.nil)))))) (List.Sublist.refl _) (List.Sublist.refl _), ⟨by have : j < 22 := lt_of (a := j) (b := signsL.length) (by assumption); omega, h4.trans (find_step (getS (by assumption)) (by first | exact preB_no1 (by assumption) | exact preB_no2 (by assumption)))⟩, by have : j < 22 := lt_of (a := j) (b := signsL.length) (by assumption); omega⟩
          · skip
            refine wpD_draws 12 [] [[],[],[],[],[],[],[],[],[],[],[],[]] [] [[],[0],[],[0,1,2],[0,1,2,3],[0,1,2,3,4],[0,1,2,3,4],[0,1,2,3,4,5,6],[0,1,2,3,4],[0,1,2,3,4],[0,1,2,3,4,8,9],[0,1,2,3,4,8,9,10],[0,1,2,3,4,5,6,7,8,9,10,11],[0,1,2,3,4,5,6,7,8,9,10,11,12]] (by kernel_rfl) (by kernel_rfl) (by kernel_rfl) (by rfl) (by rfl) (by kernel_rfl) ?_
            intro bs
            refine z_q rfl rfl (ex_pure htab rfl) rfl rfl rfl rfl rfl rfl ?_
            refine z_q rfl rfl (x_lenS htab rfl rfl rfl rfl rfl) rfl rfl rfl rfl rfl rfl ?_
            refine z_q rfl rfl (ex_pure htab rfl) rfl rfl rfl rfl rfl rfl ?_
            refine z_q rfl rfl (ex_pure htab rfl) rfl rfl rfl rfl rfl rfl ?_
            refine z_q rfl rfl (ex_pure htab rfl) rfl rfl rfl rfl rfl rfl ?_
            refine z_known (j := 99) (b' := false) rfl hs28 ?_
            refine z_skip rfl rfl rfl rfl ?_
            refine z_skip rfl rfl rfl rfl ?_
            refine z_skip rfl rfl rfl rfl ?_
            refine z_skip rfl rfl rfl rfl ?_
            refine z_skip rfl rfl rfl rfl ?_
            refine z_skip rfl rfl rfl rfl ?_
            refine z_skip rfl rfl rfl rfl ?_
            refine z_nil rfl rfl (fun e he => by simp [isAl] at he) ?_
            refine p_skip rfl rfl rfl ?_
            refine p_pickF rfl rfl rfl rfl rfl rfl ?_
            refine ops_nil ?_
            refine then_normal ?_
            refine wpD_false rfl ?_
            refine wpD_skip ?_
            refine block_normal ?_
            refine then_normal ?_
            refine wpD_region ?_
            refine p_pure htab rfl rfl rfl rfl ?_
            refine p_pure htab rfl rfl rfl rfl ?_
            refine p_pure htab rfl rfl rfl rfl ?_
            refine ops_nil ?_
            refine then_normal ?_
            refine ⟨(j + 1), WkS.slots (WkS.cons rfl (Wk.refl _) (WkS.cons rfl (Wk.refl _) (WkS.cons rfl (Wk.refl _) (WkS.cons rfl (Wk.refl _) (WkS.cons rfl (Wk.of_eq (by rw [wrapS (by omega)])) (WkS.nil)))))) (List.Sublist.refl _) (List.Sublist.refl _), ⟨by have : j < 22 := lt_of (a := j) (b := signsL.length) (by assumption); omega, h4.trans (find_step (getS (by assumption)) (by first | exact preB_no1 (by assumption) | exact preB_no2 (by assumption)))⟩, by have : j < 22 := lt_of (a := j) (b := signsL.length) (by assumption); omega⟩
        · skip
          refine wpD_exit ?_
          refine then_exit ?_
          refine then_exit ?_
          refine block_hit ?_
          refine then_normal ?_
          refine wpD_seq ?_
          refine wpD_region ?_
          refine p_build htab rfl rfl rfl rfl rfl rfl rfl rfl rfl ?_
          refine p_store 0 htab rfl rfl rfl rfl rfl rfl rfl rfl rfl rfl rfl rfl ?_
          refine p_pure htab rfl rfl rfl rfl ?_
          refine ops_nil ?_
          refine then_normal ?_
          refine wpD_ret ?_
          refine ret_cell_tmp 0 (.inl rfl) rfl rfl rfl rfl rfl ?_
          first
          | (have q : isLet (c.toNat : Int) = true := by assumption
             rw [hName q, nameO_long (hsp ▸ gt20 (n := n) (by assumption))]
             rfl)
          | (have q : isLet (c.toNat : Int) = true := by assumption
             have q2 : decide (4000 ≤ l.length) = true := by assumption
             rw [hName q, nameO_many (of_decide_eq_true q2)]
             rfl)
          | (have q : isLet (c.toNat : Int) = true := by assumption
             have q2 : decide (4000 ≤ l.length) = false := by assumption
             have q3 : isWord ((ByteArray.mk r.toArray).extract 0 n) = true := by assumption
             rw [hName q, nameO_word (hsp ▸ le20 (n := n) (by assumption)) (of_decide_eq_false q2) (by rw [← hsp, ← ext0]; exact q3), ← hsp]
             exact congrArg (fun q => D.tup [q, .v (.int .i64 (0))]) (otD_ext r 3 0 n))
          | (have q : isLet (c.toNat : Int) = true := by assumption
             have q2 : decide (4000 ≤ l.length) = false := by assumption
             have q3 : isWord ((ByteArray.mk r.toArray).extract 0 n) = false := by assumption
             rw [hName q, nameO_name (hsp ▸ le20 (n := n) (by assumption)) (of_decide_eq_false q2) (by rw [← hsp, ← ext0]; exact q3), ← hsp]
             exact congrArg (fun q => D.tup [q, .v (.int .i64 (0))]) (otD_ext r 1 0 n))
          | (have q : isDig (c.toNat : Int) = true := by assumption
             have q2 : decide (4000 ≤ l.length) = true := by assumption
             rw [hNum (by assumption) q, numO_many (of_decide_eq_true q2)]
             rfl)
          | (have q : isDig (c.toNat : Int) = true := by assumption
             have q2 : decide (4000 ≤ l.length) = false := by assumption
             have q3 : isLet ((r.getD i 0).toNat : Int) = true := by assumption
             have q4 := lt_of (a := i) (b := n) (by assumption)
             have q5 := span_end0 (getD_at (r := r) (n := i) (by omega)) h4 (let_not _ q3)
             rw [hNum (by assumption) q, numO_form (of_decide_eq_false q2) (by rw [show decide (spanN false r < spanN true r) = true from decide_eq_true (by omega)]; rfl)]
             rfl)
          | (have q : isDig (c.toNat : Int) = true := by assumption
             have q2 : decide (4000 ≤ l.length) = false := by assumption
             have q3 : ((numR (r.take n)).2 != 0) = true := by assumption
             have q4 := (numO_R (of_decide_eq_false q2) (hsp2.symm.trans hsp)).1 (by rw [← hsp2]; simpa using q3)
             rw [hNum (by assumption) q, q4, ← hsp2]
             rfl)
          | (have q : isDig (c.toNat : Int) = true := by assumption
             have q2 : decide (4000 ≤ l.length) = false := by assumption
             have q3 : ((numR (r.take n)).2 != 0) = false := by assumption
             have q4 := (numO_R (of_decide_eq_false q2) (hsp2.symm.trans hsp)).2 (by rw [← hsp2]; simpa using q3)
             rw [hNum (by assumption) q, q4, ← hsp2]
             exact congrArg (fun q => D.tup [q, .v (.int .i64 (0))]) (otD_ext r 2 _ n))
          | (have q : isDig (c.toNat : Int) = false := by assumption
             have q2 : decide (4000 ≤ l.length) = true := by assumption
             obtain ⟨q3, q4⟩ := sign_hit (by rw [hr]; simp) (h4.trans (find_hit (getS (by assumption)) (preB_yes (by assumption) (by assumption))))
             rw [hSig (by assumption) q, if_neg q3, addO_many (of_decide_eq_true q2)]
             rfl)
          | (have q : isDig (c.toNat : Int) = false := by assumption
             have q2 : decide (4000 ≤ l.length) = false := by assumption
             obtain ⟨q3, q4⟩ := sign_hit (by rw [hr]; simp) (h4.trans (find_hit (getS (by assumption)) (preB_yes (by assumption) (by assumption))))
             rw [hSig (by assumption) q, if_neg q3, addO_ok (of_decide_eq_false q2)]
             show D.tup [.agg [_, .v (.string (signsL.getD j ByteArray.empty)), _, _], _] = D.tup [.agg [_, .v (.string (subS r (signN r))), _, _], _]
             rw [q4]
             rfl)
          | (have q : isDig (c.toNat : Int) = false := by assumption
             have q5 : signsL.length ≤ j := ge_of (by assumption)
             have q3 := sign_miss (by rw [hr]; simp) (h4.trans (by rw [List.drop_of_length_le q5]; rfl))
             rw [hSig (by assumption) q, if_pos q3]
             rfl)
end Go.Proofs.Ytnjeklpjjceppaa.Ab
