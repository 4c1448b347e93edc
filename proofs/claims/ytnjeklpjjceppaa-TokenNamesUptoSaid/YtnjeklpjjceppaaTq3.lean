/- The texts that tokenNamesUpto_holds leans on, part 3. -/
import Derived.Test.YtnjeklpjjceppaaTq2
namespace Go.Proofs.Ytnjeklpjjceppaa.Ab
open Go
set_option linter.all false
noncomputable def slices_Index_string_string (a0 : List ByteArray) (a1 : ByteArray) : Option (Int) :=
  (Option.bind (α := (Unit) ⊕ (Int)) (loopM (fun (s15 : Int) => (bif (decide (s15 < (a0.length : Int))) then ((idx a0 s15).bind fun x25 => (bif (decide (a1 = x25)) then some (.done (.inr s15)) else some (.next (IntKind.i64.wrap (s15 + (1 : Int)))))) else some (.done (.inl ())))) (0 : Int)) (Sum.elim (fun y14 => some (-1 : Int)) (fun r => some r)))
set_option maxRecDepth 100000 in
set_option maxHeartbeats 2000000 in
theorem slices_Index_string_string_ok (a0 : List ByteArray) (a1 : ByteArray) (r : Int) (h0 : slices_Index_string_string a0 a1 = some r) : CallsD Try.prog 33 [.lst 1 (a0.map eStr) .no, .v (.string a1)] [] [] (fun d h k => d = .v (.int .i64 r) ∧ h = [] ∧ k = []) := by
  have hm := yes_of h0
  unfold slices_Index_string_string at hm
  clear h0
  refine enterX htab Try.func33 rfl rfl rfl rfl rfl (fun C => ?_)
  refine wpD_sr ?_
  refine pu ?_
  refine ops_nt ?_
  refine wpD_seq ?_
  refine wpD_sr ?_
  refine pu ?_
  refine p_lenL htab rfl rfl rfl rfl rfl rfl rfl (by first | exact map_len | rfl) ?_
  refine pu ?_
  refine ops_nt ?_
  obtain ⟨x14, q14, ho14⟩ := yes_bind hm
  refine wpD_midX (τ := Unit) (Y := Unit) (fun y14 z14 => (⟨[], [], []⟩ : S)) x14 ?_ ?_
  ·clear hm; have hm := yes_of q14
   refine wpD_block ?_
   obtain ⟨u15, hl15, hq15⟩ := yes_m hm
   refine loop_M (Y := Unit) hl15 (fun s15 z15 => (⟨[(0, .lst 1 (a0.map eStr) .no), (1, .v (.string a1)), (7, .v (.int .i64 (a0.length : Int))), (8, .v (.int .i64 s15))], [], []⟩ : S)) ?_ ?_
   ·skip
    exact WkX.of () (WkS.perm (WkS.cons rfl (Wk.refl _) (WkS.cons rfl (Wk.refl _) (WkS.cons rfl (Wk.refl _) (WkS.cons rfl (Wk.refl _) (WkS.nil))))) Pf Pf)
   ·intro G15 s15 z15 hm
    refine wpD_sr ?_
    refine pu ?_
    refine ops_nt ?_
    refine wpD_seq ?_
    refine wpD_cond rfl (fun hc24 => ?_) (fun hc24 => ?_)
    ·replace hm := yes_t hc24 hm
     refine wpD_skip ?_
     refine then_normal ?_
     refine wpD_seq ?_
     refine wpD_block ?_
     refine wpD_sr ?_
     refine pu ?_
     refine pu ?_
     refine ops_n2 ?_
     iterate 3 refine pu ?_
     obtain ⟨x25, q25, hm⟩ := yes_bind hm
     refine p_elem htab rfl rfl rfl rfl rfl rfl rfl rfl rfl rfl (idx_nonneg q25) (idx_map q25) ?_
     refine p_loadEl htab rfl rfl rfl rfl rfl rfl rfl rfl ?_
     refine pu ?_
     refine ops_nt ?_
     refine wpD_cond rfl (fun hc26 => ?_) (fun hc26 => ?_)
     ·replace hm := yes_t hc26 hm
      refine wpD_sr ?_
      refine pu ?_
      refine pu ?_
      refine ops_nt ?_
      refine wpD_ret ?_
      refine block_ret ?_
      refine then_ret ?_
      have e15 := lp_done hm; subst e15; clear hm; have hm := hq15
      refine then_ret ?_
      refine block_ret ?_
      have e14 := yes_eq hm; subst e14; refine midX_inr ?_; clear hm; have hm := ho14; simp only [Sum.elim_inr] at hm
      refine then_ret ?_
      have er27 := yes_eq hm; subst er27
      refine rP (t' := [(4, .v (.int .i64 s15))]) [] [] 0 (wC wN) (lT lN) ?_
      exact ⟨rfl, rfl, rfl⟩
     ·replace hm := yes_f hc26 hm
      refine wpD_skip ?_
      refine block_normal ?_
      refine then_normal ?_
      refine wpD_region ?_
      refine pu ?_
      refine pu ?_
      refine ops_nil ?_
      refine then_normal ⟨_, lp_next hm, ?_⟩
      exact WkX.of () (WkS.perm (WkS.cons rfl (Wk.refl _) (WkS.cons rfl (Wk.refl _) (WkS.cons rfl (Wk.refl _) (WkS.cons rfl (Wk.refl _) (WkS.nil))))) Pf Pf)
    ·replace hm := yes_f hc24 hm
     refine wpD_exit ?_
     refine then_exit ?_
     have e15 := lp_done hm; subst e15; clear hm; have hm := hq15
     refine then_exit ?_
     refine block_hit ?_
     have e14 := yes_eq hm; subst e14
     refine midX_inl ?_
     exact WkX.of () (WkS.perm (WkS.nil) Pf Pf)
  ·intro y14 s14 hx14 hw14; subst hx14; clear hm; have hm := ho14; simp only [Sum.elim_inl] at hm; clear q14 ho14
   refine then_normal ?_
   refine wpD_wkX hw14 (fun z14 => ?_)
   refine wpD_sr ?_
   refine pu ?_
   refine ops_nt ?_
   refine wpD_ret ?_
   have er28 := yes_eq hm; subst er28
   refine rP (t' := [(4, .v (.int .i64 (-1 : Int)))]) [] [] 0 (wC wN) (lT lN) ?_
   exact ⟨rfl, rfl, rfl⟩
noncomputable def slices_Contains_string_string (a0 : List ByteArray) (a1 : ByteArray) : Option (Bool) :=
  ((slices_Index_string_string a0 a1).bind fun x1 => some (decide ((0 : Int) ≤ x1)))
set_option maxRecDepth 100000 in
set_option maxHeartbeats 2000000 in
theorem slices_Contains_string_string_ok (a0 : List ByteArray) (a1 : ByteArray) (r : Bool) (h0 : slices_Contains_string_string a0 a1 = some r) : CallsD Try.prog 22 [.lst 1 (a0.map eStr) .no, .v (.string a1)] [] [] (fun d h k => d = .v (.bool r) ∧ h = [] ∧ k = []) := by
  have hm := yes_of h0
  unfold slices_Contains_string_string at hm
  clear h0
  refine enterX htab Try.func22 rfl rfl rfl rfl rfl (fun C => ?_)
  refine wpD_sr ?_
  refine pu ?_
  refine ops_n2 ?_
  refine pu ?_
  refine pu ?_
  obtain ⟨x1, q1, hm⟩ := yes_bind hm
  refine p_call0 (slices_Index_string_string_ok a0 a1 x1 q1) rfl rfl rfl rfl rfl Wl ?_
  rintro _ rfl
  refine pu ?_
  refine pu ?_
  refine ops_nt ?_
  refine wpD_ret ?_
  have er2 := yes_eq hm; subst er2
  refine rP (t' := [(4, .v (.bool (decide ((0 : Int) ≤ x1))))]) [] [] 0 (wC wN) (lT lN) ?_
  exact ⟨rfl, rfl, rfl⟩
noncomputable def token_Word (a0 : ByteArray) : Option (Bool) :=
  ((slices_Contains_string_string ([(ByteArray.mk #[105, 110, 116]), (ByteArray.mk #[105, 102]), (ByteArray.mk #[101, 108, 115, 101]), (ByteArray.mk #[119, 104, 105, 108, 101]), (ByteArray.mk #[114, 101, 116, 117, 114, 110]), (ByteArray.mk #[97, 115, 115, 101, 114, 116]), (ByteArray.mk #[105, 110, 112, 117, 116]), (ByteArray.mk #[110, 117, 108, 108])] : List ByteArray) a0).bind fun x1 => some x1)
set_option maxRecDepth 100000 in
set_option maxHeartbeats 2000000 in
theorem token_Word_ok (a0 : ByteArray) (r : Bool) (h0 : token_Word a0 = some r) : CallsD Try.prog 13 [.v (.string a0)] [] [] (fun d h k => d = .v (.bool r) ∧ h = [] ∧ k = []) := by
  have hm := yes_of h0
  unfold token_Word at hm
  clear h0
  refine enterX htab Try.func13 rfl rfl rfl rfl rfl (fun C => ?_)
  refine wpD_sr ?_
  refine pu ?_
  refine ops_n2 ?_
  refine p_lit htab rfl rfl rfl rfl rfl rfl rfl rfl rfl rfl rfl rfl rfl rfl ?_
  refine p_eq (i := 3) (d' := .lst 1 (([(ByteArray.mk #[105, 110, 116]), (ByteArray.mk #[105, 102]), (ByteArray.mk #[101, 108, 115, 101]), (ByteArray.mk #[119, 104, 105, 108, 101]), (ByteArray.mk #[114, 101, 116, 117, 114, 110]), (ByteArray.mk #[97, 115, 115, 101, 114, 116]), (ByteArray.mk #[105, 110, 112, 117, 116]), (ByteArray.mk #[110, 117, 108, 108])] : List ByteArray).map eStr) .full) rfl (Wk.lst0 (.cons (WkC.refl _) (.cons (WkC.refl _) (.cons (WkC.refl _) (.cons (WkC.refl _) (.cons (WkC.refl _) (.cons (WkC.refl _) (.cons (WkC.refl _) (.cons (WkC.refl _) (.nil)))))))))) ?_
  refine pu ?_
  obtain ⟨x1, q1, hm⟩ := yes_bind hm
  refine p_call0 (slices_Contains_string_string_ok ([(ByteArray.mk #[105, 110, 116]), (ByteArray.mk #[105, 102]), (ByteArray.mk #[101, 108, 115, 101]), (ByteArray.mk #[119, 104, 105, 108, 101]), (ByteArray.mk #[114, 101, 116, 117, 114, 110]), (ByteArray.mk #[97, 115, 115, 101, 114, 116]), (ByteArray.mk #[105, 110, 112, 117, 116]), (ByteArray.mk #[110, 117, 108, 108])] : List ByteArray) a0 x1 q1) rfl rfl rfl rfl rfl (WkL.cons (Wk.no) (WkL.cons (Wk.refl _) Wl)) ?_
  rintro _ rfl
  refine pu ?_
  refine ops_nt ?_
  refine wpD_ret ?_
  have er2 := yes_eq hm; subst er2
  refine rP (t' := [(2, .v (.bool x1))]) [] [] 0 (wC wN) (lT lN) ?_
  exact ⟨rfl, rfl, rfl⟩
noncomputable def token_Name (a0 : ByteArray) : Option (Bool) :=
  (bif (decide ((a0.size : Int) ≤ (20 : Int))) then (bif (plainB a0) then ((token_Word a0).bind fun x3 => some (!x3)) else some false) else some false)
set_option maxRecDepth 100000 in
set_option maxHeartbeats 2000000 in
theorem token_Name_ok (a0 : ByteArray) (r : Bool) (h0 : token_Name a0 = some r) : CallsD Try.prog 11 [.v (.string a0)] [] [] (fun d h k => d = .v (.bool r) ∧ h = [] ∧ k = []) := by
  have hm := yes_of h0
  unfold token_Name at hm
  clear h0
  refine enterX htab Try.func11 rfl rfl rfl rfl rfl (fun C => ?_)
  refine wpD_sr ?_
  refine pu ?_
  refine ops_n2 ?_
  refine pu ?_
  refine p_lenS htab rfl rfl rfl rfl rfl rfl rfl rfl ?_
  refine pu ?_
  refine pu ?_
  refine p_split (i := 6) rfl (fun hg1 => ?_) (fun hg1 => ?_)
  ·replace hm := yes_t hg1 hm
   refine pu ?_
   refine p_call0 (plain_ok a0) rfl rfl rfl rfl rfl Wl ?_
   rintro _ rfl
   refine p_pickT rfl rfl rfl rfl rfl rfl ?_
   refine pu ?_
   refine p_split (i := 10) rfl (fun hg2 => ?_) (fun hg2 => ?_)
   ·replace hm := yes_t hg2 hm
    refine pu ?_
    obtain ⟨x3, q3, hm⟩ := yes_bind hm
    refine p_call0 (token_Word_ok a0 x3 q3) rfl rfl rfl rfl rfl Wl ?_
    rintro _ rfl
    refine pu ?_
    refine p_pickT rfl rfl rfl rfl rfl rfl ?_
    refine pu ?_
    refine ops_nt ?_
    refine wpD_ret ?_
    have er4 := yes_eq hm; subst er4
    refine rP (t' := [(2, .v (.bool (!x3)))]) [] [] 0 (wC wN) (lT lN) ?_
    exact ⟨rfl, rfl, rfl⟩
   ·replace hm := yes_f hg2 hm
    iterate 3 refine pK ?_
    refine p_pickF rfl rfl rfl rfl rfl rfl ?_
    refine pu ?_
    refine ops_nt ?_
    refine wpD_ret ?_
    have er5 := yes_eq hm; subst er5
    refine rP (t' := [(2, .v (.bool false))]) [] [] 0 (wC wN) (lT lN) ?_
    exact ⟨rfl, rfl, rfl⟩
  ·replace hm := yes_f hg1 hm
   refine pK ?_
   refine pK ?_
   refine p_pickF rfl rfl rfl rfl rfl rfl ?_
   refine pu ?_
   iterate 3 refine pK ?_
   refine p_pickF rfl rfl rfl rfl rfl rfl ?_
   refine pu ?_
   refine ops_nt ?_
   refine wpD_ret ?_
   have er6 := yes_eq hm; subst er6
   refine rP (t' := [(2, .v (.bool false))]) [] [] 0 (wC wN) (lT lN) ?_
   exact ⟨rfl, rfl, rfl⟩
noncomputable def r10_digit (a0 : Int) : Option (Bool) :=
  (bif (decide ((48 : Int) ≤ a0)) then some (decide (a0 ≤ (57 : Int))) else some false)
set_option maxRecDepth 100000 in
set_option maxHeartbeats 2000000 in
theorem r10_digit_ok (a0 : Int) (r : Bool) (h0 : r10_digit a0 = some r) : CallsD Try.prog 20 [.v (.int .u8 a0)] [] [] (fun d h k => d = .v (.bool r) ∧ h = [] ∧ k = []) := by
  have hm := yes_of h0
  unfold r10_digit at hm
  clear h0
  refine enterX htab Try.func20 rfl rfl rfl rfl rfl (fun C => ?_)
  refine wpD_sr ?_
  refine pu ?_
  refine ops_n2 ?_
  iterate 3 refine pu ?_
  refine p_split (i := 5) rfl (fun hg1 => ?_) (fun hg1 => ?_)
  ·replace hm := yes_t hg1 hm
   refine pu ?_
   refine pu ?_
   refine p_pickT rfl rfl rfl rfl rfl rfl ?_
   refine pu ?_
   refine ops_nt ?_
   refine wpD_ret ?_
   have er2 := yes_eq hm; subst er2
   refine rP (t' := [(2, .v (.bool (decide (a0 ≤ (57 : Int)))))]) [] [] 0 (wC wN) (lT lN) ?_
   exact ⟨rfl, rfl, rfl⟩
  ·replace hm := yes_f hg1 hm
   refine pK ?_
   refine pK ?_
   refine p_pickF rfl rfl rfl rfl rfl rfl ?_
   refine pu ?_
   refine ops_nt ?_
   refine wpD_ret ?_
   have er3 := yes_eq hm; subst er3
   refine rP (t' := [(2, .v (.bool false))]) [] [] 0 (wC wN) (lT lN) ?_
   exact ⟨rfl, rfl, rfl⟩
noncomputable def r10_in (a0 : List ByteArray) (a1 : ByteArray) : Option (Bool) :=
  (Option.bind (α := (Unit) ⊕ (Bool)) (loopM (fun (s15 : Int) => (bif (decide (s15 < (a0.length : Int))) then ((idx a0 s15).bind fun x25 => (bif (decide (x25 = a1)) then some (.done (.inr true)) else some (.next (IntKind.i64.wrap (s15 + (1 : Int)))))) else some (.done (.inl ())))) (0 : Int)) (Sum.elim (fun y14 => some false) (fun r => some r)))
set_option maxRecDepth 100000 in
set_option maxHeartbeats 2000000 in
theorem r10_in_ok (a0 : List ByteArray) (a1 : ByteArray) (r : Bool) (h0 : r10_in a0 a1 = some r) : CallsD Try.prog 23 [.lst 1 (a0.map eStr) .no, .v (.string a1)] [] [] (fun d h k => d = .v (.bool r) ∧ h = [] ∧ k = []) := by
  have hm := yes_of h0
  unfold r10_in at hm
  clear h0
  refine enterX htab Try.func23 rfl rfl rfl rfl rfl (fun C => ?_)
  refine wpD_sr ?_
  refine pu ?_
  refine ops_nt ?_
  refine wpD_seq ?_
  refine wpD_sr ?_
  refine pu ?_
  refine ops_nt ?_
  obtain ⟨x14, q14, ho14⟩ := yes_bind hm
  refine wpD_midX (τ := Unit) (Y := Unit) (fun y14 z14 => (⟨[], [], []⟩ : S)) x14 ?_ ?_
  ·clear hm; have hm := yes_of q14
   refine wpD_block ?_
   obtain ⟨u15, hl15, hq15⟩ := yes_m hm
   refine loop_M (Y := Unit) hl15 (fun s15 z15 => (⟨[(0, .lst 1 (a0.map eStr) .no), (1, .v (.string a1)), (5, .v (.int .i64 s15))], [], []⟩ : S)) ?_ ?_
   ·skip
    exact WkX.of () (WkS.perm (WkS.cons rfl (Wk.refl _) (WkS.cons rfl (Wk.refl _) (WkS.cons rfl (Wk.refl _) (WkS.nil)))) Pf Pf)
   ·intro G15 s15 z15 hm
    refine wpD_seq ?_
    refine wpD_sr ?_
    refine pu ?_
    refine pu ?_
    refine p_lenL htab rfl rfl rfl rfl rfl rfl rfl (by first | exact map_len | rfl) ?_
    refine pu ?_
    refine ops_nt ?_
    refine wpD_cond rfl (fun hc24 => ?_) (fun hc24 => ?_)
    ·replace hm := yes_t hc24 hm
     refine wpD_skip ?_
     refine then_normal ?_
     refine wpD_seq ?_
     refine wpD_block ?_
     refine wpD_sr ?_
     refine pu ?_
     refine pu ?_
     obtain ⟨x25, q25, hm⟩ := yes_bind hm
     refine p_elem htab rfl rfl rfl rfl rfl rfl rfl rfl rfl rfl (idx_nonneg q25) (idx_map q25) ?_
     refine p_loadEl htab rfl rfl rfl rfl rfl rfl rfl rfl ?_
     refine pu ?_
     refine pu ?_
     refine ops_nt ?_
     refine wpD_cond rfl (fun hc26 => ?_) (fun hc26 => ?_)
     ·replace hm := yes_t hc26 hm
      refine wpD_sr ?_
      refine pu ?_
      refine ops_nt ?_
      refine wpD_ret ?_
      refine block_ret ?_
      refine then_ret ?_
      have e15 := lp_done hm; subst e15; clear hm; have hm := hq15
      refine then_ret ?_
      refine block_ret ?_
      have e14 := yes_eq hm; subst e14; refine midX_inr ?_; clear hm; have hm := ho14; simp only [Sum.elim_inr] at hm
      refine then_ret ?_
      have er27 := yes_eq hm; subst er27
      refine rP (t' := [(4, .v (.bool true))]) [] [] 0 (wC wN) (lT lN) ?_
      exact ⟨rfl, rfl, rfl⟩
     ·replace hm := yes_f hc26 hm
      refine wpD_skip ?_
      refine block_normal ?_
      refine then_normal ?_
      refine wpD_region ?_
      iterate 3 refine pu ?_
      refine ops_nil ?_
      refine then_normal ⟨_, lp_next hm, ?_⟩
      exact WkX.of () (WkS.perm (WkS.cons rfl (Wk.refl _) (WkS.cons rfl (Wk.refl _) (WkS.cons rfl (Wk.refl _) (WkS.nil)))) Pf Pf)
    ·replace hm := yes_f hc24 hm
     refine wpD_exit ?_
     refine then_exit ?_
     have e15 := lp_done hm; subst e15; clear hm; have hm := hq15
     refine then_exit ?_
     refine block_hit ?_
     have e14 := yes_eq hm; subst e14
     refine midX_inl ?_
     exact WkX.of () (WkS.perm (WkS.nil) Pf Pf)
  ·intro y14 s14 hx14 hw14; subst hx14; clear hm; have hm := ho14; simp only [Sum.elim_inl] at hm; clear q14 ho14
   refine then_normal ?_
   refine wpD_wkX hw14 (fun z14 => ?_)
   refine wpD_sr ?_
   refine pu ?_
   refine ops_nt ?_
   refine wpD_ret ?_
   have er28 := yes_eq hm; subst er28
   refine rP (t' := [(4, .v (.bool false))]) [] [] 0 (wC wN) (lT lN) ?_
   exact ⟨rfl, rfl, rfl⟩
noncomputable def r10_Word (a0 : ByteArray) : Option (Bool) :=
  ((r10_in ([(ByteArray.mk #[97, 115, 115, 101, 114, 116]), (ByteArray.mk #[101, 108, 115, 101]), (ByteArray.mk #[105, 102]), (ByteArray.mk #[105, 110, 112, 117, 116]), (ByteArray.mk #[105, 110, 116]), (ByteArray.mk #[110, 117, 108, 108]), (ByteArray.mk #[114, 101, 116, 117, 114, 110]), (ByteArray.mk #[119, 104, 105, 108, 101])] : List ByteArray) a0).bind fun x1 => some x1)
set_option maxRecDepth 100000 in
set_option maxHeartbeats 2000000 in
theorem r10_Word_ok (a0 : ByteArray) (r : Bool) (h0 : r10_Word a0 = some r) : CallsD Try.prog 14 [.v (.string a0)] [] [] (fun d h k => d = .v (.bool r) ∧ h = [] ∧ k = []) := by
  have hm := yes_of h0
  unfold r10_Word at hm
  clear h0
  refine enterX htab Try.func14 rfl rfl rfl rfl rfl (fun C => ?_)
  refine wpD_sr ?_
  refine pu ?_
  refine ops_n2 ?_
  refine p_lit htab rfl rfl rfl rfl rfl rfl rfl rfl rfl rfl rfl rfl rfl rfl ?_
  refine p_eq (i := 3) (d' := .lst 1 (([(ByteArray.mk #[97, 115, 115, 101, 114, 116]), (ByteArray.mk #[101, 108, 115, 101]), (ByteArray.mk #[105, 102]), (ByteArray.mk #[105, 110, 112, 117, 116]), (ByteArray.mk #[105, 110, 116]), (ByteArray.mk #[110, 117, 108, 108]), (ByteArray.mk #[114, 101, 116, 117, 114, 110]), (ByteArray.mk #[119, 104, 105, 108, 101])] : List ByteArray).map eStr) .full) rfl (Wk.lst0 (.cons (WkC.refl _) (.cons (WkC.refl _) (.cons (WkC.refl _) (.cons (WkC.refl _) (.cons (WkC.refl _) (.cons (WkC.refl _) (.cons (WkC.refl _) (.cons (WkC.refl _) (.nil)))))))))) ?_
  refine pu ?_
  obtain ⟨x1, q1, hm⟩ := yes_bind hm
  refine p_call0 (r10_in_ok ([(ByteArray.mk #[97, 115, 115, 101, 114, 116]), (ByteArray.mk #[101, 108, 115, 101]), (ByteArray.mk #[105, 102]), (ByteArray.mk #[105, 110, 112, 117, 116]), (ByteArray.mk #[105, 110, 116]), (ByteArray.mk #[110, 117, 108, 108]), (ByteArray.mk #[114, 101, 116, 117, 114, 110]), (ByteArray.mk #[119, 104, 105, 108, 101])] : List ByteArray) a0 x1 q1) rfl rfl rfl rfl rfl (WkL.cons (Wk.no) (WkL.cons (Wk.refl _) Wl)) ?_
  rintro _ rfl
  refine pu ?_
  refine ops_nt ?_
  refine wpD_ret ?_
  have er2 := yes_eq hm; subst er2
  refine rP (t' := [(2, .v (.bool x1))]) [] [] 0 (wC wN) (lT lN) ?_
  exact ⟨rfl, rfl, rfl⟩
noncomputable def r10_letter (a0 : Int) : Option (Bool) :=
  (bif (decide ((97 : Int) ≤ a0)) then (bif (decide (a0 ≤ (122 : Int))) then some true else (bif (decide ((65 : Int) ≤ a0)) then (bif (decide (a0 ≤ (90 : Int))) then some true else some (a0 == (95 : Int))) else some (a0 == (95 : Int)))) else (bif (decide ((65 : Int) ≤ a0)) then (bif (decide (a0 ≤ (90 : Int))) then some true else some (a0 == (95 : Int))) else some (a0 == (95 : Int))))
set_option maxRecDepth 100000 in
set_option maxHeartbeats 2000000 in
theorem r10_letter_ok (a0 : Int) (r : Bool) (h0 : r10_letter a0 = some r) : CallsD Try.prog 21 [.v (.int .u8 a0)] [] [] (fun d h k => d = .v (.bool r) ∧ h = [] ∧ k = []) := by
  have hm := yes_of h0
  unfold r10_letter at hm
  clear h0
  refine enterX htab Try.func21 rfl rfl rfl rfl rfl (fun C => ?_)
  refine wpD_sr ?_
  refine pu ?_
  refine ops_n2 ?_
  iterate 3 refine pu ?_
  refine p_split (i := 5) rfl (fun hg1 => ?_) (fun hg1 => ?_)
  ·replace hm := yes_t hg1 hm
   refine pu ?_
   refine pu ?_
   refine p_pickT rfl rfl rfl rfl rfl rfl ?_
   refine pu ?_
   refine p_split (i := 9) rfl (fun hg2 => ?_) (fun hg2 => ?_)
   ·replace hm := yes_t hg2 hm
    iterate 6 refine pK ?_
    refine p_pickT rfl rfl rfl rfl rfl rfl ?_
    refine pu ?_
    refine pK ?_
    refine pK ?_
    refine p_pickT rfl rfl rfl rfl rfl rfl ?_
    refine pu ?_
    refine ops_nt ?_
    refine wpD_ret ?_
    have er3 := yes_eq hm; subst er3
    refine rP (t' := [(2, .v (.bool true))]) [] [] 0 (wC wN) (lT lN) ?_
    exact ⟨rfl, rfl, rfl⟩
   ·replace hm := yes_f hg2 hm
    iterate 3 refine pu ?_
    refine p_split (i := 12) rfl (fun hg4 => ?_) (fun hg4 => ?_)
    ·replace hm := yes_t hg4 hm
     refine pu ?_
     refine pu ?_
     refine p_pickT rfl rfl rfl rfl rfl rfl ?_
     refine p_pickF rfl rfl rfl rfl rfl rfl ?_
     refine pu ?_
     refine p_split (i := 17) rfl (fun hg5 => ?_) (fun hg5 => ?_)
     ·replace hm := yes_t hg5 hm
      refine pK ?_
      refine pK ?_
      refine p_pickT rfl rfl rfl rfl rfl rfl ?_
      refine pu ?_
      refine ops_nt ?_
      refine wpD_ret ?_
      have er6 := yes_eq hm; subst er6
      refine rP (t' := [(2, .v (.bool true))]) [] [] 0 (wC wN) (lT lN) ?_
      exact ⟨rfl, rfl, rfl⟩
     ·replace hm := yes_f hg5 hm
      refine pu ?_
      refine pu ?_
      refine p_pickF rfl rfl rfl rfl rfl rfl ?_
      refine pu ?_
      refine ops_nt ?_
      refine wpD_ret ?_
      have er7 := yes_eq hm; subst er7
      refine rP (t' := [(2, .v (.bool (a0 == (95 : Int))))]) [] [] 0 (wC wN) (lT lN) ?_
      exact ⟨rfl, rfl, rfl⟩
    ·replace hm := yes_f hg4 hm
     refine pK ?_
     refine pK ?_
     refine p_pickF rfl rfl rfl rfl rfl rfl ?_
     refine p_pickF rfl rfl rfl rfl rfl rfl ?_
     iterate 3 refine pu ?_
     refine p_pickF rfl rfl rfl rfl rfl rfl ?_
     refine pu ?_
     refine ops_nt ?_
     refine wpD_ret ?_
     have er8 := yes_eq hm; subst er8
     refine rP (t' := [(2, .v (.bool (a0 == (95 : Int))))]) [] [] 0 (wC wN) (lT lN) ?_
     exact ⟨rfl, rfl, rfl⟩
  ·replace hm := yes_f hg1 hm
   refine pK ?_
   refine pK ?_
   refine p_pickF rfl rfl rfl rfl rfl rfl ?_
   iterate 4 refine pu ?_
   refine p_split (i := 12) rfl (fun hg9 => ?_) (fun hg9 => ?_)
   ·replace hm := yes_t hg9 hm
    refine pu ?_
    refine pu ?_
    refine p_pickT rfl rfl rfl rfl rfl rfl ?_
    refine p_pickF rfl rfl rfl rfl rfl rfl ?_
    refine pu ?_
    refine p_split (i := 17) rfl (fun hg10 => ?_) (fun hg10 => ?_)
    ·replace hm := yes_t hg10 hm
     refine pK ?_
     refine pK ?_
     refine p_pickT rfl rfl rfl rfl rfl rfl ?_
     refine pu ?_
     refine ops_nt ?_
     refine wpD_ret ?_
     have er11 := yes_eq hm; subst er11
     refine rP (t' := [(2, .v (.bool true))]) [] [] 0 (wC wN) (lT lN) ?_
     exact ⟨rfl, rfl, rfl⟩
    ·replace hm := yes_f hg10 hm
     refine pu ?_
     refine pu ?_
     refine p_pickF rfl rfl rfl rfl rfl rfl ?_
     refine pu ?_
     refine ops_nt ?_
     refine wpD_ret ?_
     have er12 := yes_eq hm; subst er12
     refine rP (t' := [(2, .v (.bool (a0 == (95 : Int))))]) [] [] 0 (wC wN) (lT lN) ?_
     exact ⟨rfl, rfl, rfl⟩
   ·replace hm := yes_f hg9 hm
    refine pK ?_
    refine pK ?_
    refine p_pickF rfl rfl rfl rfl rfl rfl ?_
    refine p_pickF rfl rfl rfl rfl rfl rfl ?_
    iterate 3 refine pu ?_
    refine p_pickF rfl rfl rfl rfl rfl rfl ?_
    refine pu ?_
    refine ops_nt ?_
    refine wpD_ret ?_
    have er13 := yes_eq hm; subst er13
    refine rP (t' := [(2, .v (.bool (a0 == (95 : Int))))]) [] [] 0 (wC wN) (lT lN) ?_
    exact ⟨rfl, rfl, rfl⟩
noncomputable def r10_Name (a0 : ByteArray) : Option (Bool) :=
  (Option.bind (α := Bool) (bif (decide (a0 = (ByteArray.mk #[]))) then some true else (bif (decide ((20 : Int) < (a0.size : Int))) then some true else ((bAt a0 (0 : Int)).bind fun x10 => ((r10_digit (x10.toNat : Int)).bind fun x11 => (bif x11 then some true else ((r10_Word a0).bind fun x13 => some x13)))))) fun y7 => (bif y7 then some false else (Option.bind (α := (Unit) ⊕ (Bool)) (loopM (fun (s61 : Int) => (bif (decide (s61 < (a0.size : Int))) then (Option.bind (α := Bool) ((bAt a0 s61).bind fun x97 => ((r10_letter (x97.toNat : Int)).bind fun x98 => (bif (!x98) then ((bAt a0 s61).bind fun x100 => ((r10_digit (x100.toNat : Int)).bind fun x101 => some (!x101))) else some false))) fun y96 => (bif y96 then some (.done (.inr false)) else some (.next (IntKind.i64.wrap (s61 + (1 : Int)))))) else some (.done (.inl ())))) (0 : Int)) (Sum.elim (fun y60 => some true) (fun r => some r)))))
set_option maxRecDepth 100000 in
set_option maxHeartbeats 2000000 in
theorem r10_Name_ok (a0 : ByteArray) (r : Bool) (h0 : r10_Name a0 = some r) : CallsD Try.prog 12 [.v (.string a0)] [] [] (fun d h k => d = .v (.bool r) ∧ h = [] ∧ k = []) := by
  have hm := yes_of h0
  unfold r10_Name at hm
  clear h0
  refine enterX htab Try.func12 rfl rfl rfl rfl rfl (fun C => ?_)
  refine wpD_sr ?_
  refine pu ?_
  refine ops_nt ?_
  refine wpD_seq ?_
  refine wpD_seq ?_
  obtain ⟨y7, q7, ho7⟩ := yes_bind hm
  refine wpD_mid (Y := Unit) (fun z7 => (⟨[(0, .v (.string a0)), (19, .v (.bool y7))], [], []⟩ : S)) ?_ ?_
  ·clear hm; have hm := yes_of q7
   refine wpD_region ?_
   iterate 3 refine pu ?_
   refine p_split (i := 6) rfl (fun hg8 => ?_) (fun hg8 => ?_)
   ·replace hm := yes_t hg8 hm
    iterate 3 refine pK ?_
    refine p_pickT rfl rfl rfl rfl rfl rfl ?_
    refine pu ?_
    iterate 3 refine pK ?_
    refine p_pickT rfl rfl rfl rfl rfl rfl ?_
    refine pu ?_
    refine pK ?_
    refine pK ?_
    refine p_pickT rfl rfl rfl rfl rfl rfl ?_
    refine ops_nil ?_
    have e7 := yes_eq hm; subst e7
    refine ⟨rfl, ?_⟩
    exact WkX.of () (WkS.perm (WkS.cons rfl (Wk.refl _) (WkS.cons rfl (Wk.refl _) (WkS.nil))) Pf Pf)
   ·replace hm := yes_f hg8 hm
    refine pu ?_
    refine p_lenS htab rfl rfl rfl rfl rfl rfl rfl rfl ?_
    refine pu ?_
    refine p_pickF rfl rfl rfl rfl rfl rfl ?_
    refine pu ?_
    refine p_split (i := 11) rfl (fun hg9 => ?_) (fun hg9 => ?_)
    ·replace hm := yes_t hg9 hm
     iterate 3 refine pK ?_
     refine p_pickT rfl rfl rfl rfl rfl rfl ?_
     refine pu ?_
     refine pK ?_
     refine pK ?_
     refine p_pickT rfl rfl rfl rfl rfl rfl ?_
     refine ops_nil ?_
     have e7 := yes_eq hm; subst e7
     refine ⟨rfl, ?_⟩
     exact WkX.of () (WkS.perm (WkS.cons rfl (Wk.refl _) (WkS.cons rfl (Wk.refl _) (WkS.nil))) Pf Pf)
    ·replace hm := yes_f hg9 hm
     refine pu ?_
     obtain ⟨x10, q10, hm⟩ := yes_bind hm
     refine p_byte htab rfl rfl rfl rfl rfl rfl rfl rfl (bAt_nonneg q10) (bAt_ok q10) ?_
     obtain ⟨x11, q11, hm⟩ := yes_bind hm
     refine p_call0 (r10_digit_ok (x10.toNat : Int) x11 q11) rfl rfl rfl rfl rfl Wl ?_
     rintro _ rfl
     refine p_pickF rfl rfl rfl rfl rfl rfl ?_
     refine pu ?_
     refine p_split (i := 16) rfl (fun hg12 => ?_) (fun hg12 => ?_)
     ·replace hm := yes_t hg12 hm
      refine pK ?_
      refine pK ?_
      refine p_pickT rfl rfl rfl rfl rfl rfl ?_
      refine ops_nil ?_
      have e7 := yes_eq hm; subst e7
      refine ⟨rfl, ?_⟩
      exact WkX.of () (WkS.perm (WkS.cons rfl (Wk.refl _) (WkS.cons rfl (Wk.refl _) (WkS.nil))) Pf Pf)
     ·replace hm := yes_f hg12 hm
      refine pu ?_
      obtain ⟨x13, q13, hm⟩ := yes_bind hm
      refine p_call0 (r10_Word_ok a0 x13 q13) rfl rfl rfl rfl rfl Wl ?_
      rintro _ rfl
      refine p_pickF rfl rfl rfl rfl rfl rfl ?_
      refine ops_nil ?_
      have e7 := yes_eq hm; subst e7
      refine ⟨rfl, ?_⟩
      exact WkX.of () (WkS.perm (WkS.cons rfl (Wk.refl _) (WkS.cons rfl (Wk.refl _) (WkS.nil))) Pf Pf)
  ·intro s7 hw7; clear hm; have hm := ho7; clear q7 ho7
   refine then_normal ?_
   refine wpD_wkX hw7 (fun z7 => ?_)
   refine wpD_cond rfl (fun hc15 => ?_) (fun hc15 => ?_)
   ·replace hm := yes_t hc15 hm
    refine wpD_sr ?_
    refine pu ?_
    refine ops_nt ?_
    refine wpD_ret ?_
    refine then_ret ?_
    have er16 := yes_eq hm; subst er16
    refine rP (t' := [(2, .v (.bool false))]) [] [] 0 (wC wN) (lT lN) ?_
    exact ⟨rfl, rfl, rfl⟩
   ·replace hm := yes_f hc15 hm
    refine wpD_skip ?_
    refine then_normal ?_
    refine wpD_seq ?_
    refine wpD_sr ?_
    refine pu ?_
    refine ops_nt ?_
    obtain ⟨x60, q60, ho60⟩ := yes_bind hm
    refine wpD_midX (τ := Unit) (Y := Unit) (fun y60 z60 => (⟨[], [], []⟩ : S)) x60 ?_ ?_
    ·clear hm; have hm := yes_of q60
     refine wpD_block ?_
     obtain ⟨u61, hl61, hq61⟩ := yes_m hm
     refine loop_M (Y := Unit) hl61 (fun s61 z61 => (⟨[(0, .v (.string a0)), (3, .v (.int .i64 s61))], [], []⟩ : S)) ?_ ?_
     ·skip
      exact WkX.of () (WkS.perm (WkS.cons rfl (Wk.refl _) (WkS.cons rfl (Wk.refl _) (WkS.nil))) Pf Pf)
     ·intro G61 s61 z61 hm
      refine wpD_seq ?_
      refine wpD_sr ?_
      refine pu ?_
      refine pu ?_
      refine p_lenS htab rfl rfl rfl rfl rfl rfl rfl rfl ?_
      refine pu ?_
      refine ops_nt ?_
      refine wpD_cond rfl (fun hc90 => ?_) (fun hc90 => ?_)
      ·replace hm := yes_t hc90 hm
       refine wpD_skip ?_
       refine then_normal ?_
       refine wpD_seq ?_
       refine wpD_block ?_
       refine wpD_seq ?_
       obtain ⟨y96, q96, ho96⟩ := yes_bind hm
       refine wpD_mid (Y := Unit) (fun z96 => (⟨[(0, .v (.string a0)), (3, .v (.int .i64 s61)), (37, .v (.bool y96))], [], []⟩ : S)) ?_ ?_
       ·clear hm; have hm := yes_of q96
        refine wpD_region ?_
        refine pu ?_
        refine pu ?_
        obtain ⟨x97, q97, hm⟩ := yes_bind hm
        refine p_byte htab rfl rfl rfl rfl rfl rfl rfl rfl (bAt_nonneg q97) (bAt_ok q97) ?_
        obtain ⟨x98, q98, hm⟩ := yes_bind hm
        refine p_call0 (r10_letter_ok (x97.toNat : Int) x98 q98) rfl rfl rfl rfl rfl Wl ?_
        rintro _ rfl
        refine pu ?_
        refine pu ?_
        refine p_split (i := 31) rfl (fun hg99 => ?_) (fun hg99 => ?_)
        ·replace hm := yes_t hg99 hm
         refine pu ?_
         refine pu ?_
         obtain ⟨x100, q100, hm⟩ := yes_bind hm
         refine p_byte htab rfl rfl rfl rfl rfl rfl rfl rfl (bAt_nonneg q100) (bAt_ok q100) ?_
         obtain ⟨x101, q101, hm⟩ := yes_bind hm
         refine p_call0 (r10_digit_ok (x100.toNat : Int) x101 q101) rfl rfl rfl rfl rfl Wl ?_
         rintro _ rfl
         refine pu ?_
         refine p_pickT rfl rfl rfl rfl rfl rfl ?_
         refine ops_nil ?_
         have e96 := yes_eq hm; subst e96
         refine ⟨rfl, ?_⟩
         exact WkX.of () (WkS.perm (WkS.cons rfl (Wk.refl _) (WkS.cons rfl (Wk.refl _) (WkS.cons rfl (Wk.refl _) (WkS.nil)))) Pf Pf)
        ·replace hm := yes_f hg99 hm
         iterate 5 refine pK ?_
         refine p_pickF rfl rfl rfl rfl rfl rfl ?_
         refine ops_nil ?_
         have e96 := yes_eq hm; subst e96
         refine ⟨rfl, ?_⟩
         exact WkX.of () (WkS.perm (WkS.cons rfl (Wk.refl _) (WkS.cons rfl (Wk.refl _) (WkS.cons rfl (Wk.refl _) (WkS.nil)))) Pf Pf)
       ·intro s96 hw96; clear hm; have hm := ho96; clear q96 ho96
        refine then_normal ?_
        refine wpD_wkX hw96 (fun z96 => ?_)
        refine wpD_cond rfl (fun hc102 => ?_) (fun hc102 => ?_)
        ·replace hm := yes_t hc102 hm
         refine wpD_sr ?_
         refine pu ?_
         refine ops_nt ?_
         refine wpD_ret ?_
         refine block_ret ?_
         refine then_ret ?_
         have e61 := lp_done hm; subst e61; clear hm; have hm := hq61
         refine then_ret ?_
         refine block_ret ?_
         have e60 := yes_eq hm; subst e60; refine midX_inr ?_; clear hm; have hm := ho60; simp only [Sum.elim_inr] at hm
         refine then_ret ?_
         have er103 := yes_eq hm; subst er103
         refine rP (t' := [(2, .v (.bool false))]) [] [] 0 (wC wN) (lT lN) ?_
         exact ⟨rfl, rfl, rfl⟩
        ·replace hm := yes_f hc102 hm
         refine wpD_skip ?_
         refine block_normal ?_
         refine then_normal ?_
         refine wpD_region ?_
         iterate 3 refine pu ?_
         refine ops_nil ?_
         refine then_normal ⟨_, lp_next hm, ?_⟩
         exact WkX.of () (WkS.perm (WkS.cons rfl (Wk.refl _) (WkS.cons rfl (Wk.refl _) (WkS.nil))) Pf Pf)
      ·replace hm := yes_f hc90 hm
       refine wpD_exit ?_
       refine then_exit ?_
       have e61 := lp_done hm; subst e61; clear hm; have hm := hq61
       refine then_exit ?_
       refine block_hit ?_
       have e60 := yes_eq hm; subst e60
       refine midX_inl ?_
       exact WkX.of () (WkS.perm (WkS.nil) Pf Pf)
    ·intro y60 s60 hx60 hw60; subst hx60; clear hm; have hm := ho60; simp only [Sum.elim_inl] at hm; clear q60 ho60
     refine then_normal ?_
     refine wpD_wkX hw60 (fun z60 => ?_)
     refine wpD_sr ?_
     refine pu ?_
     refine ops_nt ?_
     refine wpD_ret ?_
     have er104 := yes_eq hm; subst er104
     refine rP (t' := [(2, .v (.bool true))]) [] [] 0 (wC wN) (lT lN) ?_
     exact ⟨rfl, rfl, rfl⟩
structure TApiToken where
  gKind : Int
  gText : ByteArray
  gN : Int
  gAt : Int
def eTApiToken (x : TApiToken) : D := .agg [.v (.int .i64 x.gKind), .v (.string x.gText), .v (.int .i64 x.gN), .v (.int .i64 x.gAt)]
noncomputable def token_Join (a0 : List TApiToken) : Option (ByteArray) :=
  ((need (mkOK 16 (0 : Int) (a0.length : Int))).bind fun x1 => (Option.bind (α := List ByteArray) (loopM (fun (s24 : Int × List ByteArray) => (bif (decide (s24.1 < (a0.length : Int))) then ((idx a0 s24.1).bind fun x41 => ((app 16 s24.2 ([x41.gText] : List ByteArray)).bind fun x43 => some (.next ((IntKind.i64.wrap (s24.1 + (1 : Int))), x43)))) else some (.done s24.2))) ((0 : Int), (List.replicate (0 : Int).toNat ByteArray.empty))) fun y23 => ((need (joinOK y23 (ByteArray.mk #[32]))).bind fun x44 => some (joinB y23 (ByteArray.mk #[32])))))
set_option maxRecDepth 100000 in
set_option maxHeartbeats 2000000 in
theorem token_Join_ok (a0 : List TApiToken) (r : ByteArray) (h0 : token_Join a0 = some r) : CallsD Try.prog 10 [.lst 4 (a0.map eTApiToken) .no] [] [] (fun d h k => d = .v (.string r) ∧ h = [] ∧ k = []) := by
  have hm := yes_of h0
  unfold token_Join at hm
  clear h0
  refine enterX htab Try.func10 rfl rfl rfl rfl rfl (fun C => ?_)
  refine wpD_sr ?_
  refine pu ?_
  refine ops_n2 ?_
  refine pu ?_
  refine p_lenL htab rfl rfl rfl rfl rfl rfl rfl (by first | exact map_len | rfl) ?_
  obtain ⟨x1, q1, hm⟩ := yes_bind hm
  refine p_makeR2 (x0 := eStr ByteArray.empty) htab rfl rfl rfl rfl rfl rfl rfl rfl rfl rfl rfl rfl rfl rfl rfl (need_ok q1) (fun H => by simp [RepC, Reps, eStr]) (List.map_replicate (f := eStr)).symm (fun v1 => ?_)
  refine pu ?_
  refine ops_nt ?_
  refine wpD_seq ?_
  refine wpD_sr ?_
  refine pu ?_
  refine p_lenL htab rfl rfl rfl rfl rfl rfl rfl (by first | exact map_len | rfl) ?_
  refine pu ?_
  refine ops_nt ?_
  obtain ⟨y23, q23, ho23⟩ := yes_bind hm
  refine wpD_mid (Y := Z3) (fun z23 => (⟨[(3, .v (SL z23))], [(0, Blk.row 1 (y23.map eStr) (SL z23))], []⟩ : S)) ?_ ?_
  ·clear hm; have hm := yes_of q23
   refine wpD_block ?_
   obtain ⟨u24, hl24, hq24⟩ := yes_m hm
   refine loop_M (Y := Z3) hl24 (fun s24 z24 => (⟨[(3, .v (SL z24)), (9, .lst 4 (a0.map eTApiToken) .no), (10, .v (.int .i64 (a0.length : Int))), (11, .v (.int .i64 s24.1))], [(0, Blk.row 1 (s24.2.map eStr) (SL z24))], []⟩ : S)) ?_ ?_
   ·skip
    exact WkX.of v1 (WkS.perm (WkS.cons rfl (Wk.refl _) (WkS.cons rfl (Wk.refl _) (WkS.cons rfl (Wk.refl _) (WkS.cons rfl (Wk.refl _) (WkS.nil))))) Pf Pf)
   ·intro G24 s24 z24 hm
    refine wpD_sr ?_
    refine pu ?_
    refine ops_nt ?_
    refine wpD_seq ?_
    refine wpD_cond rfl (fun hc40 => ?_) (fun hc40 => ?_)
    ·replace hm := yes_t hc40 hm
     refine wpD_skip ?_
     refine then_normal ?_
     refine wpD_seq ?_
     refine wpD_block ?_
     refine wpD_sr ?_
     obtain ⟨x41, q41, hm⟩ := yes_bind hm
     refine p_elem htab rfl rfl rfl rfl rfl rfl rfl rfl rfl rfl (idx_nonneg q41) (idx_map q41) ?_
     refine p_loadEl (d := eTApiToken x41) htab rfl rfl rfl rfl rfl rfl rfl rfl ?_
     refine p_alloc htab rfl rfl rfl rfl rfl rfl rfl (fun b42 => ?_)
     refine pS1 (ds' := [.v (.int .i64 x41.gKind), .v (.string x41.gText), .v (.int .i64 x41.gN), .v (.int .i64 x41.gAt)]) ?_
     refine ops_nt ?_
     refine wpD_region ?_
     refine pu ?_
     refine pu ?_
     refine pL 1 ?_
     refine p_lit htab rfl rfl rfl rfl rfl rfl rfl rfl rfl rfl rfl rfl rfl rfl ?_
     refine p_eq (i := 18) (d' := .lst 1 (([x41.gText] : List ByteArray).map eStr) .full) rfl (Wk.lst0 (.cons (WkC.refl _) (.nil))) ?_
     obtain ⟨x43, q43, hm⟩ := yes_bind hm
     refine p_appR2 0 htab rfl rfl rfl rfl rfl rfl rfl rfl rfl rfl rfl rfl rfl rfl rfl rfl (app_bound q43) (app_map q43) (fun v43 => ?_)
     refine pu ?_
     refine ops_nil ?_
     refine block_normal ?_
     refine then_normal ?_
     refine wpD_region ?_
     refine pu ?_
     refine pu ?_
     refine ops_nil ?_
     refine then_normal ⟨_, lp_next hm, ?_⟩
     exact WkX.of v43 (WkS.perm (WkS.cons rfl (Wk.refl _) (WkS.cons rfl (Wk.refl _) (WkS.cons rfl (Wk.refl _) (WkS.cons rfl (Wk.refl _) (WkS.nil))))) Pf Pf)
    ·replace hm := yes_f hc40 hm
     refine wpD_exit ?_
     refine then_exit ?_
     have e24 := lp_done hm; subst e24; clear hm; have hm := hq24
     refine then_exit ?_
     refine block_hit ?_
     have e23 := yes_eq hm; subst e23
     refine ⟨rfl, ?_⟩
     exact WkX.of z24 (WkS.perm (WkS.cons rfl (Wk.refl _) (WkS.nil)) Pf Pf)
  ·intro s23 hw23; clear hm; have hm := ho23; clear q23 ho23
   refine then_normal ?_
   refine wpD_wkX hw23 (fun z23 => ?_)
   refine wpD_sr ?_
   refine pu ?_
   refine o_norm (WkS.frz 0 rfl rfl) ?_
   refine o_norm (WkS.tld 3 0 rfl rfl) ?_
   refine o_norm (WkS.tld 21 0 rfl rfl) ?_
   refine o_norm (WkS.drop 0 rfl) ?_
   obtain ⟨x44, q44, hm⟩ := yes_bind hm
   refine p_call0 (joinB_ok y23 (ByteArray.mk #[32]) (need_ok q44)) rfl rfl rfl rfl rfl (WkL.cons (Wk.no) (WkL.cons (Wk.refl _) Wl)) ?_
   rintro _ rfl
   refine pu ?_
   refine ops_nt ?_
   refine wpD_ret ?_
   have er45 := yes_eq hm; subst er45
   refine rP (t' := [(2, .v (.string (joinB y23 (ByteArray.mk #[32]))))]) [] [] 0 (wC wN) (lT lN) ?_
   exact ⟨rfl, rfl, rfl⟩
noncomputable def r10_Join (a0 : List TApiToken) : Option (ByteArray) :=
  (Option.bind (α := List UInt8) (loopM (fun (s32 : List UInt8 × Int) => (bif (decide (s32.2 < (a0.length : Int))) then (Option.bind (α := List UInt8) (bif (decide ((0 : Int) < s32.2)) then ((app 1 s32.1 ([(32 : UInt8)] : List UInt8)).bind fun x58 => some x58) else some s32.1) fun y56 => ((idx a0 s32.2).bind fun x59 => ((app 1 y56 x59.gText.data.toList).bind fun x60 => some (.next (x60, (IntKind.i64.wrap (s32.2 + (1 : Int)))))))) else some (.done s32.1))) (([] : List UInt8), (0 : Int))) fun y31 => some (ByteArray.mk y31.toArray))
set_option maxRecDepth 100000 in
set_option maxHeartbeats 2000000 in
theorem r10_Join_ok (a0 : List TApiToken) (r : ByteArray) (h0 : r10_Join a0 = some r) : CallsD Try.prog 15 [.lst 4 (a0.map eTApiToken) .no] [] [] (fun d h k => d = .v (.string r) ∧ h = [] ∧ k = []) := by
  have hm := yes_of h0
  unfold r10_Join at hm
  clear h0
  refine enterX htab Try.func15 rfl rfl rfl rfl rfl (fun C => ?_)
  refine wpD_sr ?_
  refine pu ?_
  refine ops_n2 ?_
  refine pu ?_
  refine ops_nt ?_
  refine wpD_seq ?_
  refine wpD_sr ?_
  refine pu ?_
  refine ops_nt ?_
  obtain ⟨y31, q31, ho31⟩ := yes_bind hm
  refine wpD_mid (Y := Value) (fun z31 => (⟨[(3, .lst 1 (y31.map byteD) (.cur z31))], [], [(1, z31)]⟩ : S)) ?_ ?_
  ·clear hm; have hm := yes_of q31
   refine wpD_block ?_
   obtain ⟨u32, hl32, hq32⟩ := yes_m hm
   refine loop_M (Y := Value) hl32 (fun s32 z32 => (⟨[(0, .lst 4 (a0.map eTApiToken) .no), (3, .lst 1 (s32.1.map byteD) (.cur z32)), (4, .v (.int .i64 s32.2))], [], [(1, z32)]⟩ : S)) ?_ ?_
   ·skip
    refine WkX.tokN (i := 3) 1 rfl (fun w52 => ?_)
    exact WkX.of w52 (WkS.perm (WkS.cons rfl (Wk.refl _) (WkS.cons rfl (Wk.refl _) (WkS.cons rfl (Wk.refl _) (WkS.nil)))) Pf Pf)
   ·intro G32 s32 z32 hm
    refine wpD_seq ?_
    refine wpD_sr ?_
    refine pu ?_
    refine pu ?_
    refine p_lenL htab rfl rfl rfl rfl rfl rfl rfl (by first | exact map_len | rfl) ?_
    refine pu ?_
    refine ops_nt ?_
    refine wpD_cond rfl (fun hc53 => ?_) (fun hc53 => ?_)
    ·replace hm := yes_t hc53 hm
     refine wpD_skip ?_
     refine then_normal ?_
     refine wpD_seq ?_
     refine wpD_block ?_
     refine wpD_seq ?_
     refine wpD_sr ?_
     refine pu ?_
     refine pu ?_
     refine ops_nt ?_
     obtain ⟨y56, q56, ho56⟩ := yes_bind hm
     refine wpD_mid (Y := Value) (fun z56 => (⟨[(0, .lst 4 (a0.map eTApiToken) .no), (3, .lst 1 (y56.map byteD) (.cur z56)), (4, .v (.int .i64 s32.2))], [], [(1, z56)]⟩ : S)) ?_ ?_
     ·clear hm; have hm := yes_of q56
      refine wpD_cond rfl (fun hc57 => ?_) (fun hc57 => ?_)
      ·replace hm := yes_t hc57 hm
       refine wpD_region ?_
       refine pu ?_
       refine p_lit htab rfl rfl rfl rfl rfl rfl rfl rfl rfl rfl rfl rfl rfl rfl ?_
       refine p_eq (i := 14) (d' := .lst 1 (([(32 : UInt8)] : List UInt8).map byteD) .full) rfl (Wk.lst0 (.cons (WkC.refl _) (.nil))) ?_
       obtain ⟨x58, q58, hm⟩ := yes_bind hm
       refine p_appC 0 htab rfl rfl rfl rfl rfl rfl rfl rfl rfl rfl rfl rfl rfl rfl rfl rfl rfl (app_bound q58) (fun v58 => ?_)
       refine p_mapD (i := 15) q58 rfl ?_
       refine pu ?_
       refine ops_nil ?_
       have e56 := yes_eq hm; subst e56
       refine ⟨rfl, ?_⟩
       exact WkX.of v58 (WkS.perm (WkS.cons rfl (Wk.refl _) (WkS.cons rfl (Wk.refl _) (WkS.cons rfl (Wk.refl _) (WkS.nil)))) Pf Pf)
      ·replace hm := yes_f hc57 hm
       refine wpD_skip ?_
       have e56 := yes_eq hm; subst e56
       refine ⟨rfl, ?_⟩
       exact WkX.of z32 (WkS.perm (WkS.cons rfl (Wk.refl _) (WkS.cons rfl (Wk.refl _) (WkS.cons rfl (Wk.refl _) (WkS.nil)))) Pf Pf)
     ·intro s56 hw56; clear hm; have hm := ho56; clear q56 ho56
      refine then_normal ?_
      refine wpD_wkX hw56 (fun z56 => ?_)
      refine wpD_region ?_
      iterate 3 refine pu ?_
      obtain ⟨x59, q59, hm⟩ := yes_bind hm
      refine p_elem htab rfl rfl rfl rfl rfl rfl rfl rfl rfl rfl (idx_nonneg q59) (idx_map q59) ?_
      refine pu ?_
      refine p_loadEl htab rfl rfl rfl rfl rfl rfl rfl rfl ?_
      refine p_ofStr htab rfl rfl rfl rfl rfl rfl rfl rfl rfl rfl rfl ?_
      obtain ⟨x60, q60, hm⟩ := yes_bind hm
      refine p_appC 0 htab rfl rfl rfl rfl rfl rfl rfl rfl rfl rfl rfl rfl rfl rfl rfl rfl rfl (app_bound q60) (fun v60 => ?_)
      refine p_mapD (i := 23) q60 rfl ?_
      refine pu ?_
      refine ops_nil ?_
      refine block_normal ?_
      refine then_normal ?_
      refine wpD_region ?_
      iterate 3 refine pu ?_
      refine ops_nil ?_
      refine then_normal ⟨_, lp_next hm, ?_⟩
      exact WkX.of v60 (WkS.perm (WkS.cons rfl (Wk.refl _) (WkS.cons rfl (Wk.refl _) (WkS.cons rfl (Wk.refl _) (WkS.nil)))) Pf Pf)
    ·replace hm := yes_f hc53 hm
     refine wpD_exit ?_
     refine then_exit ?_
     have e32 := lp_done hm; subst e32; clear hm; have hm := hq32
     refine then_exit ?_
     refine block_hit ?_
     have e31 := yes_eq hm; subst e31
     refine ⟨rfl, ?_⟩
     exact WkX.of z32 (WkS.perm (WkS.cons rfl (Wk.refl _) (WkS.nil)) Pf Pf)
  ·intro s31 hw31; clear hm; have hm := ho31; clear q31 ho31
   refine then_normal ?_
   refine wpD_wkX hw31 (fun z31 => ?_)
   refine wpD_sr ?_
   refine pu ?_
   refine p_toStr htab rfl rfl rfl rfl rfl rfl rfl rfl rfl rfl rfl ?_
   refine pu ?_
   refine ops_nt ?_
   refine wpD_ret ?_
   have er61 := yes_eq hm; subst er61
   refine rP (t' := [(2, .v (.string (ByteArray.mk y31.toArray)))]) [] [] 0 (wC wN) (lT lN) ?_
   exact ⟨rfl, rfl, rfl⟩
structure TTokenReader where
  gB : List UInt8
  gAt : Int
  gL : List TApiToken
abbrev nlTo2_1 : List (List Nat) := [[],[0],[0,1],[0,1,2],[],[4],[4,5],[4,5,6],[],[4,5,6,7,8],[0,1,2,3,4,5,6,7,8,9],[0,1,2,3,4,5,6,7,8,9,10],[0,1,2,3,4,5,6,7,8,9,10,11],[0,1,2,3,4,5,6,7,8,9,10,11,12],[0,1,2,3,4,5,6,7,8,9,10,11,12,13]]
noncomputable def token_reader_span (m0 : TTokenReader) (a1 : Bool) : Option (Int) :=
  (Option.bind (α := Int) (loopM (fun (s24 : Int) => (bif (decide ((IntKind.i64.wrap (m0.gAt + s24)) < (m0.gB.length : Int))) then ((idx m0.gB (IntKind.i64.wrap (m0.gAt + s24))).bind fun x40 => ((token_kind (IntKind.i32.wrap (x40.toNat : Int))).bind fun x41 => (bif (x41 != (3 : Int)) then (bif (x41 != (2 : Int)) then some (.done s24) else (bif (!a1) then some (.done s24) else some (.next (IntKind.i64.wrap (s24 + (1 : Int)))))) else some (.next (IntKind.i64.wrap (s24 + (1 : Int))))))) else some (.done s24))) (0 : Int)) fun y23 => some y23)
set_option maxRecDepth 100000 in
set_option maxHeartbeats 2000000 in
theorem token_reader_span_ok (m0 : TTokenReader) (a1 : Bool) (o0 : Nat) (T0 : TypeId) (c0_0 : Cap) (c0_2 : Cap) (r : Int) (h0 : token_reader_span m0 a1 = some r) : CallsD Try.prog 34 [.ptr o0 0, .v (.bool a1)] [(o0, Blk.cells [.lst 1 (m0.gB.map byteD) c0_0, .v (.int .i64 m0.gAt), .lst 4 (m0.gL.map eTApiToken) c0_2] T0)] [] (fun d h k => d = .v (.int .i64 r) ∧ h = [(o0, Blk.cells [.lst 1 (m0.gB.map byteD) c0_0, .v (.int .i64 m0.gAt), .lst 4 (m0.gL.map eTApiToken) c0_2] T0)] ∧ k = []) := by
  have hm := yes_of h0
  unfold token_reader_span at hm
  clear h0
  refine enterX htab Try.func34 rfl rfl rfl rfl rfl (fun C => ?_)
  refine wpD_sr ?_
  refine pu ?_
  refine ops_n2 ?_
  refine pu ?_
  refine ops_nt ?_
  refine wpD_seq ?_
  obtain ⟨y23, q23, ho23⟩ := yes_bind hm
  refine wpD_mid (Y := Unit) (fun z23 => (⟨[(5, .v (.int .i64 y23))], [(o0, Blk.cells [.lst 1 (m0.gB.map byteD) c0_0, .v (.int .i64 m0.gAt), .lst 4 (m0.gL.map eTApiToken) c0_2] T0)], []⟩ : S)) ?_ ?_
  ·clear hm; have hm := yes_of q23
   refine wpD_block ?_
   obtain ⟨u24, hl24, hq24⟩ := yes_m hm
   refine loop_M (Y := Unit) hl24 (fun s24 z24 => (⟨[(0, .ptr o0 0), (1, .v (.bool a1)), (5, .v (.int .i64 s24))], [(o0, Blk.cells [.lst 1 (m0.gB.map byteD) c0_0, .v (.int .i64 m0.gAt), .lst 4 (m0.gL.map eTApiToken) c0_2] T0)], []⟩ : S)) ?_ ?_
   ·skip
    exact WkX.of () (WkS.perm (WkS.cons rfl (Wk.refl _) (WkS.cons rfl (Wk.refl _) (WkS.cons rfl (Wk.refl _) (WkS.nil)))) Pf Pf)
   ·intro G24 s24 z24 hm
    refine wpD_seq ?_
    refine wpD_seq ?_
    refine wpD_draws 11 [] [[],[0],[0,1],[0,1,2],[],[0,1,2],[],[6],[6,7],[6,7,8],[6,7,8,9]] [0,1,2,6,7,8,9] [[],[0],[0,1],[0,1,2],[],[0,1,2,3,4],[],[6],[6,7],[6,7,8],[6,7,8,9],[0,1,2,3,4,5,6,7,8,9,10]] (by kernel_rfl) (by kernel_rfl) (by kernel_rfl) (by rfl) (by rfl) (by kernel_rfl) ?_
    iterate 7 apply Exists.intro
    intro bs
    iterate 3 refine zep ?_
    refine z_qM rfl rfl (xm_load 0 htab rfl rfl rfl rfl rfl) rfl rfl rfl rfl rfl rfl ?_
    refine zqp ?_
    refine zqp ?_
    iterate 3 refine zep ?_
    refine z_eM rfl rfl (xm_load 0 htab rfl rfl rfl rfl rfl) rfl rfl rfl rfl rfl rfl ?_
    refine z_q rfl rfl (x_lenL htab rfl rfl rfl rfl (by first | exact map_len | rfl)) rfl rfl rfl rfl rfl rfl ?_
    refine z_nil rfl rfl (fun e he => by simp [isAl] at he) ?_
    refine pu ?_
    refine ops_nt ?_
    refine wpD_cond rfl (fun hc39 => ?_) (fun hc39 => ?_)
    ·replace hm := yes_t hc39 hm
     refine wpD_skip ?_
     refine then_normal ?_
     refine wpD_block ?_
     refine wpD_seq ?_
     refine wpD_draws 10 [] [[],[0],[0,1],[0,1,2],[],[4],[4,5],[4,5,6],[],[4,5,6]] [0,1,2,3,4,5,6] nlTo2_1 (by kernel_rfl) (by kernel_rfl) (by kernel_rfl) (by rfl) (by rfl) (by kernel_rfl) ?_
     iterate 7 apply Exists.intro
     intro bs
     iterate 3 refine zep ?_
     refine z_eM rfl rfl (xm_load 0 htab rfl rfl rfl rfl rfl) rfl rfl rfl rfl rfl rfl ?_
     iterate 3 refine zep ?_
     refine z_qM rfl rfl (xm_load 0 htab rfl rfl rfl rfl rfl) rfl rfl rfl rfl rfl rfl ?_
     refine zqp ?_
     refine zqp ?_
     refine z_nil rfl rfl (fun e he => by simp [isAl] at he) ?_
     obtain ⟨x40, q40, hm⟩ := yes_bind hm
     refine p_elem htab rfl rfl rfl rfl rfl rfl rfl rfl rfl rfl (idx_nonneg q40) (idx_map q40) ?_
     refine p_loadEl htab rfl rfl rfl rfl rfl rfl rfl rfl ?_
     refine pu ?_
     obtain ⟨x41, q41, hm⟩ := yes_bind hm
     refine p_call0 (token_kind_ok (IntKind.i32.wrap (x40.toNat : Int)) x41 q41) rfl rfl rfl rfl rfl Wl ?_
     rintro _ rfl
     refine pu ?_
     refine ops_nt ?_
     refine wpD_seq ?_
     refine wpD_sr ?_
     iterate 3 refine pu ?_
     refine p_split (i := 35) rfl (fun hg42 => ?_) (fun hg42 => ?_)
     ·replace hm := yes_t hg42 hm
      iterate 3 refine pu ?_
      refine p_split (i := 38) rfl (fun hg43 => ?_) (fun hg43 => ?_)
      ·replace hm := yes_t hg43 hm
       refine pK ?_
       refine pK ?_
       refine p_pickT rfl rfl rfl rfl rfl rfl ?_
       refine p_pickT rfl rfl rfl rfl rfl rfl ?_
       refine ops_nt ?_
       refine wpD_true rfl ?_
       refine wpD_exit ?_
       refine then_exit ?_
       refine block_miss rfl ?_
       have e24 := lp_done hm; subst e24; clear hm; have hm := hq24
       refine then_exit ?_
       refine block_hit ?_
       have e23 := yes_eq hm; subst e23
       refine ⟨rfl, ?_⟩
       exact WkX.of () (WkS.perm (WkS.cons rfl (Wk.refl _) (WkS.nil)) Pf Pf)
      ·replace hm := yes_f hg43 hm
       refine pu ?_
       refine pu ?_
       refine p_pickF rfl rfl rfl rfl rfl rfl ?_
       refine p_pickT rfl rfl rfl rfl rfl rfl ?_
       refine ops_nt ?_
       refine wpD_cond rfl (fun hc44 => ?_) (fun hc44 => ?_)
       ·replace hm := yes_t hc44 hm
        refine wpD_exit ?_
        refine then_exit ?_
        refine block_miss rfl ?_
        have e24 := lp_done hm; subst e24; clear hm; have hm := hq24
        refine then_exit ?_
        refine block_hit ?_
        have e23 := yes_eq hm; subst e23
        refine ⟨rfl, ?_⟩
        exact WkX.of () (WkS.perm (WkS.cons rfl (Wk.refl _) (WkS.nil)) Pf Pf)
       ·replace hm := yes_f hc44 hm
        refine wpD_skip ?_
        refine then_normal ?_
        refine wpD_region ?_
        iterate 3 refine pu ?_
        refine ops_nil ?_
        refine block_normal ?_
        refine then_normal ⟨_, lp_next hm, ?_⟩
        exact WkX.of () (WkS.perm (WkS.cons rfl (Wk.refl _) (WkS.cons rfl (Wk.refl _) (WkS.cons rfl (Wk.refl _) (WkS.nil)))) Pf Pf)
     ·replace hm := yes_f hg42 hm
      iterate 6 refine pK ?_
      refine p_pickF rfl rfl rfl rfl rfl rfl ?_
      refine ops_nt ?_
      refine wpD_false rfl ?_
      refine wpD_skip ?_
      refine then_normal ?_
      refine wpD_region ?_
      iterate 3 refine pu ?_
      refine ops_nil ?_
      refine block_normal ?_
      refine then_normal ⟨_, lp_next hm, ?_⟩
      exact WkX.of () (WkS.perm (WkS.cons rfl (Wk.refl _) (WkS.cons rfl (Wk.refl _) (WkS.cons rfl (Wk.refl _) (WkS.nil)))) Pf Pf)
    ·replace hm := yes_f hc39 hm
     refine wpD_exit ?_
     refine then_exit ?_
     have e24 := lp_done hm; subst e24; clear hm; have hm := hq24
     refine then_exit ?_
     refine block_hit ?_
     have e23 := yes_eq hm; subst e23
     refine ⟨rfl, ?_⟩
     exact WkX.of () (WkS.perm (WkS.cons rfl (Wk.refl _) (WkS.nil)) Pf Pf)
  ·intro s23 hw23; clear hm; have hm := ho23; clear q23 ho23
   refine then_normal ?_
   refine wpD_wkX hw23 (fun z23 => ?_)
   refine wpD_sr ?_
   refine pu ?_
   refine pu ?_
   refine ops_nt ?_
   refine wpD_ret ?_
   have er45 := yes_eq hm; subst er45
   refine rP (t' := [(4, .v (.int .i64 y23))]) [0] [] 1 (wC wN) (lT lN) ?_
   exact ⟨rfl, rfl, rfl⟩
abbrev nlTo2_2 : List (List Nat) := [[],[],[1],[1,2],[1,2,3],[],[],[6],[6,7],[6,7,8],[],[10],[10,11],[10,11,12],[],[14],[14,15],[14,15,16],[],[14,15,16,17],[6,7,8,9,10,11,12,13,14,15,16,17],[6,7,8,9,10,11,12,13,14,15,16,17,20],[],[],[23],[23,24],[23,24,25],[6,7,8,9,10,11,12,13,14,15,16,17,20,21,23,24,25,26],[6,7,8,9,10,11,12,13,14,15,16,17,20,21,23,24,25,26,27],[1,2,3,4,6,7,8,9,10,11,12,13,14,15,16,17,20,21,23,24,25,26,27,28]]
abbrev nlTo2_3 : List (List Nat) := [[],[],[1],[1,2],[1,2,3],[],[],[6],[6,7],[6,7,8],[],[10],[10,11],[10,11,12],[],[14],[14,15],[14,15,16],[],[14,15,16,17,18],[6,7,8,9,10,11,12,13,14,15,16,17,18,19],[6,7,8,9,10,11,12,13,14,15,16,17,18,19,20],[],[],[23],[23,24],[23,24,25],[5,6,7,8,9,10,11,12,13,14,15,16,17,18,19,20,21,22,23,24,25,26],[5,6,7,8,9,10,11,12,13,14,15,16,17,18,19,20,21,22,23,24,25,26,27],[1,2,3,4,5,6,7,8,9,10,11,12,13,14,15,16,17,18,19,20,21,22,23,24,25,26,27,28],[0,1,2,3,4,5,6,7,8,9,10,11,12,13,14,15,16,17,18,19,20,21,22,23,24,25,26,27,28,29],[0,1,2,3,4,5,6,7,8,9,10,11,12,13,14,15,16,17,18,19,20,21,22,23,24,25,26,27,28,29,30],[0,1,2,3,4,5,6,7,8,9,10,11,12,13,14,15,16,17,18,19,20,21,22,23,24,25,26,27,28,29,30,31]]
noncomputable def token_reader_add (m0 : TTokenReader) (a1 : Int) (a2 : Int) (a3 : Int) : Option (Int × TTokenReader) :=
  (bif (decide ((4000 : Int) ≤ (m0.gL.length : Int))) then some ((6 : Int), m0) else ((cutL m0.gB m0.gAt (IntKind.i64.wrap (m0.gAt + a2))).bind fun x4 => ((app 40 m0.gL ([(⟨a1, (ByteArray.mk x4.toArray), a3, m0.gAt⟩ : TApiToken)] : List TApiToken)).bind fun x5 => some ((0 : Int), (⟨m0.gB, (IntKind.i64.wrap (m0.gAt + a2)), x5⟩ : TTokenReader)))))
set_option maxRecDepth 100000 in
set_option maxHeartbeats 2000000 in
theorem token_reader_add_ok (m0 : TTokenReader) (a1 : Int) (a2 : Int) (a3 : Int) (o0 : Nat) (T0 : TypeId) (c0_0 : Cap) (k0_2 : Value) (r : Int × TTokenReader) (h0 : token_reader_add m0 a1 a2 a3 = some r) : CallsD Try.prog 28 [.ptr o0 0, .v (.int .i64 a1), .v (.int .i64 a2), .v (.int .i64 a3)] [(o0, Blk.cells [.lst 1 (m0.gB.map byteD) c0_0, .v (.int .i64 m0.gAt), .lst 4 (m0.gL.map eTApiToken) (.cur k0_2)] T0)] [(4, k0_2)] (fun d h k => ∃ y0, d = .v (.int .i64 r.1) ∧ h = [(o0, Blk.cells [.lst 1 (r.2.gB.map byteD) c0_0, .v (.int .i64 r.2.gAt), .lst 4 (r.2.gL.map eTApiToken) (.cur y0)] T0)] ∧ k = [(4, y0)]) := by
  have hm := yes_of h0
  unfold token_reader_add at hm
  clear h0
  refine enterX htab Try.func28 rfl rfl rfl rfl rfl (fun C => ?_)
  refine wpD_sr ?_
  refine pu ?_
  refine ops_nt ?_
  refine wpD_seq ?_
  refine wpD_sr ?_
  iterate 3 refine pu ?_
  refine pL 0 ?_
  refine p_lenL htab rfl rfl rfl rfl rfl rfl rfl (by first | exact map_len | rfl) ?_
  refine pu ?_
  refine ops_nt ?_
  refine wpD_cond rfl (fun hc2 => ?_) (fun hc2 => ?_)
  ·replace hm := yes_t hc2 hm
   refine wpD_sr ?_
   refine pu ?_
   refine ops_nt ?_
   refine wpD_ret ?_
   refine then_ret ?_
   have er3 := yes_eq hm; subst er3
   refine rP (t' := [(8, .v (.int .i64 (6 : Int)))]) [0] [0] 1 (wC wN) (lT lN) ?_
   exact ⟨k0_2, rfl, rfl, rfl⟩
  ·replace hm := yes_f hc2 hm
   refine wpD_skip ?_
   refine then_normal ?_
   refine wpD_seq ?_
   obtain ⟨x4, q4, hm⟩ := yes_bind hm
   obtain ⟨x5, q5, hm⟩ := yes_bind hm
   refine wpD_app 30 [] nlTo2_2 [0,1,2,3,4,6,7,8,9,10,11,12,13,14,15,16,17,20,21,23,24,25,26,27,28,29] nlTo2_3 29 4 0 (by kernel_rfl) (by kernel_rfl) (by kernel_rfl) (by rfl) (by rfl) (by kernel_rfl) rfl ?_
   iterate 26 apply Exists.intro
   refine ⟨.any, ?_⟩
   intro bs v5
   iterate 4 refine zh_e rfl rfl (ex_pure htab rfl) rfl rfl rfl rfl rfl rfl rfl rfl ?_
   refine zh_M rfl rfl (fun _ => xm_load 0 htab rfl rfl rfl rfl rfl) (offB rfl) rfl rfl rfl rfl rfl rfl rfl rfl ?_
   refine zh_q rfl rfl (ex_pure htab rfl) rfl rfl rfl rfl rfl rfl ?_
   iterate 3 refine zh_e rfl rfl (ex_pure htab rfl) rfl rfl rfl rfl rfl rfl rfl rfl ?_
   refine zh_M rfl rfl (fun _ => xm_load 0 htab rfl rfl rfl rfl rfl) (offB rfl) rfl rfl rfl rfl rfl rfl rfl rfl ?_
   iterate 3 refine zh_e rfl rfl (ex_pure htab rfl) rfl rfl rfl rfl rfl rfl rfl rfl ?_
   refine zh_M rfl rfl (fun _ => xm_load 0 htab rfl rfl rfl rfl rfl) (offB rfl) rfl rfl rfl rfl rfl rfl rfl rfl ?_
   iterate 3 refine zh_e rfl rfl (ex_pure htab rfl) rfl rfl rfl rfl rfl rfl rfl rfl ?_
   refine zh_M rfl rfl (fun _ => xm_load 0 htab rfl rfl rfl rfl rfl) (offB rfl) rfl rfl rfl rfl rfl rfl rfl rfl ?_
   refine zh_q rfl rfl (ex_pure htab rfl) rfl rfl rfl rfl rfl rfl ?_
   refine zh_q rfl rfl (ex_pure htab rfl) rfl rfl rfl rfl rfl rfl ?_
   refine zh_e rfl rfl (x_cut q4 htab rfl rfl rfl rfl rfl rfl rfl rfl rfl rfl) rfl rfl rfl rfl rfl rfl rfl rfl ?_
   refine zh_E rfl rfl (x_toStr htab rfl rfl rfl rfl rfl rfl rfl rfl) rfl rfl rfl rfl rfl rfl rfl rfl ?_
   refine zh_q rfl rfl (ex_pure htab rfl) rfl rfl rfl rfl rfl rfl ?_
   iterate 3 refine zh_e rfl rfl (ex_pure htab rfl) rfl rfl rfl rfl rfl rfl rfl rfl ?_
   refine zh_M rfl rfl (fun _ => xm_load 0 htab rfl rfl rfl rfl rfl) (offB rfl) rfl rfl rfl rfl rfl rfl rfl rfl ?_
   refine zh_e rfl rfl (x_build (r := [.v (.int .i64 a1), .v (.string (ByteArray.mk x4.toArray)), .v (.int .i64 a3), .v (.int .i64 m0.gAt)]) htab rfl rfl rfl rfl rfl rfl) rfl rfl rfl rfl rfl rfl rfl rfl ?_
   refine zh_E rfl rfl (ExE.wk (x_lit htab rfl rfl rfl rfl rfl rfl rfl rfl rfl rfl rfl) (show Wk _ (.lst 4 (([(⟨a1, (ByteArray.mk x4.toArray), a3, m0.gAt⟩ : TApiToken)] : List TApiToken).map eTApiToken) .full) from Wk.lst0 (.cons (WkC.refl _) (.nil)))) rfl rfl rfl rfl rfl rfl rfl rfl ?_
   refine zh_app htab rfl rfl rfl rfl rfl rfl rfl rfl (rep_of rfl) rfl (app_kC rfl) (perm_at (j := 0) rfl) rfl rfl rfl rfl rfl rfl rfl rfl rfl (app_bound q5) (app_map q5) ?_
   refine zh_nil rfl rfl rfl rfl (fun e he => by simp [isAl] at he) ?_
   refine pu ?_
   refine pu ?_
   refine pS0 (ds' := [.lst 1 (m0.gB.map byteD) c0_0, .v (.int .i64 m0.gAt), .lst 4 (x5.map eTApiToken) (.cur v5)]) ?_
   refine ops_n2 ?_
   iterate 3 refine pu ?_
   refine pL 0 ?_
   iterate 4 refine pu ?_
   refine pS0 (ds' := [.lst 1 (m0.gB.map byteD) c0_0, .v (.int .i64 (IntKind.i64.wrap (m0.gAt + a2))), .lst 4 (x5.map eTApiToken) (.cur v5)]) ?_
   refine ops_n2 ?_
   refine pu ?_
   refine ops_nt ?_
   refine wpD_ret ?_
   have er6 := yes_eq hm; subst er6
   refine rP (t' := [(8, .v (.int .i64 (0 : Int)))]) [0] [0] 1 (wC wN) (lT lN) ?_
   exact ⟨v5, rfl, rfl, rfl⟩
abbrev nlTo2_4 : List (List Nat) := [[],[0],[0,1],[0,1,2],[],[4],[4,5],[4,5,6],[],[8],[8,9],[8,9,10],[],[8,9,10,11,12],[0,1,2,3,4,5,6,7,8,9,10,11,12,13],[0,1,2,3,4,5,6,7,8,9,10,11,12,13,14],[0,1,2,3,4,5,6,7,8,9,10,11,12,13,14,15]]
noncomputable def token_reader_name (m0 : TTokenReader) : Option (Int × TTokenReader) :=
  ((token_reader_span m0 true).bind fun x1 => ((cutL m0.gB m0.gAt (IntKind.i64.wrap (m0.gAt + x1))).bind fun x2 => (bif (decide ((20 : Int) < x1)) then some ((6 : Int), m0) else ((token_Word (ByteArray.mk x2.toArray)).bind fun x15 => (bif x15 then ((token_reader_add m0 (3 : Int) x1 (0 : Int)).bind fun x21 => some (x21.1, x21.2)) else ((token_reader_add m0 (1 : Int) x1 (0 : Int)).bind fun x24 => some (x24.1, x24.2)))))))
set_option maxRecDepth 100000 in
set_option maxHeartbeats 2000000 in
theorem token_reader_name_ok (m0 : TTokenReader) (o0 : Nat) (T0 : TypeId) (c0_0 : Cap) (k0_2 : Value) (r : Int × TTokenReader) (h0 : token_reader_name m0 = some r) : CallsD Try.prog 25 [.ptr o0 0] [(o0, Blk.cells [.lst 1 (m0.gB.map byteD) c0_0, .v (.int .i64 m0.gAt), .lst 4 (m0.gL.map eTApiToken) (.cur k0_2)] T0)] [(4, k0_2)] (fun d h k => ∃ y0, d = .v (.int .i64 r.1) ∧ h = [(o0, Blk.cells [.lst 1 (r.2.gB.map byteD) c0_0, .v (.int .i64 r.2.gAt), .lst 4 (r.2.gL.map eTApiToken) (.cur y0)] T0)] ∧ k = [(4, y0)]) := by
  have hm := yes_of h0
  unfold token_reader_name at hm
  clear h0
  refine enterX htab Try.func25 rfl rfl rfl rfl rfl (fun C => ?_)
  refine wpD_sr ?_
  refine pu ?_
  refine ops_n2 ?_
  refine pu ?_
  obtain ⟨x1, q1, hm⟩ := yes_bind hm
  refine pG (token_reader_span_ok m0 true o0 T0 c0_0 (.cur k0_2) x1 q1) Wl Pf Pf ?_
  rintro _ _ _ ⟨rfl, rfl, rfl⟩
  refine pu ?_
  refine ops_nt ?_
  refine wpD_seq ?_
  refine wpD_draws 14 [] [[],[0],[0,1],[0,1,2],[],[4],[4,5],[4,5,6],[],[8],[8,9],[8,9,10],[],[8,9,10]] [0,1,2,3,4,5,6,8,9,10] nlTo2_4 (by kernel_rfl) (by kernel_rfl) (by kernel_rfl) (by rfl) (by rfl) (by kernel_rfl) ?_
  iterate 10 apply Exists.intro
  intro bs
  iterate 3 refine zep ?_
  refine z_eM rfl rfl (xm_load 0 htab rfl rfl rfl rfl rfl) rfl rfl rfl rfl rfl rfl ?_
  iterate 3 refine zep ?_
  refine z_qM rfl rfl (xm_load 0 htab rfl rfl rfl rfl rfl) rfl rfl rfl rfl rfl rfl ?_
  iterate 3 refine zep ?_
  refine z_qM rfl rfl (xm_load 0 htab rfl rfl rfl rfl rfl) rfl rfl rfl rfl rfl rfl ?_
  refine zqp ?_
  refine zqp ?_
  refine z_nil rfl rfl (fun e he => by simp [isAl] at he) ?_
  obtain ⟨x2, q2, hm⟩ := yes_bind hm
  refine p_cut q2 htab rfl rfl rfl rfl rfl rfl rfl rfl rfl rfl rfl rfl rfl ?_
  refine p_toStr htab rfl rfl rfl rfl rfl rfl rfl rfl rfl rfl rfl ?_
  refine pu ?_
  refine ops_nt ?_
  refine wpD_seq ?_
  refine wpD_block ?_
  refine wpD_sr ?_
  iterate 3 refine pu ?_
  refine ops_nt ?_
  refine wpD_cond rfl (fun hc13 => ?_) (fun hc13 => ?_)
  ·replace hm := yes_t hc13 hm
   refine wpD_sr ?_
   refine pu ?_
   refine ops_nt ?_
   refine wpD_ret ?_
   refine block_ret ?_
   refine then_ret ?_
   have er14 := yes_eq hm; subst er14
   refine rP (t' := [(2, .v (.int .i64 (6 : Int)))]) [0] [0] 1 (wC wN) (lT lN) ?_
   exact ⟨k0_2, rfl, rfl, rfl⟩
  ·replace hm := yes_f hc13 hm
   refine wpD_sr ?_
   refine pu ?_
   obtain ⟨x15, q15, hm⟩ := yes_bind hm
   refine p_call0 (token_Word_ok (ByteArray.mk x2.toArray) x15 q15) rfl rfl rfl rfl rfl Wl ?_
   rintro _ rfl
   refine pu ?_
   refine ops_nt ?_
   refine wpD_cond rfl (fun hc19 => ?_) (fun hc19 => ?_)
   ·replace hm := yes_t hc19 hm
    refine wpD_sr ?_
    refine pu ?_
    refine pu ?_
    obtain ⟨x21, q21, hm⟩ := yes_bind hm
    refine pG (token_reader_add_ok m0 (3 : Int) x1 (0 : Int) o0 T0 c0_0 k0_2 x21 q21) Wl Pf Pf ?_
    rintro _ _ _ ⟨w20, rfl, rfl, rfl⟩
    refine pu ?_
    refine ops_nt ?_
    refine wpD_ret ?_
    refine block_ret ?_
    refine then_ret ?_
    have er22 := yes_eq hm; subst er22
    refine rP (t' := [(2, .v (.int .i64 x21.1))]) [0] [0] 1 (wC wN) (lT lN) ?_
    exact ⟨w20, rfl, rfl, rfl⟩
   ·replace hm := yes_f hc19 hm
    refine wpD_skip ?_
    refine block_normal ?_
    refine then_normal ?_
    refine wpD_sr ?_
    refine pu ?_
    refine pu ?_
    obtain ⟨x24, q24, hm⟩ := yes_bind hm
    refine pG (token_reader_add_ok m0 (1 : Int) x1 (0 : Int) o0 T0 c0_0 k0_2 x24 q24) Wl Pf Pf ?_
    rintro _ _ _ ⟨w23, rfl, rfl, rfl⟩
    refine pu ?_
    refine ops_nt ?_
    refine wpD_ret ?_
    have er25 := yes_eq hm; subst er25
    refine rP (t' := [(2, .v (.int .i64 x24.1))]) [0] [0] 1 (wC wN) (lT lN) ?_
    exact ⟨w23, rfl, rfl, rfl⟩
abbrev nlTo2_5 : List (List Nat) := [[],[0],[],[0,1,2],[0,1,2,3],[0,1,2,3,4],[0,1,2,3,4,5],[0,1,2,3,4,5,6],[0,1,2,3,4,5,6,7],[0,1,2,3,4],[0,1,2,3,4,9],[0,1,2,3,4,9,10],[0,1,2,3,4,9,10,11],[0,1,2,3,4,5,6,7,8,9,10,11,12],[0,1,2,3,4,5,6,7,8,9,10,11,12,13],[0,1,2,3,4,5,6,7,8,9,10,11,12,13,14],[0,1,2,3,4,5,6,7,8,9,10,11,12,13,14,15],[0,1,2,3,4,5,6,7,8,9,10,11,12,13,14,15,16],[0,1,2,3,4,5,6,7,8,9,10,11,12,13,14,15,16,17],[0,1,2,3,4,5,6,7,8,9,10,11,12,13,14,15,16,17,18],[0,1,2,3,4,5,6,7,8,9,10,11,12,13,14,15,16,17,18,19]]
noncomputable def token_reader_number (m0 : TTokenReader) : Option (Int × TTokenReader) :=
  (bif (decide ((4000 : Int) ≤ (m0.gL.length : Int))) then some ((6 : Int), m0) else ((token_reader_span m0 false).bind fun x4 => (Option.bind (α := Bool) ((token_reader_span m0 true).bind fun x10 => (bif (decide (x4 < x10)) then some true else ((idx m0.gB m0.gAt).bind fun x12 => (bif ((x12.toNat : Int) == (48 : Int)) then some (decide ((1 : Int) < x4)) else some false)))) fun y9 => (bif y9 then some ((3 : Int), m0) else ((cutL m0.gB m0.gAt (IntKind.i64.wrap (m0.gAt + x4))).bind fun x17 => (Option.bind (α := (Int) ⊕ (Int × TTokenReader)) (loopM (fun (s33 : Int × Int) => (bif (decide (s33.2 < (x17.length : Int))) then ((idx x17 s33.2).bind fun x43 => (bif (decide ((IntKind.u64.wrap ((IntKind.u64.wrap ((9223372036854775807 : Int) - (IntKind.u64.wrap (IntKind.u8.wrap ((x43.toNat : Int) - (48 : Int)))))).tdiv (10 : Int))) < s33.1)) then some (.done (.inr ((4 : Int), m0))) else some (.next ((IntKind.u64.wrap ((IntKind.u64.wrap ((10 : Int) * s33.1)) + (IntKind.u64.wrap (IntKind.u8.wrap ((x43.toNat : Int) - (48 : Int)))))), (IntKind.i64.wrap (s33.2 + (1 : Int))))))) else some (.done (.inl s33.1)))) ((0 : Int), (0 : Int))) (Sum.elim (fun y32 => ((token_reader_add m0 (2 : Int) x4 (IntKind.i64.wrap y32)).bind fun x47 => some (x47.1, x47.2))) (fun r => some r))))))))
set_option maxRecDepth 100000 in
set_option maxHeartbeats 2000000 in
theorem token_reader_number_ok (m0 : TTokenReader) (o0 : Nat) (T0 : TypeId) (c0_0 : Cap) (k0_2 : Value) (r : Int × TTokenReader) (h0 : token_reader_number m0 = some r) : CallsD Try.prog 26 [.ptr o0 0] [(o0, Blk.cells [.lst 1 (m0.gB.map byteD) c0_0, .v (.int .i64 m0.gAt), .lst 4 (m0.gL.map eTApiToken) (.cur k0_2)] T0)] [(4, k0_2)] (fun d h k => ∃ y0, d = .v (.int .i64 r.1) ∧ h = [(o0, Blk.cells [.lst 1 (r.2.gB.map byteD) c0_0, .v (.int .i64 r.2.gAt), .lst 4 (r.2.gL.map eTApiToken) (.cur y0)] T0)] ∧ k = [(4, y0)]) := by
  have hm := yes_of h0
  unfold token_reader_number at hm
  clear h0
  refine enterX htab Try.func26 rfl rfl rfl rfl rfl (fun C => ?_)
  refine wpD_sr ?_
  refine pu ?_
  refine ops_nt ?_
  refine wpD_seq ?_
  refine wpD_sr ?_
  iterate 3 refine pu ?_
  refine pL 0 ?_
  refine p_lenL htab rfl rfl rfl rfl rfl rfl rfl (by first | exact map_len | rfl) ?_
  refine pu ?_
  refine ops_nt ?_
  refine wpD_cond rfl (fun hc2 => ?_) (fun hc2 => ?_)
  ·replace hm := yes_t hc2 hm
   refine wpD_sr ?_
   refine pu ?_
   refine ops_nt ?_
   refine wpD_ret ?_
   refine then_ret ?_
   have er3 := yes_eq hm; subst er3
   refine rP (t' := [(2, .v (.int .i64 (6 : Int)))]) [0] [0] 1 (wC wN) (lT lN) ?_
   exact ⟨k0_2, rfl, rfl, rfl⟩
  ·replace hm := yes_f hc2 hm
   refine wpD_skip ?_
   refine then_normal ?_
   refine wpD_sr ?_
   refine pu ?_
   obtain ⟨x4, q4, hm⟩ := yes_bind hm
   refine pG (token_reader_span_ok m0 false o0 T0 c0_0 (.cur k0_2) x4 q4) Wl Pf Pf ?_
   rintro _ _ _ ⟨rfl, rfl, rfl⟩
   refine pu ?_
   refine ops_nt ?_
   refine wpD_seq ?_
   refine wpD_seq ?_
   obtain ⟨y9, q9, ho9⟩ := yes_bind hm
   refine wpD_mid (Y := Unit) (fun z9 => (⟨[(0, .ptr o0 0), (3, .v (.int .i64 x4)), (36, .v (.bool y9))], [(o0, Blk.cells [.lst 1 (m0.gB.map byteD) c0_0, .v (.int .i64 m0.gAt), .lst 4 (m0.gL.map eTApiToken) (.cur k0_2)] T0)], [(4, k0_2)]⟩ : S)) ?_ ?_
   ·clear hm; have hm := yes_of q9
    obtain ⟨x10, q10, hm⟩ := yes_bind hm
    refine bycB (decide (x4 < x10)) (fun hs11 => ?_) (fun hs11 => ?_)
    ·replace hm := yes_t hs11 hm
     refine wpD_draws 13 [] [[],[0],[],[0,1],[0,1],[0,1],[0,1],[0,1],[0,1],[0,1],[0,1],[0,1],[0,1]] [0,1] nlTo2_5 (by kernel_rfl) (by kernel_rfl) (by kernel_rfl) (by rfl) (by rfl) (by kernel_rfl) ?_
     apply Exists.intro
     apply Exists.intro
     intro bs
     refine zep ?_
     refine z_callB 0 rfl rfl (token_reader_span_ok m0 true o0 T0 c0_0 (.cur k0_2) x10 q10) rfl rfl Wl rfl rfl rfl rfl rfl rfl rfl ?_
     iterate 3 refine zqp ?_
     refine z_known (j := 20) (b' := true) rfl hs11 ?_
     iterate 8 refine zK ?_
     refine z_nil rfl rfl (fun e he => by simp [isAl] at he) ?_
     iterate 7 refine pK ?_
     refine p_pickT rfl rfl rfl rfl rfl rfl ?_
     refine ops_nil ?_
     have e9 := yes_eq hm; subst e9
     refine ⟨rfl, ?_⟩
     exact WkX.of () (WkS.perm (WkS.cons rfl (Wk.refl _) (WkS.cons rfl (Wk.refl _) (WkS.cons rfl (Wk.refl _) (WkS.nil)))) Pf Pf)
    ·replace hm := yes_f hs11 hm
     refine wpD_draws 13 [] [[],[0],[],[0,1],[0,1],[0,1],[0,1,5],[0,1,5,6],[0,1,5,6,7],[0,1],[0,1,9],[0,1,9,10],[0,1,9,10,11]] [0,1,5,6,7,8,9,10,11] nlTo2_5 (by kernel_rfl) (by kernel_rfl) (by kernel_rfl) (by rfl) (by rfl) (by kernel_rfl) ?_
     iterate 9 apply Exists.intro
     intro bs
     refine zep ?_
     refine z_callB 0 rfl rfl (token_reader_span_ok m0 true o0 T0 c0_0 (.cur k0_2) x10 q10) rfl rfl Wl rfl rfl rfl rfl rfl rfl rfl ?_
     iterate 3 refine zqp ?_
     refine z_known (j := 20) (b' := false) rfl hs11 ?_
     iterate 3 refine zep ?_
     refine z_eM rfl rfl (xm_load 0 htab rfl rfl rfl rfl rfl) rfl rfl rfl rfl rfl rfl ?_
     iterate 3 refine zep ?_
     refine z_qM rfl rfl (xm_load 0 htab rfl rfl rfl rfl rfl) rfl rfl rfl rfl rfl rfl ?_
     refine z_nil rfl rfl (fun e he => by simp [isAl] at he) ?_
     obtain ⟨x12, q12, hm⟩ := yes_bind hm
     refine p_elem htab rfl rfl rfl rfl rfl rfl rfl rfl rfl rfl (idx_nonneg q12) (idx_map q12) ?_
     refine p_loadEl htab rfl rfl rfl rfl rfl rfl rfl rfl ?_
     refine pu ?_
     refine pu ?_
     refine p_split (i := 32) rfl (fun hg13 => ?_) (fun hg13 => ?_)
     ·replace hm := yes_t hg13 hm
      refine pu ?_
      refine pu ?_
      refine p_pickT rfl rfl rfl rfl rfl rfl ?_
      refine p_pickF rfl rfl rfl rfl rfl rfl ?_
      refine ops_nil ?_
      have e9 := yes_eq hm; subst e9
      refine ⟨rfl, ?_⟩
      exact WkX.of () (WkS.perm (WkS.cons rfl (Wk.refl _) (WkS.cons rfl (Wk.refl _) (WkS.cons rfl (Wk.refl _) (WkS.nil)))) Pf Pf)
     ·replace hm := yes_f hg13 hm
      refine pK ?_
      refine pK ?_
      refine p_pickF rfl rfl rfl rfl rfl rfl ?_
      refine p_pickF rfl rfl rfl rfl rfl rfl ?_
      refine ops_nil ?_
      have e9 := yes_eq hm; subst e9
      refine ⟨rfl, ?_⟩
      exact WkX.of () (WkS.perm (WkS.cons rfl (Wk.refl _) (WkS.cons rfl (Wk.refl _) (WkS.cons rfl (Wk.refl _) (WkS.nil)))) Pf Pf)
   ·intro s9 hw9; clear hm; have hm := ho9; clear q9 ho9
    refine then_normal ?_
    refine wpD_wkX hw9 (fun z9 => ?_)
    refine wpD_cond rfl (fun hc15 => ?_) (fun hc15 => ?_)
    ·replace hm := yes_t hc15 hm
     refine wpD_sr ?_
     refine pu ?_
     refine ops_nt ?_
     refine wpD_ret ?_
     refine then_ret ?_
     have er16 := yes_eq hm; subst er16
     refine rP (t' := [(2, .v (.int .i64 (3 : Int)))]) [0] [0] 1 (wC wN) (lT lN) ?_
     exact ⟨k0_2, rfl, rfl, rfl⟩
    ·replace hm := yes_f hc15 hm
     refine wpD_skip ?_
     refine then_normal ?_
     refine wpD_sr ?_
     refine pu ?_
     refine ops_nt ?_
     refine wpD_seq ?_
     refine wpD_seq ?_
     obtain ⟨x17, q17, hm⟩ := yes_bind hm
     refine wpD_draws 17 [] [[],[0],[0,1],[0,1,2],[],[4],[4,5],[4,5,6],[],[8],[8,9],[8,9,10],[],[8,9,10],[0,1,2,3,4,5,6,8,9,10],[0,1,2,3,4,5,6,8,9,10,14],[]] [0,1,2,3,4,5,6,8,9,10,14] [[],[0],[0,1],[0,1,2],[],[4],[4,5],[4,5,6],[],[8],[8,9],[8,9,10],[],[8,9,10,11,12],[0,1,2,3,4,5,6,7,8,9,10,11,12,13],[0,1,2,3,4,5,6,7,8,9,10,11,12,13,14],[]] (by kernel_rfl) (by kernel_rfl) (by kernel_rfl) (by rfl) (by rfl) (by kernel_rfl) ?_
     iterate 11 apply Exists.intro
     intro bs
     iterate 3 refine zep ?_
     refine z_eM rfl rfl (xm_load 0 htab rfl rfl rfl rfl rfl) rfl rfl rfl rfl rfl rfl ?_
     iterate 3 refine zep ?_
     refine z_qM rfl rfl (xm_load 0 htab rfl rfl rfl rfl rfl) rfl rfl rfl rfl rfl rfl ?_
     iterate 3 refine zep ?_
     refine z_qM rfl rfl (xm_load 0 htab rfl rfl rfl rfl rfl) rfl rfl rfl rfl rfl rfl ?_
     refine zqp ?_
     refine zqp ?_
     refine z_e rfl rfl (x_cut q17 htab rfl rfl rfl rfl rfl rfl rfl rfl rfl rfl) rfl rfl rfl rfl rfl rfl ?_
     refine z_q rfl rfl (x_lenL htab rfl rfl rfl rfl (by first | exact map_len | rfl)) rfl rfl rfl rfl rfl rfl ?_
     refine zqp ?_
     refine z_nil rfl rfl (fun e he => by simp [isAl] at he) ?_
     refine ops_nt ?_
     obtain ⟨x32, q32, ho32⟩ := yes_bind hm
     refine wpD_midX (τ := Int) (Y := Unit) (fun y32 z32 => (⟨[(0, .ptr o0 0), (3, .v (.int .i64 x4)), (4, .v (.int .u64 y32))], [(o0, Blk.cells [.lst 1 (m0.gB.map byteD) c0_0, .v (.int .i64 m0.gAt), .lst 4 (m0.gL.map eTApiToken) (.cur k0_2)] T0)], [(4, k0_2)]⟩ : S)) x32 ?_ ?_
     ·clear hm; have hm := yes_of q32
      refine wpD_block ?_
      obtain ⟨u33, hl33, hq33⟩ := yes_m hm
      refine loop_M (Y := Unit) hl33 (fun s33 z33 => (⟨[(0, .ptr o0 0), (3, .v (.int .i64 x4)), (4, .v (.int .u64 s33.1)), (51, .lst 1 (x17.map byteD) .no), (52, .v (.int .i64 (x17.length : Int))), (53, .v (.int .i64 s33.2))], [(o0, Blk.cells [.lst 1 (m0.gB.map byteD) c0_0, .v (.int .i64 m0.gAt), .lst 4 (m0.gL.map eTApiToken) (.cur k0_2)] T0)], [(4, k0_2)]⟩ : S)) ?_ ?_
      ·skip
       exact WkX.of () (WkS.perm (WkS.cons rfl (Wk.refl _) (WkS.cons rfl (Wk.refl _) (WkS.cons rfl (Wk.refl _) (WkS.cons rfl (Wk.refl _) (WkS.cons rfl (Wk.refl _) (WkS.cons rfl (Wk.refl _) (WkS.nil))))))) Pf Pf)
      ·intro G33 s33 z33 hm
       refine wpD_sr ?_
       refine pu ?_
       refine ops_nt ?_
       refine wpD_seq ?_
       refine wpD_cond rfl (fun hc42 => ?_) (fun hc42 => ?_)
       ·replace hm := yes_t hc42 hm
        refine wpD_skip ?_
        refine then_normal ?_
        refine wpD_seq ?_
        refine wpD_block ?_
        refine wpD_sr ?_
        obtain ⟨x43, q43, hm⟩ := yes_bind hm
        refine p_elem htab rfl rfl rfl rfl rfl rfl rfl rfl rfl rfl (idx_nonneg q43) (idx_map q43) ?_
        refine p_loadEl htab rfl rfl rfl rfl rfl rfl rfl rfl ?_
        refine pu ?_
        refine ops_n2 ?_
        iterate 4 refine pu ?_
        refine ops_nt ?_
        refine wpD_seq ?_
        refine wpD_sr ?_
        iterate 3 refine pu ?_
        refine p_div rfl rfl rfl rfl rfl rfl rfl (by decide) ?_
        refine pu ?_
        refine ops_nt ?_
        refine wpD_cond rfl (fun hc44 => ?_) (fun hc44 => ?_)
        ·replace hm := yes_t hc44 hm
         refine wpD_sr ?_
         refine pu ?_
         refine ops_nt ?_
         refine wpD_ret ?_
         refine then_ret ?_
         refine block_ret ?_
         refine then_ret ?_
         have e33 := lp_done hm; subst e33; clear hm; have hm := hq33
         refine then_ret ?_
         refine block_ret ?_
         have e32 := yes_eq hm; subst e32; refine midX_inr ?_; clear hm; have hm := ho32; simp only [Sum.elim_inr] at hm
         refine then_ret ?_
         have er45 := yes_eq hm; subst er45
         refine rP (t' := [(2, .v (.int .i64 (4 : Int)))]) [0] [0] 1 (wC wN) (lT lN) ?_
         exact ⟨k0_2, rfl, rfl, rfl⟩
        ·replace hm := yes_f hc44 hm
         refine wpD_skip ?_
         refine then_normal ?_
         refine wpD_region ?_
         iterate 5 refine pu ?_
         refine ops_nil ?_
         refine block_normal ?_
         refine then_normal ?_
         refine wpD_region ?_
         refine pu ?_
         refine pu ?_
         refine ops_nil ?_
         refine then_normal ⟨_, lp_next hm, ?_⟩
         exact WkX.of () (WkS.perm (WkS.cons rfl (Wk.refl _) (WkS.cons rfl (Wk.refl _) (WkS.cons rfl (Wk.refl _) (WkS.cons rfl (Wk.refl _) (WkS.cons rfl (Wk.refl _) (WkS.cons rfl (Wk.refl _) (WkS.nil))))))) Pf Pf)
       ·replace hm := yes_f hc42 hm
        refine wpD_exit ?_
        refine then_exit ?_
        have e33 := lp_done hm; subst e33; clear hm; have hm := hq33
        refine then_exit ?_
        refine block_hit ?_
        have e32 := yes_eq hm; subst e32
        refine midX_inl ?_
        exact WkX.of () (WkS.perm (WkS.cons rfl (Wk.refl _) (WkS.cons rfl (Wk.refl _) (WkS.cons rfl (Wk.refl _) (WkS.nil)))) Pf Pf)
     ·intro y32 s32 hx32 hw32; subst hx32; clear hm; have hm := ho32; simp only [Sum.elim_inl] at hm; clear q32 ho32
      refine then_normal ?_
      refine wpD_wkX hw32 (fun z32 => ?_)
      refine wpD_sr ?_
      iterate 4 refine pu ?_
      obtain ⟨x47, q47, hm⟩ := yes_bind hm
      refine pG (token_reader_add_ok m0 (2 : Int) x4 (IntKind.i64.wrap y32) o0 T0 c0_0 k0_2 x47 q47) Wl Pf Pf ?_
      rintro _ _ _ ⟨w46, rfl, rfl, rfl⟩
      refine pu ?_
      refine ops_nt ?_
      refine wpD_ret ?_
      have er48 := yes_eq hm; subst er48
      refine rP (t' := [(2, .v (.int .i64 x47.1))]) [0] [0] 1 (wC wN) (lT lN) ?_
      exact ⟨w46, rfl, rfl, rfl⟩
noncomputable def token_reader_sign (m0 : TTokenReader) : Option (Int) :=
  ((cutL m0.gB m0.gAt ((m0.gB).length : Int)).bind fun x1 => (Option.bind (α := Bool) (bif (decide ((1 : Int) < (x1.length : Int))) then ((cutL x1 (0 : Int) (2 : Int)).bind fun x7 => ((slices_Contains_string_string ([(ByteArray.mk #[61, 61]), (ByteArray.mk #[33, 61]), (ByteArray.mk #[60, 61]), (ByteArray.mk #[38, 38]), (ByteArray.mk #[124, 124])] : List ByteArray) (ByteArray.mk x7.toArray)).bind fun x8 => some x8)) else some false) fun y5 => (bif y5 then some (2 : Int) else ((idx x1 (0 : Int)).bind fun x12 => (bif (decide ((0 : Int) ≤ (indexB (ByteArray.mk #[40, 41, 123, 125, 91, 93, 59, 44, 61, 60, 43, 45, 42, 47, 37, 33, 38]) (x12.toNat : Int)))) then some (1 : Int) else some (0 : Int))))))
set_option maxRecDepth 100000 in
set_option maxHeartbeats 2000000 in
theorem token_reader_sign_ok (m0 : TTokenReader) (o0 : Nat) (T0 : TypeId) (c0_0 : Cap) (c0_2 : Cap) (r : Int) (h0 : token_reader_sign m0 = some r) : CallsD Try.prog 27 [.ptr o0 0] [(o0, Blk.cells [.lst 1 (m0.gB.map byteD) c0_0, .v (.int .i64 m0.gAt), .lst 4 (m0.gL.map eTApiToken) c0_2] T0)] [] (fun d h k => d = .v (.int .i64 r) ∧ h = [(o0, Blk.cells [.lst 1 (m0.gB.map byteD) c0_0, .v (.int .i64 m0.gAt), .lst 4 (m0.gL.map eTApiToken) c0_2] T0)] ∧ k = []) := by
  have hm := yes_of h0
  unfold token_reader_sign at hm
  clear h0
  refine enterX htab Try.func27 rfl rfl rfl rfl rfl (fun C => ?_)
  refine wpD_sr ?_
  refine pu ?_
  refine ops_nt ?_
  refine wpD_seq ?_
  refine wpD_draws 8 [] [[],[0],[0,1],[0,1,2],[],[4],[4,5],[4,5,6]] [0,1,2,3,4,5,6] [[],[0],[0,1],[0,1,2],[],[4],[4,5],[4,5,6],[0,1,2,3,4,5,6,7],[0,1,2,3,4,5,6,7,8]] (by kernel_rfl) (by kernel_rfl) (by kernel_rfl) (by rfl) (by rfl) (by kernel_rfl) ?_
  iterate 7 apply Exists.intro
  intro bs
  iterate 3 refine zep ?_
  refine z_eM rfl rfl (xm_load 0 htab rfl rfl rfl rfl rfl) rfl rfl rfl rfl rfl rfl ?_
  iterate 3 refine zep ?_
  refine z_qM rfl rfl (xm_load 0 htab rfl rfl rfl rfl rfl) rfl rfl rfl rfl rfl rfl ?_
  refine z_nil rfl rfl (fun e he => by simp [isAl] at he) ?_
  obtain ⟨x1, q1, hm⟩ := yes_bind hm
  refine p_cut q1 htab rfl rfl rfl rfl rfl rfl rfl rfl rfl rfl rfl rfl rfl ?_
  refine pu ?_
  refine ops_nt ?_
  refine wpD_seq ?_
  refine wpD_seq ?_
  obtain ⟨y5, q5, ho5⟩ := yes_bind hm
  refine wpD_mid (Y := Unit) (fun z5 => (⟨[(3, .lst 1 (x1.map byteD) .no), (22, .v (.bool y5))], [(o0, Blk.cells [.lst 1 (m0.gB.map byteD) c0_0, .v (.int .i64 m0.gAt), .lst 4 (m0.gL.map eTApiToken) c0_2] T0)], []⟩ : S)) ?_ ?_
  ·clear hm; have hm := yes_of q5
   refine wpD_region ?_
   refine pu ?_
   refine p_lenL htab rfl rfl rfl rfl rfl rfl rfl (by first | exact map_len | rfl) ?_
   refine pu ?_
   refine pu ?_
   refine p_split (i := 16) rfl (fun hg6 => ?_) (fun hg6 => ?_)
   ·replace hm := yes_t hg6 hm
    refine p_lit htab rfl rfl rfl rfl rfl rfl rfl rfl rfl rfl rfl rfl rfl rfl ?_
    refine p_eq (i := 17) (d' := .lst 1 (([(ByteArray.mk #[61, 61]), (ByteArray.mk #[33, 61]), (ByteArray.mk #[60, 61]), (ByteArray.mk #[38, 38]), (ByteArray.mk #[124, 124])] : List ByteArray).map eStr) .full) rfl (Wk.lst0 (.cons (WkC.refl _) (.cons (WkC.refl _) (.cons (WkC.refl _) (.cons (WkC.refl _) (.cons (WkC.refl _) (.nil))))))) ?_
    refine pu ?_
    obtain ⟨x7, q7, hm⟩ := yes_bind hm
    refine p_cut q7 htab rfl rfl rfl rfl rfl rfl rfl rfl rfl rfl rfl rfl rfl ?_
    refine p_toStr htab rfl rfl rfl rfl rfl rfl rfl rfl rfl rfl rfl ?_
    obtain ⟨x8, q8, hm⟩ := yes_bind hm
    refine p_call0 (slices_Contains_string_string_ok ([(ByteArray.mk #[61, 61]), (ByteArray.mk #[33, 61]), (ByteArray.mk #[60, 61]), (ByteArray.mk #[38, 38]), (ByteArray.mk #[124, 124])] : List ByteArray) (ByteArray.mk x7.toArray) x8 q8) rfl rfl rfl rfl rfl (WkL.cons (Wk.no) (WkL.cons (Wk.refl _) Wl)) ?_
    rintro _ rfl
    refine p_pickT rfl rfl rfl rfl rfl rfl ?_
    refine ops_nil ?_
    have e5 := yes_eq hm; subst e5
    refine ⟨rfl, ?_⟩
    exact WkX.of () (WkS.perm (WkS.cons rfl (Wk.refl _) (WkS.cons rfl (Wk.refl _) (WkS.nil))) Pf Pf)
   ·replace hm := yes_f hg6 hm
    iterate 5 refine pK ?_
    refine p_pickF rfl rfl rfl rfl rfl rfl ?_
    refine ops_nil ?_
    have e5 := yes_eq hm; subst e5
    refine ⟨rfl, ?_⟩
    exact WkX.of () (WkS.perm (WkS.cons rfl (Wk.refl _) (WkS.cons rfl (Wk.refl _) (WkS.nil))) Pf Pf)
  ·intro s5 hw5; clear hm; have hm := ho5; clear q5 ho5
   refine then_normal ?_
   refine wpD_wkX hw5 (fun z5 => ?_)
   refine wpD_cond rfl (fun hc10 => ?_) (fun hc10 => ?_)
   ·replace hm := yes_t hc10 hm
    refine wpD_sr ?_
    refine pu ?_
    refine ops_nt ?_
    refine wpD_ret ?_
    refine then_ret ?_
    have er11 := yes_eq hm; subst er11
    refine rP (t' := [(2, .v (.int .i64 (2 : Int)))]) [0] [] 1 (wC wN) (lT lN) ?_
    exact ⟨rfl, rfl, rfl⟩
   ·replace hm := yes_f hc10 hm
    refine wpD_skip ?_
    refine then_normal ?_
    refine wpD_seq ?_
    refine wpD_sr ?_
    refine pu ?_
    obtain ⟨x12, q12, hm⟩ := yes_bind hm
    refine p_elem htab rfl rfl rfl rfl rfl rfl rfl rfl rfl rfl (idx_nonneg q12) (idx_map q12) ?_
    refine p_loadEl htab rfl rfl rfl rfl rfl rfl rfl rfl ?_
    refine p_call0 (indexB_ok (ByteArray.mk #[40, 41, 123, 125, 91, 93, 59, 44, 61, 60, 43, 45, 42, 47, 37, 33, 38]) (x12.toNat : Int)) rfl rfl rfl rfl rfl Wl ?_
    rintro _ rfl
    refine pu ?_
    refine ops_nt ?_
    refine wpD_cond rfl (fun hc13 => ?_) (fun hc13 => ?_)
    ·replace hm := yes_t hc13 hm
     refine wpD_sr ?_
     refine pu ?_
     refine ops_nt ?_
     refine wpD_ret ?_
     refine then_ret ?_
     have er14 := yes_eq hm; subst er14
     refine rP (t' := [(2, .v (.int .i64 (1 : Int)))]) [0] [] 1 (wC wN) (lT lN) ?_
     exact ⟨rfl, rfl, rfl⟩
    ·replace hm := yes_f hc13 hm
     refine wpD_skip ?_
     refine then_normal ?_
     refine wpD_sr ?_
     refine pu ?_
     refine ops_nt ?_
     refine wpD_ret ?_
     have er15 := yes_eq hm; subst er15
     refine rP (t' := [(2, .v (.int .i64 (0 : Int)))]) [0] [] 1 (wC wN) (lT lN) ?_
     exact ⟨rfl, rfl, rfl⟩
noncomputable def token_reader_next (m0 : TTokenReader) : Option (Int × TTokenReader) :=
  ((idx m0.gB m0.gAt).bind fun x1 => ((token_kind (IntKind.i32.wrap (x1.toNat : Int))).bind fun x2 => (bif (x2 == (1 : Int)) then some ((0 : Int), (⟨m0.gB, (IntKind.i64.wrap (m0.gAt + (1 : Int))), m0.gL⟩ : TTokenReader)) else (bif (x2 == (2 : Int)) then ((token_reader_name m0).bind fun x27 => some (x27.1, x27.2)) else (bif (x2 == (3 : Int)) then ((token_reader_number m0).bind fun x34 => some (x34.1, x34.2)) else ((token_reader_sign m0).bind fun x36 => (bif (x36 == (0 : Int)) then some ((3 : Int), m0) else ((token_reader_add m0 (3 : Int) x36 (0 : Int)).bind fun x41 => some (x41.1, x41.2)))))))))
set_option maxRecDepth 100000 in
set_option maxHeartbeats 2000000 in
theorem token_reader_next_ok (m0 : TTokenReader) (o0 : Nat) (T0 : TypeId) (c0_0 : Cap) (k0_2 : Value) (r : Int × TTokenReader) (h0 : token_reader_next m0 = some r) : CallsD Try.prog 16 [.ptr o0 0] [(o0, Blk.cells [.lst 1 (m0.gB.map byteD) c0_0, .v (.int .i64 m0.gAt), .lst 4 (m0.gL.map eTApiToken) (.cur k0_2)] T0)] [(4, k0_2)] (fun d h k => ∃ y0, d = .v (.int .i64 r.1) ∧ h = [(o0, Blk.cells [.lst 1 (r.2.gB.map byteD) c0_0, .v (.int .i64 r.2.gAt), .lst 4 (r.2.gL.map eTApiToken) (.cur y0)] T0)] ∧ k = [(4, y0)]) := by
  have hm := yes_of h0
  unfold token_reader_next at hm
  clear h0
  refine enterX htab Try.func16 rfl rfl rfl rfl rfl (fun C => ?_)
  refine wpD_sr ?_
  refine pu ?_
  refine ops_nt ?_
  refine wpD_seq ?_
  refine wpD_seq ?_
  refine wpD_draws 8 [] [[],[0],[0,1],[0,1,2],[],[4],[4,5],[4,5,6]] [0,1,2,3,4,5,6] [[],[0],[0,1],[0,1,2],[],[4],[4,5],[4,5,6],[0,1,2,3,4,5,6,7],[0,1,2,3,4,5,6,7,8],[0,1,2,3,4,5,6,7,8,9],[0,1,2,3,4,5,6,7,8,9,10]] (by kernel_rfl) (by kernel_rfl) (by kernel_rfl) (by rfl) (by rfl) (by kernel_rfl) ?_
  iterate 7 apply Exists.intro
  intro bs
  iterate 3 refine zep ?_
  refine z_eM rfl rfl (xm_load 0 htab rfl rfl rfl rfl rfl) rfl rfl rfl rfl rfl rfl ?_
  iterate 3 refine zep ?_
  refine z_qM rfl rfl (xm_load 0 htab rfl rfl rfl rfl rfl) rfl rfl rfl rfl rfl rfl ?_
  refine z_nil rfl rfl (fun e he => by simp [isAl] at he) ?_
  obtain ⟨x1, q1, hm⟩ := yes_bind hm
  refine p_elem htab rfl rfl rfl rfl rfl rfl rfl rfl rfl rfl (idx_nonneg q1) (idx_map q1) ?_
  refine p_loadEl htab rfl rfl rfl rfl rfl rfl rfl rfl ?_
  refine pu ?_
  obtain ⟨x2, q2, hm⟩ := yes_bind hm
  refine p_call0 (token_kind_ok (IntKind.i32.wrap (x1.toNat : Int)) x2 q2) rfl rfl rfl rfl rfl Wl ?_
  rintro _ rfl
  refine ops_nt ?_
  refine wpD_block ?_
  refine wpD_sr ?_
  refine pu ?_
  refine pu ?_
  refine ops_nt ?_
  refine wpD_cond rfl (fun hc17 => ?_) (fun hc17 => ?_)
  ·replace hm := yes_t hc17 hm
   refine wpD_sr ?_
   iterate 3 refine pu ?_
   refine pL 0 ?_
   iterate 3 refine pu ?_
   refine pS0 (ds' := [.lst 1 (m0.gB.map byteD) c0_0, .v (.int .i64 (IntKind.i64.wrap (m0.gAt + (1 : Int)))), .lst 4 (m0.gL.map eTApiToken) (.cur k0_2)]) ?_
   refine ops_n2 ?_
   refine pu ?_
   refine ops_nt ?_
   refine wpD_ret ?_
   refine block_ret ?_
   refine then_ret ?_
   have er18 := yes_eq hm; subst er18
   refine rP (t' := [(2, .v (.int .i64 (0 : Int)))]) [0] [0] 1 (wC wN) (lT lN) ?_
   exact ⟨k0_2, rfl, rfl, rfl⟩
  ·replace hm := yes_f hc17 hm
   refine wpD_sr ?_
   refine pu ?_
   refine pu ?_
   refine ops_nt ?_
   refine wpD_cond rfl (fun hc25 => ?_) (fun hc25 => ?_)
   ·replace hm := yes_t hc25 hm
    refine wpD_sr ?_
    refine pu ?_
    obtain ⟨x27, q27, hm⟩ := yes_bind hm
    refine pG (token_reader_name_ok m0 o0 T0 c0_0 k0_2 x27 q27) Wl Pf Pf ?_
    rintro _ _ _ ⟨w26, rfl, rfl, rfl⟩
    refine pu ?_
    refine ops_nt ?_
    refine wpD_ret ?_
    refine block_ret ?_
    refine then_ret ?_
    have er28 := yes_eq hm; subst er28
    refine rP (t' := [(2, .v (.int .i64 x27.1))]) [0] [0] 1 (wC wN) (lT lN) ?_
    exact ⟨w26, rfl, rfl, rfl⟩
   ·replace hm := yes_f hc25 hm
    refine wpD_sr ?_
    refine pu ?_
    refine pu ?_
    refine ops_nt ?_
    refine wpD_cond rfl (fun hc32 => ?_) (fun hc32 => ?_)
    ·replace hm := yes_t hc32 hm
     refine wpD_sr ?_
     refine pu ?_
     obtain ⟨x34, q34, hm⟩ := yes_bind hm
     refine pG (token_reader_number_ok m0 o0 T0 c0_0 k0_2 x34 q34) Wl Pf Pf ?_
     rintro _ _ _ ⟨w33, rfl, rfl, rfl⟩
     refine pu ?_
     refine ops_nt ?_
     refine wpD_ret ?_
     refine block_ret ?_
     refine then_ret ?_
     have er35 := yes_eq hm; subst er35
     refine rP (t' := [(2, .v (.int .i64 x34.1))]) [0] [0] 1 (wC wN) (lT lN) ?_
     exact ⟨w33, rfl, rfl, rfl⟩
    ·replace hm := yes_f hc32 hm
     refine wpD_skip ?_
     refine block_normal ?_
     refine then_normal ?_
     refine wpD_sr ?_
     refine pu ?_
     obtain ⟨x36, q36, hm⟩ := yes_bind hm
     refine pG (token_reader_sign_ok m0 o0 T0 c0_0 (.cur k0_2) x36 q36) Wl Pf Pf ?_
     rintro _ _ _ ⟨rfl, rfl, rfl⟩
     refine pu ?_
     refine ops_nt ?_
     refine wpD_seq ?_
     refine wpD_sr ?_
     refine pu ?_
     refine pu ?_
     refine ops_nt ?_
     refine wpD_cond rfl (fun hc38 => ?_) (fun hc38 => ?_)
     ·replace hm := yes_t hc38 hm
      refine wpD_sr ?_
      refine pu ?_
      refine ops_nt ?_
      refine wpD_ret ?_
      refine then_ret ?_
      have er39 := yes_eq hm; subst er39
      refine rP (t' := [(2, .v (.int .i64 (3 : Int)))]) [0] [0] 1 (wC wN) (lT lN) ?_
      exact ⟨k0_2, rfl, rfl, rfl⟩
     ·replace hm := yes_f hc38 hm
      refine wpD_skip ?_
      refine then_normal ?_
      refine wpD_sr ?_
      refine pu ?_
      refine pu ?_
      obtain ⟨x41, q41, hm⟩ := yes_bind hm
      refine pG (token_reader_add_ok m0 (3 : Int) x36 (0 : Int) o0 T0 c0_0 k0_2 x41 q41) Wl Pf Pf ?_
      rintro _ _ _ ⟨w40, rfl, rfl, rfl⟩
      refine pu ?_
      refine ops_nt ?_
      refine wpD_ret ?_
      have er42 := yes_eq hm; subst er42
      refine rP (t' := [(2, .v (.int .i64 x41.1))]) [0] [0] 1 (wC wN) (lT lN) ?_
      exact ⟨w40, rfl, rfl, rfl⟩
noncomputable def token_Read (a0 : List UInt8) : Option (List TApiToken × Int × Int) :=
  (bif (decide ((20000 : Int) < (a0.length : Int))) then some (([] : List TApiToken), (0 : Int), (6 : Int)) else (Option.bind (α := (List UInt8 × Int × List TApiToken) ⊕ (List TApiToken × Int × Int)) (loopM (fun (s25 : List UInt8 × Int × List TApiToken) => (bif (decide (s25.2.1 < (a0.length : Int))) then ((token_reader_next (⟨s25.1, s25.2.1, s25.2.2⟩ : TTokenReader)).bind fun x40 => (bif (x40.1 != (0 : Int)) then some (.done (.inr (([] : List TApiToken), x40.2.gAt, x40.1))) else some (.next (x40.2.gB, x40.2.gAt, x40.2.gL)))) else some (.done (.inl (s25.1, s25.2.1, s25.2.2))))) (a0, (0 : Int), ([] : List TApiToken))) (Sum.elim (fun y24 => ((app 40 y24.2.2 ([(⟨(0 : Int), ByteArray.empty, (0 : Int), (a0.length : Int)⟩ : TApiToken)] : List TApiToken)).bind fun x44 => some (x44, (0 : Int), (0 : Int)))) (fun r => some r))))
set_option maxRecDepth 100000 in
set_option maxHeartbeats 2000000 in
theorem token_Read_ok (a0 : List UInt8) (r : List TApiToken × Int × Int) (h0 : token_Read a0 = some r) : CallsD Try.prog 6 [.lst 1 (a0.map byteD) .no] [] [] (fun d h k => ∃ y0, d = .tup [.lst 4 (r.1.map eTApiToken) (.cur y0), .v (.int .i64 r.2.1), .v (.int .i64 r.2.2)] ∧ h = [] ∧ k = [(4, y0)]) := by
  have hm := yes_of h0
  unfold token_Read at hm
  clear h0
  refine enterX htab Try.func6 rfl rfl rfl rfl rfl (fun C => ?_)
  refine wpD_sr ?_
  iterate 3 refine pu ?_
  refine ops_nt ?_
  refine wpD_seq ?_
  refine wpD_sr ?_
  refine pu ?_
  refine p_lenL htab rfl rfl rfl rfl rfl rfl rfl (by first | exact map_len | rfl) ?_
  refine pu ?_
  refine ops_nt ?_
  refine wpD_cond rfl (fun hc2 => ?_) (fun hc2 => ?_)
  ·replace hm := yes_t hc2 hm
   refine wpD_sr ?_
   iterate 3 refine pu ?_
   refine ops_nt ?_
   refine wpD_ret ?_
   refine then_ret ?_
   have er3 := yes_eq hm; subst er3
   refine retX.tokN (i := 2) 4 rfl (fun w4 => ?_)
   refine rP (t' := [(2, .lst 4 (([] : List TApiToken).map eTApiToken) (.cur w4)), (3, .v (.int .i64 (0 : Int))), (4, .v (.int .i64 (6 : Int)))]) [] [0] 0 (wC (wC (wC wN))) (lT (lT (lT lN))) ?_
   exact ⟨w4, rfl, rfl, rfl⟩
  ·replace hm := yes_f hc2 hm
   refine wpD_skip ?_
   refine then_normal ?_
   refine wpD_sr ?_
   refine pu ?_
   refine p_build (r := [.lst 1 (a0.map byteD) .no, .v (.int .i64 (0 : Int)), .lst 1 [] .full]) htab rfl rfl rfl rfl rfl rfl rfl rfl rfl ?_
   refine p_box rfl rfl rfl rfl rfl rfl rfl (fun b5 => ?_)
   refine pu ?_
   refine ops_nt ?_
   refine wpD_seq ?_
   obtain ⟨x24, q24, ho24⟩ := yes_bind hm
   refine wpD_midX (τ := List UInt8 × Int × List TApiToken) (Y := Value) (fun y24 z24 => (⟨[(0, .lst 1 (a0.map byteD) .no), (5, .ptr b5 0)], [(b5, Blk.cells [.lst 1 (y24.1.map byteD) .no, .v (.int .i64 y24.2.1), .lst 4 (y24.2.2.map eTApiToken) (.cur z24)] 37)], [(4, z24)]⟩ : S)) x24 ?_ ?_
   ·clear hm; have hm := yes_of q24
    refine wpD_block ?_
    obtain ⟨u25, hl25, hq25⟩ := yes_m hm
    refine loop_M (Y := Value) hl25 (fun s25 z25 => (⟨[(0, .lst 1 (a0.map byteD) .no), (5, .ptr b5 0)], [(b5, Blk.cells [.lst 1 (s25.1.map byteD) .no, .v (.int .i64 s25.2.1), .lst 4 (s25.2.2.map eTApiToken) (.cur z25)] 37)], [(4, z25)]⟩ : S)) ?_ ?_
    ·skip
     refine WkX.cellF (off := 2) 4 0 rfl rfl (by first | exact Or.inl rfl | exact Or.inr rfl) (fun w37 => ?_)
     exact WkX.of w37 (WkS.perm (WkS.cons rfl (Wk.refl _) (WkS.cons rfl (Wk.refl _) (WkS.nil))) Pf Pf)
    ·intro G25 s25 z25 hm
     refine wpD_seq ?_
     refine wpD_sr ?_
     iterate 3 refine pu ?_
     refine pL 0 ?_
     refine pu ?_
     refine p_lenL htab rfl rfl rfl rfl rfl rfl rfl (by first | exact map_len | rfl) ?_
     refine pu ?_
     refine ops_nt ?_
     refine wpD_cond rfl (fun hc38 => ?_) (fun hc38 => ?_)
     ·replace hm := yes_t hc38 hm
      refine wpD_skip ?_
      refine then_normal ?_
      refine wpD_block ?_
      refine wpD_sr ?_
      refine pu ?_
      obtain ⟨x40, q40, hm⟩ := yes_bind hm
      refine pG (token_reader_next_ok (⟨s25.1, s25.2.1, s25.2.2⟩ : TTokenReader) b5 37 .no z25 x40 q40) Wl Pf Pf ?_
      rintro _ _ _ ⟨w39, rfl, rfl, rfl⟩
      refine pu ?_
      refine ops_n2 ?_
      refine pu ?_
      refine pu ?_
      refine ops_nt ?_
      refine wpD_cond rfl (fun hc41 => ?_) (fun hc41 => ?_)
      ·replace hm := yes_t hc41 hm
       refine wpD_seq ?_
       refine wpD_draws 7 [] [[],[0],[0,1],[0,1,2],[],[],[0,1,2,5]] [0,1,2,5] [[],[0],[0,1],[0,1,2],[],[],[0,1,2,3,5],[0,1,2,3,4,5,6]] (by kernel_rfl) (by kernel_rfl) (by kernel_rfl) (by rfl) (by rfl) (by kernel_rfl) ?_
       iterate 4 apply Exists.intro
       intro bs
       iterate 3 refine zep ?_
       refine z_qM rfl rfl (xm_load 0 htab rfl rfl rfl rfl rfl) rfl rfl rfl rfl rfl rfl ?_
       refine zqp ?_
       refine zep ?_
       refine zqp ?_
       refine z_nil rfl rfl (fun e he => by simp [isAl] at he) ?_
       refine pu ?_
       refine ops_nt ?_
       refine wpD_ret ?_
       refine block_ret ?_
       have e25 := lp_done hm; subst e25; clear hm; have hm := hq25
       refine then_ret ?_
       refine block_ret ?_
       have e24 := yes_eq hm; subst e24; refine midX_inr ?_; clear hm; have hm := ho24; simp only [Sum.elim_inr] at hm
       refine then_ret ?_
       have er42 := yes_eq hm; subst er42
       refine retX.tokN (i := 2) 4 rfl (fun w43 => ?_)
       refine rP (t' := [(2, .lst 4 (([] : List TApiToken).map eTApiToken) (.cur w43)), (3, .v (.int .i64 x40.2.gAt)), (4, .v (.int .i64 x40.1))]) [] [0] 0 (wC (wC (wC wN))) (lT (lT (lT lN))) ?_
       exact ⟨w43, rfl, rfl, rfl⟩
      ·replace hm := yes_f hc41 hm
       refine wpD_skip ?_
       refine block_normal ?_
       refine then_normal ⟨_, lp_next hm, ?_⟩
       exact WkX.of w39 (WkS.perm (WkS.cons rfl (Wk.refl _) (WkS.cons rfl (Wk.refl _) (WkS.nil))) Pf Pf)
     ·replace hm := yes_f hc38 hm
      refine wpD_exit ?_
      refine then_exit ?_
      have e25 := lp_done hm; subst e25; clear hm; have hm := hq25
      refine then_exit ?_
      refine block_hit ?_
      have e24 := yes_eq hm; subst e24
      refine midX_inl ?_
      exact WkX.of z25 (WkS.perm (WkS.cons rfl (Wk.refl _) (WkS.cons rfl (Wk.refl _) (WkS.nil))) Pf Pf)
   ·intro y24 s24 hx24 hw24; subst hx24; clear hm; have hm := ho24; simp only [Sum.elim_inl] at hm; clear q24 ho24
    refine then_normal ?_
    refine wpD_wkX hw24 (fun z24 => ?_)
    refine wpD_sr ?_
    iterate 3 refine pu ?_
    refine pL 0 ?_
    refine pu ?_
    refine p_lenL htab rfl rfl rfl rfl rfl rfl rfl (by first | exact map_len | rfl) ?_
    refine p_build (r := [.v (.int .i64 (0 : Int)), .v (.string ByteArray.empty), .v (.int .i64 (0 : Int)), .v (.int .i64 (a0.length : Int))]) htab rfl rfl rfl rfl rfl rfl rfl rfl rfl ?_
    refine p_lit htab rfl rfl rfl rfl rfl rfl rfl rfl rfl rfl rfl rfl rfl rfl ?_
    refine p_eq (i := 36) (d' := .lst 4 (([(⟨(0 : Int), ByteArray.empty, (0 : Int), (a0.length : Int)⟩ : TApiToken)] : List TApiToken).map eTApiToken) .full) rfl (Wk.lst0 (.cons (WkC.refl _) (.nil))) ?_
    obtain ⟨x44, q44, hm⟩ := yes_bind hm
    refine p_appC 0 htab rfl rfl rfl rfl rfl rfl rfl rfl rfl rfl rfl rfl rfl rfl rfl rfl rfl (app_bound q44) (fun v44 => ?_)
    refine p_mapD (i := 37) q44 rfl ?_
    iterate 3 refine pu ?_
    refine ops_nt ?_
    refine wpD_ret ?_
    have er45 := yes_eq hm; subst er45
    refine rP (t' := [(2, .lst 4 (x44.map eTApiToken) (.cur v44)), (3, .v (.int .i64 (0 : Int))), (4, .v (.int .i64 (0 : Int)))]) [] [0] 0 (wC (wC (wC wN))) (lT (lT (lT lN))) ?_
    exact ⟨v44, rfl, rfl, rfl⟩
noncomputable def l10_lives : Option (Bool) :=
  ((token_Read ([(120 : UInt8), (49 : UInt8), (61 : UInt8), (45 : UInt8), (55 : UInt8), (59 : UInt8)] : List UInt8)).bind fun x2 => (bif (x2.2.2 == (0 : Int)) then (bif ((x2.1.length : Int) == (6 : Int)) then ((idx x2.1 (0 : Int)).bind fun x5 => (bif (decide (x5.gText = (ByteArray.mk #[120, 49]))) then ((idx x2.1 (3 : Int)).bind fun x7 => (bif (x7.gN == (7 : Int)) then ((idx x2.1 (5 : Int)).bind fun x9 => some (x9.gAt == (6 : Int))) else some false)) else some false)) else some false) else some false))
set_option maxRecDepth 100000 in
set_option maxHeartbeats 2000000 in
theorem l10_lives_ok  (r : Bool) (h0 : l10_lives = some r) : CallsD Try.prog 9 [] [] [] (fun d h k => d = .v (.bool r) ∧ h = [] ∧ k = []) := by
  have hm := yes_of h0
  unfold l10_lives at hm
  clear h0
  refine enterX htab Try.func9 rfl rfl rfl rfl rfl (fun C => ?_)
  refine wpD_sr ?_
  refine pu ?_
  refine ops_n2 ?_
  refine p_litB htab rfl rfl rfl rfl rfl rfl rfl rfl rfl rfl rfl rfl rfl rfl rfl rfl rfl rfl rfl ?_
  refine p_eq (i := 6) (d' := .lst 1 (([(120 : UInt8), (49 : UInt8), (61 : UInt8), (45 : UInt8), (55 : UInt8), (59 : UInt8)] : List UInt8).map byteD) .no) rfl (Wk.lst0 (.cons (WkC.refl _) (.cons (WkC.refl _) (.cons (WkC.refl _) (.cons (WkC.refl _) (.cons (WkC.refl _) (.cons (WkC.refl _) (.nil)))))))) ?_
  obtain ⟨x2, q2, hm⟩ := yes_bind hm
  refine pG (token_Read_ok ([(120 : UInt8), (49 : UInt8), (61 : UInt8), (45 : UInt8), (55 : UInt8), (59 : UInt8)] : List UInt8) x2 q2) Wl Pf Pf ?_
  rintro _ _ _ ⟨w1, rfl, rfl, rfl⟩
  iterate 7 refine pu ?_
  refine ops_n2 ?_
  iterate 3 refine pu ?_
  refine p_split (i := 13) rfl (fun hg3 => ?_) (fun hg3 => ?_)
  ·replace hm := yes_t hg3 hm
   refine pu ?_
   refine p_lenL htab rfl rfl rfl rfl rfl rfl rfl (by first | exact map_len | rfl) ?_
   refine pu ?_
   refine p_pickT rfl rfl rfl rfl rfl rfl ?_
   refine pu ?_
   refine p_split (i := 18) rfl (fun hg4 => ?_) (fun hg4 => ?_)
   ·replace hm := yes_t hg4 hm
    refine pu ?_
    obtain ⟨x5, q5, hm⟩ := yes_bind hm
    refine p_elem htab rfl rfl rfl rfl rfl rfl rfl rfl rfl rfl (idx_nonneg q5) (idx_map q5) ?_
    refine pu ?_
    refine p_loadEl htab rfl rfl rfl rfl rfl rfl rfl rfl ?_
    refine pu ?_
    refine p_pickT rfl rfl rfl rfl rfl rfl ?_
    refine pu ?_
    refine p_split (i := 25) rfl (fun hg6 => ?_) (fun hg6 => ?_)
    ·replace hm := yes_t hg6 hm
     refine pu ?_
     obtain ⟨x7, q7, hm⟩ := yes_bind hm
     refine p_elem htab rfl rfl rfl rfl rfl rfl rfl rfl rfl rfl (idx_nonneg q7) (idx_map q7) ?_
     refine pu ?_
     refine p_loadEl htab rfl rfl rfl rfl rfl rfl rfl rfl ?_
     refine pu ?_
     refine p_pickT rfl rfl rfl rfl rfl rfl ?_
     refine pu ?_
     refine p_split (i := 32) rfl (fun hg8 => ?_) (fun hg8 => ?_)
     ·replace hm := yes_t hg8 hm
      refine pu ?_
      obtain ⟨x9, q9, hm⟩ := yes_bind hm
      refine p_elem htab rfl rfl rfl rfl rfl rfl rfl rfl rfl rfl (idx_nonneg q9) (idx_map q9) ?_
      refine pu ?_
      refine p_loadEl htab rfl rfl rfl rfl rfl rfl rfl rfl ?_
      refine pu ?_
      refine p_pickT rfl rfl rfl rfl rfl rfl ?_
      refine pu ?_
      refine ops_nt ?_
      refine wpD_ret ?_
      have er10 := yes_eq hm; subst er10
      refine rP (t' := [(0, .v (.bool (x9.gAt == (6 : Int))))]) [] [] 0 (wC wN) (lT lN) ?_
      exact ⟨rfl, rfl, rfl⟩
     ·replace hm := yes_f hg8 hm
      iterate 5 refine pK ?_
      refine p_pickF rfl rfl rfl rfl rfl rfl ?_
      refine pu ?_
      refine ops_nt ?_
      refine wpD_ret ?_
      have er11 := yes_eq hm; subst er11
      refine rP (t' := [(0, .v (.bool false))]) [] [] 0 (wC wN) (lT lN) ?_
      exact ⟨rfl, rfl, rfl⟩
    ·replace hm := yes_f hg6 hm
     iterate 5 refine pK ?_
     refine p_pickF rfl rfl rfl rfl rfl rfl ?_
     refine pu ?_
     iterate 5 refine pK ?_
     refine p_pickF rfl rfl rfl rfl rfl rfl ?_
     refine pu ?_
     refine ops_nt ?_
     refine wpD_ret ?_
     have er12 := yes_eq hm; subst er12
     refine rP (t' := [(0, .v (.bool false))]) [] [] 0 (wC wN) (lT lN) ?_
     exact ⟨rfl, rfl, rfl⟩
   ·replace hm := yes_f hg4 hm
    iterate 5 refine pK ?_
    refine p_pickF rfl rfl rfl rfl rfl rfl ?_
    refine pu ?_
    iterate 5 refine pK ?_
    refine p_pickF rfl rfl rfl rfl rfl rfl ?_
    refine pu ?_
    iterate 5 refine pK ?_
    refine p_pickF rfl rfl rfl rfl rfl rfl ?_
    refine pu ?_
    refine ops_nt ?_
    refine wpD_ret ?_
    have er13 := yes_eq hm; subst er13
    refine rP (t' := [(0, .v (.bool false))]) [] [] 0 (wC wN) (lT lN) ?_
    exact ⟨rfl, rfl, rfl⟩
  ·replace hm := yes_f hg3 hm
   iterate 3 refine pK ?_
   refine p_pickF rfl rfl rfl rfl rfl rfl ?_
   refine pu ?_
   iterate 5 refine pK ?_
   refine p_pickF rfl rfl rfl rfl rfl rfl ?_
   refine pu ?_
   iterate 5 refine pK ?_
   refine p_pickF rfl rfl rfl rfl rfl rfl ?_
   refine pu ?_
   iterate 5 refine pK ?_
   refine p_pickF rfl rfl rfl rfl rfl rfl ?_
   refine pu ?_
   refine ops_nt ?_
   refine wpD_ret ?_
   have er14 := yes_eq hm; subst er14
   refine rP (t' := [(0, .v (.bool false))]) [] [] 0 (wC wN) (lT lN) ?_
   exact ⟨rfl, rfl, rfl⟩
noncomputable def l10_TokenNames (a0 : ByteArray) (a1 : List TApiToken) : Option (Bool) :=
  ((token_Name a0).bind fun x1 => ((r10_Name a0).bind fun x2 => (bif (x1 == x2) then ((token_Word a0).bind fun x4 => ((r10_Word a0).bind fun x5 => (bif (x4 == x5) then ((token_Join a1).bind fun x7 => ((r10_Join a1).bind fun x8 => (bif (decide (x7 = x8)) then (l10_lives.bind fun x10 => some x10) else some false))) else some false))) else some false)))
set_option maxRecDepth 100000 in
set_option maxHeartbeats 2000000 in
theorem l10_TokenNames_ok (a0 : ByteArray) (a1 : List TApiToken) (r : Bool) (h0 : l10_TokenNames a0 a1 = some r) : CallsD Try.prog 5 [.v (.string a0), .lst 4 (a1.map eTApiToken) .no] [] [] (fun d h k => d = .v (.bool r) ∧ h = [] ∧ k = []) := by
  have hm := yes_of h0
  unfold l10_TokenNames at hm
  clear h0
  refine enterX htab Try.func5 rfl rfl rfl rfl rfl (fun C => ?_)
  refine wpD_sr ?_
  refine pu ?_
  refine ops_n2 ?_
  refine pu ?_
  obtain ⟨x1, q1, hm⟩ := yes_bind hm
  refine p_call0 (token_Name_ok a0 x1 q1) rfl rfl rfl rfl rfl Wl ?_
  rintro _ rfl
  refine pu ?_
  obtain ⟨x2, q2, hm⟩ := yes_bind hm
  refine p_call0 (r10_Name_ok a0 x2 q2) rfl rfl rfl rfl rfl Wl ?_
  rintro _ rfl
  refine pu ?_
  refine pu ?_
  refine p_split (i := 10) rfl (fun hg3 => ?_) (fun hg3 => ?_)
  ·replace hm := yes_t hg3 hm
   refine pu ?_
   obtain ⟨x4, q4, hm⟩ := yes_bind hm
   refine p_call0 (token_Word_ok a0 x4 q4) rfl rfl rfl rfl rfl Wl ?_
   rintro _ rfl
   refine pu ?_
   obtain ⟨x5, q5, hm⟩ := yes_bind hm
   refine p_call0 (r10_Word_ok a0 x5 q5) rfl rfl rfl rfl rfl Wl ?_
   rintro _ rfl
   refine pu ?_
   refine p_pickT rfl rfl rfl rfl rfl rfl ?_
   refine pu ?_
   refine p_split (i := 17) rfl (fun hg6 => ?_) (fun hg6 => ?_)
   ·replace hm := yes_t hg6 hm
    refine pu ?_
    obtain ⟨x7, q7, hm⟩ := yes_bind hm
    refine p_call0 (token_Join_ok a1 x7 q7) rfl rfl rfl rfl rfl Wl ?_
    rintro _ rfl
    refine pu ?_
    obtain ⟨x8, q8, hm⟩ := yes_bind hm
    refine p_call0 (r10_Join_ok a1 x8 q8) rfl rfl rfl rfl rfl Wl ?_
    rintro _ rfl
    refine pu ?_
    refine p_pickT rfl rfl rfl rfl rfl rfl ?_
    refine pu ?_
    refine p_split (i := 24) rfl (fun hg9 => ?_) (fun hg9 => ?_)
    ·replace hm := yes_t hg9 hm
     obtain ⟨x10, q10, hm⟩ := yes_bind hm
     refine p_call0 (l10_lives_ok x10 q10) rfl rfl rfl rfl rfl Wl ?_
     rintro _ rfl
     refine p_pickT rfl rfl rfl rfl rfl rfl ?_
     refine pu ?_
     refine ops_nt ?_
     refine wpD_ret ?_
     have er11 := yes_eq hm; subst er11
     refine rP (t' := [(4, .v (.bool x10))]) [] [] 0 (wC wN) (lT lN) ?_
     exact ⟨rfl, rfl, rfl⟩
    ·replace hm := yes_f hg9 hm
     refine pK ?_
     refine p_pickF rfl rfl rfl rfl rfl rfl ?_
     refine pu ?_
     refine ops_nt ?_
     refine wpD_ret ?_
     have er12 := yes_eq hm; subst er12
     refine rP (t' := [(4, .v (.bool false))]) [] [] 0 (wC wN) (lT lN) ?_
     exact ⟨rfl, rfl, rfl⟩
   ·replace hm := yes_f hg6 hm
    iterate 5 refine pK ?_
    refine p_pickF rfl rfl rfl rfl rfl rfl ?_
    refine pu ?_
    refine pK ?_
    refine p_pickF rfl rfl rfl rfl rfl rfl ?_
    refine pu ?_
    refine ops_nt ?_
    refine wpD_ret ?_
    have er13 := yes_eq hm; subst er13
    refine rP (t' := [(4, .v (.bool false))]) [] [] 0 (wC wN) (lT lN) ?_
    exact ⟨rfl, rfl, rfl⟩
  ·replace hm := yes_f hg3 hm
   iterate 5 refine pK ?_
   refine p_pickF rfl rfl rfl rfl rfl rfl ?_
   refine pu ?_
   iterate 5 refine pK ?_
   refine p_pickF rfl rfl rfl rfl rfl rfl ?_
   refine pu ?_
   refine pK ?_
   refine p_pickF rfl rfl rfl rfl rfl rfl ?_
   refine pu ?_
   refine ops_nt ?_
   refine wpD_ret ?_
   have er14 := yes_eq hm; subst er14
   refine rP (t' := [(4, .v (.bool false))]) [] [] 0 (wC wN) (lT lN) ?_
   exact ⟨rfl, rfl, rfl⟩
end Go.Proofs.Ytnjeklpjjceppaa.Ab
namespace Go.Proofs.Ytnjeklpjjceppaa.Ab.Pq
open Go
set_option linter.all false
abbrev Tok := TApiToken
end Go.Proofs.Ytnjeklpjjceppaa.Ab.Pq
namespace Go.Proofs.Ytnjeklpjjceppaa.Ab.Pq
open Go
set_option linter.all false
def Tot {α : Type} (m : Option α) : Prop := ∃ r, m = some r
theorem Tot.some {α : Type} (a : α) : Tot (Option.some a) := ⟨a, rfl⟩
theorem Tot.bind {α β : Type} {m : Option α} {f : α → Option β} (h : Tot m) (k : ∀ a, Tot (f a)) : Tot (m.bind f) := by
  obtain ⟨a, rfl⟩ := h
  exact k a
theorem Tot.cond {α : Type} {c : Bool} {m n : Option α} (h : Tot m) (k : Tot n) : Tot (bif c then m else n) := by
  cases c
  · exact k
  · exact h
theorem Tot.get {α : Type} {m : Option α} (h : Tot m) (z : α) : m = Option.some (m.getD z) := by obtain ⟨a, rfl⟩ := h; rfl
noncomputable def kd (c : UInt8) : Int := (token_kind (IntKind.i32.wrap (c.toNat : Int))).getD 0
def hasS (s : ByteArray) (l : List ByteArray) : Bool := l.any fun x => decide (s = x)
theorem index_eq (s : ByteArray) (l : List ByteArray) (hl : l.length ≤ 1000) : ∃ i, slices_Index_string_string l s = some i ∧ decide ((0 : Int) ≤ i) = hasS s l := by
  unfold slices_Index_string_string
  have key : ∀ (post pre : List ByteArray), l = pre ++ post → hasS s pre = false → ∃ r, loopM (fun (s15 : Int) => (bif (decide (s15 < (l.length : Int))) then ((idx l s15).bind fun x25 => (bif (decide (s = x25)) then some (Step.done (Sum.inr (α := Unit) s15)) else some (.next (IntKind.i64.wrap (s15 + (1 : Int)))))) else some (.done (.inl ())))) ((pre.length : Nat) : Int) = some r ∧ decide ((0 : Int) ≤ Sum.elim (fun _ => -1) id r) = hasS s l := by
    intro post
    induction post with
    | nil =>
      intro pre h hs
      rw [List.append_nil] at h; subst h
      refine ⟨.inl (), loopM_done (by rw [lt_end, cond_false]), ?_⟩
      rw [hs]; rfl
    | cons x post ih =>
      intro pre h hs
      have hf : (bif (decide (((pre.length : Nat) : Int) < (l.length : Int))) then ((idx l ((pre.length : Nat) : Int)).bind fun x25 => (bif (decide (s = x25)) then some (Step.done (Sum.inr (α := Unit) ((pre.length : Nat) : Int))) else some (.next (IntKind.i64.wrap (((pre.length : Nat) : Int) + (1 : Int)))))) else some (.done (.inl ()))) = (bif decide (s = x) then some (Step.done (Sum.inr (α := Unit) ((pre.length : Nat) : Int))) else some (.next ((pre.length + 1 : Nat) : Int))) := by
        rw [lt_pre h, cond_true, idx_pre2 h rfl, Option.bind_some, inc_pre h (by omega)]
      by_cases q : s = x
      · rw [decide_eq_true q, cond_true] at hf
        refine ⟨_, loopM_done hf, ?_⟩
        rw [show hasS s l = true by rw [h, q]; simp [hasS], decide_eq_true (by show (0 : Int) ≤ (pre.length : Int); omega)]
      · rw [decide_eq_false q, cond_false] at hf
        rw [loopM_next hf]
        have := ih (pre ++ [x]) (by simp [h]) (by unfold hasS at hs ⊢; rw [List.any_append, hs]; simp [q])
        simpa using this
  obtain ⟨r, h1, h2⟩ := key l [] rfl rfl
  simp only [List.length_nil] at h1
  rw [show ((0 : Nat) : Int) = 0 from rfl] at h1
  rw [h1, Option.bind_some]
  cases r with
  | inl u => exact ⟨-1, rfl, h2⟩
  | inr i => exact ⟨i, rfl, h2⟩
theorem contains_eq (s : ByteArray) (l : List ByteArray) (hl : l.length ≤ 1000) : slices_Contains_string_string l s = some (hasS s l) := by
  unfold slices_Contains_string_string
  obtain ⟨i, h1, h2⟩ := index_eq s l hl
  rw [h1, Option.bind_some, h2]
noncomputable def wd (s : ByteArray) : Bool := (token_Word s).getD false
theorem word_eq (s : ByteArray) : token_Word s = some (wd s) := by
  have : Tot (token_Word s) := by
    unfold token_Word
    rw [contains_eq _ _ (by decide)]
    exact Tot.some _
  exact this.get false
end Go.Proofs.Ytnjeklpjjceppaa.Ab.Pq
namespace Go.Proofs.Ytnjeklpjjceppaa.Ab
open Go
set_option linter.all false
theorem loop_any {β τ : Type} {l : List β} {f : Int → Option (Step Int (Unit ⊕ τ))} (t : β → Bool) (r : Nat → τ)
    (h1 : ∀ p x q, l = p ++ x :: q → f (p.length : Int) = some (bif t x then .done (.inr (r p.length)) else .next ((p.length + 1 : Nat) : Int)))
    (h2 : f (l.length : Int) = some (.done (.inl ()))) : (l.any t = false ∧ loopM f (0 : Int) = some (.inl ())) ∨ (l.any t = true ∧ ∃ j, j < l.length ∧ loopM f (0 : Int) = some (.inr (r j))) := by
  have key : ∀ (q p : List β), l = p ++ q → (q.any t = false ∧ loopM f (p.length : Int) = some (.inl ())) ∨ (q.any t = true ∧ ∃ j, j < l.length ∧ loopM f (p.length : Int) = some (.inr (r j))) := by
    intro q
    induction q with
    | nil =>
      intro p e
      rw [List.append_nil] at e; subst e
      exact .inl ⟨rfl, loopM_done h2⟩
    | cons x q ih =>
      intro p e
      have h := h1 p x q e
      cases ht : t x
      · rw [ht, cond_false] at h
        have := ih (p ++ [x]) (by simp [e])
        rw [loopM_next h]
        simp only [List.length_append, List.length_cons, List.length_nil, Nat.zero_add, List.any_cons, ht, Bool.false_or] at this ⊢
        exact this
      · rw [ht, cond_true] at h
        refine .inr ⟨by simp [ht], p.length, by subst e; simp, loopM_done h⟩
  exact key l [] rfl
theorem any_list {β τ ρ : Type} {f : Int → Option (Step Int (Unit ⊕ τ))} {k : Unit ⊕ τ → Option ρ} {R : Option ρ} (l : List β) (t : β → Bool) (r : Nat → τ)
    (h1 : ∀ p x q, l = p ++ x :: q → f (p.length : Int) = some (bif t x then .done (.inr (r p.length)) else .next ((p.length + 1 : Nat) : Int)))
    (h2 : f (l.length : Int) = some (.done (.inl ()))) (k0 : l.any t = false → k (.inl ()) = R) (k1 : ∀ j, j < l.length → l.any t = true → k (.inr (r j)) = R) : Option.bind (loopM f (0 : Int)) k = R := by
  rcases loop_any t r h1 h2 with ⟨a, b⟩ | ⟨a, j, hj, b⟩
  · rw [b]; exact k0 a
  · rw [b]; exact k1 j hj a
end Go.Proofs.Ytnjeklpjjceppaa.Ab
namespace Go.Proofs.Ytnjeklpjjceppaa.Ab
open Go
set_option linter.all false
def token_kind_c (fu : Nat) (a0 : Int) : Option (Int) :=
  (Option.bind (α := Bool) (bif (a0 == (32 : Int)) then some true else (bif (a0 == (9 : Int)) then some true else (bif (a0 == (10 : Int)) then some true else some (a0 == (13 : Int))))) fun y4 => (bif y4 then some (1 : Int) else (Option.bind (α := Bool) (bif (decide ((97 : Int) ≤ a0)) then (bif (decide (a0 ≤ (122 : Int))) then some true else (bif (decide ((65 : Int) ≤ a0)) then (bif (decide (a0 ≤ (90 : Int))) then some true else some (a0 == (95 : Int))) else some (a0 == (95 : Int)))) else (bif (decide ((65 : Int) ≤ a0)) then (bif (decide (a0 ≤ (90 : Int))) then some true else some (a0 == (95 : Int))) else some (a0 == (95 : Int)))) fun y16 => (bif y16 then some (2 : Int) else (bif (decide ((48 : Int) ≤ a0)) then (bif (decide (a0 ≤ (57 : Int))) then some (3 : Int) else some (0 : Int)) else some (0 : Int))))))
set_option maxRecDepth 100000 in
theorem token_kind_cle (fu : Nat)   (a0 : Int) : Le (token_kind_c fu  a0) (token_kind  a0) := by
  unfold token_kind_c token_kind
  repeat (first | exact Le.refl _ | assumption | (refine Le.bind ?_ (fun _ => ?_)) | (refine Le.cond ?_ ?_) | (refine Le.loopC (fun _ => ?_)) | (refine Le.elim (fun _ => ?_) (fun _ => ?_)))
def slices_Index_string_string_c (fu : Nat) (a0 : List ByteArray) (a1 : ByteArray) : Option (Int) :=
  (Option.bind (α := (Unit) ⊕ (Int)) (loopC fu (fun (s15 : Int) => (bif (decide (s15 < (a0.length : Int))) then ((idx a0 s15).bind fun x25 => (bif (decide (a1 = x25)) then some (.done (.inr s15)) else some (.next (IntKind.i64.wrap (s15 + (1 : Int)))))) else some (.done (.inl ())))) (0 : Int)) (Sum.elim (fun y14 => some (-1 : Int)) (fun r => some r)))
set_option maxRecDepth 100000 in
theorem slices_Index_string_string_cle (fu : Nat)   (a0 : List ByteArray) (a1 : ByteArray) : Le (slices_Index_string_string_c fu  a0 a1) (slices_Index_string_string  a0 a1) := by
  unfold slices_Index_string_string_c slices_Index_string_string
  repeat (first | exact Le.refl _ | assumption | (refine Le.bind ?_ (fun _ => ?_)) | (refine Le.cond ?_ ?_) | (refine Le.loopC (fun _ => ?_)) | (refine Le.elim (fun _ => ?_) (fun _ => ?_)))
def slices_Contains_string_string_c (fu : Nat) (a0 : List ByteArray) (a1 : ByteArray) : Option (Bool) :=
  ((slices_Index_string_string_c fu a0 a1).bind fun x1 => some (decide ((0 : Int) ≤ x1)))
set_option maxRecDepth 100000 in
theorem slices_Contains_string_string_cle (fu : Nat)   (a0 : List ByteArray) (a1 : ByteArray) : Le (slices_Contains_string_string_c fu  a0 a1) (slices_Contains_string_string  a0 a1) := by
  unfold slices_Contains_string_string_c slices_Contains_string_string
  repeat (first | exact Le.refl _ | assumption | exact slices_Index_string_string_cle fu _ _ | (refine Le.bind ?_ (fun _ => ?_)) | (refine Le.cond ?_ ?_) | (refine Le.loopC (fun _ => ?_)) | (refine Le.elim (fun _ => ?_) (fun _ => ?_)))
def token_Word_c (fu : Nat) (a0 : ByteArray) : Option (Bool) :=
  ((slices_Contains_string_string_c fu ([(ByteArray.mk #[105, 110, 116]), (ByteArray.mk #[105, 102]), (ByteArray.mk #[101, 108, 115, 101]), (ByteArray.mk #[119, 104, 105, 108, 101]), (ByteArray.mk #[114, 101, 116, 117, 114, 110]), (ByteArray.mk #[97, 115, 115, 101, 114, 116]), (ByteArray.mk #[105, 110, 112, 117, 116]), (ByteArray.mk #[110, 117, 108, 108])] : List ByteArray) a0).bind fun x1 => some x1)
set_option maxRecDepth 100000 in
theorem token_Word_cle (fu : Nat)   (a0 : ByteArray) : Le (token_Word_c fu  a0) (token_Word  a0) := by
  unfold token_Word_c token_Word
  repeat (first | exact Le.refl _ | assumption | exact slices_Contains_string_string_cle fu _ _ | (refine Le.bind ?_ (fun _ => ?_)) | (refine Le.cond ?_ ?_) | (refine Le.loopC (fun _ => ?_)) | (refine Le.elim (fun _ => ?_) (fun _ => ?_)))
def token_reader_span_c (fu : Nat) (m0 : TTokenReader) (a1 : Bool) : Option (Int) :=
  (Option.bind (α := Int) (loopC fu (fun (s24 : Int) => (bif (decide ((IntKind.i64.wrap (m0.gAt + s24)) < (m0.gB.length : Int))) then ((idx m0.gB (IntKind.i64.wrap (m0.gAt + s24))).bind fun x40 => ((token_kind_c fu (IntKind.i32.wrap (x40.toNat : Int))).bind fun x41 => (bif (x41 != (3 : Int)) then (bif (x41 != (2 : Int)) then some (.done s24) else (bif (!a1) then some (.done s24) else some (.next (IntKind.i64.wrap (s24 + (1 : Int)))))) else some (.next (IntKind.i64.wrap (s24 + (1 : Int))))))) else some (.done s24))) (0 : Int)) fun y23 => some y23)
set_option maxRecDepth 100000 in
theorem token_reader_span_cle (fu : Nat)   (m0 : TTokenReader) (a1 : Bool) : Le (token_reader_span_c fu  m0 a1) (token_reader_span  m0 a1) := by
  unfold token_reader_span_c token_reader_span
  repeat (first | exact Le.refl _ | assumption | exact token_kind_cle fu _ | (refine Le.bind ?_ (fun _ => ?_)) | (refine Le.cond ?_ ?_) | (refine Le.loopC (fun _ => ?_)) | (refine Le.elim (fun _ => ?_) (fun _ => ?_)))
def token_reader_add_c (fu : Nat) (m0 : TTokenReader) (a1 : Int) (a2 : Int) (a3 : Int) : Option (Int × TTokenReader) :=
  (bif (decide ((4000 : Int) ≤ (m0.gL.length : Int))) then some ((6 : Int), m0) else ((cutL m0.gB m0.gAt (IntKind.i64.wrap (m0.gAt + a2))).bind fun x4 => ((app 40 m0.gL ([(⟨a1, (ByteArray.mk x4.toArray), a3, m0.gAt⟩ : TApiToken)] : List TApiToken)).bind fun x5 => some ((0 : Int), (⟨m0.gB, (IntKind.i64.wrap (m0.gAt + a2)), x5⟩ : TTokenReader)))))
set_option maxRecDepth 100000 in
theorem token_reader_add_cle (fu : Nat)   (m0 : TTokenReader) (a1 : Int) (a2 : Int) (a3 : Int) : Le (token_reader_add_c fu  m0 a1 a2 a3) (token_reader_add  m0 a1 a2 a3) := by
  unfold token_reader_add_c token_reader_add
  repeat (first | exact Le.refl _ | assumption | (refine Le.bind ?_ (fun _ => ?_)) | (refine Le.cond ?_ ?_) | (refine Le.loopC (fun _ => ?_)) | (refine Le.elim (fun _ => ?_) (fun _ => ?_)))
def token_reader_name_c (fu : Nat) (m0 : TTokenReader) : Option (Int × TTokenReader) :=
  ((token_reader_span_c fu m0 true).bind fun x1 => ((cutL m0.gB m0.gAt (IntKind.i64.wrap (m0.gAt + x1))).bind fun x2 => (bif (decide ((20 : Int) < x1)) then some ((6 : Int), m0) else ((token_Word_c fu (ByteArray.mk x2.toArray)).bind fun x15 => (bif x15 then ((token_reader_add_c fu m0 (3 : Int) x1 (0 : Int)).bind fun x21 => some (x21.1, x21.2)) else ((token_reader_add_c fu m0 (1 : Int) x1 (0 : Int)).bind fun x24 => some (x24.1, x24.2)))))))
set_option maxRecDepth 100000 in
theorem token_reader_name_cle (fu : Nat)   (m0 : TTokenReader) : Le (token_reader_name_c fu  m0) (token_reader_name  m0) := by
  unfold token_reader_name_c token_reader_name
  repeat (first | exact Le.refl _ | assumption | exact token_reader_span_cle fu _ _ | exact token_Word_cle fu _ | exact token_reader_add_cle fu _ _ _ _ | (refine Le.bind ?_ (fun _ => ?_)) | (refine Le.cond ?_ ?_) | (refine Le.loopC (fun _ => ?_)) | (refine Le.elim (fun _ => ?_) (fun _ => ?_)))
def token_reader_number_c (fu : Nat) (m0 : TTokenReader) : Option (Int × TTokenReader) :=
  (bif (decide ((4000 : Int) ≤ (m0.gL.length : Int))) then some ((6 : Int), m0) else ((token_reader_span_c fu m0 false).bind fun x4 => (Option.bind (α := Bool) ((token_reader_span_c fu m0 true).bind fun x10 => (bif (decide (x4 < x10)) then some true else ((idx m0.gB m0.gAt).bind fun x12 => (bif ((x12.toNat : Int) == (48 : Int)) then some (decide ((1 : Int) < x4)) else some false)))) fun y9 => (bif y9 then some ((3 : Int), m0) else ((cutL m0.gB m0.gAt (IntKind.i64.wrap (m0.gAt + x4))).bind fun x17 => (Option.bind (α := (Int) ⊕ (Int × TTokenReader)) (loopC fu (fun (s33 : Int × Int) => (bif (decide (s33.2 < (x17.length : Int))) then ((idx x17 s33.2).bind fun x43 => (bif (decide ((IntKind.u64.wrap ((IntKind.u64.wrap ((9223372036854775807 : Int) - (IntKind.u64.wrap (IntKind.u8.wrap ((x43.toNat : Int) - (48 : Int)))))).tdiv (10 : Int))) < s33.1)) then some (.done (.inr ((4 : Int), m0))) else some (.next ((IntKind.u64.wrap ((IntKind.u64.wrap ((10 : Int) * s33.1)) + (IntKind.u64.wrap (IntKind.u8.wrap ((x43.toNat : Int) - (48 : Int)))))), (IntKind.i64.wrap (s33.2 + (1 : Int))))))) else some (.done (.inl s33.1)))) ((0 : Int), (0 : Int))) (Sum.elim (fun y32 => ((token_reader_add_c fu m0 (2 : Int) x4 (IntKind.i64.wrap y32)).bind fun x47 => some (x47.1, x47.2))) (fun r => some r))))))))
set_option maxRecDepth 100000 in
theorem token_reader_number_cle (fu : Nat)   (m0 : TTokenReader) : Le (token_reader_number_c fu  m0) (token_reader_number  m0) := by
  unfold token_reader_number_c token_reader_number
  repeat (first | exact Le.refl _ | assumption | exact token_reader_span_cle fu _ _ | exact token_reader_add_cle fu _ _ _ _ | (refine Le.bind ?_ (fun _ => ?_)) | (refine Le.cond ?_ ?_) | (refine Le.loopC (fun _ => ?_)) | (refine Le.elim (fun _ => ?_) (fun _ => ?_)))
def token_reader_sign_c (fu : Nat) (m0 : TTokenReader) : Option (Int) :=
  ((cutL m0.gB m0.gAt ((m0.gB).length : Int)).bind fun x1 => (Option.bind (α := Bool) (bif (decide ((1 : Int) < (x1.length : Int))) then ((cutL x1 (0 : Int) (2 : Int)).bind fun x7 => ((slices_Contains_string_string_c fu ([(ByteArray.mk #[61, 61]), (ByteArray.mk #[33, 61]), (ByteArray.mk #[60, 61]), (ByteArray.mk #[38, 38]), (ByteArray.mk #[124, 124])] : List ByteArray) (ByteArray.mk x7.toArray)).bind fun x8 => some x8)) else some false) fun y5 => (bif y5 then some (2 : Int) else ((idx x1 (0 : Int)).bind fun x12 => (bif (decide ((0 : Int) ≤ (indexB (ByteArray.mk #[40, 41, 123, 125, 91, 93, 59, 44, 61, 60, 43, 45, 42, 47, 37, 33, 38]) (x12.toNat : Int)))) then some (1 : Int) else some (0 : Int))))))
set_option maxRecDepth 100000 in
theorem token_reader_sign_cle (fu : Nat)   (m0 : TTokenReader) : Le (token_reader_sign_c fu  m0) (token_reader_sign  m0) := by
  unfold token_reader_sign_c token_reader_sign
  repeat (first | exact Le.refl _ | assumption | exact slices_Contains_string_string_cle fu _ _ | (refine Le.bind ?_ (fun _ => ?_)) | (refine Le.cond ?_ ?_) | (refine Le.loopC (fun _ => ?_)) | (refine Le.elim (fun _ => ?_) (fun _ => ?_)))
def token_reader_next_c (fu : Nat) (m0 : TTokenReader) : Option (Int × TTokenReader) :=
  ((idx m0.gB m0.gAt).bind fun x1 => ((token_kind_c fu (IntKind.i32.wrap (x1.toNat : Int))).bind fun x2 => (bif (x2 == (1 : Int)) then some ((0 : Int), (⟨m0.gB, (IntKind.i64.wrap (m0.gAt + (1 : Int))), m0.gL⟩ : TTokenReader)) else (bif (x2 == (2 : Int)) then ((token_reader_name_c fu m0).bind fun x27 => some (x27.1, x27.2)) else (bif (x2 == (3 : Int)) then ((token_reader_number_c fu m0).bind fun x34 => some (x34.1, x34.2)) else ((token_reader_sign_c fu m0).bind fun x36 => (bif (x36 == (0 : Int)) then some ((3 : Int), m0) else ((token_reader_add_c fu m0 (3 : Int) x36 (0 : Int)).bind fun x41 => some (x41.1, x41.2)))))))))
set_option maxRecDepth 100000 in
theorem token_reader_next_cle (fu : Nat)   (m0 : TTokenReader) : Le (token_reader_next_c fu  m0) (token_reader_next  m0) := by
  unfold token_reader_next_c token_reader_next
  repeat (first | exact Le.refl _ | assumption | exact token_kind_cle fu _ | exact token_reader_name_cle fu _ | exact token_reader_number_cle fu _ | exact token_reader_sign_cle fu _ | exact token_reader_add_cle fu _ _ _ _ | (refine Le.bind ?_ (fun _ => ?_)) | (refine Le.cond ?_ ?_) | (refine Le.loopC (fun _ => ?_)) | (refine Le.elim (fun _ => ?_) (fun _ => ?_)))
def token_Read_c (fu : Nat) (a0 : List UInt8) : Option (List TApiToken × Int × Int) :=
  (bif (decide ((20000 : Int) < (a0.length : Int))) then some (([] : List TApiToken), (0 : Int), (6 : Int)) else (Option.bind (α := (List UInt8 × Int × List TApiToken) ⊕ (List TApiToken × Int × Int)) (loopC fu (fun (s25 : List UInt8 × Int × List TApiToken) => (bif (decide (s25.2.1 < (a0.length : Int))) then ((token_reader_next_c fu (⟨s25.1, s25.2.1, s25.2.2⟩ : TTokenReader)).bind fun x40 => (bif (x40.1 != (0 : Int)) then some (.done (.inr (([] : List TApiToken), x40.2.gAt, x40.1))) else some (.next (x40.2.gB, x40.2.gAt, x40.2.gL)))) else some (.done (.inl (s25.1, s25.2.1, s25.2.2))))) (a0, (0 : Int), ([] : List TApiToken))) (Sum.elim (fun y24 => ((app 40 y24.2.2 ([(⟨(0 : Int), ByteArray.empty, (0 : Int), (a0.length : Int)⟩ : TApiToken)] : List TApiToken)).bind fun x44 => some (x44, (0 : Int), (0 : Int)))) (fun r => some r))))
set_option maxRecDepth 100000 in
theorem token_Read_cle (fu : Nat)   (a0 : List UInt8) : Le (token_Read_c fu  a0) (token_Read  a0) := by
  unfold token_Read_c token_Read
  repeat (first | exact Le.refl _ | assumption | exact token_reader_next_cle fu _ | (refine Le.bind ?_ (fun _ => ?_)) | (refine Le.cond ?_ ?_) | (refine Le.loopC (fun _ => ?_)) | (refine Le.elim (fun _ => ?_) (fun _ => ?_)))
def l10_lives_c (fu : Nat)  : Option (Bool) :=
  ((token_Read_c fu ([(120 : UInt8), (49 : UInt8), (61 : UInt8), (45 : UInt8), (55 : UInt8), (59 : UInt8)] : List UInt8)).bind fun x2 => (bif (x2.2.2 == (0 : Int)) then (bif ((x2.1.length : Int) == (6 : Int)) then ((idx x2.1 (0 : Int)).bind fun x5 => (bif (decide (x5.gText = (ByteArray.mk #[120, 49]))) then ((idx x2.1 (3 : Int)).bind fun x7 => (bif (x7.gN == (7 : Int)) then ((idx x2.1 (5 : Int)).bind fun x9 => some (x9.gAt == (6 : Int))) else some false)) else some false)) else some false) else some false))
set_option maxRecDepth 100000 in
theorem l10_lives_cle (fu : Nat)    : Le (l10_lives_c fu  ) (l10_lives  ) := by
  unfold l10_lives_c l10_lives
  repeat (first | exact Le.refl _ | assumption | exact token_Read_cle fu _ | (refine Le.bind ?_ (fun _ => ?_)) | (refine Le.cond ?_ ?_) | (refine Le.loopC (fun _ => ?_)) | (refine Le.elim (fun _ => ?_) (fun _ => ?_)))
end Go.Proofs.Ytnjeklpjjceppaa.Ab
namespace Go.Proofs.Ytnjeklpjjceppaa.Ab
open Go
set_option linter.all false
def fieldsOK (tab : List (Option TI)) (ts : List Nat) : Nat → List (Nat × Nat) → Option Nat
  | off, [] => some off
  | off, (ty, o) :: fs => match ti tab ty with
    | some i => bif Nat.beq o off && ts.contains ty then fieldsOK tab ts (off + i.size) fs else none
    | none => none
def typeOK (tab : List (Option TI)) (ts : List Nat) (t : Nat) : Bool :=
  match ti tab t with
  | some i => match i.d with
    | .bool => Nat.beq i.size 1
    | .int _ => Nat.beq i.size 1
    | .str => Nat.beq i.size 1
    | .slice e => ts.contains e && Nat.beq i.size 1 && (match ti tab e with | some ie => Nat.ble 1 ie.size | none => false)
    | .struct fs => match fieldsOK tab ts 0 fs with
      | some n => Nat.beq n i.size
      | none => false
    | .array n e => ts.contains e && (match ti tab e with | some ie => Nat.beq i.size (n * ie.size) | none => false)
    | _ => false
  | none => false
def closedT (tab : List (Option TI)) (ts : List Nat) : Bool := ts.all (typeOK tab ts)
def GoodT (tab : List (Option TI)) : Nat → Nat → D → Prop
  | 0, _, _ => False
  | n + 1, t, d => ∃ i, ti tab t = some i ∧ match i.d with
    | .bool => ∃ b, d = .v (.bool b)
    | .int k => ∃ m, d = .v (.int k m) ∧ (Lit.int k m).wf = true
    | .str => ∃ s : ByteArray, d = .v (.string s) ∧ s.size ≤ maxLen
    | .slice e => ∃ ie xs, ti tab e = some ie ∧ d = .lst ie.size xs .no ∧ xs.length ≤ maxLen ∧ ∀ x ∈ xs, GoodT tab n e x
    | .struct fs => ∃ ds : List D, d = .agg (ds.flatMap dcells) ∧ ds.length = fs.length ∧ ∀ (j : Nat) (f : Nat × Nat) (d0 : D), fs[j]? = some f → ds[j]? = some d0 → GoodT tab n f.1 d0
    | .array m e => ∃ ds : List D, d = .agg (ds.flatMap dcells) ∧ ds.length = m ∧ ∀ x ∈ ds, GoodT tab n e x
    | _ => False
section
variable {H : Type} {enc : TypeId × Value → H} {P : Program} {w : World} {base : Nat} {spare : Nat → Bool} {held : Bool} {tab : List (Option TI)} {ts : List Nat}
theorem cellsOf_ti (hT : TabOK P tab) {t : TypeId} {i : TI} (h : ti tab t = some i) : P.cellsOf t = i.size := by
  obtain ⟨tf, z, dd, h1, _, _, h2, _⟩ := tiOf_inv (ti_ok hT h)
  simp [Program.cellsOf, h1, h2]
def allOf (w : World) : Hp := fun a => w.cell? a
theorem ag_all (w : World) : Ag (allOf w) w := fun _ _ h => h
end
end Go.Proofs.Ytnjeklpjjceppaa.Ab
namespace Go.Proofs.Ytnjeklpjjceppaa.Ab
open Go
set_option linter.all false
section
variable {P : Program} {tab : List (Option TI)} {n t : Nat} {i : TI} {d : D}
theorem good_int {k : IntKind} (hi : ti tab t = some i) (hd : i.d = .int k) (g : GoodT tab n t d) : ∃ m, d = .v (.int k m) ∧ (Lit.int k m).wf = true := by
  cases n with
  | zero => simp [GoodT] at g
  | succ n =>
    unfold GoodT at g
    obtain ⟨i', h1, h2⟩ := g
    rw [hi] at h1; cases h1
    rw [hd] at h2; exact h2
theorem good_str (hi : ti tab t = some i) (hd : i.d = .str) (g : GoodT tab n t d) : ∃ s : ByteArray, d = .v (.string s) ∧ s.size ≤ maxLen := by
  cases n with
  | zero => simp [GoodT] at g
  | succ n =>
    unfold GoodT at g
    obtain ⟨i', h1, h2⟩ := g
    rw [hi] at h1; cases h1
    rw [hd] at h2; exact h2
theorem good_slice {e : Nat} {ie : TI} (hi : ti tab t = some i) (hd : i.d = .slice e) (he : ti tab e = some ie) (g : GoodT tab n t d) : ∃ (n' : Nat) (xs : List D), n = n' + 1 ∧ d = .lst ie.size xs .no ∧ xs.length ≤ maxLen ∧ ∀ x ∈ xs, GoodT tab n' e x := by
  cases n with
  | zero => simp [GoodT] at g
  | succ n =>
    unfold GoodT at g
    obtain ⟨i', h1, h2⟩ := g
    rw [hi] at h1; cases h1
    rw [hd] at h2
    obtain ⟨ie', xs, h3, h4, h5, h6⟩ := h2
    rw [he] at h3; cases h3
    exact ⟨n, xs, rfl, h4, h5, h6⟩
theorem good_struct {fs : List (Nat × Nat)} (hi : ti tab t = some i) (hd : i.d = .struct fs) (g : GoodT tab n t d) : ∃ (n' : Nat) (ds : List D), n = n' + 1 ∧ d = .agg (ds.flatMap dcells) ∧ ds.length = fs.length ∧ ∀ (j : Nat) (f : Nat × Nat) (d0 : D), fs[j]? = some f → ds[j]? = some d0 → GoodT tab n' f.1 d0 := by
  cases n with
  | zero => simp [GoodT] at g
  | succ n =>
    unfold GoodT at g
    obtain ⟨i', h1, h2⟩ := g
    rw [hi] at h1; cases h1
    rw [hd] at h2
    obtain ⟨ds, h4, h5, h6⟩ := h2
    exact ⟨n, ds, rfl, h4, h5, h6⟩
theorem good_list {α : Type} {f : α → D} {K : α → Prop} {p : D → Prop} (h : ∀ x, p x → ∃ y, x = f y ∧ K y) : ∀ (xs : List D), (∀ x ∈ xs, p x) → ∃ ys : List α, xs = ys.map f ∧ ∀ y ∈ ys, K y
  | [], _ => ⟨[], rfl, by simp⟩
  | x :: xs, hx => by
    obtain ⟨y, rfl, hy⟩ := h x (hx x (by simp))
    obtain ⟨ys, rfl, hys⟩ := good_list h xs fun z hz => hx z (by simp [hz])
    refine ⟨y :: ys, rfl, fun z hz => ?_⟩
    rcases List.mem_cons.1 hz with rfl | hz
    · exact hy
    · exact hys z hz
theorem shape_of {w : World} {r : Reach} {base : Nat} {v : Value} (hT : TabOK P tab) (hv : Value.okWide P w r base t v) (g : GoodT tab n t d) : d.shape v = true := by
  cases n with
  | zero => simp [GoodT] at g
  | succ n =>
    unfold GoodT at g
    obtain ⟨i, hi, g⟩ := g
    obtain ⟨tf, z, dd, h1, h2, h3, _⟩ := tiOf_inv (ti_ok hT hi)
    unfold Value.okWide at hv
    rw [h2] at hv
    split at g
    · rename_i hd
      have := td_bool (h3.trans hd); subst this
      obtain ⟨b, rfl⟩ := g
      cases v <;> first | rfl | (simp [Cell.okWide, Cell.ok, h2] at hv)
    · rename_i k hd
      have := td_int (h3.trans hd); subst this
      obtain ⟨b, rfl, _⟩ := g
      cases v <;> first | rfl | (simp [Cell.okWide, Cell.ok, h2] at hv)
    · rename_i hd
      have := td_str (h3.trans hd); subst this
      obtain ⟨b, rfl, _⟩ := g
      cases v <;> first | rfl | (simp [Cell.okWide, Cell.ok, h2] at hv)
    · rename_i e hd
      have := td_slice (h3.trans hd); subst this
      obtain ⟨ie, xs, _, rfl, _⟩ := g
      cases v <;> first | rfl | (simp [Cell.okWide, Cell.ok, h2] at hv)
    · rename_i fs hd
      obtain ⟨gs, rfl, _⟩ := td_struct (h3.trans hd)
      obtain ⟨ds, rfl, _⟩ := g
      simp only at hv
      obtain ⟨cs, rfl, _⟩ := hv
      rfl
    · rename_i m e hd
      have := td_array (h3.trans hd); subst this
      obtain ⟨ds, rfl, _⟩ := g
      simp only at hv
      obtain ⟨cs, rfl, _⟩ := hv
      rfl
    · exact g.elim
end
end Go.Proofs.Ytnjeklpjjceppaa.Ab
namespace Go.Proofs.Ytnjeklpjjceppaa
open Go.ChangeShapes Go.WideShapes Go.ChangeAt Go.RowKit Go.Joins
set_option linter.all false
theorem own : ownKnob Try.prog.godebug = none := by kernel_rfl
theorem laidOut' : laidOutB Try.prog = true := by kernel_rfl
theorem args_back {H : Type} {enc : TypeId × Value → H} {P : Program} {W : World} (hl : laidOutB P = true) : ∀ {ts : List TypeId} {vs : List Value} {ds : List (DataW H)} {ps : List MemPlace},
    (ts.all fun t => P.readableRec t && decide (t < P.types.size)) = true → DataW.TrodAll enc P W 0 (fun _ => true) true ts vs ds ps → (∀ x ∈ ps, x.block < W.heap.size) → ∀ W', Below W.heap.size W W' →
    ∀ sp : Nat → Bool, (∀ x ∈ ps, sp x.block = true) → DataW.TrodAll enc P W' 0 sp true ts vs ds ps
  | [], vs, ds, ps, _, h, _, W', hb, sp, hsp => by
    obtain ⟨rfl, rfl, rfl⟩ := trodAll_nil h
    exact trodAll_mk0
  | t :: ts, vs, ds, ps, hr, h, hlt, W', hb, sp, hsp => by
    obtain ⟨v, vs', d, ds', p, q, rfl, rfl, rfl, h0, h1⟩ := trodAll_cons h
    simp only [List.all_cons, Bool.and_eq_true, decide_eq_true_eq] at hr
    exact trodAll_cons_mk (WideElems.Trod_stays hl hr.1.1 hr.1.2 h0 (fun x hx => hb.same (hlt x (by simp [hx]))) (fun x hx => hsp x (by simp [hx])))
      (args_back hl hr.2 h1 (fun x hx => hlt x (by simp [hx])) W' hb sp (fun x hx => hsp x (by simp [hx])))
end Go.Proofs.Ytnjeklpjjceppaa
namespace Go.Proofs.Ytnjeklpjjceppaa.Ab
open Go
set_option linter.all false
mutual
def bulk {H : Type} : DataW H → Nat
  | .lit (.string bytes) => bytes.length + 1
  | .lit _ => 1
  | .nil => 1
  | .ptr d => bulk d + 1
  | .slice elems spare => bulkAll elems + bulkAll spare + 1
  | .agg parts => bulkAll parts + 1
  | .iface _ d => bulk d + 1
  | .map _ => 1
  | .held _ => 1
def bulkAll {H : Type} : List (DataW H) → Nat
  | [] => 0
  | d :: r => bulk d + bulkAll r
end
def wtv : Value → Nat
  | .string s => s.size + 1
  | _ => 1
mutual
def wt : D → Nat
  | .any => 0
  | .v x => wtv x
  | .agg l => wts l
  | .lst _ xs _ => wts xs + 1
  | .el _ => 0
  | .ptr _ _ => 0
  | .fn _ _ _ => 0
  | .tup _ => 0
def wts : List D → Nat
  | [] => 0
  | d :: l => wt d + wts l
end
theorem wts_append : ∀ (l m : List D), wts (l ++ m) = wts l + wts m
  | [], m => by simp [wts]
  | d :: l, m => by simp only [List.cons_append, wts, wts_append l m]; omega
theorem wts_cells (d : D) : wts (dcells d) = wt d := by
  cases d <;> simp [dcells, wts, wt]
section
variable {H : Type} {enc : TypeId × Value → H} {P : Program} {w : World} {base : Nat} {spare : Nat → Bool} {held : Bool} {tab : List (Option TI)} {ts : List Nat}
def RdW (tab : List (Option TI)) (w : World) (n t : Nat) (cs : List Value) (d : D) (m : Nat) : Prop :=
  wt d ≤ m ∧ ∃ i, ti tab t = some i ∧ RepC (allOf w) d cs ∧ Reps (allOf w) (dcells d) cs ∧ cs.length = i.size ∧ (dcells d).length = i.size ∧ GoodT tab n t d
theorem rdw_fields (hT : TabOK P tab) {n : Nat} {cs : List Value} (ih : ∀ t cs x, ts.contains t = true → DataW.trod enc P w base spare held n t cs = some x → ∃ d, RdW tab w n t cs d (bulk x.1)) :
    ∀ (gs : List Field) (ys : List (DataW H × List MemPlace)) (off total : Nat), fieldsOK tab ts off (gs.map fun f => (f.type, f.offset)) = some total → total ≤ cs.length → gs.length = ys.length → (∀ (j : Nat) f y, gs[j]? = some f → ys[j]? = some y → DataW.trod enc P w base spare held n f.type ((cs.drop f.offset).take (P.cellsOf f.type)) = some y) →
      off ≤ total ∧ ∃ ds : List D, wts (ds.flatMap dcells) ≤ bulkAll (ys.map (·.1)) ∧ ds.length = gs.length ∧ Reps (allOf w) (ds.flatMap dcells) ((cs.drop off).take (total - off)) ∧ (ds.flatMap dcells).length = total - off ∧ ∀ (j : Nat) (f : Nat × Nat) (d0 : D), (gs.map fun f => (f.type, f.offset))[j]? = some f → ds[j]? = some d0 → GoodT tab n f.1 d0
  | [], ys, off, total, h, _, _, _ => by
    simp [fieldsOK] at h; subst h
    exact ⟨Nat.le_refl _, [], by simp [wts], rfl, by simp [Reps], by simp, fun j f d0 e => by simp at e⟩
  | g :: gs, [], off, total, h, hl, hlen, hy => by simp at hlen
  | g :: gs, y :: ys, off, total, h, hl, hlen, hy => by
    simp only [List.map_cons, fieldsOK] at h
    split at h
    · rename_i i hi
      cases hb : (Nat.beq g.offset off && ts.contains g.type) with
      | false => rw [hb] at h; cases h
      | true =>
        rw [hb] at h
        simp only [cond_true] at h
        simp only [Bool.and_eq_true] at hb
        have ho := Nat.eq_of_beq_eq_true hb.1
        have hy0 := hy 0 g y rfl rfl
        obtain ⟨d, hw, i', hi', h1, h2, h3, h4, h5⟩ := ih _ _ y hb.2 hy0
        rw [hi] at hi'; cases hi'
        obtain ⟨hle, ds, ew, e1, e2, e3, e4⟩ := rdw_fields hT ih gs ys (off + i.size) total h hl (by simpa using hlen) fun j f y' hf hy' => hy (j + 1) f y' (by simpa using hf) (by simpa using hy')
        rw [cellsOf_ti hT hi, ho] at h2
        refine ⟨by omega, d :: ds, by simp only [List.flatMap_cons, wts_append, wts_cells, List.map_cons, bulkAll]; omega, by simp [e1], ?_, by simp [h4, e3]; omega, ?_⟩
        · simp only [List.flatMap_cons]
          have := reps_append h2 e2
          have e : (cs.drop off).take i.size ++ (cs.drop (off + i.size)).take (total - (off + i.size)) = (cs.drop off).take (total - off) := by
            rw [show total - off = i.size + (total - (off + i.size)) by omega, List.take_add, List.drop_drop]
          rwa [e] at this
        · intro j f d0 hf hd
          cases j with
          | zero => simp at hf hd; subst hf; subst hd; exact h5
          | succ j => exact e4 j f d0 (by simpa using hf) (by simpa using hd)
    · cases h
theorem rdw_elems {n e sz b off : Nat} {ie : TI} (hie : ti tab e = some ie) (hsz : ie.size = sz) (he : ts.contains e = true) (ih : ∀ t cs x, ts.contains t = true → DataW.trod enc P w base spare held n t cs = some x → ∃ d, RdW tab w n t cs d (bulk x.1)) :
    ∀ (ys : List (DataW H × List MemPlace)) (i0 : Nat), (∀ (j : Nat) y, ys[j]? = some y → ∃ cs, w.cells? base ((⟨b, off, none⟩ : Addr).add ((i0 + j) * sz)) sz = some cs ∧ DataW.trod enc P w base spare held n e cs = some y) →
      ∃ xs : List D, wts xs ≤ bulkAll (ys.map (·.1)) ∧ xs.length = ys.length ∧ Els (allOf w) sz b (off + i0 * sz) xs ∧ ∀ x ∈ xs, GoodT tab n e x
  | [], i0, _ => ⟨[], by simp [wts], rfl, by simp [Els], by simp⟩
  | y :: ys, i0, h => by
    obtain ⟨cs, h1, h2⟩ := h 0 y rfl
    rw [Nat.add_zero] at h1
    obtain ⟨d, hw, i', hi', g1, g2, g3, g4, g5⟩ := ih e cs y he h2
    rw [hie] at hi'; cases hi'
    obtain ⟨xs, fw, f1, f2, f3⟩ := rdw_elems hie hsz he ih ys (i0 + 1) fun j y' hj => by
      have := h (j + 1) y' (by simpa using hj)
      rwa [show i0 + (j + 1) = i0 + 1 + j by omega] at this
    refine ⟨d :: xs, by simp only [wts, List.map_cons, bulkAll]; omega, by simp [f1], ?_, ?_⟩
    · simp only [Els]
      refine ⟨⟨cs, by rw [g3, hsz], g1, fun j u hj => ?_, reps_one g2⟩, ?_⟩
      · obtain ⟨_, hlen, hc⟩ := World.cells?_some h1
        have hjl : j < sz := by rw [← hlen]; exact (List.getElem?_eq_some_iff.1 hj).1
        have := hc j hjl
        rw [addr_add, addr_add] at this
        show w.cell? _ = _
        rw [this]; exact hj
      · rw [show off + i0 * sz + sz = off + (i0 + 1) * sz by rw [Nat.add_mul]; omega]; exact f2
    · intro x hx
      rcases List.mem_cons.1 hx with rfl | hx
      · exact g5
      · exact f3 x hx
theorem rdw_arr {n e sz : Nat} {ie : TI} {cs : List Value} (hie : ti tab e = some ie) (hsz : ie.size = sz) (he : ts.contains e = true) (ih : ∀ t cs x, ts.contains t = true → DataW.trod enc P w base spare held n t cs = some x → ∃ d, RdW tab w n t cs d (bulk x.1)) :
    ∀ (ys : List (DataW H × List MemPlace)) (i0 : Nat), (∀ (j : Nat) y, ys[j]? = some y → DataW.trod enc P w base spare held n e ((cs.drop ((i0 + j) * sz)).take sz) = some y) →
      ∃ ds : List D, wts (ds.flatMap dcells) ≤ bulkAll (ys.map (·.1)) ∧ ds.length = ys.length ∧ Reps (allOf w) (ds.flatMap dcells) ((cs.drop (i0 * sz)).take (ys.length * sz)) ∧ (ds.flatMap dcells).length = ys.length * sz ∧ ∀ x ∈ ds, GoodT tab n e x
  | [], i0, _ => ⟨[], by simp [wts], rfl, by simp [Reps], by simp, by simp⟩
  | y :: ys, i0, h => by
    have h2 := h 0 y rfl
    rw [Nat.add_zero] at h2
    obtain ⟨d, hw, i', hi', g1, g2, g3, g4, g5⟩ := ih e _ y he h2
    rw [hie] at hi'; cases hi'
    obtain ⟨ds, fw, f1, f2, f3, f4⟩ := rdw_arr hie hsz he ih ys (i0 + 1) fun j y' hj => by
      have := h (j + 1) y' (by simpa using hj)
      rwa [show i0 + (j + 1) = i0 + 1 + j by omega] at this
    refine ⟨d :: ds, by simp only [List.flatMap_cons, wts_append, wts_cells, List.map_cons, bulkAll]; omega, by simp [f1], ?_, ?_, ?_⟩
    · simp only [List.flatMap_cons]
      have := reps_append g2 f2
      have e2 : (cs.drop (i0 * sz)).take sz ++ (cs.drop ((i0 + 1) * sz)).take (ys.length * sz) = (cs.drop (i0 * sz)).take ((ys.length + 1) * sz) := by
        rw [show (ys.length + 1) * sz = sz + ys.length * sz by rw [Nat.add_mul]; omega, List.take_add, List.drop_drop, show i0 * sz + sz = (i0 + 1) * sz by rw [Nat.add_mul]; omega]
      rwa [e2] at this
    · simp only [List.flatMap_cons, List.length_append, f3, g4, hsz]
      show sz + ys.length * sz = (ys.length + 1) * sz
      rw [Nat.add_mul]; omega
    · intro x hx
      rcases List.mem_cons.1 hx with rfl | hx
      · exact g5
      · exact f4 x hx
theorem rdw (hT : TabOK P tab) (hc : closedT tab ts = true) : ∀ (n : Nat) (t : TypeId) (cs : List Value) (x : DataW H × List MemPlace), ts.contains t = true → DataW.trod enc P w base spare held n t cs = some x → ∃ d, RdW tab w n t cs d (bulk x.1) := by
  intro n
  induction n with
  | zero => intro t cs x _ h; simp [DataW.trod] at h
  | succ n ih =>
    intro t cs x ht h
    have hok : typeOK tab ts t = true := by
      unfold closedT at hc
      rw [List.all_eq_true] at hc
      exact hc t (by simpa using ht)
    unfold typeOK at hok
    split at hok
    · rename_i i hi
      obtain ⟨tf, z, dd, h1, h2, h3, h4, _⟩ := tiOf_inv (ti_ok hT hi)
      split at hok
      · rename_i hd
        have hs := Nat.eq_of_beq_eq_true hok
        obtain ⟨b, rfl, rfl⟩ := DataW.trod_bool (by rw [h2, td_bool (h3.trans hd)]) h
        refine ⟨.v (.bool b), by simp [wt, wtv, bulk], i, hi, by simp [RepC], ?_, by simp [hs], by simp [dcells, hs], ?_⟩
        · simp only [dcells, Reps]; exact ⟨_, _, rfl, ⟨by simp [RepC], rfl, rfl⟩, rfl⟩
        · unfold GoodT; exact ⟨i, hi, by rw [hd]; exact ⟨b, rfl⟩⟩
      · rename_i k hd
        have hs := Nat.eq_of_beq_eq_true hok
        obtain ⟨m, rfl, rfl, hwf⟩ := DataW.trod_int (by rw [h2, td_int (h3.trans hd)]) h
        refine ⟨.v (.int k m), by simp [wt, wtv, bulk], i, hi, by simp [RepC], ?_, by simp [hs], by simp [dcells, hs], ?_⟩
        · simp only [dcells, Reps]; exact ⟨_, _, rfl, ⟨by simp [RepC], rfl, rfl⟩, rfl⟩
        · unfold GoodT; exact ⟨i, hi, by rw [hd]; exact ⟨m, rfl, hwf⟩⟩
      · rename_i hd
        have hs := Nat.eq_of_beq_eq_true hok
        obtain ⟨s, rfl, rfl, hwf⟩ := DataW.trod_string (by rw [h2, td_str (h3.trans hd)]) h
        refine ⟨.v (.string s), by simp [wt, wtv, bulk], i, hi, by simp [RepC], ?_, by simp [hs], by simp [dcells, hs], ?_⟩
        · simp only [dcells, Reps]; exact ⟨_, _, rfl, ⟨by simp [RepC], rfl, rfl⟩, rfl⟩
        · unfold GoodT; exact ⟨i, hi, by rw [hd]; exact ⟨s, rfl, hwf⟩⟩
      · rename_i e hd
        simp only [Bool.and_eq_true] at hok
        obtain ⟨⟨he, hs⟩, hsz⟩ := hok
        have hs := Nat.eq_of_beq_eq_true hs
        split at hsz
        · rename_i ie hie
          have hsz := Nat.le_of_ble_eq_true hsz
          rcases DataW.trod_slice (by rw [h2, td_slice (h3.trans hd)]) h with ⟨rfl, rfl⟩ | ⟨a, len, cap, elems, rest, n', hf, rfl, rfl, hb, hlc, hcm, hel, hcells, _, _⟩
          · have hr : RepC (allOf w) (.lst ie.size [] .no) [.slice none 0 0] := by
              simp only [RepC, CapOK]; exact ⟨_, rfl, trivial, .inl ⟨by trivial, none, 0, rfl, fun _ => rfl⟩⟩
            refine ⟨.lst ie.size [] .no, by simp [wt, wts, bulk], i, hi, hr, ?_, by simp [hs], by simp [dcells, hs], ?_⟩
            · simp only [dcells, Reps]; exact ⟨_, _, rfl, ⟨hr, rfl, rfl⟩, rfl⟩
            · unfold GoodT; exact ⟨i, hi, by rw [hd]; exact ⟨ie, [], hie, rfl, by simp, by simp⟩⟩
          · have : n' = n := by omega
            subst this
            rw [cellsOf_ti hT hie] at hcells
            rcases Nat.eq_zero_or_pos len with hz | hpos
            · subst hz
              have hr : RepC (allOf w) (.lst ie.size [] .no) [.slice (some a) 0 cap] := by
                simp only [RepC, CapOK]; exact ⟨_, rfl, trivial, .inl ⟨by trivial, some a, cap, rfl, fun q => by cases q⟩⟩
              refine ⟨.lst ie.size [] .no, by simp [wt, wts, bulk], i, hi, hr, ?_, by simp [hs], by simp [dcells, hs], ?_⟩
              · simp only [dcells, Reps]; exact ⟨_, _, rfl, ⟨hr, rfl, rfl⟩, rfl⟩
              · unfold GoodT; exact ⟨i, hi, by rw [hd]; exact ⟨ie, [], hie, rfl, by simp, by simp⟩⟩
            · have hsome : ∀ j, j < len → ∃ cs y, w.cells? base (a.add (j * ie.size)) ie.size = some cs ∧ DataW.trod enc P w base spare held n' e cs = some y := by
                intro j hj
                have hj2 := hcells j hj
                rw [List.getElem?_eq_getElem (by omega)] at hj2
                rw [Option.bind_eq_some_iff] at hj2
                obtain ⟨cs, q1, q2⟩ := hj2
                exact ⟨cs, _, q1, q2⟩
              have hspot : a.spot = none := by
                obtain ⟨cs, y, q1, _⟩ := hsome 0 hpos
                obtain ⟨_, hlen, hcc⟩ := World.cells?_some q1
                have q2 := hcc 0 (by omega)
                rw [List.getElem?_eq_getElem (by omega)] at q2
                have q3 : (a.add (0 * ie.size)).add 0 = a := by simp [Addr.add]
                rw [q3] at q2
                cases hsp : a.spot with
                | none => rfl
                | some s =>
                  unfold World.cell? at q2
                  split at q2
                  · simp [hsp] at q2
                  · cases q2
              obtain ⟨b, off, sp⟩ := a
              simp only at hspot; subst hspot
              have hel2 : elems.length = len := hel
              obtain ⟨xs, fw, f1, f2, f3⟩ := rdw_elems (spare := spare) (held := held) (enc := enc) (P := P) (base := base) (b := b) (off := off) hie rfl he ih elems 0 fun j y hj => by
                have hjl := (List.getElem?_eq_some_iff.1 hj).1
                have hj2 := hcells j (by omega)
                rw [hj, Option.bind_eq_some_iff] at hj2
                obtain ⟨cs, q1, q2⟩ := hj2
                rw [Nat.zero_add]
                exact ⟨cs, q1, q2⟩
              rw [hel2] at f1
              have hr : RepC (allOf w) (.lst ie.size xs .no) [.slice (some ⟨b, off, none⟩) len cap] := by
                simp only [RepC, CapOK]
                refine ⟨_, rfl, trivial, .inr ⟨b, off, cap, by rw [f1], by rw [f1]; exact hlc, by simpa using f2⟩⟩
              refine ⟨.lst ie.size xs .no, by simp only [wt, bulk]; omega, i, hi, hr, ?_, by simp [hs], by simp [dcells, hs], ?_⟩
              · simp only [dcells, Reps]; exact ⟨_, _, rfl, ⟨hr, rfl, rfl⟩, rfl⟩
              · unfold GoodT; exact ⟨i, hi, by rw [hd]; exact ⟨ie, xs, hie, rfl, by rw [f1]; omega, f3⟩⟩
        · cases hsz
      · rename_i fs hd
        split at hok
        · rename_i tot hfo
          have hs := Nat.eq_of_beq_eq_true hok
          obtain ⟨gs, e1, e2⟩ := td_struct (h3.trans hd)
          obtain ⟨xs, n', hf, rfl, hl, hxl, hx⟩ := DataW.trod_struct (by rw [h2, e1]) h
          have : n' = n := by omega
          subst this
          rw [cellsOf_ti hT hi] at hl
          obtain ⟨_, ds, fw, f1, f2, f3, f4⟩ := rdw_fields hT (cs := cs) ih gs.toList xs 0 tot (by rw [e2]; exact hfo) (by omega) (by rw [hxl]; simp) fun j f y hj hy => by
            have hj' : gs[j]? = some f := by simpa using hj
            rw [hx j f hj', hy]
          simp only [List.drop_zero, Nat.sub_zero] at f2 f3
          rw [List.take_of_length_le (by omega)] at f2
          refine ⟨.agg (ds.flatMap dcells), by simp only [wt, bulk]; omega, i, hi, by simp only [RepC]; exact f2, f2, hl, by simp only [dcells]; omega, ?_⟩
          unfold GoodT
          exact ⟨i, hi, by rw [hd]; exact ⟨ds, rfl, by rw [f1, ← e2]; simp, fun j f d0 q1 q2 => f4 j f d0 (by rw [e2]; exact q1) q2⟩⟩
        · cases hok
      · rename_i m e hd
        simp only [Bool.and_eq_true] at hok
        obtain ⟨he, hsz⟩ := hok
        split at hsz
        · rename_i ie hie
          have hsz := Nat.eq_of_beq_eq_true hsz
          obtain ⟨xs, n', hf, rfl, hl, hxl, hx⟩ := DataW.trod_array (by rw [h2, td_array (h3.trans hd)]) h
          have : n' = n := by omega
          subst this
          rw [cellsOf_ti hT hi] at hl
          rw [cellsOf_ti hT hie] at hx
          obtain ⟨ds, fw, f1, f2, f3, f4⟩ := rdw_arr (cs := cs) hie rfl he ih xs 0 fun j y hj => by
            have hjl := (List.getElem?_eq_some_iff.1 hj).1
            rw [Nat.zero_add, hx j (by omega), hj]
          rw [hxl] at f1 f2 f3
          simp only [Nat.zero_mul, List.drop_zero] at f2
          rw [List.take_of_length_le (by omega)] at f2
          refine ⟨.agg (ds.flatMap dcells), by simp only [wt, bulk]; omega, i, hi, by simp only [RepC]; exact f2, f2, hl, by simp only [dcells]; omega, ?_⟩
          unfold GoodT
          exact ⟨i, hi, by rw [hd]; exact ⟨ds, rfl, f1, f4⟩⟩
        · cases hsz
      · cases hok
    · cases hok
theorem rdw_arg {v : Value} {x : DataW H} {ps : List MemPlace} {r : Reach} {b0 t : Nat} (hT : TabOK P tab) (ts : List Nat) (hc : closedT tab ts = true) (ht : ts.contains t = true)
    (hv : Value.okWide P w r b0 t v) (h : DataW.Trod enc P w base spare held t v x ps) : ∃ n d, GoodT tab n t d ∧ Rep (allOf w) d v ∧ wt d ≤ bulk x := by
  obtain ⟨n, hn⟩ := h
  obtain ⟨d, hw, i, h1, h2, h3, h4, h5, h6⟩ := rdw hT hc n t _ _ ht hn
  exact ⟨n, d, h6, ⟨h2, shape_of hT hv h6⟩, hw⟩
end
end Go.Proofs.Ytnjeklpjjceppaa.Ab
namespace Go.Proofs.Ytnjeklpjjceppaa.Ab
open Go
set_option linter.all false
theorem lives10 : l10_lives = some true := (l10_lives_cle 90).of (by kernel_rfl)
end Go.Proofs.Ytnjeklpjjceppaa.Ab
namespace Go.Proofs.Ytnjeklpjjceppaa.Ab.Pq
open Go
set_option linter.all false
theorem all256 {p : UInt8 → Bool} (h : (List.range 256).all (fun n => p (UInt8.ofNat n)) = true) (c : UInt8) : p c = true := by
  have := List.all_eq_true.1 h c.toNat (by simp; exact c.toNat_lt)
  simpa using this
noncomputable def tabF (c : UInt8) : Bool := decide (r10_letter (c.toNat : Int) = some (kd c == 2)) && decide (r10_digit (c.toNat : Int) = some (kd c == 3))
theorem tab_all (c : UInt8) : tabF c = true := all256 (p := tabF) (by kernel_rfl) c
theorem let_eq (c : UInt8) : r10_letter (c.toNat : Int) = some (kd c == 2) := by
  have := tab_all c
  unfold tabF at this
  simp only [Bool.and_eq_true, decide_eq_true_eq] at this
  exact this.1
theorem digit_eq (c : UInt8) : r10_digit (c.toNat : Int) = some (kd c == 3) := by
  have := tab_all c
  unfold tabF at this
  simp only [Bool.and_eq_true, decide_eq_true_eq] at this
  exact this.2
theorem rin_eq (l : List ByteArray) (s : ByteArray) (hl : l.length ≤ 1000) : r10_in l s = some (hasS s l) := by
  unfold r10_in
  have h1 : hasS s l = l.any fun x => decide (x = s) := by
    unfold hasS; congr 1; funext x; exact decide_eq_decide.2 eq_comm
  refine any_list l (fun x => decide (x = s)) (fun _ => true) (fun p x q h => ?_) ?_ (fun h => ?_) fun j _ h => ?_
  · rw [lt_pre h, cond_true, idx_pre2 h rfl, Option.bind_some, inc_pre h (by omega)]
    cases decide (x = s) <;> rfl
  · rw [lt_end, cond_false]
  · rw [h1, h]; rfl
  · rw [h1, h]; rfl
theorem rword_eq (s : ByteArray) : r10_Word s = some (wd s) := by
  unfold r10_Word
  rw [rin_eq _ _ (by decide), Option.bind_some]
  unfold wd token_Word
  rw [contains_eq _ _ (by decide), Option.bind_some]
  simp only [Option.getD_some]
  congr 1
  unfold hasS
  simp only [List.any_cons, List.any_nil, Bool.or_false]
  ac_rfl
theorem kd_kr (c : UInt8) : kd c = kr (c.toNat : Int) := by
  unfold kd kr
  have h := c.toNat_lt
  rw [show IntKind.i32.wrap (c.toNat : Int) = (c.toNat : Int) by rw [IntKind.wrap_i32]; omega]
theorem kr_high {n : Nat} (h : 128 ≤ n) : kr (n : Int) = 0 := by
  unfold kr token_kind
  rw [show ((n : Int) == 32) = false from beq_eq_false_iff_ne.2 (by omega), show ((n : Int) == 9) = false from beq_eq_false_iff_ne.2 (by omega), show ((n : Int) == 10) = false from beq_eq_false_iff_ne.2 (by omega), show ((n : Int) == 13) = false from beq_eq_false_iff_ne.2 (by omega), show ((n : Int) == 95) = false from beq_eq_false_iff_ne.2 (by omega),
    decide_eq_true (show (97 : Int) ≤ (n : Int) by omega), decide_eq_false (show ¬ (n : Int) ≤ 122 by omega), decide_eq_true (show (65 : Int) ≤ (n : Int) by omega), decide_eq_false (show ¬ (n : Int) ≤ 90 by omega), decide_eq_true (show (48 : Int) ≤ (n : Int) by omega), decide_eq_false (show ¬ (n : Int) ≤ 57 by omega)]
  rfl
noncomputable def ld (c : UInt8) : Bool := kd c == 2 || kd c == 3
theorem plainF_step (s : ByteArray) (g pos : Nat) (h : pos < s.size) : plainF s (g + 1) pos = if kd (s[pos]'h) = 2 ∨ (kd (s[pos]'h) = 3 ∧ pos ≠ 0) then plainF s g (pos + 1) else false := by
  rw [plainF, if_pos h]
  by_cases ha : (s[pos]'h).toNat < 128
  · rw [decode_ascii s pos h ha, kd_kr]
  · obtain ⟨h1, _⟩ := decode_high s pos h (by omega)
    rw [kr_high h1, kd_kr, kr_high (by omega)]
    simp
theorem drop_s (s : ByteArray) (pos : Nat) (h : pos < s.size) : s.data.toList.drop pos = (s[pos]'h) :: s.data.toList.drop (pos + 1) := List.drop_eq_getElem_cons (l := s.data.toList) h
theorem plainF_eq (s : ByteArray) : ∀ (g pos : Nat), s.size ≤ pos + g → 1 ≤ pos → plainF s g pos = ((s.data.toList.drop pos).all ld && !s.toList.isEmpty)
  | g, pos, hg, hp => by
    by_cases h : pos < s.size
    · obtain ⟨g, rfl⟩ : ∃ g', g = g' + 1 := ⟨g - 1, by omega⟩
      rw [plainF_step s g pos h, drop_s s pos h, List.all_cons, plainF_eq s g (pos + 1) (by omega) (by omega)]
      unfold ld
      by_cases h2 : kd (s[pos]'h) = 2
      · rw [if_pos (.inl h2), h2]; simp
      · by_cases h3 : kd (s[pos]'h) = 3
        · rw [if_pos (.inr ⟨h3, by omega⟩), h3]; simp
        · rw [if_neg (by rw [not_or]; exact ⟨h2, fun k => h3 k.1⟩), show (kd (s[pos]'h) == 2) = false by simpa using h2, show (kd (s[pos]'h) == 3) = false by simpa using h3]; simp
    · rw [plainF_end s g pos h, List.drop_of_length_le (by show s.size ≤ pos; omega)]; simp
theorem plainB_eq {s : ByteArray} {c : UInt8} {r : List UInt8} (h : s.data.toList = c :: r) : plainB s = (!(kd c == 3) && (c :: r).all ld) := by
  have hsz : 0 < s.size := by
    have := congrArg List.length h
    show 0 < s.data.toList.length
    rw [this]; simp
  have hc : s[0]'hsz = c := by
    have := drop_s s 0 hsz
    rw [List.drop_zero, h] at this
    exact (List.cons.inj this).1.symm
  have hr : s.data.toList.drop 1 = r := by rw [h]; rfl
  have hne : s.toList.isEmpty = false := by
    rw [ByteArray.toList_eq]
    show s.data.toList.isEmpty = false
    rw [h]; rfl
  unfold plainB
  obtain ⟨g, hg⟩ : ∃ g, s.size = g + 1 := ⟨s.size - 1, by omega⟩
  rw [hg, plainF_step s g 0 hsz, hc, plainF_eq s g (0 + 1) (by omega) (by omega), hne, List.all_cons]
  show (if _ then ((s.data.toList.drop 1).all ld && true) else false) = _
  rw [hr]
  unfold ld
  by_cases h2 : kd c = 2
  · rw [if_pos (.inl h2), h2]; simp
  · rw [if_neg (by rw [not_or]; exact ⟨h2, fun k => k.2 rfl⟩), show (kd c == 2) = false by simpa using h2]
    cases kd c == 3 <;> simp
theorem bAt_eq (s : ByteArray) (i : Int) : bAt s i = idx s.data.toList i := by unfold bAt; simp
theorem rname_loop {s : ByteArray} (hb : s.data.toList.length ≤ 100000) {k : Unit ⊕ Bool → Option Bool} (k0 : k (.inl ()) = some true) (k1 : k (.inr false) = some false) : Option.bind (loopM (fun (s61 : Int) => (bif (decide (s61 < (s.size : Int))) then (Option.bind (α := Bool) ((bAt s s61).bind fun x97 => ((r10_letter (x97.toNat : Int)).bind fun x98 => (bif (!x98) then ((bAt s s61).bind fun x100 => ((r10_digit (x100.toNat : Int)).bind fun x101 => some (!x101))) else some false))) fun y96 => (bif y96 then some (Step.done (Sum.inr false)) else some (.next (IntKind.i64.wrap (s61 + (1 : Int)))))) else some (.done (.inl ())))) (0 : Int)) k = some (s.data.toList.all ld) := by
  refine any_list s.data.toList (fun c => !ld c) (fun _ => false) (fun p x q h => ?_) ?_ (fun h => ?_) fun j _ h => ?_
  · rw [bAt_eq, show decide ((p.length : Int) < (s.size : Int)) = true from lt_pre h, cond_true, idx_pre2 h rfl, Option.bind_some, let_eq, Option.bind_some, Option.bind_some, digit_eq, Option.bind_some, inc_pre h (by omega)]
    unfold ld
    cases kd x == 2 <;> cases kd x == 3 <;> rfl
  · rw [show decide ((s.data.toList.length : Int) < (s.size : Int)) = false from lt_end s.data.toList, cond_false]
  · rw [k0]
    congr 1
    symm
    rw [List.all_eq_true]
    rw [List.any_eq_false] at h
    intro x hx
    have := h x hx
    simpa using this
  · rw [k1]
    congr 1
    symm
    rw [List.all_eq_false]
    rw [List.any_eq_true] at h
    obtain ⟨x, hx, hv⟩ := h
    exact ⟨x, hx, by simpa using hv⟩
theorem names_eq (s : ByteArray) : ∃ b, token_Name s = some b ∧ r10_Name s = some b := by
  refine ⟨decide (s.size ≤ 20) && (plainB s && !wd s), ?_, ?_⟩
  · unfold token_Name
    rw [word_eq, Option.bind_some]
    by_cases h : s.size ≤ 20
    · rw [decide_eq_true (by omega), decide_eq_true h]
      cases plainB s <;> rfl
    · rw [decide_eq_false (by omega), decide_eq_false h]; rfl
  · unfold r10_Name
    cases hd : s.data.toList with
    | nil =>
      have hs : s = ByteArray.mk #[] := by
        obtain ⟨⟨l⟩⟩ := s
        simp only at hd; subst hd; rfl
      subst hs
      have : plainB (ByteArray.mk #[]) = false := by
        unfold plainB
        rw [plainF_end _ _ _ (Nat.lt_irrefl 0), ByteArray.toList_eq]; rfl
      rw [this, decide_eq_true rfl]; rfl
    | cons c r =>
      have hne : ¬ s = ByteArray.mk #[] := fun e => by rw [e] at hd; cases hd
      have hlen : s.size = (c :: r).length := by rw [← hd]; rfl
      rw [decide_eq_false hne, cond_false]
      by_cases h : s.size ≤ 20
      · rw [decide_eq_false (by omega), cond_false, decide_eq_true h, bAt_eq, show idx s.data.toList (0 : Int) = some c by rw [hd]; rfl, Option.bind_some, digit_eq, Option.bind_some, rword_eq, Option.bind_some, plainB_eq hd]
        cases kd c == 3
        · rw [cond_false, Option.bind_some]
          cases wd s
          · rw [cond_false]
            refine (rname_loop (by rw [hd]; omega) rfl rfl).trans ?_
            rw [hd]; simp
          · simp
        · simp
      · rw [decide_eq_true (by omega), cond_true, Option.bind_some, cond_true, decide_eq_false h]; rfl
def tx (l : List Tok) : List (List UInt8) := l.map (·.gText.data.toList)
def Wt (l : List Tok) : Nat := (l.map fun t => t.gText.size + 1).sum
theorem join_snoc (l : List (List UInt8)) (x : List UInt8) : Lib.join (l ++ [x]) [32] = (if l = [] then [] else Lib.join l [32] ++ [32]) ++ x := by
  cases l with
  | nil => simp [Lib.join_one]
  | cons y ys =>
    rw [List.cons_append, Lib.join_cons, if_neg (by simp), Lib.join_cons]
    simp [Lib.joinTail]
theorem Wt_pre {l p : List Tok} {x : Tok} {q : List Tok} (h : l = p ++ x :: q) : Wt p + (x.gText.size + 1) ≤ Wt l := by
  subst h; unfold Wt; simp only [List.map_append, List.map_cons, List.sum_append, List.sum_cons]; omega
theorem joinTail_len : ∀ l : List Tok, (Lib.joinTail [32] (tx l)).length = Wt l
  | [] => rfl
  | y :: ys => by
    have := joinTail_len ys
    unfold Lib.joinTail tx Wt at this ⊢
    simp only [List.map_cons, List.flatten_cons, List.length_append, List.sum_cons, this, List.length_cons, List.length_nil]
    show 0 + 1 + y.gText.size + _ = _
    omega
theorem join_len (l : List Tok) : (Lib.join (tx l) [32]).length ≤ Wt l := by
  cases l with
  | nil => simp [tx, Lib.join_nil]
  | cons y ys =>
    have := joinTail_len ys
    show (Lib.join (y.gText.data.toList :: tx ys) [32]).length ≤ _
    rw [Lib.join_cons, List.length_append, this]
    unfold Wt
    simp only [List.map_cons, List.sum_cons]
    show y.gText.size + _ ≤ _
    omega
theorem len_Wt : ∀ l : List Tok, l.length ≤ Wt l
  | [] => Nat.zero_le _
  | y :: ys => by
    have := len_Wt ys
    unfold Wt at this ⊢
    simp only [List.map_cons, List.sum_cons, List.length_cons]; omega
theorem joinT_eq {l : List Tok} (hW : Wt l ≤ 1048576) : token_Join l = some ⟨(Lib.join (tx l) [32]).toArray⟩ := by
  unfold token_Join
  have hL := len_Wt l
  rw [show mkOK 16 (0 : Int) (l.length : Int) = true by
    simp only [mkOK, Bool.and_eq_true, decide_eq_true_eq]; omega]
  simp only [need, cond_true, Option.bind_some]
  refine loop_list l (fun pre => pre.map (·.gText)) (fun a n => ((n : Int), a)) (fun a => a) (by simp) (fun pre x post hpp => ?_) ?_ ?_
  · have hp : pre.length < l.length := by rw [hpp]; simp
    simp only [lt_pre hpp, cond_true]
    rw [idx_pre2 hpp rfl, Option.bind_some, app_len (by omega) (by simp; omega), Option.bind_some, inc_pre hpp (by omega), List.map_append]
    rfl
  · simp only [lt_end, cond_false]
  · have hj : joinB (l.map (·.gText)) (ByteArray.mk #[32]) = ⟨(Lib.join (tx l) [32]).toArray⟩ := by
      unfold joinB tx
      rw [List.map_map]; rfl
    have hlen := join_len l
    rw [show joinOK (l.map (·.gText)) (ByteArray.mk #[32]) = true by
      unfold joinOK
      rw [hj]
      simp only [Bool.and_eq_true, decide_eq_true_eq, List.length_map, ByteArray.size]
      simp only [List.size_toArray]
      omega]
    rw [hj]; rfl
theorem joinR_eq {l : List Tok} (hW : Wt l ≤ 1048576) : r10_Join l = some ⟨(Lib.join (tx l) [32]).toArray⟩ := by
  unfold r10_Join
  have hL := len_Wt l
  refine loop_list l (fun pre => Lib.join (tx pre) [32]) (fun a n => (a, (n : Int))) (fun a => a) (by simp [tx, Lib.join_nil]) (fun pre x post hpp => ?_) ?_ ?_
  · have hp : pre.length < l.length := by rw [hpp]; simp
    have hw := Wt_pre hpp
    have hj := join_len pre
    simp only [lt_pre hpp, cond_true]
    rw [inc_pre hpp (by omega)]
    have e : tx (pre ++ [x]) = tx pre ++ [x.gText.data.toList] := by unfold tx; simp
    have hxl : x.gText.data.toList.length = x.gText.size := rfl
    rw [e, join_snoc]
    cases pre with
    | nil =>
      rw [show decide ((0 : Int) < (([] : List Tok).length : Int)) = false from rfl, cond_false, Option.bind_some, idx_pre2 hpp rfl, Option.bind_some, app_len (by omega) (by omega), Option.bind_some]
      rfl
    | cons y ys =>
      rw [decide_eq_true (by simp only [List.length_cons]; omega), cond_true, app_len (by omega) (by show _ + 1 ≤ _; omega), Option.bind_some, Option.bind_some, idx_pre2 hpp rfl, Option.bind_some, app_len (by omega) (by rw [List.length_append]; show _ + 1 + _ ≤ _; omega), Option.bind_some, if_neg (by simp [tx])]
  · simp only [lt_end, cond_false]
  · rfl
theorem tokenNames_law (s : ByteArray) {l : List Tok} (hW : Wt l ≤ 1048576) : l10_TokenNames s l = some true := by
  unfold l10_TokenNames
  obtain ⟨b, h1, h2⟩ := names_eq s
  rw [h1, Option.bind_some, h2, Option.bind_some, word_eq, Option.bind_some, rword_eq, Option.bind_some, joinT_eq hW, Option.bind_some, joinR_eq hW, Option.bind_some, lives10]
  simp
theorem wt_Wt : ∀ l : List Tok, Wt l ≤ wts (l.map eTApiToken)
  | [] => Nat.zero_le _
  | y :: ys => by
    have := wt_Wt ys
    unfold Wt at this ⊢
    simp only [List.map_cons, List.sum_cons, wts, eTApiToken, wt, wtv]
    omega
end Go.Proofs.Ytnjeklpjjceppaa.Ab.Pq
namespace Go.Proofs.Ytnjeklpjjceppaa.Ab
open Go
set_option linter.all false
def wfTApiToken (x : TApiToken) : Prop := (Lit.int .i64 x.gKind).wf = true ∧ x.gText.size ≤ maxLen ∧ (Lit.int .i64 x.gN).wf = true ∧ (Lit.int .i64 x.gAt).wf = true
theorem goodTApiToken {n : Nat} {d : D} (g : GoodT tab n 40 d) : ∃ x : TApiToken, d = eTApiToken x ∧ wfTApiToken x := by
  obtain ⟨n', ds, _, rfl, hl, h⟩ := good_struct ti40 rfl g
  match ds, hl with
  | [d0, d1, d2, d3], _ =>
    obtain ⟨x1, rfl, w1⟩ := good_int ti3 rfl (h 0 _ _ rfl rfl)
    obtain ⟨x2, rfl, w2⟩ := good_str ti9 rfl (h 1 _ _ rfl rfl)
    obtain ⟨x3, rfl, w3⟩ := good_int ti3 rfl (h 2 _ _ rfl rfl)
    obtain ⟨x4, rfl, w4⟩ := good_int ti3 rfl (h 3 _ _ rfl rfl)
    exact ⟨⟨x1, x2, x3, x4⟩, rfl, w1, w2, w3, w4⟩
def wfL23 : List TApiToken → Prop := (fun y => (y.length ≤ maxLen ∧ ∀ z ∈ y, wfTApiToken z))
theorem goodL23 {n : Nat} {d : D} (g : GoodT tab n 23 d) : ∃ x : List TApiToken, d = .lst 4 (x.map eTApiToken) .no ∧ wfL23 x := by
  obtain ⟨n1, zs1, _, rfl, hl1, hz1⟩ := good_slice ti23 rfl ti40 (g)
  obtain ⟨x1, rfl, w1⟩ := good_list (f := eTApiToken) (K := (fun y => wfTApiToken y)) (p := fun x => GoodT tab n1 40 x) (fun x hx => by obtain ⟨x2, rfl, w2⟩ := goodTApiToken (hx); exact ⟨x2, rfl, w2⟩) zs1 hz1
  exact ⟨x1, rfl, ⟨by simpa using hl1, w1⟩⟩
theorem TokenNames_true (a0 : ByteArray) (a1 : List TApiToken) (h : wt (.v (.string a0)) + wt (.lst 4 (a1.map eTApiToken) .no) ≤ 1048576) (_ : a0.size ≤ maxLen) (_ : wfL23 a1) : l10_TokenNames a0 a1 = some true := Pq.tokenNames_law a0 (by have := Pq.wt_Wt a1; simp only [wt] at h; omega)
end Go.Proofs.Ytnjeklpjjceppaa.Ab
namespace Go.Proofs.Ytnjeklpjjceppaa
open Go.ChangeShapes Go.WideShapes Go.ChangeAt Go.RowKit Go.Joins
set_option linter.all false
mutual
theorem bulk_leTokenNames {H : Type} : ∀ d : DataW H, Ab.bulk d ≤ Rows.uptoBulk d
  | .lit (.string bytes) => by simp [Ab.bulk, Rows.uptoBulk]
  | .lit (.int _ _) => by simp [Ab.bulk, Rows.uptoBulk]
  | .lit (.bool _) => by simp [Ab.bulk, Rows.uptoBulk]
  | .lit l => by cases l <;> simp [Ab.bulk, Rows.uptoBulk]
  | .nil => by simp [Ab.bulk, Rows.uptoBulk]
  | .ptr d => by have := bulk_leTokenNames d; simp only [Ab.bulk, Rows.uptoBulk]; omega
  | .slice elems spare => by have h1 := bulkAll_leTokenNames elems; have h2 := bulkAll_leTokenNames spare; simp only [Ab.bulk, Rows.uptoBulk]; omega
  | .agg parts => by have := bulkAll_leTokenNames parts; simp only [Ab.bulk, Rows.uptoBulk]; omega
  | .iface t d => by have := bulk_leTokenNames d; simp only [Ab.bulk, Rows.uptoBulk]; omega
  | .map entries => by simp [Ab.bulk, Rows.uptoBulk]
  | .held h => by simp [Ab.bulk, Rows.uptoBulk]
theorem bulkAll_leTokenNames {H : Type} : ∀ l : List (DataW H), Ab.bulkAll l ≤ Rows.uptoBulkAll l
  | [] => by simp [Ab.bulkAll, Rows.uptoBulkAll]
  | d :: l => by have h1 := bulk_leTokenNames d; have h2 := bulkAll_leTokenNames l; simp only [Ab.bulkAll, Rows.uptoBulkAll]; omega
end
set_option maxRecDepth 100000 in
theorem liftedTokenNamesUpto (os : Os) (started : os.Started) (H : Type) (enc : TypeId × Value → H) (Fi : Stop.Interp) :
    ReturnsInHanded {} Try.checked os 5 .any ((Rows.OpenSpec.upto Rows.tokenNamesSpec).pre6 enc Try.prog Try.f5 Rows.tokenNamesUptoRow.domain false) (((Rows.OpenSpec.upto Rows.tokenNamesSpec).at Fi).post enc Try.prog Try.f5 false true false false) := by
  refine returnsInHanded_of_cond (C := Try.checked) (s := Rows.OpenSpec.upto Rows.tokenNamesSpec) (k := Rows.uptoSmall) rfl own started (by kernel_rfl) Try.func5
    (OpenSpec.witness (enc := enc) (C := Try.checked) (s := Rows.OpenSpec.upto Rows.tokenNamesSpec) (k := Rows.uptoSmall) rfl false ⟨#[], #[.string ByteArray.empty, .slice none 0 0], []⟩ 8 (by kernel_rfl) (by kernel_rfl) (by kernel_rfl)
      (x := ([.lit (.string []), .nil], [], [])) (by kernel_rfl) rfl (by kernel_rfl)) ?_
  intro W base args ds gs before hval0 hW _ hk _
  have hval : ∀ (j : Nat) t v, Try.f5.params[j]? = some t → args[j]? = some v → Value.okWide Try.prog W .any base t v := hval0
  have hW' := hW
  obtain ⟨p, q, hA0, hV, rfl, hfz, hnd⟩ := hW
  have hA : DataW.TrodAll enc Try.prog W 0 (fun _ => true) true Try.f5.params.toList args.toList ds p := hA0
  obtain ⟨rfl, rfl⟩ := trodVars_none hV
  simp only [List.append_nil] at hW' hk
  have hback := args_back laidOut' (by kernel_rfl) hA (fun x hx => hW'.lt x hx)
  rw [Try.params5] at hA hval
  obtain ⟨v0, vs0, d0, ds0, p0, q0, hargs, rfl, hp0, h0, r0⟩ := trodAll_cons hA
  obtain ⟨v1, vs1, d1, ds1, p1, q1, rfl, rfl, hp1, h1, r1⟩ := trodAll_cons r0
  obtain ⟨rfl, rfl, hpn⟩ := trodAll_nil r1
  obtain rfl : args = #[v0, v1] := by cases args; simp_all
  obtain ⟨n0, x0, g0, rep0, u0⟩ := Ab.rdw_arg (t := 9) Ab.htab [3, 9, 23, 40] (by kernel_rfl) (by kernel_rfl) (hval 0 9 v0 rfl rfl) h0
  obtain ⟨a0, rfl, k0⟩ := Ab.good_str Ab.ti9 rfl g0
  obtain ⟨n1, x1, g1, rep1, u1⟩ := Ab.rdw_arg (t := 23) Ab.htab [3, 9, 23, 40] (by kernel_rfl) (by kernel_rfl) (hval 1 23 v1 rfl rfl) h1
  obtain ⟨a1, rfl, k1⟩ := Ab.goodL23 g1
  have hb0 := of_decide_eq_true hk
  have hb1 := bulkAll_leTokenNames [d0, d1]
  simp only [Ab.bulkAll] at hb1
  clear hA0 hval0
  refine (Ab.to_calls (us := #[v0, v1]) (Ab.l10_TokenNames_ok a0 a1 true (Ab.TokenNames_true a0 a1 (by omega) k0 k1)) (Ab.ag_all W) (by simp only [Ab.RepsV]; exact ⟨_, _, rfl, rep0, ⟨_, _, rfl, rep1, rfl⟩⟩)).mono fun e W' ⟨he, hb⟩ => ?_
  subst he
  exact ⟨_, rfl, _, _, _, [], p, [], hW', trodAll_cons_mk (shut_bool Try.underlying4 _) trodAll_mk0, hback W' hb _ (fun x hx => by simpa using hW'.lt x hx), rfl, hb.frame _, fun h => by cases h⟩
theorem tokenNamesUpto_holds : Rows.TokenNamesUptoSaid :=
  OpenClaim.holds_of_cond 5 Try.f5 rfl rfl rfl rfl rfl rfl rfl ⟨rfl, rfl, rfl, rfl, rfl⟩ rfl rfl rfl rfl rfl (by kernel_rfl) Try.func5 (by kernel_rfl)
    (of_decide_eq_true (by kernel_rfl)) (by unfold Func.isWrapper; rw [if_neg (of_decide_eq_false (by kernel_rfl))]; exact ⟨rfl, rfl⟩)
    (fun os started H enc _ Fi => liftedTokenNamesUpto os started H enc Fi)
#print axioms tokenNamesUpto_holds
end Go.Proofs.Ytnjeklpjjceppaa
