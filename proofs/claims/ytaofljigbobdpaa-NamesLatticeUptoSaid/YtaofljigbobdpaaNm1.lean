/- Layer 7: what the functions compute. -/
import Derived.Test.YtaofljigbobdpaaSo3
import Derived.Test.YtaofljigbobdpaaTr6
namespace Go.Proofs.Ytaofljigbobdpaa.Ab
open Go
set_option linter.all false
def slices_Clone_string_string (a0 : List ByteArray) : Option (List ByteArray) := app 16 a0 []
theorem slices_Clone_string_string_ok (a0 : List ByteArray) (r : List ByteArray) (h0 : slices_Clone_string_string a0 = some r) : CallsD Try.prog 31 [.lst 1 (a0.map eStr) .no] [] [] (fun d h k => ∃ y0, d = .lst 1 (r.map eStr) (.cur y0) ∧ h = [] ∧ k = [(1, y0)]) := by
  obtain ⟨hr, hb⟩ := app_ok h0
  simp only [List.append_nil] at hr
  subst hr
  have q : app 16 ([] : List ByteArray) r = some r := app_of (by simp only [List.length_nil, Nat.zero_add]; simpa using hb)
  refine enterX htab Try.func31 rfl rfl rfl rfl rfl (fun C => ?_)
  refine wpD_seq ?_
  refine wpD_region ?_
  refine p_pure htab rfl rfl rfl rfl ?_
  refine ops_nil ?_
  refine then_normal ?_
  refine wpD_seq ?_
  refine wpD_seq ?_
  refine wpD_region ?_
  refine p_pure htab rfl rfl rfl rfl ?_
  refine p_isnil htab rfl rfl rfl rfl rfl rfl rfl (fun b hn => ?_)
  refine ops_nil ?_
  refine then_normal ?_
  refine wpD_cond rfl (fun hc => ?_) (fun hc => ?_)
  · have hnil := hn hc
    simp only [List.map_eq_nil_iff] at hnil
    subst hnil
    refine wpD_seq ?_
    refine wpD_region ?_
    refine p_pure htab rfl rfl rfl rfl ?_
    refine ops_nil ?_
    refine then_normal ?_
    refine wpD_ret ?_
    refine then_ret ?_
    refine retX.tokN (i := 2) 1 rfl (fun y => ?_)
    refine retX.of (s' := ⟨[(2, .lst 1 (([] : List ByteArray).map eStr) (.cur y))], [], [(1, y)]⟩) (WkS.perm (WkS.cons rfl (Wk.refl _) (WkS.nil)) (List.Perm.refl _) (List.Perm.refl _)) (retD_mk (hh := []) (.inl rfl) (resL_cons (resOne_tmp rfl) (resL_nil)) (List.nil_sublist _) (List.Sublist.refl _) ?_)
    exact ⟨y, rfl, rfl, rfl⟩
  · refine wpD_skip ?_
    refine then_normal ?_
    refine wpD_seq ?_
    refine wpD_region ?_
    refine p_lit0 htab rfl rfl rfl rfl rfl rfl rfl rfl ?_
    refine p_pure htab rfl rfl rfl rfl ?_
    refine p_appF htab rfl rfl rfl rfl rfl rfl rfl rfl rfl rfl rfl rfl rfl rfl rfl (by simpa using hb) (fun v => ?_)
    refine p_pure htab rfl rfl rfl rfl ?_
    refine ops_nil ?_
    refine then_normal ?_
    refine wpD_ret ?_
    refine retX.of (s' := ⟨[(2, .lst 1 (r.map eStr) (.cur v))], [], [(1, v)]⟩) (WkS.perm (WkS.cons rfl (Wk.refl _) (WkS.nil)) (List.Perm.refl _) (List.Perm.refl _)) (retD_mk (hh := []) (.inl rfl) (resL_cons (resOne_tmp rfl) (resL_nil)) (List.nil_sublist _) (List.Sublist.refl _) ?_)
    exact ⟨v, rfl, rfl, rfl⟩
theorem slices_Clone_string_string_ok0 (a0 : List ByteArray) (r : List ByteArray) (h0 : slices_Clone_string_string a0 = some r) : CallsD Try.prog 31 [.lst 1 (a0.map eStr) .no] [] [] (fun d h k => d = .lst 1 (r.map eStr) .no ∧ h = [] ∧ k = []) :=
  (slices_Clone_string_string_ok a0 r h0).drop fun d h k ⟨y0, e, _, _⟩ => by subst e; exact Wk.no
theorem slices_Clone_string_string_row_ok (a0 : List ByteArray) (r : List ByteArray) (h0 : slices_Clone_string_string a0 = some r) : CallsD Try.prog 31 [.lst 1 (a0.map eStr) .no] [] [] (fun d h k => ∃ y0, d = .v (SL y0) ∧ h = [(0, Blk.row 1 (r.map eStr) (SL y0))] ∧ k = []) := by
  obtain ⟨hr, hb⟩ := app_ok h0
  simp only [List.append_nil] at hr
  subst hr
  have q : app 16 ([] : List ByteArray) r = some r := app_of (by simp only [List.length_nil, Nat.zero_add]; simpa using hb)
  refine enterX htab Try.func31 rfl rfl rfl rfl rfl (fun C => ?_)
  refine wpD_seq ?_
  refine wpD_region ?_
  refine p_pure htab rfl rfl rfl rfl ?_
  refine ops_nil ?_
  refine then_normal ?_
  refine wpD_seq ?_
  refine wpD_seq ?_
  refine wpD_region ?_
  refine p_pure htab rfl rfl rfl rfl ?_
  refine p_isnil htab rfl rfl rfl rfl rfl rfl rfl (fun b hn => ?_)
  refine ops_nil ?_
  refine then_normal ?_
  refine wpD_cond rfl (fun hc => ?_) (fun hc => ?_)
  · have hnil := hn hc
    simp only [List.map_eq_nil_iff] at hnil
    subst hnil
    refine wpD_seq ?_
    refine wpD_region ?_
    refine p_pure htab rfl rfl rfl rfl ?_
    refine ops_nil ?_
    refine then_normal ?_
    refine wpD_ret ?_
    refine then_ret ?_
    refine retX.rowN (i := 2) 1 rfl (fun y => ?_)
    refine retX.of (s' := ⟨[(2, .v (SL y))], [(0, Blk.row 1 (([] : List ByteArray).map eStr) (SL y))], []⟩) (WkS.perm (WkS.cons rfl (Wk.refl _) (WkS.nil)) (List.Perm.refl _) (List.Perm.refl _)) (retD_mk (hh := [_]) (.inl rfl) (resL_cons (resOne_tmp rfl) (resL_nil)) (List.Sublist.refl _) (List.Sublist.refl _) ?_)
    exact ⟨y, rfl, rfl, rfl⟩
  · refine wpD_skip ?_
    refine then_normal ?_
    refine wpD_seq ?_
    refine wpD_region ?_
    refine p_lit0 htab rfl rfl rfl rfl rfl rfl rfl rfl ?_
    refine p_pure htab rfl rfl rfl rfl ?_
    refine p_app0R htab rfl rfl rfl rfl rfl rfl rfl rfl rfl rfl rfl rfl rfl rfl rfl (by simpa using hb) rfl (fun v => ?_)
    refine p_pure htab rfl rfl rfl rfl ?_
    refine ops_nil ?_
    refine then_normal ?_
    refine wpD_ret ?_
    refine retX.of (s' := ⟨[(2, .v (SL v))], [(0, Blk.row 1 (r.map eStr) (SL v))], []⟩) (WkS.perm (WkS.cons rfl (Wk.refl _) (WkS.nil)) (List.Perm.refl _) (List.Perm.refl _)) (retD_mk (hh := [_]) (.inl rfl) (resL_cons (resOne_tmp rfl) (resL_nil)) (List.Sublist.refl _) (List.Sublist.refl _) ?_)
    exact ⟨v, rfl, rfl, rfl⟩

noncomputable def slices_Index_string_string (a0 : List ByteArray) (a1 : ByteArray) : Option (Int) :=
  (Option.bind (α := (Unit) ⊕ (Int)) (loopM (fun (s15 : Int) => (bif (decide (s15 < (a0.length : Int))) then ((idx a0 s15).bind fun x25 => (bif (decide (a1 = x25)) then some (.done (.inr s15)) else some (.next (IntKind.i64.wrap (s15 + (1 : Int)))))) else some (.done (.inl ())))) (0 : Int)) (Sum.elim (fun y14 => some (-1 : Int)) (fun r => some r)))
set_option maxRecDepth 100000 in
set_option maxHeartbeats 2000000 in
theorem slices_Index_string_string_ok (a0 : List ByteArray) (a1 : ByteArray) (r : Int) (h0 : slices_Index_string_string a0 a1 = some r) : CallsD Try.prog 37 [.lst 1 (a0.map eStr) .no, .v (.string a1)] [] [] (fun d h k => d = .v (.int .i64 r) ∧ h = [] ∧ k = []) := by
  have hm := yes_of h0
  unfold slices_Index_string_string at hm
  clear h0
  refine enterX htab Try.func37 rfl rfl rfl rfl rfl (fun C => ?_)
  refine wpD_seq ?_
  refine wpD_region ?_
  refine p_pure htab rfl rfl rfl rfl ?_
  refine ops_nil ?_
  refine then_normal ?_
  refine wpD_seq ?_
  refine wpD_seq ?_
  refine wpD_region ?_
  refine p_pure htab rfl rfl rfl rfl ?_
  refine p_lenL htab rfl rfl rfl rfl rfl rfl rfl (by first | exact map_len | rfl) ?_
  refine p_pure htab rfl rfl rfl rfl ?_
  refine ops_nil ?_
  refine then_normal ?_
  obtain ⟨x14, q14, ho14⟩ := yes_bind hm
  refine wpD_midX (τ := Unit) (Y := Unit) (fun y14 z14 => (⟨[], [], []⟩ : S)) x14 ?_ ?_
  · clear hm; have hm := yes_of q14
    refine wpD_block ?_
    obtain ⟨u15, hl15, hq15⟩ := yes_m hm
    refine loop_M (Y := Unit) hl15 (fun s15 z15 => (⟨[(0, .lst 1 (a0.map eStr) .no), (1, .v (.string a1)), (7, .v (.int .i64 (a0.length : Int))), (8, .v (.int .i64 s15))], [], []⟩ : S)) ?_ ?_
    · skip
      exact WkX.of () (WkS.perm (WkS.cons rfl (Wk.refl _) (WkS.cons rfl (Wk.refl _) (WkS.cons rfl (Wk.refl _) (WkS.cons rfl (Wk.refl _) (WkS.nil))))) (List.Perm.refl _) (List.Perm.refl _))
    · intro G15 s15 z15 hm
      refine wpD_seq ?_
      refine wpD_region ?_
      refine p_pure htab rfl rfl rfl rfl ?_
      refine ops_nil ?_
      refine then_normal ?_
      refine wpD_seq ?_
      refine wpD_cond rfl (fun hc24 => ?_) (fun hc24 => ?_)
      · replace hm := yes_t hc24 hm
        refine wpD_skip ?_
        refine then_normal ?_
        refine wpD_seq ?_
        refine wpD_block ?_
        refine wpD_seq ?_
        refine wpD_region ?_
        refine p_pure htab rfl rfl rfl rfl ?_
        refine p_pure htab rfl rfl rfl rfl ?_
        refine ops_nil ?_
        refine then_normal ?_
        refine wpD_seq ?_
        refine wpD_region ?_
        refine p_pure htab rfl rfl rfl rfl ?_
        refine p_pure htab rfl rfl rfl rfl ?_
        refine p_pure htab rfl rfl rfl rfl ?_
        obtain ⟨x25, q25, hm⟩ := yes_bind hm
        refine p_elem htab rfl rfl rfl rfl rfl rfl rfl rfl rfl rfl (idx_nonneg q25) (idx_map q25) ?_
        refine p_loadEl htab rfl rfl rfl rfl rfl rfl rfl rfl ?_
        refine p_pure htab rfl rfl rfl rfl ?_
        refine ops_nil ?_
        refine then_normal ?_
        refine wpD_cond rfl (fun hc26 => ?_) (fun hc26 => ?_)
        · replace hm := yes_t hc26 hm
          refine wpD_seq ?_
          refine wpD_region ?_
          refine p_pure htab rfl rfl rfl rfl ?_
          refine p_pure htab rfl rfl rfl rfl ?_
          refine ops_nil ?_
          refine then_normal ?_
          refine wpD_ret ?_
          refine block_ret ?_
          refine then_ret ?_
          have e15 := lp_done hm; subst e15; clear hm; have hm := hq15
          refine then_ret ?_
          refine block_ret ?_
          have e14 := yes_eq hm; subst e14; refine midX_inr ?_; clear hm; have hm := ho14; simp only [Sum.elim_inr] at hm
          refine then_ret ?_
          have er27 := yes_eq hm; subst er27
          refine retX.of (s' := ⟨[(4, .v (.int .i64 s15))], [], []⟩) (WkS.perm (WkS.cons rfl (Wk.refl _) (WkS.nil)) (List.Perm.refl _) (List.Perm.refl _)) (retD_mk (hh := []) (.inl rfl) (resL_cons (resOne_tmp rfl) (resL_nil)) (List.nil_sublist _) (List.Sublist.refl _) ?_)
          exact ⟨rfl, rfl, rfl⟩
        · replace hm := yes_f hc26 hm
          refine wpD_skip ?_
          refine block_normal ?_
          refine then_normal ?_
          refine wpD_region ?_
          refine p_pure htab rfl rfl rfl rfl ?_
          refine p_pure htab rfl rfl rfl rfl ?_
          refine ops_nil ?_
          refine then_normal ⟨_, lp_next hm, ?_⟩
          exact WkX.of () (WkS.perm (WkS.cons rfl (Wk.refl _) (WkS.cons rfl (Wk.refl _) (WkS.cons rfl (Wk.refl _) (WkS.cons rfl (Wk.refl _) (WkS.nil))))) (List.Perm.refl _) (List.Perm.refl _))
      · replace hm := yes_f hc24 hm
        refine wpD_exit ?_
        refine then_exit ?_
        have e15 := lp_done hm; subst e15; clear hm; have hm := hq15
        refine then_exit ?_
        refine block_hit ?_
        have e14 := yes_eq hm; subst e14
        refine midX_inl ?_
        exact WkX.of () (WkS.perm (WkS.nil) (List.Perm.refl _) (List.Perm.refl _))
  · intro y14 s14 hx14 hw14; subst hx14; clear hm; have hm := ho14; simp only [Sum.elim_inl] at hm; clear q14 ho14
    refine then_normal ?_
    refine wpD_wkX hw14 (fun z14 => ?_)
    refine wpD_seq ?_
    refine wpD_region ?_
    refine p_pure htab rfl rfl rfl rfl ?_
    refine ops_nil ?_
    refine then_normal ?_
    refine wpD_ret ?_
    have er28 := yes_eq hm; subst er28
    refine retX.of (s' := ⟨[(4, .v (.int .i64 (-1 : Int)))], [], []⟩) (WkS.perm (WkS.cons rfl (Wk.refl _) (WkS.nil)) (List.Perm.refl _) (List.Perm.refl _)) (retD_mk (hh := []) (.inl rfl) (resL_cons (resOne_tmp rfl) (resL_nil)) (List.nil_sublist _) (List.Sublist.refl _) ?_)
    exact ⟨rfl, rfl, rfl⟩
noncomputable def slices_Contains_string_string (a0 : List ByteArray) (a1 : ByteArray) : Option (Bool) :=
  ((slices_Index_string_string a0 a1).bind fun x1 => some (decide ((0 : Int) ≤ x1)))
set_option maxRecDepth 100000 in
set_option maxHeartbeats 2000000 in
theorem slices_Contains_string_string_ok (a0 : List ByteArray) (a1 : ByteArray) (r : Bool) (h0 : slices_Contains_string_string a0 a1 = some r) : CallsD Try.prog 28 [.lst 1 (a0.map eStr) .no, .v (.string a1)] [] [] (fun d h k => d = .v (.bool r) ∧ h = [] ∧ k = []) := by
  have hm := yes_of h0
  unfold slices_Contains_string_string at hm
  clear h0
  refine enterX htab Try.func28 rfl rfl rfl rfl rfl (fun C => ?_)
  refine wpD_seq ?_
  refine wpD_region ?_
  refine p_pure htab rfl rfl rfl rfl ?_
  refine ops_nil ?_
  refine then_normal ?_
  refine wpD_seq ?_
  refine wpD_region ?_
  refine p_pure htab rfl rfl rfl rfl ?_
  refine p_pure htab rfl rfl rfl rfl ?_
  obtain ⟨x1, q1, hm⟩ := yes_bind hm
  refine p_call0 (slices_Index_string_string_ok a0 a1 x1 q1) rfl rfl rfl rfl rfl (WkL.refl _) ?_
  rintro _ rfl
  refine p_pure htab rfl rfl rfl rfl ?_
  refine p_pure htab rfl rfl rfl rfl ?_
  refine ops_nil ?_
  refine then_normal ?_
  refine wpD_ret ?_
  have er2 := yes_eq hm; subst er2
  refine retX.of (s' := ⟨[(4, .v (.bool (decide ((0 : Int) ≤ x1))))], [], []⟩) (WkS.perm (WkS.cons rfl (Wk.refl _) (WkS.nil)) (List.Perm.refl _) (List.Perm.refl _)) (retD_mk (hh := []) (.inl rfl) (resL_cons (resOne_tmp rfl) (resL_nil)) (List.nil_sublist _) (List.Sublist.refl _) ?_)
  exact ⟨rfl, rfl, rfl⟩
structure TApiSet where
  gNull : Bool
  gNames : List ByteArray
def eTApiSet (x : TApiSet) : D := .agg [.v (.bool x.gNull), .lst 1 (x.gNames.map eStr) .no]
noncomputable def names_Has (a0 : TApiSet) (a1 : ByteArray) : Option (Bool) :=
  (bif (decide (a1 = (ByteArray.mk #[]))) then some a0.gNull else ((slices_Contains_string_string a0.gNames a1).bind fun x5 => some x5))
set_option maxRecDepth 100000 in
set_option maxHeartbeats 2000000 in
theorem names_Has_ok (a0 : TApiSet) (a1 : ByteArray) (r : Bool) (h0 : names_Has a0 a1 = some r) : CallsD Try.prog 20 [eTApiSet a0, .v (.string a1)] [] [] (fun d h k => d = .v (.bool r) ∧ h = [] ∧ k = []) := by
  have hm := yes_of h0
  unfold names_Has at hm
  clear h0
  refine enterX htab Try.func20 rfl rfl rfl rfl rfl (fun C => ?_)
  refine wpD_seq ?_
  refine wpD_region ?_
  refine p_box rfl rfl rfl rfl rfl rfl rfl (fun b1 => ?_)
  refine p_pure htab rfl rfl rfl rfl ?_
  refine ops_nil ?_
  refine then_normal ?_
  refine wpD_seq ?_
  refine wpD_seq ?_
  refine wpD_region ?_
  refine p_pure htab rfl rfl rfl rfl ?_
  refine p_pure htab rfl rfl rfl rfl ?_
  refine ops_nil ?_
  refine then_normal ?_
  refine wpD_cond rfl (fun hc3 => ?_) (fun hc3 => ?_)
  · replace hm := yes_t hc3 hm
    refine wpD_seq ?_
    refine wpD_region ?_
    refine p_pure htab rfl rfl rfl rfl ?_
    refine p_load 0 htab rfl rfl rfl rfl rfl rfl rfl rfl ?_
    refine p_pure htab rfl rfl rfl rfl ?_
    refine ops_nil ?_
    refine then_normal ?_
    refine wpD_ret ?_
    refine then_ret ?_
    have er4 := yes_eq hm; subst er4
    refine retX.of (s' := ⟨[(4, .v (.bool a0.gNull))], [], []⟩) (WkS.perm (WkS.cons rfl (Wk.refl _) (WkS.nil)) (List.Perm.refl _) (List.Perm.refl _)) (retD_mk (hh := []) (.inl rfl) (resL_cons (resOne_tmp rfl) (resL_nil)) (List.nil_sublist _) (List.Sublist.refl _) ?_)
    exact ⟨rfl, rfl, rfl⟩
  · replace hm := yes_f hc3 hm
    refine wpD_skip ?_
    refine then_normal ?_
    refine wpD_seq ?_
    refine wpD_region ?_
    refine p_pure htab rfl rfl rfl rfl ?_
    refine p_load 0 htab rfl rfl rfl rfl rfl rfl rfl rfl ?_
    refine p_pure htab rfl rfl rfl rfl ?_
    obtain ⟨x5, q5, hm⟩ := yes_bind hm
    refine p_call0 (slices_Contains_string_string_ok a0.gNames a1 x5 q5) rfl rfl rfl rfl rfl (WkL.refl _) ?_
    rintro _ rfl
    refine p_pure htab rfl rfl rfl rfl ?_
    refine ops_nil ?_
    refine then_normal ?_
    refine wpD_ret ?_
    have er6 := yes_eq hm; subst er6
    refine retX.of (s' := ⟨[(4, .v (.bool x5))], [], []⟩) (WkS.perm (WkS.cons rfl (Wk.refl _) (WkS.nil)) (List.Perm.refl _) (List.Perm.refl _)) (retD_mk (hh := []) (.inl rfl) (resL_cons (resOne_tmp rfl) (resL_nil)) (List.nil_sublist _) (List.Sublist.refl _) ?_)
    exact ⟨rfl, rfl, rfl⟩
noncomputable def r07_In (a0 : List ByteArray) (a1 : ByteArray) : Option (Bool) :=
  (Option.bind (α := (Unit) ⊕ (Bool)) (loopM (fun (s15 : Int) => (bif (decide (s15 < (a0.length : Int))) then ((idx a0 s15).bind fun x25 => (bif (decide (x25 = a1)) then some (.done (.inr true)) else some (.next (IntKind.i64.wrap (s15 + (1 : Int)))))) else some (.done (.inl ())))) (0 : Int)) (Sum.elim (fun y14 => some false) (fun r => some r)))
set_option maxRecDepth 100000 in
set_option maxHeartbeats 2000000 in
theorem r07_In_ok (a0 : List ByteArray) (a1 : ByteArray) (r : Bool) (h0 : r07_In a0 a1 = some r) : CallsD Try.prog 30 [.lst 1 (a0.map eStr) .no, .v (.string a1)] [] [] (fun d h k => d = .v (.bool r) ∧ h = [] ∧ k = []) := by
  have hm := yes_of h0
  unfold r07_In at hm
  clear h0
  refine enterX htab Try.func30 rfl rfl rfl rfl rfl (fun C => ?_)
  refine wpD_seq ?_
  refine wpD_region ?_
  refine p_pure htab rfl rfl rfl rfl ?_
  refine ops_nil ?_
  refine then_normal ?_
  refine wpD_seq ?_
  refine wpD_seq ?_
  refine wpD_region ?_
  refine p_pure htab rfl rfl rfl rfl ?_
  refine ops_nil ?_
  refine then_normal ?_
  obtain ⟨x14, q14, ho14⟩ := yes_bind hm
  refine wpD_midX (τ := Unit) (Y := Unit) (fun y14 z14 => (⟨[], [], []⟩ : S)) x14 ?_ ?_
  · clear hm; have hm := yes_of q14
    refine wpD_block ?_
    obtain ⟨u15, hl15, hq15⟩ := yes_m hm
    refine loop_M (Y := Unit) hl15 (fun s15 z15 => (⟨[(0, .lst 1 (a0.map eStr) .no), (1, .v (.string a1)), (5, .v (.int .i64 s15))], [], []⟩ : S)) ?_ ?_
    · skip
      exact WkX.of () (WkS.perm (WkS.cons rfl (Wk.refl _) (WkS.cons rfl (Wk.refl _) (WkS.cons rfl (Wk.refl _) (WkS.nil)))) (List.Perm.refl _) (List.Perm.refl _))
    · intro G15 s15 z15 hm
      refine wpD_seq ?_
      refine wpD_seq ?_
      refine wpD_region ?_
      refine p_pure htab rfl rfl rfl rfl ?_
      refine p_pure htab rfl rfl rfl rfl ?_
      refine p_lenL htab rfl rfl rfl rfl rfl rfl rfl (by first | exact map_len | rfl) ?_
      refine p_pure htab rfl rfl rfl rfl ?_
      refine ops_nil ?_
      refine then_normal ?_
      refine wpD_cond rfl (fun hc24 => ?_) (fun hc24 => ?_)
      · replace hm := yes_t hc24 hm
        refine wpD_skip ?_
        refine then_normal ?_
        refine wpD_seq ?_
        refine wpD_block ?_
        refine wpD_seq ?_
        refine wpD_region ?_
        refine p_pure htab rfl rfl rfl rfl ?_
        refine p_pure htab rfl rfl rfl rfl ?_
        obtain ⟨x25, q25, hm⟩ := yes_bind hm
        refine p_elem htab rfl rfl rfl rfl rfl rfl rfl rfl rfl rfl (idx_nonneg q25) (idx_map q25) ?_
        refine p_loadEl htab rfl rfl rfl rfl rfl rfl rfl rfl ?_
        refine p_pure htab rfl rfl rfl rfl ?_
        refine p_pure htab rfl rfl rfl rfl ?_
        refine ops_nil ?_
        refine then_normal ?_
        refine wpD_cond rfl (fun hc26 => ?_) (fun hc26 => ?_)
        · replace hm := yes_t hc26 hm
          refine wpD_seq ?_
          refine wpD_region ?_
          refine p_pure htab rfl rfl rfl rfl ?_
          refine ops_nil ?_
          refine then_normal ?_
          refine wpD_ret ?_
          refine block_ret ?_
          refine then_ret ?_
          have e15 := lp_done hm; subst e15; clear hm; have hm := hq15
          refine then_ret ?_
          refine block_ret ?_
          have e14 := yes_eq hm; subst e14; refine midX_inr ?_; clear hm; have hm := ho14; simp only [Sum.elim_inr] at hm
          refine then_ret ?_
          have er27 := yes_eq hm; subst er27
          refine retX.of (s' := ⟨[(4, .v (.bool true))], [], []⟩) (WkS.perm (WkS.cons rfl (Wk.refl _) (WkS.nil)) (List.Perm.refl _) (List.Perm.refl _)) (retD_mk (hh := []) (.inl rfl) (resL_cons (resOne_tmp rfl) (resL_nil)) (List.nil_sublist _) (List.Sublist.refl _) ?_)
          exact ⟨rfl, rfl, rfl⟩
        · replace hm := yes_f hc26 hm
          refine wpD_skip ?_
          refine block_normal ?_
          refine then_normal ?_
          refine wpD_region ?_
          refine p_pure htab rfl rfl rfl rfl ?_
          refine p_pure htab rfl rfl rfl rfl ?_
          refine p_pure htab rfl rfl rfl rfl ?_
          refine ops_nil ?_
          refine then_normal ⟨_, lp_next hm, ?_⟩
          exact WkX.of () (WkS.perm (WkS.cons rfl (Wk.refl _) (WkS.cons rfl (Wk.refl _) (WkS.cons rfl (Wk.refl _) (WkS.nil)))) (List.Perm.refl _) (List.Perm.refl _))
      · replace hm := yes_f hc24 hm
        refine wpD_exit ?_
        refine then_exit ?_
        have e15 := lp_done hm; subst e15; clear hm; have hm := hq15
        refine then_exit ?_
        refine block_hit ?_
        have e14 := yes_eq hm; subst e14
        refine midX_inl ?_
        exact WkX.of () (WkS.perm (WkS.nil) (List.Perm.refl _) (List.Perm.refl _))
  · intro y14 s14 hx14 hw14; subst hx14; clear hm; have hm := ho14; simp only [Sum.elim_inl] at hm; clear q14 ho14
    refine then_normal ?_
    refine wpD_wkX hw14 (fun z14 => ?_)
    refine wpD_seq ?_
    refine wpD_region ?_
    refine p_pure htab rfl rfl rfl rfl ?_
    refine ops_nil ?_
    refine then_normal ?_
    refine wpD_ret ?_
    have er28 := yes_eq hm; subst er28
    refine retX.of (s' := ⟨[(4, .v (.bool false))], [], []⟩) (WkS.perm (WkS.cons rfl (Wk.refl _) (WkS.nil)) (List.Perm.refl _) (List.Perm.refl _)) (retD_mk (hh := []) (.inl rfl) (resL_cons (resOne_tmp rfl) (resL_nil)) (List.nil_sublist _) (List.Sublist.refl _) ?_)
    exact ⟨rfl, rfl, rfl⟩
noncomputable def r07_Has (a0 : TApiSet) (a1 : ByteArray) : Option (Bool) :=
  (bif (decide (a1 = (ByteArray.mk #[]))) then some a0.gNull else ((r07_In a0.gNames a1).bind fun x5 => some x5))
set_option maxRecDepth 100000 in
set_option maxHeartbeats 2000000 in
theorem r07_Has_ok (a0 : TApiSet) (a1 : ByteArray) (r : Bool) (h0 : r07_Has a0 a1 = some r) : CallsD Try.prog 21 [eTApiSet a0, .v (.string a1)] [] [] (fun d h k => d = .v (.bool r) ∧ h = [] ∧ k = []) := by
  have hm := yes_of h0
  unfold r07_Has at hm
  clear h0
  refine enterX htab Try.func21 rfl rfl rfl rfl rfl (fun C => ?_)
  refine wpD_seq ?_
  refine wpD_region ?_
  refine p_box rfl rfl rfl rfl rfl rfl rfl (fun b1 => ?_)
  refine p_pure htab rfl rfl rfl rfl ?_
  refine ops_nil ?_
  refine then_normal ?_
  refine wpD_seq ?_
  refine wpD_seq ?_
  refine wpD_region ?_
  refine p_pure htab rfl rfl rfl rfl ?_
  refine p_pure htab rfl rfl rfl rfl ?_
  refine ops_nil ?_
  refine then_normal ?_
  refine wpD_cond rfl (fun hc3 => ?_) (fun hc3 => ?_)
  · replace hm := yes_t hc3 hm
    refine wpD_seq ?_
    refine wpD_region ?_
    refine p_pure htab rfl rfl rfl rfl ?_
    refine p_load 0 htab rfl rfl rfl rfl rfl rfl rfl rfl ?_
    refine p_pure htab rfl rfl rfl rfl ?_
    refine ops_nil ?_
    refine then_normal ?_
    refine wpD_ret ?_
    refine then_ret ?_
    have er4 := yes_eq hm; subst er4
    refine retX.of (s' := ⟨[(4, .v (.bool a0.gNull))], [], []⟩) (WkS.perm (WkS.cons rfl (Wk.refl _) (WkS.nil)) (List.Perm.refl _) (List.Perm.refl _)) (retD_mk (hh := []) (.inl rfl) (resL_cons (resOne_tmp rfl) (resL_nil)) (List.nil_sublist _) (List.Sublist.refl _) ?_)
    exact ⟨rfl, rfl, rfl⟩
  · replace hm := yes_f hc3 hm
    refine wpD_skip ?_
    refine then_normal ?_
    refine wpD_seq ?_
    refine wpD_region ?_
    refine p_pure htab rfl rfl rfl rfl ?_
    refine p_load 0 htab rfl rfl rfl rfl rfl rfl rfl rfl ?_
    refine p_pure htab rfl rfl rfl rfl ?_
    obtain ⟨x5, q5, hm⟩ := yes_bind hm
    refine p_call0 (r07_In_ok a0.gNames a1 x5 q5) rfl rfl rfl rfl rfl (WkL.refl _) ?_
    rintro _ rfl
    refine p_pure htab rfl rfl rfl rfl ?_
    refine ops_nil ?_
    refine then_normal ?_
    refine wpD_ret ?_
    have er6 := yes_eq hm; subst er6
    refine retX.of (s' := ⟨[(4, .v (.bool x5))], [], []⟩) (WkS.perm (WkS.cons rfl (Wk.refl _) (WkS.nil)) (List.Perm.refl _) (List.Perm.refl _)) (retD_mk (hh := []) (.inl rfl) (resL_cons (resOne_tmp rfl) (resL_nil)) (List.nil_sublist _) (List.Sublist.refl _) ?_)
    exact ⟨rfl, rfl, rfl⟩
noncomputable def names_None (a0 : TApiSet) : Option (Bool) :=
  (bif (!a0.gNull) then some ((a0.gNames.length : Int) == (0 : Int)) else some false)
set_option maxRecDepth 100000 in
set_option maxHeartbeats 2000000 in
theorem names_None_ok (a0 : TApiSet) (r : Bool) (h0 : names_None a0 = some r) : CallsD Try.prog 22 [eTApiSet a0] [] [] (fun d h k => d = .v (.bool r) ∧ h = [] ∧ k = []) := by
  have hm := yes_of h0
  unfold names_None at hm
  clear h0
  refine enterX htab Try.func22 rfl rfl rfl rfl rfl (fun C => ?_)
  refine wpD_seq ?_
  refine wpD_region ?_
  refine p_box rfl rfl rfl rfl rfl rfl rfl (fun b1 => ?_)
  refine p_pure htab rfl rfl rfl rfl ?_
  refine ops_nil ?_
  refine then_normal ?_
  refine wpD_seq ?_
  refine wpD_region ?_
  refine p_pure htab rfl rfl rfl rfl ?_
  refine p_load 0 htab rfl rfl rfl rfl rfl rfl rfl rfl ?_
  refine p_pure htab rfl rfl rfl rfl ?_
  refine p_pure htab rfl rfl rfl rfl ?_
  refine p_split (i := 6) rfl (fun hg2 => ?_) (fun hg2 => ?_)
  · replace hm := yes_t hg2 hm
    refine p_pure htab rfl rfl rfl rfl ?_
    refine p_load 0 htab rfl rfl rfl rfl rfl rfl rfl rfl ?_
    refine p_lenL htab rfl rfl rfl rfl rfl rfl rfl (by first | exact map_len | rfl) ?_
    refine p_pure htab rfl rfl rfl rfl ?_
    refine p_pickT rfl rfl rfl rfl rfl rfl ?_
    refine p_pure htab rfl rfl rfl rfl ?_
    refine ops_nil ?_
    refine then_normal ?_
    refine wpD_ret ?_
    have er3 := yes_eq hm; subst er3
    refine retX.of (s' := ⟨[(2, .v (.bool ((a0.gNames.length : Int) == (0 : Int))))], [], []⟩) (WkS.perm (WkS.cons rfl (Wk.refl _) (WkS.nil)) (List.Perm.refl _) (List.Perm.refl _)) (retD_mk (hh := []) (.inl rfl) (resL_cons (resOne_tmp rfl) (resL_nil)) (List.nil_sublist _) (List.Sublist.refl _) ?_)
    exact ⟨rfl, rfl, rfl⟩
  · replace hm := yes_f hg2 hm
    refine p_skip rfl rfl rfl ?_
    refine p_skip rfl rfl rfl ?_
    refine p_skip rfl rfl rfl ?_
    refine p_skip rfl rfl rfl ?_
    refine p_pickF rfl rfl rfl rfl rfl rfl ?_
    refine p_pure htab rfl rfl rfl rfl ?_
    refine ops_nil ?_
    refine then_normal ?_
    refine wpD_ret ?_
    have er4 := yes_eq hm; subst er4
    refine retX.of (s' := ⟨[(2, .v (.bool false))], [], []⟩) (WkS.perm (WkS.cons rfl (Wk.refl _) (WkS.nil)) (List.Perm.refl _) (List.Perm.refl _)) (retD_mk (hh := []) (.inl rfl) (resL_cons (resOne_tmp rfl) (resL_nil)) (List.nil_sublist _) (List.Sublist.refl _) ?_)
    exact ⟨rfl, rfl, rfl⟩
noncomputable def r07_Put (a0 : List ByteArray) (a1 : ByteArray) : Option (List ByteArray) :=
  (Option.bind (α := List ByteArray × Bool) (loopM (fun (s64 : List ByteArray × Bool × Int) => (bif (decide (s64.2.2 < (a0.length : Int))) then (bif (!s64.2.1) then ((idx a0 s64.2.2).bind fun x107 => (Option.bind (α := List ByteArray × Bool) (bif (ltB a1 x107 || a1.toList == x107.toList) then ((idx a0 s64.2.2).bind fun x114 => (Option.bind (α := List ByteArray) (bif (ltB a1 x114) then ((app 16 s64.1 ([a1] : List ByteArray)).bind fun x119 => some x119) else some s64.1) fun y117 => some (y117, true))) else some (s64.1, s64.2.1)) fun y112 => ((idx a0 s64.2.2).bind fun x120 => ((app 16 y112.1 ([x120] : List ByteArray)).bind fun x121 => some (.next (x121, y112.2, (IntKind.i64.wrap (s64.2.2 + (1 : Int))))))))) else ((idx a0 s64.2.2).bind fun x122 => ((app 16 s64.1 ([x122] : List ByteArray)).bind fun x123 => some (.next (x123, s64.2.1, (IntKind.i64.wrap (s64.2.2 + (1 : Int)))))))) else some (.done (s64.1, s64.2.1)))) (([] : List ByteArray), false, (0 : Int))) fun y63 => (bif (!y63.2) then ((app 16 y63.1 ([a1] : List ByteArray)).bind fun x125 => some x125) else some y63.1))
set_option maxRecDepth 100000 in
set_option maxHeartbeats 2000000 in
theorem r07_Put_ok (a0 : List ByteArray) (a1 : ByteArray) (r : List ByteArray) (h0 : r07_Put a0 a1 = some r) : CallsD Try.prog 29 [.lst 1 (a0.map eStr) .no, .v (.string a1)] [] [] (fun d h k => ∃ y0, d = .lst 1 (r.map eStr) (.cur y0) ∧ h = [] ∧ k = [(1, y0)]) := by
  have hm := yes_of h0
  unfold r07_Put at hm
  clear h0
  refine enterX htab Try.func29 rfl rfl rfl rfl rfl (fun C => ?_)
  refine wpD_seq ?_
  refine wpD_region ?_
  refine p_pure htab rfl rfl rfl rfl ?_
  refine ops_nil ?_
  refine then_normal ?_
  refine wpD_seq ?_
  refine wpD_region ?_
  refine p_pure htab rfl rfl rfl rfl ?_
  refine ops_nil ?_
  refine then_normal ?_
  refine wpD_seq ?_
  refine wpD_region ?_
  refine p_pure htab rfl rfl rfl rfl ?_
  refine ops_nil ?_
  refine then_normal ?_
  refine wpD_seq ?_
  refine wpD_seq ?_
  refine wpD_region ?_
  refine p_pure htab rfl rfl rfl rfl ?_
  refine ops_nil ?_
  refine then_normal ?_
  obtain ⟨y63, q63, ho63⟩ := yes_bind hm
  refine wpD_mid (Y := Value) (fun z63 => (⟨[(1, .v (.string a1)), (5, .lst 1 (y63.1.map eStr) (.cur z63)), (6, .v (.bool y63.2))], [], [(1, z63)]⟩ : S)) ?_ ?_
  · clear hm; have hm := yes_of q63
    refine wpD_block ?_
    obtain ⟨u64, hl64, hq64⟩ := yes_m hm
    refine loop_M (Y := Value) hl64 (fun s64 z64 => (⟨[(0, .lst 1 (a0.map eStr) .no), (1, .v (.string a1)), (5, .lst 1 (s64.1.map eStr) (.cur z64)), (6, .v (.bool s64.2.1)), (7, .v (.int .i64 s64.2.2))], [], [(1, z64)]⟩ : S)) ?_ ?_
    · skip
      refine WkX.tokN (i := 5) 1 rfl (fun w104 => ?_)
      exact WkX.of w104 (WkS.perm (WkS.cons rfl (Wk.refl _) (WkS.cons rfl (Wk.refl _) (WkS.cons rfl (Wk.refl _) (WkS.cons rfl (Wk.refl _) (WkS.cons rfl (Wk.refl _) (WkS.nil)))))) (List.Perm.refl _) (List.Perm.refl _))
    · intro G64 s64 z64 hm
      refine wpD_seq ?_
      refine wpD_seq ?_
      refine wpD_region ?_
      refine p_pure htab rfl rfl rfl rfl ?_
      refine p_pure htab rfl rfl rfl rfl ?_
      refine p_lenL htab rfl rfl rfl rfl rfl rfl rfl (by first | exact map_len | rfl) ?_
      refine p_pure htab rfl rfl rfl rfl ?_
      refine ops_nil ?_
      refine then_normal ?_
      refine wpD_cond rfl (fun hc105 => ?_) (fun hc105 => ?_)
      · replace hm := yes_t hc105 hm
        refine wpD_skip ?_
        refine then_normal ?_
        refine wpD_seq ?_
        refine wpD_block ?_
        refine wpD_seq ?_
        refine wpD_seq ?_
        refine wpD_region ?_
        refine p_pure htab rfl rfl rfl rfl ?_
        refine p_pure htab rfl rfl rfl rfl ?_
        refine p_pure htab rfl rfl rfl rfl ?_
        refine p_split (i := 16) rfl (fun hg106 => ?_) (fun hg106 => ?_)
        · replace hm := yes_t hg106 hm
          refine p_pure htab rfl rfl rfl rfl ?_
          refine p_pure htab rfl rfl rfl rfl ?_
          refine p_pure htab rfl rfl rfl rfl ?_
          obtain ⟨x107, q107, hm⟩ := yes_bind hm
          refine p_elem htab rfl rfl rfl rfl rfl rfl rfl rfl rfl rfl (idx_nonneg q107) (idx_map q107) ?_
          refine p_loadEl htab rfl rfl rfl rfl rfl rfl rfl rfl ?_
          refine p_ltS rfl rfl rfl rfl rfl rfl rfl ?_
          refine p_pickT rfl rfl rfl rfl rfl rfl ?_
          refine ops_nil ?_
          refine then_normal ?_
          obtain ⟨y112, q112, ho112⟩ := yes_bind hm
          refine wpD_mid (Y := Value) (fun z112 => (⟨[(0, .lst 1 (a0.map eStr) .no), (1, .v (.string a1)), (5, .lst 1 (y112.1.map eStr) (.cur z112)), (6, .v (.bool y112.2)), (7, .v (.int .i64 s64.2.2))], [], [(1, z112)]⟩ : S)) ?_ ?_
          · clear hm; have hm := yes_of q112
            refine wpD_cond rfl (fun hc113 => ?_) (fun hc113 => ?_)
            · replace hm := yes_t hc113 hm
              refine wpD_seq ?_
              refine wpD_seq ?_
              refine wpD_region ?_
              refine p_pure htab rfl rfl rfl rfl ?_
              refine p_pure htab rfl rfl rfl rfl ?_
              refine p_pure htab rfl rfl rfl rfl ?_
              obtain ⟨x114, q114, hm⟩ := yes_bind hm
              refine p_elem htab rfl rfl rfl rfl rfl rfl rfl rfl rfl rfl (idx_nonneg q114) (idx_map q114) ?_
              refine p_loadEl htab rfl rfl rfl rfl rfl rfl rfl rfl ?_
              refine p_ltS rfl rfl rfl rfl rfl rfl rfl ?_
              refine ops_nil ?_
              refine then_normal ?_
              obtain ⟨y117, q117, ho117⟩ := yes_bind hm
              refine wpD_mid (Y := Value) (fun z117 => (⟨[(0, .lst 1 (a0.map eStr) .no), (1, .v (.string a1)), (5, .lst 1 (y117.map eStr) (.cur z117)), (7, .v (.int .i64 s64.2.2))], [], [(1, z117)]⟩ : S)) ?_ ?_
              · clear hm; have hm := yes_of q117
                refine wpD_cond rfl (fun hc118 => ?_) (fun hc118 => ?_)
                · replace hm := yes_t hc118 hm
                  refine wpD_region ?_
                  refine p_pure htab rfl rfl rfl rfl ?_
                  refine p_pure htab rfl rfl rfl rfl ?_
                  refine p_lit htab rfl rfl rfl rfl rfl rfl rfl rfl rfl rfl rfl rfl rfl rfl ?_
                  refine p_eq (i := 32) (d' := .lst 1 (([a1] : List ByteArray).map eStr) .full) rfl (Wk.lst0 (.cons (WkC.refl _) (.nil))) ?_
                  obtain ⟨x119, q119, hm⟩ := yes_bind hm
                  refine p_appC 0 htab rfl rfl rfl rfl rfl rfl rfl rfl rfl rfl rfl rfl rfl rfl rfl rfl rfl (app_bound q119) (fun v119 => ?_)
                  refine p_mapD (i := 33) q119 rfl ?_
                  refine p_pure htab rfl rfl rfl rfl ?_
                  refine ops_nil ?_
                  have e117 := yes_eq hm; subst e117
                  refine ⟨rfl, ?_⟩
                  exact WkX.of v119 (WkS.perm (WkS.cons rfl (Wk.refl _) (WkS.cons rfl (Wk.refl _) (WkS.cons rfl (Wk.refl _) (WkS.cons rfl (Wk.refl _) (WkS.nil))))) (List.Perm.refl _) (List.Perm.refl _))
                · replace hm := yes_f hc118 hm
                  refine wpD_skip ?_
                  have e117 := yes_eq hm; subst e117
                  refine ⟨rfl, ?_⟩
                  exact WkX.of z64 (WkS.perm (WkS.cons rfl (Wk.refl _) (WkS.cons rfl (Wk.refl _) (WkS.cons rfl (Wk.refl _) (WkS.cons rfl (Wk.refl _) (WkS.nil))))) (List.Perm.refl _) (List.Perm.refl _))
              · intro s117 hw117; clear hm; have hm := ho117; clear q117 ho117
                refine then_normal ?_
                refine wpD_wkX hw117 (fun z117 => ?_)
                refine wpD_region ?_
                refine p_pure htab rfl rfl rfl rfl ?_
                refine ops_nil ?_
                have e112 := yes_eq hm; subst e112
                refine ⟨rfl, ?_⟩
                exact WkX.of z117 (WkS.perm (WkS.cons rfl (Wk.refl _) (WkS.cons rfl (Wk.refl _) (WkS.cons rfl (Wk.refl _) (WkS.cons rfl (Wk.refl _) (WkS.cons rfl (Wk.refl _) (WkS.nil)))))) (List.Perm.refl _) (List.Perm.refl _))
            · replace hm := yes_f hc113 hm
              refine wpD_skip ?_
              have e112 := yes_eq hm; subst e112
              refine ⟨rfl, ?_⟩
              exact WkX.of z64 (WkS.perm (WkS.cons rfl (Wk.refl _) (WkS.cons rfl (Wk.refl _) (WkS.cons rfl (Wk.refl _) (WkS.cons rfl (Wk.refl _) (WkS.cons rfl (Wk.refl _) (WkS.nil)))))) (List.Perm.refl _) (List.Perm.refl _))
          · intro s112 hw112; clear hm; have hm := ho112; clear q112 ho112
            refine then_normal ?_
            refine wpD_wkX hw112 (fun z112 => ?_)
            refine wpD_region ?_
            refine p_pure htab rfl rfl rfl rfl ?_
            refine p_pure htab rfl rfl rfl rfl ?_
            refine p_pure htab rfl rfl rfl rfl ?_
            obtain ⟨x120, q120, hm⟩ := yes_bind hm
            refine p_elem htab rfl rfl rfl rfl rfl rfl rfl rfl rfl rfl (idx_nonneg q120) (idx_map q120) ?_
            refine p_loadEl htab rfl rfl rfl rfl rfl rfl rfl rfl ?_
            refine p_lit htab rfl rfl rfl rfl rfl rfl rfl rfl rfl rfl rfl rfl rfl rfl ?_
            refine p_eq (i := 39) (d' := .lst 1 (([x120] : List ByteArray).map eStr) .full) rfl (Wk.lst0 (.cons (WkC.refl _) (.nil))) ?_
            obtain ⟨x121, q121, hm⟩ := yes_bind hm
            refine p_appC 0 htab rfl rfl rfl rfl rfl rfl rfl rfl rfl rfl rfl rfl rfl rfl rfl rfl rfl (app_bound q121) (fun v121 => ?_)
            refine p_mapD (i := 40) q121 rfl ?_
            refine p_pure htab rfl rfl rfl rfl ?_
            refine ops_nil ?_
            refine block_normal ?_
            refine then_normal ?_
            refine wpD_region ?_
            refine p_pure htab rfl rfl rfl rfl ?_
            refine p_pure htab rfl rfl rfl rfl ?_
            refine p_pure htab rfl rfl rfl rfl ?_
            refine ops_nil ?_
            refine then_normal ⟨_, lp_next hm, ?_⟩
            exact WkX.of v121 (WkS.perm (WkS.cons rfl (Wk.refl _) (WkS.cons rfl (Wk.refl _) (WkS.cons rfl (Wk.refl _) (WkS.cons rfl (Wk.refl _) (WkS.cons rfl (Wk.refl _) (WkS.nil)))))) (List.Perm.refl _) (List.Perm.refl _))
        · replace hm := yes_f hg106 hm
          refine p_skip rfl rfl rfl ?_
          refine p_skip rfl rfl rfl ?_
          refine p_skip rfl rfl rfl ?_
          refine p_skip rfl rfl rfl ?_
          refine p_skip rfl rfl rfl ?_
          refine p_skip rfl rfl rfl ?_
          refine p_pickF rfl rfl rfl rfl rfl rfl ?_
          refine ops_nil ?_
          refine then_normal ?_
          refine wpD_false rfl ?_
          refine wpD_skip ?_
          refine then_normal ?_
          refine wpD_region ?_
          refine p_pure htab rfl rfl rfl rfl ?_
          refine p_pure htab rfl rfl rfl rfl ?_
          refine p_pure htab rfl rfl rfl rfl ?_
          obtain ⟨x122, q122, hm⟩ := yes_bind hm
          refine p_elem htab rfl rfl rfl rfl rfl rfl rfl rfl rfl rfl (idx_nonneg q122) (idx_map q122) ?_
          refine p_loadEl htab rfl rfl rfl rfl rfl rfl rfl rfl ?_
          refine p_lit htab rfl rfl rfl rfl rfl rfl rfl rfl rfl rfl rfl rfl rfl rfl ?_
          refine p_eq (i := 39) (d' := .lst 1 (([x122] : List ByteArray).map eStr) .full) rfl (Wk.lst0 (.cons (WkC.refl _) (.nil))) ?_
          obtain ⟨x123, q123, hm⟩ := yes_bind hm
          refine p_appC 0 htab rfl rfl rfl rfl rfl rfl rfl rfl rfl rfl rfl rfl rfl rfl rfl rfl rfl (app_bound q123) (fun v123 => ?_)
          refine p_mapD (i := 40) q123 rfl ?_
          refine p_pure htab rfl rfl rfl rfl ?_
          refine ops_nil ?_
          refine block_normal ?_
          refine then_normal ?_
          refine wpD_region ?_
          refine p_pure htab rfl rfl rfl rfl ?_
          refine p_pure htab rfl rfl rfl rfl ?_
          refine p_pure htab rfl rfl rfl rfl ?_
          refine ops_nil ?_
          refine then_normal ⟨_, lp_next hm, ?_⟩
          exact WkX.of v123 (WkS.perm (WkS.cons rfl (Wk.refl _) (WkS.cons rfl (Wk.refl _) (WkS.cons rfl (Wk.refl _) (WkS.cons rfl (Wk.refl _) (WkS.cons rfl (Wk.refl _) (WkS.nil)))))) (List.Perm.refl _) (List.Perm.refl _))
      · replace hm := yes_f hc105 hm
        refine wpD_exit ?_
        refine then_exit ?_
        have e64 := lp_done hm; subst e64; clear hm; have hm := hq64
        refine then_exit ?_
        refine block_hit ?_
        have e63 := yes_eq hm; subst e63
        refine ⟨rfl, ?_⟩
        exact WkX.of z64 (WkS.perm (WkS.cons rfl (Wk.refl _) (WkS.cons rfl (Wk.refl _) (WkS.cons rfl (Wk.refl _) (WkS.nil)))) (List.Perm.refl _) (List.Perm.refl _))
  · intro s63 hw63; clear hm; have hm := ho63; clear q63 ho63
    refine then_normal ?_
    refine wpD_wkX hw63 (fun z63 => ?_)
    refine wpD_seq ?_
    refine wpD_seq ?_
    refine wpD_region ?_
    refine p_pure htab rfl rfl rfl rfl ?_
    refine p_pure htab rfl rfl rfl rfl ?_
    refine ops_nil ?_
    refine then_normal ?_
    refine wpD_cond rfl (fun hc124 => ?_) (fun hc124 => ?_)
    · replace hm := yes_t hc124 hm
      refine wpD_region ?_
      refine p_pure htab rfl rfl rfl rfl ?_
      refine p_pure htab rfl rfl rfl rfl ?_
      refine p_lit htab rfl rfl rfl rfl rfl rfl rfl rfl rfl rfl rfl rfl rfl rfl ?_
      refine p_eq (i := 45) (d' := .lst 1 (([a1] : List ByteArray).map eStr) .full) rfl (Wk.lst0 (.cons (WkC.refl _) (.nil))) ?_
      obtain ⟨x125, q125, hm⟩ := yes_bind hm
      refine p_appC 0 htab rfl rfl rfl rfl rfl rfl rfl rfl rfl rfl rfl rfl rfl rfl rfl rfl rfl (app_bound q125) (fun v125 => ?_)
      refine p_mapD (i := 46) q125 rfl ?_
      refine p_pure htab rfl rfl rfl rfl ?_
      refine ops_nil ?_
      refine then_normal ?_
      refine wpD_seq ?_
      refine wpD_region ?_
      refine p_pure htab rfl rfl rfl rfl ?_
      refine p_pure htab rfl rfl rfl rfl ?_
      refine ops_nil ?_
      refine then_normal ?_
      refine wpD_ret ?_
      have er126 := yes_eq hm; subst er126
      refine retX.of (s' := ⟨[(4, .lst 1 (x125.map eStr) (.cur v125))], [], [(1, v125)]⟩) (WkS.perm (WkS.cons rfl (Wk.refl _) (WkS.nil)) (List.Perm.refl _) (List.Perm.refl _)) (retD_mk (hh := []) (.inl rfl) (resL_cons (resOne_tmp rfl) (resL_nil)) (List.nil_sublist _) (List.Sublist.refl _) ?_)
      exact ⟨v125, rfl, rfl, rfl⟩
    · replace hm := yes_f hc124 hm
      refine wpD_skip ?_
      refine then_normal ?_
      refine wpD_seq ?_
      refine wpD_region ?_
      refine p_pure htab rfl rfl rfl rfl ?_
      refine p_pure htab rfl rfl rfl rfl ?_
      refine ops_nil ?_
      refine then_normal ?_
      refine wpD_ret ?_
      have er127 := yes_eq hm; subst er127
      refine retX.of (s' := ⟨[(4, .lst 1 (y63.1.map eStr) (.cur z63))], [], [(1, z63)]⟩) (WkS.perm (WkS.cons rfl (Wk.refl _) (WkS.nil)) (List.Perm.refl _) (List.Perm.refl _)) (retD_mk (hh := []) (.inl rfl) (resL_cons (resOne_tmp rfl) (resL_nil)) (List.nil_sublist _) (List.Sublist.refl _) ?_)
      exact ⟨z63, rfl, rfl, rfl⟩
theorem r07_Put_ok0 (a0 : List ByteArray) (a1 : ByteArray) (r : List ByteArray) (h0 : r07_Put a0 a1 = some r) : CallsD Try.prog 29 [.lst 1 (a0.map eStr) .no, .v (.string a1)] [] [] (fun d h k => d = .lst 1 (r.map eStr) .no ∧ h = [] ∧ k = []) :=
  (r07_Put_ok a0 a1 r h0).drop fun d h k ⟨y0, e, _, _⟩ => by subst e; exact Wk.no
noncomputable def r07_Clean (a0 : TApiSet) : Option (TApiSet) :=
  (Option.bind (α := List ByteArray) (loopM (fun (s21 : List ByteArray × Int) => (bif (decide (s21.2 < (a0.gNames.length : Int))) then ((idx a0.gNames s21.2).bind fun x34 => ((r07_Put s21.1 x34).bind fun x36 => some (.next (x36, (IntKind.i64.wrap (s21.2 + (1 : Int))))))) else some (.done s21.1))) (([] : List ByteArray), (0 : Int))) fun y20 => some (⟨a0.gNull, y20⟩ : TApiSet))
set_option maxRecDepth 100000 in
set_option maxHeartbeats 2000000 in
theorem r07_Clean_ok (a0 : TApiSet) (r : TApiSet) (h0 : r07_Clean a0 = some r) : CallsD Try.prog 14 [eTApiSet a0] [] [] (fun d h k => ∃ y0, d = .agg [.v (.bool r.gNull), .lst 1 (r.gNames.map eStr) (.cur y0)] ∧ h = [] ∧ k = [(1, y0)]) := by
  have hm := yes_of h0
  unfold r07_Clean at hm
  clear h0
  refine enterX htab Try.func14 rfl rfl rfl rfl rfl (fun C => ?_)
  refine wpD_seq ?_
  refine wpD_region ?_
  refine p_box rfl rfl rfl rfl rfl rfl rfl (fun b1 => ?_)
  refine p_alloc htab rfl rfl rfl rfl rfl rfl rfl (fun b2 => ?_)
  refine ops_nil ?_
  refine then_normal ?_
  refine wpD_seq ?_
  refine wpD_region ?_
  refine p_pure htab rfl rfl rfl rfl ?_
  refine ops_nil ?_
  refine then_normal ?_
  refine wpD_seq ?_
  refine wpD_seq ?_
  refine wpD_region ?_
  refine p_pure htab rfl rfl rfl rfl ?_
  refine ops_nil ?_
  refine then_normal ?_
  obtain ⟨y20, q20, ho20⟩ := yes_bind hm
  refine wpD_mid (Y := Value) (fun z20 => (⟨[(1, .ptr b1 0), (2, .ptr b2 0), (3, .lst 1 (y20.map eStr) (.cur z20))], [(b1, Blk.cells [.v (.bool a0.gNull), .lst 1 (a0.gNames.map eStr) .no] 25), (b2, Blk.cells [.v (.bool false), .lst 1 [] .full] 25)], [(1, z20)]⟩ : S)) ?_ ?_
  · clear hm; have hm := yes_of q20
    refine wpD_block ?_
    obtain ⟨u21, hl21, hq21⟩ := yes_m hm
    refine loop_M (Y := Value) hl21 (fun s21 z21 => (⟨[(1, .ptr b1 0), (2, .ptr b2 0), (3, .lst 1 (s21.1.map eStr) (.cur z21)), (4, .v (.int .i64 s21.2))], [(b1, Blk.cells [.v (.bool a0.gNull), .lst 1 (a0.gNames.map eStr) .no] 25), (b2, Blk.cells [.v (.bool false), .lst 1 [] .full] 25)], [(1, z21)]⟩ : S)) ?_ ?_
    · skip
      refine WkX.tokN (i := 3) 1 rfl (fun w32 => ?_)
      exact WkX.of w32 (WkS.perm (WkS.cons rfl (Wk.refl _) (WkS.cons rfl (Wk.refl _) (WkS.cons rfl (Wk.refl _) (WkS.cons rfl (Wk.refl _) (WkS.nil))))) (List.Perm.refl _) (List.Perm.refl _))
    · intro G21 s21 z21 hm
      refine wpD_seq ?_
      refine wpD_seq ?_
      refine wpD_region ?_
      refine p_pure htab rfl rfl rfl rfl ?_
      refine p_pure htab rfl rfl rfl rfl ?_
      refine p_load 0 htab rfl rfl rfl rfl rfl rfl rfl rfl ?_
      refine p_lenL htab rfl rfl rfl rfl rfl rfl rfl (by first | exact map_len | rfl) ?_
      refine p_pure htab rfl rfl rfl rfl ?_
      refine ops_nil ?_
      refine then_normal ?_
      refine wpD_cond rfl (fun hc33 => ?_) (fun hc33 => ?_)
      · replace hm := yes_t hc33 hm
        refine wpD_skip ?_
        refine then_normal ?_
        refine wpD_seq ?_
        refine wpD_block ?_
        refine wpD_region ?_
        refine p_pure htab rfl rfl rfl rfl ?_
        refine p_pure htab rfl rfl rfl rfl ?_
        refine p_load 0 htab rfl rfl rfl rfl rfl rfl rfl rfl ?_
        refine p_pure htab rfl rfl rfl rfl ?_
        obtain ⟨x34, q34, hm⟩ := yes_bind hm
        refine p_elem htab rfl rfl rfl rfl rfl rfl rfl rfl rfl rfl (idx_nonneg q34) (idx_map q34) ?_
        refine p_loadEl htab rfl rfl rfl rfl rfl rfl rfl rfl ?_
        obtain ⟨x36, q36, hm⟩ := yes_bind hm
        refine p_callG (r07_Put_ok s21.1 x34 x36 q36) rfl rfl rfl rfl rfl (WkL.cons (Wk.no) (WkL.cons (Wk.refl _) (WkL.refl _))) (List.Perm.refl _) (List.Perm.refl _) ?_
        rintro _ _ _ ⟨w35, rfl, rfl, rfl⟩
        refine p_pure htab rfl rfl rfl rfl ?_
        refine ops_nil ?_
        refine block_normal ?_
        refine then_normal ?_
        refine wpD_region ?_
        refine p_pure htab rfl rfl rfl rfl ?_
        refine p_pure htab rfl rfl rfl rfl ?_
        refine p_pure htab rfl rfl rfl rfl ?_
        refine ops_nil ?_
        refine then_normal ⟨_, lp_next hm, ?_⟩
        exact WkX.of w35 (WkS.perm (WkS.cons rfl (Wk.refl _) (WkS.cons rfl (Wk.refl _) (WkS.cons rfl (Wk.refl _) (WkS.cons rfl (Wk.refl _) (WkS.nil))))) (List.Perm.refl _) (List.Perm.refl _))
      · replace hm := yes_f hc33 hm
        refine wpD_exit ?_
        refine then_exit ?_
        have e21 := lp_done hm; subst e21; clear hm; have hm := hq21
        refine then_exit ?_
        refine block_hit ?_
        have e20 := yes_eq hm; subst e20
        refine ⟨rfl, ?_⟩
        exact WkX.of z21 (WkS.perm (WkS.cons rfl (Wk.refl _) (WkS.cons rfl (Wk.refl _) (WkS.cons rfl (Wk.refl _) (WkS.nil)))) (List.Perm.refl _) (List.Perm.refl _))
  · intro s20 hw20; clear hm; have hm := ho20; clear q20 ho20
    refine then_normal ?_
    refine wpD_wkX hw20 (fun z20 => ?_)
    refine wpD_seq ?_
    refine wpD_region ?_
    refine p_pure htab rfl rfl rfl rfl ?_
    refine p_load 0 htab rfl rfl rfl rfl rfl rfl rfl rfl ?_
    refine p_pure htab rfl rfl rfl rfl ?_
    refine p_build (r := [.v (.bool a0.gNull), .lst 1 (y20.map eStr) (.cur z20)]) htab rfl rfl rfl rfl rfl rfl rfl rfl rfl ?_
    refine p_store (ds' := [.v (.bool a0.gNull), .lst 1 (y20.map eStr) (.cur z20)]) (h' := [(b1, Blk.cells [.v (.bool a0.gNull), .lst 1 (a0.gNames.map eStr) .no] 25), (b2, Blk.cells [.v (.bool a0.gNull), .lst 1 (y20.map eStr) (.cur z20)] 25)]) 1 htab rfl rfl rfl rfl rfl rfl rfl rfl rfl rfl rfl rfl ?_
    refine ops_nil ?_
    refine then_normal ?_
    refine wpD_ret ?_
    have er37 := yes_eq hm; subst er37
    refine retX.of (s' := ⟨[(2, .ptr b2 0)], [(b2, Blk.cells [.v (.bool a0.gNull), .lst 1 (y20.map eStr) (.cur z20)] 25)], [(1, z20)]⟩) (WkS.perm (WkS.cons rfl (Wk.refl _) (WkS.nil)) ((perm_at (j := 1) rfl).trans (List.Perm.cons _ (List.Perm.refl _))) (List.Perm.refl _)) (retD_mk (hh := []) (.inl rfl) (resL_cons (resOne_cell 0 rfl rfl rfl rfl) (resL_nil)) (List.nil_sublist _) (List.Sublist.refl _) ?_)
    exact ⟨z20, rfl, rfl, rfl⟩
theorem r07_Clean_ok0 (a0 : TApiSet) (r : TApiSet) (h0 : r07_Clean a0 = some r) : CallsD Try.prog 14 [eTApiSet a0] [] [] (fun d h k => d = eTApiSet r ∧ h = [] ∧ k = []) :=
  (r07_Clean_ok a0 r h0).drop fun d h k ⟨y0, e, _, _⟩ => by subst e; exact Wk.agg (WkR.cons (WkC.refl _) rfl (WkR.cons (WkC.no) rfl (WkR.nil)))
noncomputable def r07_Len (a0 : TApiSet) : Option (Int) :=
  ((r07_Clean a0).bind fun x3 => (bif a0.gNull then some (IntKind.i64.wrap ((x3.gNames.length : Int) + (1 : Int))) else some (x3.gNames.length : Int)))
set_option maxRecDepth 100000 in
set_option maxHeartbeats 2000000 in
theorem r07_Len_ok (a0 : TApiSet) (r : Int) (h0 : r07_Len a0 = some r) : CallsD Try.prog 17 [eTApiSet a0] [] [] (fun d h k => d = .v (.int .i64 r) ∧ h = [] ∧ k = []) := by
  have hm := yes_of h0
  unfold r07_Len at hm
  clear h0
  refine enterX htab Try.func17 rfl rfl rfl rfl rfl (fun C => ?_)
  refine wpD_seq ?_
  refine wpD_region ?_
  refine p_box rfl rfl rfl rfl rfl rfl rfl (fun b1 => ?_)
  refine p_pure htab rfl rfl rfl rfl ?_
  refine ops_nil ?_
  refine then_normal ?_
  refine wpD_seq ?_
  refine wpD_region ?_
  refine p_load (d := eTApiSet a0) 0 htab rfl rfl rfl rfl rfl rfl rfl rfl ?_
  obtain ⟨x3, q3, hm⟩ := yes_bind hm
  refine p_callG (r07_Clean_ok a0 x3 q3) rfl rfl rfl rfl rfl (WkL.refl _) (List.Perm.refl _) (List.Perm.refl _) ?_
  rintro _ _ _ ⟨w2, rfl, rfl, rfl⟩
  refine p_pure htab rfl rfl rfl rfl ?_
  refine p_lenL htab rfl rfl rfl rfl rfl rfl rfl (by first | exact map_len | rfl) ?_
  refine p_pure htab rfl rfl rfl rfl ?_
  refine ops_nil ?_
  refine then_normal ?_
  refine wpD_seq ?_
  refine wpD_seq ?_
  refine wpD_region ?_
  refine p_pure htab rfl rfl rfl rfl ?_
  refine p_load 0 htab rfl rfl rfl rfl rfl rfl rfl rfl ?_
  refine ops_nil ?_
  refine then_normal ?_
  refine wpD_cond rfl (fun hc4 => ?_) (fun hc4 => ?_)
  · replace hm := yes_t hc4 hm
    refine wpD_region ?_
    refine p_pure htab rfl rfl rfl rfl ?_
    refine p_pure htab rfl rfl rfl rfl ?_
    refine p_pure htab rfl rfl rfl rfl ?_
    refine ops_nil ?_
    refine then_normal ?_
    refine wpD_seq ?_
    refine wpD_region ?_
    refine p_pure htab rfl rfl rfl rfl ?_
    refine p_pure htab rfl rfl rfl rfl ?_
    refine ops_nil ?_
    refine then_normal ?_
    refine wpD_ret ?_
    have er5 := yes_eq hm; subst er5
    refine retX.of (s' := ⟨[(2, .v (.int .i64 (IntKind.i64.wrap ((x3.gNames.length : Int) + (1 : Int)))))], [], []⟩) (WkS.perm (WkS.cons rfl (Wk.refl _) (WkS.nil)) (List.Perm.refl _) (List.Perm.refl _)) (retD_mk (hh := []) (.inl rfl) (resL_cons (resOne_tmp rfl) (resL_nil)) (List.nil_sublist _) (List.Sublist.refl _) ?_)
    exact ⟨rfl, rfl, rfl⟩
  · replace hm := yes_f hc4 hm
    refine wpD_skip ?_
    refine then_normal ?_
    refine wpD_seq ?_
    refine wpD_region ?_
    refine p_pure htab rfl rfl rfl rfl ?_
    refine p_pure htab rfl rfl rfl rfl ?_
    refine ops_nil ?_
    refine then_normal ?_
    refine wpD_ret ?_
    have er6 := yes_eq hm; subst er6
    refine retX.of (s' := ⟨[(2, .v (.int .i64 (x3.gNames.length : Int)))], [], []⟩) (WkS.perm (WkS.cons rfl (Wk.refl _) (WkS.nil)) (List.Perm.refl _) (List.Perm.refl _)) (retD_mk (hh := []) (.inl rfl) (resL_cons (resOne_tmp rfl) (resL_nil)) (List.nil_sublist _) (List.Sublist.refl _) ?_)
    exact ⟨rfl, rfl, rfl⟩
noncomputable def names_Of (a0 : Bool) (a1 : List ByteArray) : Option (TApiSet) :=
  ((slices_Clone_string_string a1).bind fun x3 => ((need (len62B x3)).bind fun x4 => ((need (len62B (sortB x3))).bind fun x6 => ((cutL (compactB (sortB x3)) (0 : Int) ((compactB (sortB x3)).length : Int)).bind fun x7 => some (⟨a0, x7⟩ : TApiSet)))))
set_option maxRecDepth 100000 in
set_option maxHeartbeats 2000000 in
theorem names_Of_ok (a0 : Bool) (a1 : List ByteArray) (r : TApiSet) (h0 : names_Of a0 a1 = some r) : CallsD Try.prog 26 [.v (.bool a0), .lst 1 (a1.map eStr) .no] [] [] (fun d h k => d = eTApiSet r ∧ h = [] ∧ k = []) := by
  have hm := yes_of h0
  unfold names_Of at hm
  clear h0
  refine enterX htab Try.func26 rfl rfl rfl rfl rfl (fun C => ?_)
  refine wpD_seq ?_
  refine wpD_region ?_
  refine p_alloc htab rfl rfl rfl rfl rfl rfl rfl (fun b1 => ?_)
  refine ops_nil ?_
  refine then_normal ?_
  refine wpD_seq ?_
  refine wpD_region ?_
  refine p_pure htab rfl rfl rfl rfl ?_
  obtain ⟨x3, q3, hm⟩ := yes_bind hm
  refine p_callG (slices_Clone_string_string_row_ok a1 x3 q3) rfl rfl rfl rfl rfl (WkL.refl _) (List.Perm.refl _) (List.Perm.refl _) ?_
  rintro _ _ _ ⟨w2, rfl, rfl, rfl⟩
  refine p_pure htab rfl rfl rfl rfl ?_
  refine ops_nil ?_
  refine then_normal ?_
  refine wpD_seq ?_
  refine wpD_region ?_
  refine p_pure htab rfl rfl rfl rfl ?_
  obtain ⟨x4, q4, hm⟩ := yes_bind hm
  refine p_callG (sortF_ok x3 w2 (need_ok q4)) rfl rfl rfl rfl rfl (WkL.refl _) (List.Perm.refl _) (List.Perm.refl _) ?_
  rintro _ _ _ ⟨rfl, rfl, rfl⟩
  refine ops_nil ?_
  refine then_normal ?_
  refine wpD_seq ?_
  refine wpD_region ?_
  refine p_pure htab rfl rfl rfl rfl ?_
  obtain ⟨x6, q6, hm⟩ := yes_bind hm
  refine p_callG (compactB_ok (sortB x3) w2 (need_ok q6)) rfl rfl rfl rfl rfl (WkL.refl _) (List.Perm.refl _) (List.Perm.refl _) ?_
  rintro _ _ _ ⟨w5, rfl, rfl, rfl⟩
  refine p_pure htab rfl rfl rfl rfl ?_
  refine ops_nil ?_
  refine then_normal ?_
  refine wpD_seq ?_
  refine wpD_region ?_
  refine p_pure htab rfl rfl rfl rfl ?_
  refine p_pure htab rfl rfl rfl rfl ?_
  refine p_pure htab rfl rfl rfl rfl ?_
  refine p_lenR 0 htab rfl rfl rfl rfl rfl rfl rfl rfl (by first | exact map_len | rfl) ?_
  refine p_pure htab rfl rfl rfl rfl ?_
  refine p_lenR 0 htab rfl rfl rfl rfl rfl rfl rfl rfl (by first | exact map_len | rfl) ?_
  refine o_norm (WkS.frz 0 rfl rfl) ?_
  refine o_norm (WkS.tld 5 0 rfl rfl) ?_
  refine o_norm (WkS.tld 11 0 rfl rfl) ?_
  refine o_norm (WkS.tld 13 0 rfl rfl) ?_
  refine o_norm (WkS.tld 14 0 rfl rfl) ?_
  refine o_norm (WkS.tld 16 0 rfl rfl) ?_
  refine o_norm (WkS.drop 0 rfl) ?_
  obtain ⟨x7, q7, hm⟩ := yes_bind hm
  refine p_cut3 q7 rfl htab rfl rfl rfl rfl rfl rfl rfl rfl rfl rfl rfl rfl rfl ?_
  refine p_build (r := [.v (.bool a0), .lst 1 (x7.map eStr) .full]) htab rfl rfl rfl rfl rfl rfl rfl rfl rfl ?_
  refine p_store (ds' := [.v (.bool a0), .lst 1 (x7.map eStr) .full]) (h' := [(b1, Blk.cells [.v (.bool a0), .lst 1 (x7.map eStr) .full] 25)]) 0 htab rfl rfl rfl rfl rfl rfl rfl rfl rfl rfl rfl rfl ?_
  refine ops_nil ?_
  refine then_normal ?_
  refine wpD_ret ?_
  have er8 := yes_eq hm; subst er8
  refine retX.wk (WkS.blk (ds' := [.v (.bool a0), .lst 1 (x7.map eStr) .no]) (h' := [(b1, Blk.cells [.v (.bool a0), .lst 1 (x7.map eStr) .no] 25)]) 0 rfl (WkR.cons (WkC.refl _) rfl (WkR.cons (WkC.no) rfl (WkR.nil))) rfl) ?_
  refine retX.of (s' := ⟨[(4, .ptr b1 0)], [(b1, Blk.cells [.v (.bool a0), .lst 1 (x7.map eStr) .no] 25)], []⟩) (WkS.perm (WkS.cons rfl (Wk.refl _) (WkS.nil)) (List.Perm.refl _) (List.Perm.refl _)) (retD_mk (hh := []) (.inl rfl) (resL_cons (resOne_cell 0 rfl rfl rfl rfl) (resL_nil)) (List.nil_sublist _) (List.Sublist.refl _) ?_)
  exact ⟨rfl, rfl, rfl⟩
noncomputable def names_Clean (a0 : TApiSet) : Option (TApiSet) :=
  ((names_Of a0.gNull a0.gNames).bind fun x3 => some x3)
set_option maxRecDepth 100000 in
set_option maxHeartbeats 2000000 in
theorem names_Clean_ok (a0 : TApiSet) (r : TApiSet) (h0 : names_Clean a0 = some r) : CallsD Try.prog 25 [eTApiSet a0] [] [] (fun d h k => d = eTApiSet r ∧ h = [] ∧ k = []) := by
  have hm := yes_of h0
  unfold names_Clean at hm
  clear h0
  refine enterX htab Try.func25 rfl rfl rfl rfl rfl (fun C => ?_)
  refine wpD_seq ?_
  refine wpD_region ?_
  refine p_box rfl rfl rfl rfl rfl rfl rfl (fun b1 => ?_)
  refine p_alloc htab rfl rfl rfl rfl rfl rfl rfl (fun b2 => ?_)
  refine ops_nil ?_
  refine then_normal ?_
  refine wpD_seq ?_
  refine wpD_region ?_
  refine p_pure htab rfl rfl rfl rfl ?_
  refine p_load 0 htab rfl rfl rfl rfl rfl rfl rfl rfl ?_
  refine p_pure htab rfl rfl rfl rfl ?_
  refine p_load 0 htab rfl rfl rfl rfl rfl rfl rfl rfl ?_
  obtain ⟨x3, q3, hm⟩ := yes_bind hm
  refine p_call0 (names_Of_ok a0.gNull a0.gNames x3 q3) rfl rfl rfl rfl rfl (WkL.refl _) ?_
  rintro _ rfl
  refine p_store (ds' := [.v (.bool x3.gNull), .lst 1 (x3.gNames.map eStr) .no]) (h' := [(b1, Blk.cells [.v (.bool a0.gNull), .lst 1 (a0.gNames.map eStr) .no] 25), (b2, Blk.cells [.v (.bool x3.gNull), .lst 1 (x3.gNames.map eStr) .no] 25)]) 1 htab rfl rfl rfl rfl rfl rfl rfl rfl rfl rfl rfl rfl ?_
  refine ops_nil ?_
  refine then_normal ?_
  refine wpD_ret ?_
  have er4 := yes_eq hm; subst er4
  refine retX.of (s' := ⟨[(2, .ptr b2 0)], [(b2, Blk.cells [.v (.bool x3.gNull), .lst 1 (x3.gNames.map eStr) .no] 25)], []⟩) (WkS.perm (WkS.cons rfl (Wk.refl _) (WkS.nil)) ((perm_at (j := 1) rfl).trans (List.Perm.cons _ (List.Perm.refl _))) (List.Perm.refl _)) (retD_mk (hh := []) (.inl rfl) (resL_cons (resOne_cell 0 rfl rfl rfl rfl) (resL_nil)) (List.nil_sublist _) (List.Sublist.refl _) ?_)
  exact ⟨rfl, rfl, rfl⟩
noncomputable def names_Len (a0 : TApiSet) : Option (Int) :=
  ((names_Clean a0).bind fun x2 => (bif x2.gNull then some (IntKind.i64.wrap ((x2.gNames.length : Int) + (1 : Int))) else some (x2.gNames.length : Int)))
set_option maxRecDepth 100000 in
set_option maxHeartbeats 2000000 in
theorem names_Len_ok (a0 : TApiSet) (r : Int) (h0 : names_Len a0 = some r) : CallsD Try.prog 23 [eTApiSet a0] [] [] (fun d h k => d = .v (.int .i64 r) ∧ h = [] ∧ k = []) := by
  have hm := yes_of h0
  unfold names_Len at hm
  clear h0
  refine enterX htab Try.func23 rfl rfl rfl rfl rfl (fun C => ?_)
  refine wpD_seq ?_
  refine wpD_region ?_
  refine p_box rfl rfl rfl rfl rfl rfl rfl (fun b1 => ?_)
  refine p_pure htab rfl rfl rfl rfl ?_
  refine ops_nil ?_
  refine then_normal ?_
  refine wpD_seq ?_
  refine wpD_region ?_
  refine p_load (d := eTApiSet a0) 0 htab rfl rfl rfl rfl rfl rfl rfl rfl ?_
  obtain ⟨x2, q2, hm⟩ := yes_bind hm
  refine p_call0 (names_Clean_ok a0 x2 q2) rfl rfl rfl rfl rfl (WkL.refl _) ?_
  rintro _ rfl
  refine p_alloc htab rfl rfl rfl rfl rfl rfl rfl (fun b3 => ?_)
  refine p_store (ds' := [.v (.bool x2.gNull), .lst 1 (x2.gNames.map eStr) .no]) (h' := [(b1, Blk.cells [.v (.bool a0.gNull), .lst 1 (a0.gNames.map eStr) .no] 25), (b3, Blk.cells [.v (.bool x2.gNull), .lst 1 (x2.gNames.map eStr) .no] 25)]) 1 htab rfl rfl rfl rfl rfl rfl rfl rfl rfl rfl rfl rfl ?_
  refine ops_nil ?_
  refine then_normal ?_
  refine wpD_seq ?_
  refine wpD_region ?_
  refine p_pure htab rfl rfl rfl rfl ?_
  refine p_load 1 htab rfl rfl rfl rfl rfl rfl rfl rfl ?_
  refine p_lenL htab rfl rfl rfl rfl rfl rfl rfl (by first | exact map_len | rfl) ?_
  refine p_pure htab rfl rfl rfl rfl ?_
  refine ops_nil ?_
  refine then_normal ?_
  refine wpD_seq ?_
  refine wpD_seq ?_
  refine wpD_region ?_
  refine p_pure htab rfl rfl rfl rfl ?_
  refine p_load 1 htab rfl rfl rfl rfl rfl rfl rfl rfl ?_
  refine ops_nil ?_
  refine then_normal ?_
  refine wpD_cond rfl (fun hc4 => ?_) (fun hc4 => ?_)
  · replace hm := yes_t hc4 hm
    refine wpD_region ?_
    refine p_pure htab rfl rfl rfl rfl ?_
    refine p_pure htab rfl rfl rfl rfl ?_
    refine p_pure htab rfl rfl rfl rfl ?_
    refine ops_nil ?_
    refine then_normal ?_
    refine wpD_seq ?_
    refine wpD_region ?_
    refine p_pure htab rfl rfl rfl rfl ?_
    refine p_pure htab rfl rfl rfl rfl ?_
    refine ops_nil ?_
    refine then_normal ?_
    refine wpD_ret ?_
    have er5 := yes_eq hm; subst er5
    refine retX.of (s' := ⟨[(2, .v (.int .i64 (IntKind.i64.wrap ((x2.gNames.length : Int) + (1 : Int)))))], [], []⟩) (WkS.perm (WkS.cons rfl (Wk.refl _) (WkS.nil)) (List.Perm.refl _) (List.Perm.refl _)) (retD_mk (hh := []) (.inl rfl) (resL_cons (resOne_tmp rfl) (resL_nil)) (List.nil_sublist _) (List.Sublist.refl _) ?_)
    exact ⟨rfl, rfl, rfl⟩
  · replace hm := yes_f hc4 hm
    refine wpD_skip ?_
    refine then_normal ?_
    refine wpD_seq ?_
    refine wpD_region ?_
    refine p_pure htab rfl rfl rfl rfl ?_
    refine p_pure htab rfl rfl rfl rfl ?_
    refine ops_nil ?_
    refine then_normal ?_
    refine wpD_ret ?_
    have er6 := yes_eq hm; subst er6
    refine retX.of (s' := ⟨[(2, .v (.int .i64 (x2.gNames.length : Int)))], [], []⟩) (WkS.perm (WkS.cons rfl (Wk.refl _) (WkS.nil)) (List.Perm.refl _) (List.Perm.refl _)) (retD_mk (hh := []) (.inl rfl) (resL_cons (resOne_tmp rfl) (resL_nil)) (List.nil_sublist _) (List.Sublist.refl _) ?_)
    exact ⟨rfl, rfl, rfl⟩
noncomputable def slices_Concat_string_string (a0 : List (List ByteArray)) : Option (List ByteArray) :=
  (Option.bind (α := Int) (loopM (fun (s15 : Int × Int) => (bif (decide (s15.2 < (a0.length : Int))) then ((idx a0 s15.2).bind fun x25 => (bif (decide ((IntKind.i64.wrap (s15.1 + (x25.length : Int))) < (0 : Int))) then none else some (.next ((IntKind.i64.wrap (s15.1 + (x25.length : Int))), (IntKind.i64.wrap (s15.2 + (1 : Int))))))) else some (.done s15.1))) ((0 : Int), (0 : Int))) fun y14 => ((need (growPre y14)).bind fun x28 => (Option.bind (α := List ByteArray) (loopM (fun (s43 : Int × List ByteArray) => (bif (decide (s43.1 < (a0.length : Int))) then ((idx a0 s43.1).bind fun x53 => ((app 16 s43.2 x53).bind fun x54 => some (.next ((IntKind.i64.wrap (s43.1 + (1 : Int))), x54)))) else some (.done s43.2))) ((0 : Int), (growF y14))) fun y42 => some y42)))
set_option maxRecDepth 100000 in
set_option maxHeartbeats 2000000 in
theorem slices_Concat_string_string_ok (a0 : List (List ByteArray)) (r : List ByteArray) (h0 : slices_Concat_string_string a0 = some r) : CallsD Try.prog 27 [.lst 1 (a0.map (eList 1 eStr)) .no] [] [] (fun d h k => ∃ y0, d = .lst 1 (r.map eStr) (.cur y0) ∧ h = [] ∧ k = [(1, y0)]) := by
  have hm := yes_of h0
  unfold slices_Concat_string_string at hm
  clear h0
  refine enterX htab Try.func27 rfl rfl rfl rfl rfl (fun C => ?_)
  refine wpD_seq ?_
  refine wpD_region ?_
  refine p_pure htab rfl rfl rfl rfl ?_
  refine ops_nil ?_
  refine then_normal ?_
  refine wpD_seq ?_
  refine wpD_region ?_
  refine p_pure htab rfl rfl rfl rfl ?_
  refine ops_nil ?_
  refine then_normal ?_
  refine wpD_seq ?_
  refine wpD_seq ?_
  refine wpD_region ?_
  refine p_pure htab rfl rfl rfl rfl ?_
  refine p_lenL htab rfl rfl rfl rfl rfl rfl rfl (by first | exact map_len | rfl) ?_
  refine p_pure htab rfl rfl rfl rfl ?_
  refine ops_nil ?_
  refine then_normal ?_
  obtain ⟨y14, q14, ho14⟩ := yes_bind hm
  refine wpD_mid (Y := Unit) (fun z14 => (⟨[(0, .lst 1 (a0.map (eList 1 eStr)) .no), (3, .v (.int .i64 y14))], [], []⟩ : S)) ?_ ?_
  · clear hm; have hm := yes_of q14
    refine wpD_block ?_
    obtain ⟨u15, hl15, hq15⟩ := yes_m hm
    refine loop_M (Y := Unit) hl15 (fun s15 z15 => (⟨[(0, .lst 1 (a0.map (eList 1 eStr)) .no), (3, .v (.int .i64 s15.1)), (9, .lst 1 (a0.map (eList 1 eStr)) .no), (10, .v (.int .i64 (a0.length : Int))), (11, .v (.int .i64 s15.2))], [], []⟩ : S)) ?_ ?_
    · skip
      exact WkX.of () (WkS.perm (WkS.cons rfl (Wk.refl _) (WkS.cons rfl (Wk.refl _) (WkS.cons rfl (Wk.refl _) (WkS.cons rfl (Wk.refl _) (WkS.cons rfl (Wk.refl _) (WkS.nil)))))) (List.Perm.refl _) (List.Perm.refl _))
    · intro G15 s15 z15 hm
      refine wpD_seq ?_
      refine wpD_region ?_
      refine p_pure htab rfl rfl rfl rfl ?_
      refine ops_nil ?_
      refine then_normal ?_
      refine wpD_seq ?_
      refine wpD_cond rfl (fun hc24 => ?_) (fun hc24 => ?_)
      · replace hm := yes_t hc24 hm
        refine wpD_skip ?_
        refine then_normal ?_
        refine wpD_seq ?_
        refine wpD_block ?_
        refine wpD_seq ?_
        refine wpD_region ?_
        obtain ⟨x25, q25, hm⟩ := yes_bind hm
        refine p_elem htab rfl rfl rfl rfl rfl rfl rfl rfl rfl rfl (idx_nonneg q25) (idx_map q25) ?_
        refine p_loadEl htab rfl rfl rfl rfl rfl rfl rfl rfl ?_
        refine p_pure htab rfl rfl rfl rfl ?_
        refine ops_nil ?_
        refine then_normal ?_
        refine wpD_seq ?_
        refine wpD_region ?_
        refine p_pure htab rfl rfl rfl rfl ?_
        refine p_pure htab rfl rfl rfl rfl ?_
        refine p_lenL htab rfl rfl rfl rfl rfl rfl rfl (by first | exact map_len | rfl) ?_
        refine p_pure htab rfl rfl rfl rfl ?_
        refine p_pure htab rfl rfl rfl rfl ?_
        refine ops_nil ?_
        refine then_normal ?_
        refine wpD_seq ?_
        refine wpD_region ?_
        refine p_pure htab rfl rfl rfl rfl ?_
        refine p_pure htab rfl rfl rfl rfl ?_
        refine ops_nil ?_
        refine then_normal ?_
        refine wpD_cond rfl (fun hc26 => ?_) (fun hc26 => ?_)
        · replace hm := yes_t hc26 hm
          exact (yes_none hm).elim
        · replace hm := yes_f hc26 hm
          refine wpD_skip ?_
          refine block_normal ?_
          refine then_normal ?_
          refine wpD_region ?_
          refine p_pure htab rfl rfl rfl rfl ?_
          refine p_pure htab rfl rfl rfl rfl ?_
          refine ops_nil ?_
          refine then_normal ⟨_, lp_next hm, ?_⟩
          exact WkX.of () (WkS.perm (WkS.cons rfl (Wk.refl _) (WkS.cons rfl (Wk.refl _) (WkS.cons rfl (Wk.refl _) (WkS.cons rfl (Wk.refl _) (WkS.cons rfl (Wk.refl _) (WkS.nil)))))) (List.Perm.refl _) (List.Perm.refl _))
      · replace hm := yes_f hc24 hm
        refine wpD_exit ?_
        refine then_exit ?_
        have e15 := lp_done hm; subst e15; clear hm; have hm := hq15
        refine then_exit ?_
        refine block_hit ?_
        have e14 := yes_eq hm; subst e14
        refine ⟨rfl, ?_⟩
        exact WkX.of () (WkS.perm (WkS.cons rfl (Wk.refl _) (WkS.cons rfl (Wk.refl _) (WkS.nil))) (List.Perm.refl _) (List.Perm.refl _))
  · intro s14 hw14; clear hm; have hm := ho14; clear q14 ho14
    refine then_normal ?_
    refine wpD_wkX hw14 (fun z14 => ?_)
    refine wpD_seq ?_
    refine wpD_region ?_
    refine p_pure htab rfl rfl rfl rfl ?_
    obtain ⟨x28, q28, hm⟩ := yes_bind hm
    refine p_callG (growB_ok y14 (need_ok q28)) rfl rfl rfl rfl rfl (WkL.refl _) (List.Perm.refl _) (List.Perm.refl _) ?_
    rintro _ _ _ ⟨w27, rfl, rfl, rfl⟩
    refine p_pure htab rfl rfl rfl rfl ?_
    refine ops_nil ?_
    refine then_normal ?_
    refine wpD_seq ?_
    refine wpD_seq ?_
    refine wpD_region ?_
    refine p_pure htab rfl rfl rfl rfl ?_
    refine p_lenL htab rfl rfl rfl rfl rfl rfl rfl (by first | exact map_len | rfl) ?_
    refine p_pure htab rfl rfl rfl rfl ?_
    refine ops_nil ?_
    refine then_normal ?_
    obtain ⟨y42, q42, ho42⟩ := yes_bind hm
    refine wpD_mid (Y := Z3) (fun z42 => (⟨[(6, .v (SL z42))], [(0, Blk.row 1 (y42.map eStr) (SL z42))], []⟩ : S)) ?_ ?_
    · clear hm; have hm := yes_of q42
      refine wpD_block ?_
      obtain ⟨u43, hl43, hq43⟩ := yes_m hm
      refine loop_M (Y := Z3) hl43 (fun s43 z43 => (⟨[(6, .v (SL z43)), (25, .lst 1 (a0.map (eList 1 eStr)) .no), (26, .v (.int .i64 (a0.length : Int))), (27, .v (.int .i64 s43.1))], [(0, Blk.row 1 (s43.2.map eStr) (SL z43))], []⟩ : S)) ?_ ?_
      · skip
        exact WkX.of w27 (WkS.perm (WkS.cons rfl (Wk.refl _) (WkS.cons rfl (Wk.refl _) (WkS.cons rfl (Wk.refl _) (WkS.cons rfl (Wk.refl _) (WkS.nil))))) (List.Perm.refl _) (List.Perm.refl _))
      · intro G43 s43 z43 hm
        refine wpD_seq ?_
        refine wpD_region ?_
        refine p_pure htab rfl rfl rfl rfl ?_
        refine ops_nil ?_
        refine then_normal ?_
        refine wpD_seq ?_
        refine wpD_cond rfl (fun hc52 => ?_) (fun hc52 => ?_)
        · replace hm := yes_t hc52 hm
          refine wpD_skip ?_
          refine then_normal ?_
          refine wpD_seq ?_
          refine wpD_block ?_
          refine wpD_seq ?_
          refine wpD_region ?_
          obtain ⟨x53, q53, hm⟩ := yes_bind hm
          refine p_elem htab rfl rfl rfl rfl rfl rfl rfl rfl rfl rfl (idx_nonneg q53) (idx_map q53) ?_
          refine p_loadEl htab rfl rfl rfl rfl rfl rfl rfl rfl ?_
          refine p_pure htab rfl rfl rfl rfl ?_
          refine ops_nil ?_
          refine then_normal ?_
          refine wpD_region ?_
          refine p_pure htab rfl rfl rfl rfl ?_
          refine p_pure htab rfl rfl rfl rfl ?_
          obtain ⟨x54, q54, hm⟩ := yes_bind hm
          refine p_appR2 0 htab rfl rfl rfl rfl rfl rfl rfl rfl rfl rfl rfl rfl rfl rfl rfl rfl (app_bound q54) (app_map q54) (fun v54 => ?_)
          refine p_pure htab rfl rfl rfl rfl ?_
          refine ops_nil ?_
          refine block_normal ?_
          refine then_normal ?_
          refine wpD_region ?_
          refine p_pure htab rfl rfl rfl rfl ?_
          refine p_pure htab rfl rfl rfl rfl ?_
          refine ops_nil ?_
          refine then_normal ⟨_, lp_next hm, ?_⟩
          exact WkX.of v54 (WkS.perm (WkS.cons rfl (Wk.refl _) (WkS.cons rfl (Wk.refl _) (WkS.cons rfl (Wk.refl _) (WkS.cons rfl (Wk.refl _) (WkS.nil))))) (List.Perm.refl _) (List.Perm.refl _))
        · replace hm := yes_f hc52 hm
          refine wpD_exit ?_
          refine then_exit ?_
          have e43 := lp_done hm; subst e43; clear hm; have hm := hq43
          refine then_exit ?_
          refine block_hit ?_
          have e42 := yes_eq hm; subst e42
          refine ⟨rfl, ?_⟩
          exact WkX.of z43 (WkS.perm (WkS.cons rfl (Wk.refl _) (WkS.nil)) (List.Perm.refl _) (List.Perm.refl _))
    · intro s42 hw42; clear hm; have hm := ho42; clear q42 ho42
      refine then_normal ?_
      refine wpD_wkX hw42 (fun z42 => ?_)
      refine wpD_seq ?_
      refine wpD_region ?_
      refine p_pure htab rfl rfl rfl rfl ?_
      refine p_pure htab rfl rfl rfl rfl ?_
      refine ops_nil ?_
      refine then_normal ?_
      refine wpD_ret ?_
      have er55 := yes_eq hm; subst er55
      refine retX.wk (WkS.frz 0 rfl rfl) ?_
      refine retX.wk (WkS.tld 2 0 rfl rfl) ?_
      refine retX.wk (WkS.tld 6 0 rfl rfl) ?_
      refine retX.wk (WkS.tld 35 0 rfl rfl) ?_
      refine retX.wk (WkS.drop 0 rfl) ?_
      refine retX.of (s' := ⟨[(2, .lst 1 (y42.map eStr) (.cur (SL z42)))], [], [(1, (SL z42))]⟩) (WkS.perm (WkS.cons rfl (Wk.refl _) (WkS.nil)) (List.Perm.refl _) (List.Perm.refl _)) (retD_mk (hh := []) (.inl rfl) (resL_cons (resOne_tmp rfl) (resL_nil)) (List.nil_sublist _) (List.Sublist.refl _) ?_)
      exact ⟨(SL z42), rfl, rfl, rfl⟩
theorem slices_Concat_string_string_ok0 (a0 : List (List ByteArray)) (r : List ByteArray) (h0 : slices_Concat_string_string a0 = some r) : CallsD Try.prog 27 [.lst 1 (a0.map (eList 1 eStr)) .no] [] [] (fun d h k => d = .lst 1 (r.map eStr) .no ∧ h = [] ∧ k = []) :=
  (slices_Concat_string_string_ok a0 r h0).drop fun d h k ⟨y0, e, _, _⟩ => by subst e; exact Wk.no
noncomputable def names_Join (a0 : TApiSet) (a1 : TApiSet) : Option (TApiSet) :=
  (bif a0.gNull then ((slices_Concat_string_string ([a0.gNames, a1.gNames] : List (List ByteArray))).bind fun x6 => ((names_Of true x6).bind fun x8 => some x8)) else ((slices_Concat_string_string ([a0.gNames, a1.gNames] : List (List ByteArray))).bind fun x11 => ((names_Of a1.gNull x11).bind fun x13 => some x13)))
set_option maxRecDepth 100000 in
set_option maxHeartbeats 2000000 in
theorem names_Join_ok (a0 : TApiSet) (a1 : TApiSet) (r : TApiSet) (h0 : names_Join a0 a1 = some r) : CallsD Try.prog 7 [eTApiSet a0, eTApiSet a1] [] [] (fun d h k => d = eTApiSet r ∧ h = [] ∧ k = []) := by
  have hm := yes_of h0
  unfold names_Join at hm
  clear h0
  refine enterX htab Try.func7 rfl rfl rfl rfl rfl (fun C => ?_)
  refine wpD_seq ?_
  refine wpD_region ?_
  refine p_box rfl rfl rfl rfl rfl rfl rfl (fun b1 => ?_)
  refine p_box rfl rfl rfl rfl rfl rfl rfl (fun b2 => ?_)
  refine p_alloc htab rfl rfl rfl rfl rfl rfl rfl (fun b3 => ?_)
  refine ops_nil ?_
  refine then_normal ?_
  refine wpD_seq ?_
  refine bycB a0.gNull (fun hs4 => ?_) (fun hs4 => ?_)
  · replace hm := yes_t hs4 hm
    obtain ⟨x6, q6, hm⟩ := yes_bind hm
    refine wpD_draws 12 [] [[],[0],[0],[0],[0],[0],[],[6],[],[8],[6,7,8,9],[0,6,7,8,9,10]] [0,6,7,8,9,10,11] [[],[0],[0,1],[0,1,2],[0,1,2,3],[0,1,2,3,4],[],[6],[],[8],[6,7,8,9],[0,1,2,6,7,8,9,10],[0,1,2,3,4,5,6,7,8,9,10,11],[0,1,2,3,4,5,6,7,8,9,10,11,12]] (by kernel_rfl) (by kernel_rfl) (by kernel_rfl) (by rfl) (by rfl) (by kernel_rfl) ?_
    apply Exists.intro
    apply Exists.intro
    apply Exists.intro
    apply Exists.intro
    apply Exists.intro
    apply Exists.intro
    apply Exists.intro
    intro bs
    refine z_e rfl rfl (ex_pure htab rfl) rfl rfl rfl rfl rfl rfl ?_
    refine z_qM rfl rfl (xm_load 0 htab rfl rfl rfl rfl rfl) rfl rfl rfl rfl rfl rfl ?_
    refine z_q rfl rfl (ex_pure htab rfl) rfl rfl rfl rfl rfl rfl ?_
    refine z_known (j := 7) (b' := true) rfl hs4 ?_
    refine z_skip rfl rfl rfl rfl ?_
    refine z_skip rfl rfl rfl rfl ?_
    refine z_q rfl rfl (x_pickT rfl rfl rfl) rfl rfl rfl rfl rfl rfl ?_
    refine z_e rfl rfl (ex_pure htab rfl) rfl rfl rfl rfl rfl rfl ?_
    refine z_eM rfl rfl (xm_load 0 htab rfl rfl rfl rfl rfl) rfl rfl rfl rfl rfl rfl ?_
    refine z_e rfl rfl (ex_pure htab rfl) rfl rfl rfl rfl rfl rfl ?_
    refine z_eM rfl rfl (xm_load 1 htab rfl rfl rfl rfl rfl) rfl rfl rfl rfl rfl rfl ?_
    refine z_E rfl rfl (ExE.wk (x_lit htab rfl rfl rfl rfl rfl rfl rfl rfl rfl rfl rfl) (show Wk _ (.lst 1 (([a0.gNames, a1.gNames] : List (List ByteArray)).map (eList 1 eStr)) .full) from Wk.lst0 (.cons (WkC.refl _) (.cons (WkC.refl _) (.nil))))) rfl rfl rfl rfl rfl rfl ?_
    refine z_call rfl rfl (slices_Concat_string_string_ok0 ([a0.gNames, a1.gNames] : List (List ByteArray)) x6 q6) rfl rfl (WkL.cons (Wk.no) (WkL.refl _)) rfl rfl rfl rfl rfl rfl ?_
    refine z_nil rfl rfl (fun e he => by simp [isAl] at he) ?_
    obtain ⟨x8, q8, hm⟩ := yes_bind hm
    refine p_call0 (names_Of_ok true x6 x8 q8) rfl rfl rfl rfl rfl (WkL.refl _) ?_
    rintro _ rfl
    refine p_store (ds' := [.v (.bool x8.gNull), .lst 1 (x8.gNames.map eStr) .no]) (h' := [(b1, Blk.cells [.v (.bool a0.gNull), .lst 1 (a0.gNames.map eStr) .no] 25), (b2, Blk.cells [.v (.bool a1.gNull), .lst 1 (a1.gNames.map eStr) .no] 25), (b3, Blk.cells [.v (.bool x8.gNull), .lst 1 (x8.gNames.map eStr) .no] 25)]) 2 htab rfl rfl rfl rfl rfl rfl rfl rfl rfl rfl rfl rfl ?_
    refine ops_nil ?_
    refine then_normal ?_
    refine wpD_ret ?_
    have er9 := yes_eq hm; subst er9
    refine retX.of (s' := ⟨[(4, .ptr b3 0)], [(b3, Blk.cells [.v (.bool x8.gNull), .lst 1 (x8.gNames.map eStr) .no] 25)], []⟩) (WkS.perm (WkS.cons rfl (Wk.refl _) (WkS.nil)) ((perm_at (j := 2) rfl).trans (List.Perm.cons _ (List.Perm.refl _))) (List.Perm.refl _)) (retD_mk (hh := []) (.inl rfl) (resL_cons (resOne_cell 0 rfl rfl rfl rfl) (resL_nil)) (List.nil_sublist _) (List.Sublist.refl _) ?_)
    exact ⟨rfl, rfl, rfl⟩
  · replace hm := yes_f hs4 hm
    obtain ⟨x11, q11, hm⟩ := yes_bind hm
    refine wpD_draws 12 [] [[],[0],[0],[0],[0,3],[0,3],[],[6],[],[8],[6,7,8,9],[0,6,7,8,9,10]] [0,3,6,7,8,9,10,11] [[],[0],[0,1],[0,1,2],[0,1,2,3],[0,1,2,3,4],[],[6],[],[8],[6,7,8,9],[0,1,2,6,7,8,9,10],[0,1,2,3,4,5,6,7,8,9,10,11],[0,1,2,3,4,5,6,7,8,9,10,11,12]] (by kernel_rfl) (by kernel_rfl) (by kernel_rfl) (by rfl) (by rfl) (by kernel_rfl) ?_
    apply Exists.intro
    apply Exists.intro
    apply Exists.intro
    apply Exists.intro
    apply Exists.intro
    apply Exists.intro
    apply Exists.intro
    apply Exists.intro
    intro bs
    refine z_e rfl rfl (ex_pure htab rfl) rfl rfl rfl rfl rfl rfl ?_
    refine z_qM rfl rfl (xm_load 0 htab rfl rfl rfl rfl rfl) rfl rfl rfl rfl rfl rfl ?_
    refine z_q rfl rfl (ex_pure htab rfl) rfl rfl rfl rfl rfl rfl ?_
    refine z_known (j := 7) (b' := false) rfl hs4 ?_
    refine z_e rfl rfl (ex_pure htab rfl) rfl rfl rfl rfl rfl rfl ?_
    refine z_qM rfl rfl (xm_load 1 htab rfl rfl rfl rfl rfl) rfl rfl rfl rfl rfl rfl ?_
    refine z_q rfl rfl (x_pickF rfl rfl rfl) rfl rfl rfl rfl rfl rfl ?_
    refine z_e rfl rfl (ex_pure htab rfl) rfl rfl rfl rfl rfl rfl ?_
    refine z_eM rfl rfl (xm_load 0 htab rfl rfl rfl rfl rfl) rfl rfl rfl rfl rfl rfl ?_
    refine z_e rfl rfl (ex_pure htab rfl) rfl rfl rfl rfl rfl rfl ?_
    refine z_eM rfl rfl (xm_load 1 htab rfl rfl rfl rfl rfl) rfl rfl rfl rfl rfl rfl ?_
    refine z_E rfl rfl (ExE.wk (x_lit htab rfl rfl rfl rfl rfl rfl rfl rfl rfl rfl rfl) (show Wk _ (.lst 1 (([a0.gNames, a1.gNames] : List (List ByteArray)).map (eList 1 eStr)) .full) from Wk.lst0 (.cons (WkC.refl _) (.cons (WkC.refl _) (.nil))))) rfl rfl rfl rfl rfl rfl ?_
    refine z_call rfl rfl (slices_Concat_string_string_ok0 ([a0.gNames, a1.gNames] : List (List ByteArray)) x11 q11) rfl rfl (WkL.cons (Wk.no) (WkL.refl _)) rfl rfl rfl rfl rfl rfl ?_
    refine z_nil rfl rfl (fun e he => by simp [isAl] at he) ?_
    obtain ⟨x13, q13, hm⟩ := yes_bind hm
    refine p_call0 (names_Of_ok a1.gNull x11 x13 q13) rfl rfl rfl rfl rfl (WkL.refl _) ?_
    rintro _ rfl
    refine p_store (ds' := [.v (.bool x13.gNull), .lst 1 (x13.gNames.map eStr) .no]) (h' := [(b1, Blk.cells [.v (.bool a0.gNull), .lst 1 (a0.gNames.map eStr) .no] 25), (b2, Blk.cells [.v (.bool a1.gNull), .lst 1 (a1.gNames.map eStr) .no] 25), (b3, Blk.cells [.v (.bool x13.gNull), .lst 1 (x13.gNames.map eStr) .no] 25)]) 2 htab rfl rfl rfl rfl rfl rfl rfl rfl rfl rfl rfl rfl ?_
    refine ops_nil ?_
    refine then_normal ?_
    refine wpD_ret ?_
    have er14 := yes_eq hm; subst er14
    refine retX.of (s' := ⟨[(4, .ptr b3 0)], [(b3, Blk.cells [.v (.bool x13.gNull), .lst 1 (x13.gNames.map eStr) .no] 25)], []⟩) (WkS.perm (WkS.cons rfl (Wk.refl _) (WkS.nil)) ((perm_at (j := 2) rfl).trans (List.Perm.cons _ (List.Perm.refl _))) (List.Perm.refl _)) (retD_mk (hh := []) (.inl rfl) (resL_cons (resOne_cell 0 rfl rfl rfl rfl) (resL_nil)) (List.nil_sublist _) (List.Sublist.refl _) ?_)
    exact ⟨rfl, rfl, rfl⟩
noncomputable def r07_Join (a0 : TApiSet) (a1 : TApiSet) : Option (TApiSet) :=
  ((app 16 ([] : List ByteArray) a0.gNames).bind fun x4 => ((app 16 x4 a1.gNames).bind fun x5 => (bif a0.gNull then ((r07_Clean (⟨true, x5⟩ : TApiSet)).bind fun x8 => some x8) else ((r07_Clean (⟨a1.gNull, x5⟩ : TApiSet)).bind fun x11 => some x11))))
set_option maxRecDepth 100000 in
set_option maxHeartbeats 2000000 in
theorem r07_Join_ok (a0 : TApiSet) (a1 : TApiSet) (r : TApiSet) (h0 : r07_Join a0 a1 = some r) : CallsD Try.prog 9 [eTApiSet a0, eTApiSet a1] [] [] (fun d h k => ∃ y0, d = .agg [.v (.bool r.gNull), .lst 1 (r.gNames.map eStr) (.cur y0)] ∧ h = [] ∧ k = [(1, y0)]) := by
  have hm := yes_of h0
  unfold r07_Join at hm
  clear h0
  refine enterX htab Try.func9 rfl rfl rfl rfl rfl (fun C => ?_)
  refine wpD_seq ?_
  refine wpD_region ?_
  refine p_box rfl rfl rfl rfl rfl rfl rfl (fun b1 => ?_)
  refine p_box rfl rfl rfl rfl rfl rfl rfl (fun b2 => ?_)
  refine p_alloc htab rfl rfl rfl rfl rfl rfl rfl (fun b3 => ?_)
  refine ops_nil ?_
  refine then_normal ?_
  refine wpD_seq ?_
  refine wpD_region ?_
  refine p_pure htab rfl rfl rfl rfl ?_
  refine ops_nil ?_
  refine then_normal ?_
  refine wpD_seq ?_
  refine wpD_region ?_
  refine p_pure htab rfl rfl rfl rfl ?_
  refine p_pure htab rfl rfl rfl rfl ?_
  refine p_load 0 htab rfl rfl rfl rfl rfl rfl rfl rfl ?_
  obtain ⟨x4, q4, hm⟩ := yes_bind hm
  refine p_app0 htab rfl rfl rfl rfl rfl rfl rfl rfl rfl rfl rfl rfl rfl rfl rfl (by simpa using app_bound (e := eStr) q4) (fun v4 => ?_)
  refine p_mapD0 (i := 9) q4 rfl ?_
  refine p_pure htab rfl rfl rfl rfl ?_
  refine ops_nil ?_
  refine then_normal ?_
  refine wpD_seq ?_
  refine wpD_region ?_
  refine p_pure htab rfl rfl rfl rfl ?_
  refine p_pure htab rfl rfl rfl rfl ?_
  refine p_load 1 htab rfl rfl rfl rfl rfl rfl rfl rfl ?_
  obtain ⟨x5, q5, hm⟩ := yes_bind hm
  refine p_appC 0 htab rfl rfl rfl rfl rfl rfl rfl rfl rfl rfl rfl rfl rfl rfl rfl rfl rfl (app_bound q5) (fun v5 => ?_)
  refine p_mapD (i := 13) q5 rfl ?_
  refine p_pure htab rfl rfl rfl rfl ?_
  refine ops_nil ?_
  refine then_normal ?_
  refine wpD_seq ?_
  refine wpD_region ?_
  refine p_pure htab rfl rfl rfl rfl ?_
  refine p_load 0 htab rfl rfl rfl rfl rfl rfl rfl rfl ?_
  refine p_pure htab rfl rfl rfl rfl ?_
  refine p_split (i := 16) rfl (fun hg6 => ?_) (fun hg6 => ?_)
  · replace hm := yes_t hg6 hm
    refine p_skip rfl rfl rfl ?_
    refine p_skip rfl rfl rfl ?_
    refine p_pickT rfl rfl rfl rfl rfl rfl ?_
    refine p_pure htab rfl rfl rfl rfl ?_
    refine p_build (r := [.v (.bool true), .lst 1 (x5.map eStr) (.cur v5)]) htab rfl rfl rfl rfl rfl rfl rfl rfl rfl ?_
    obtain ⟨x8, q8, hm⟩ := yes_bind hm
    refine p_callG (r07_Clean_ok (⟨true, x5⟩ : TApiSet) x8 q8) rfl rfl rfl rfl rfl (WkL.cons (Wk.agg (WkR.cons (WkC.refl _) rfl (WkR.cons (WkC.no) rfl (WkR.nil)))) (WkL.refl _)) (List.Perm.refl _) (List.Perm.refl _) ?_
    rintro _ _ _ ⟨w7, rfl, rfl, rfl⟩
    refine p_store (ds' := [.v (.bool x8.gNull), .lst 1 (x8.gNames.map eStr) (.cur w7)]) (h' := [(b1, Blk.cells [.v (.bool a0.gNull), .lst 1 (a0.gNames.map eStr) .no] 25), (b2, Blk.cells [.v (.bool a1.gNull), .lst 1 (a1.gNames.map eStr) .no] 25), (b3, Blk.cells [.v (.bool x8.gNull), .lst 1 (x8.gNames.map eStr) (.cur w7)] 25)]) 2 htab rfl rfl rfl rfl rfl rfl rfl rfl rfl rfl rfl rfl ?_
    refine ops_nil ?_
    refine then_normal ?_
    refine wpD_ret ?_
    have er9 := yes_eq hm; subst er9
    refine retX.of (s' := ⟨[(4, .ptr b3 0)], [(b3, Blk.cells [.v (.bool x8.gNull), .lst 1 (x8.gNames.map eStr) (.cur w7)] 25)], [(1, w7)]⟩) (WkS.perm (WkS.cons rfl (Wk.refl _) (WkS.nil)) ((perm_at (j := 2) rfl).trans (List.Perm.cons _ (List.Perm.refl _))) (List.Perm.refl _)) (retD_mk (hh := []) (.inl rfl) (resL_cons (resOne_cell 0 rfl rfl rfl rfl) (resL_nil)) (List.nil_sublist _) (List.Sublist.refl _) ?_)
    exact ⟨w7, rfl, rfl, rfl⟩
  · replace hm := yes_f hg6 hm
    refine p_pure htab rfl rfl rfl rfl ?_
    refine p_load 1 htab rfl rfl rfl rfl rfl rfl rfl rfl ?_
    refine p_pickF rfl rfl rfl rfl rfl rfl ?_
    refine p_pure htab rfl rfl rfl rfl ?_
    refine p_build (r := [.v (.bool a1.gNull), .lst 1 (x5.map eStr) (.cur v5)]) htab rfl rfl rfl rfl rfl rfl rfl rfl rfl ?_
    obtain ⟨x11, q11, hm⟩ := yes_bind hm
    refine p_callG (r07_Clean_ok (⟨a1.gNull, x5⟩ : TApiSet) x11 q11) rfl rfl rfl rfl rfl (WkL.cons (Wk.agg (WkR.cons (WkC.refl _) rfl (WkR.cons (WkC.no) rfl (WkR.nil)))) (WkL.refl _)) (List.Perm.refl _) (List.Perm.refl _) ?_
    rintro _ _ _ ⟨w10, rfl, rfl, rfl⟩
    refine p_store (ds' := [.v (.bool x11.gNull), .lst 1 (x11.gNames.map eStr) (.cur w10)]) (h' := [(b1, Blk.cells [.v (.bool a0.gNull), .lst 1 (a0.gNames.map eStr) .no] 25), (b2, Blk.cells [.v (.bool a1.gNull), .lst 1 (a1.gNames.map eStr) .no] 25), (b3, Blk.cells [.v (.bool x11.gNull), .lst 1 (x11.gNames.map eStr) (.cur w10)] 25)]) 2 htab rfl rfl rfl rfl rfl rfl rfl rfl rfl rfl rfl rfl ?_
    refine ops_nil ?_
    refine then_normal ?_
    refine wpD_ret ?_
    have er12 := yes_eq hm; subst er12
    refine retX.of (s' := ⟨[(4, .ptr b3 0)], [(b3, Blk.cells [.v (.bool x11.gNull), .lst 1 (x11.gNames.map eStr) (.cur w10)] 25)], [(1, w10)]⟩) (WkS.perm (WkS.cons rfl (Wk.refl _) (WkS.nil)) ((perm_at (j := 2) rfl).trans (List.Perm.cons _ (List.Perm.refl _))) (List.Perm.refl _)) (retD_mk (hh := []) (.inl rfl) (resL_cons (resOne_cell 0 rfl rfl rfl rfl) (resL_nil)) (List.nil_sublist _) (List.Sublist.refl _) ?_)
    exact ⟨w10, rfl, rfl, rfl⟩
theorem r07_Join_ok0 (a0 : TApiSet) (a1 : TApiSet) (r : TApiSet) (h0 : r07_Join a0 a1 = some r) : CallsD Try.prog 9 [eTApiSet a0, eTApiSet a1] [] [] (fun d h k => d = eTApiSet r ∧ h = [] ∧ k = []) :=
  (r07_Join_ok a0 a1 r h0).drop fun d h k ⟨y0, e, _, _⟩ => by subst e; exact Wk.agg (WkR.cons (WkC.refl _) rfl (WkR.cons (WkC.no) rfl (WkR.nil)))
noncomputable def r07_Exact (a0 : TApiSet) (a1 : TApiSet) : Option (Bool) :=
  (Option.bind (α := Bool) (bif (!(a0.gNull == a1.gNull)) then some true else some ((a0.gNames.length : Int) != (a1.gNames.length : Int))) fun y4 => (bif y4 then some false else (Option.bind (α := (Unit) ⊕ (Bool)) (loopM (fun (s26 : Int) => (bif (decide (s26 < (a0.gNames.length : Int))) then ((idx a0.gNames s26).bind fun x38 => ((idx a1.gNames s26).bind fun x39 => (bif (!decide (x38 = x39)) then some (.done (.inr false)) else some (.next (IntKind.i64.wrap (s26 + (1 : Int))))))) else some (.done (.inl ())))) (0 : Int)) (Sum.elim (fun y25 => some true) (fun r => some r)))))
set_option maxRecDepth 100000 in
set_option maxHeartbeats 2000000 in
theorem r07_Exact_ok (a0 : TApiSet) (a1 : TApiSet) (r : Bool) (h0 : r07_Exact a0 a1 = some r) : CallsD Try.prog 10 [eTApiSet a0, eTApiSet a1] [] [] (fun d h k => d = .v (.bool r) ∧ h = [] ∧ k = []) := by
  have hm := yes_of h0
  unfold r07_Exact at hm
  clear h0
  refine enterX htab Try.func10 rfl rfl rfl rfl rfl (fun C => ?_)
  refine wpD_seq ?_
  refine wpD_region ?_
  refine p_box rfl rfl rfl rfl rfl rfl rfl (fun b1 => ?_)
  refine p_box rfl rfl rfl rfl rfl rfl rfl (fun b2 => ?_)
  refine p_pure htab rfl rfl rfl rfl ?_
  refine ops_nil ?_
  refine then_normal ?_
  refine wpD_seq ?_
  refine wpD_seq ?_
  obtain ⟨y4, q4, ho4⟩ := yes_bind hm
  refine wpD_mid (Y := Unit) (fun z4 => (⟨[(2, .ptr b1 0), (3, .ptr b2 0), (19, .v (.bool y4))], [(b1, Blk.cells [.v (.bool a0.gNull), .lst 1 (a0.gNames.map eStr) .no] 25), (b2, Blk.cells [.v (.bool a1.gNull), .lst 1 (a1.gNames.map eStr) .no] 25)], []⟩ : S)) ?_ ?_
  · clear hm; have hm := yes_of q4
    refine wpD_region ?_
    refine p_pure htab rfl rfl rfl rfl ?_
    refine p_load 0 htab rfl rfl rfl rfl rfl rfl rfl rfl ?_
    refine p_pure htab rfl rfl rfl rfl ?_
    refine p_load 1 htab rfl rfl rfl rfl rfl rfl rfl rfl ?_
    refine p_pure htab rfl rfl rfl rfl ?_
    refine p_pure htab rfl rfl rfl rfl ?_
    refine p_split (i := 11) rfl (fun hg5 => ?_) (fun hg5 => ?_)
    · replace hm := yes_t hg5 hm
      refine p_skip rfl rfl rfl ?_
      refine p_skip rfl rfl rfl ?_
      refine p_skip rfl rfl rfl ?_
      refine p_skip rfl rfl rfl ?_
      refine p_skip rfl rfl rfl ?_
      refine p_skip rfl rfl rfl ?_
      refine p_skip rfl rfl rfl ?_
      refine p_pickT rfl rfl rfl rfl rfl rfl ?_
      refine ops_nil ?_
      have e4 := yes_eq hm; subst e4
      refine ⟨rfl, ?_⟩
      exact WkX.of () (WkS.perm (WkS.cons rfl (Wk.refl _) (WkS.cons rfl (Wk.refl _) (WkS.cons rfl (Wk.refl _) (WkS.nil)))) (List.Perm.refl _) (List.Perm.refl _))
    · replace hm := yes_f hg5 hm
      refine p_pure htab rfl rfl rfl rfl ?_
      refine p_load 0 htab rfl rfl rfl rfl rfl rfl rfl rfl ?_
      refine p_lenL htab rfl rfl rfl rfl rfl rfl rfl (by first | exact map_len | rfl) ?_
      refine p_pure htab rfl rfl rfl rfl ?_
      refine p_load 1 htab rfl rfl rfl rfl rfl rfl rfl rfl ?_
      refine p_lenL htab rfl rfl rfl rfl rfl rfl rfl (by first | exact map_len | rfl) ?_
      refine p_pure htab rfl rfl rfl rfl ?_
      refine p_pickF rfl rfl rfl rfl rfl rfl ?_
      refine ops_nil ?_
      have e4 := yes_eq hm; subst e4
      refine ⟨rfl, ?_⟩
      exact WkX.of () (WkS.perm (WkS.cons rfl (Wk.refl _) (WkS.cons rfl (Wk.refl _) (WkS.cons rfl (Wk.refl _) (WkS.nil)))) (List.Perm.refl _) (List.Perm.refl _))
  · intro s4 hw4; clear hm; have hm := ho4; clear q4 ho4
    refine then_normal ?_
    refine wpD_wkX hw4 (fun z4 => ?_)
    refine wpD_cond rfl (fun hc7 => ?_) (fun hc7 => ?_)
    · replace hm := yes_t hc7 hm
      refine wpD_seq ?_
      refine wpD_region ?_
      refine p_pure htab rfl rfl rfl rfl ?_
      refine ops_nil ?_
      refine then_normal ?_
      refine wpD_ret ?_
      refine then_ret ?_
      have er8 := yes_eq hm; subst er8
      refine retX.of (s' := ⟨[(4, .v (.bool false))], [], []⟩) (WkS.perm (WkS.cons rfl (Wk.refl _) (WkS.nil)) (List.Perm.refl _) (List.Perm.refl _)) (retD_mk (hh := []) (.inl rfl) (resL_cons (resOne_tmp rfl) (resL_nil)) (List.nil_sublist _) (List.Sublist.refl _) ?_)
      exact ⟨rfl, rfl, rfl⟩
    · replace hm := yes_f hc7 hm
      refine wpD_skip ?_
      refine then_normal ?_
      refine wpD_seq ?_
      refine wpD_seq ?_
      refine wpD_region ?_
      refine p_pure htab rfl rfl rfl rfl ?_
      refine ops_nil ?_
      refine then_normal ?_
      obtain ⟨x25, q25, ho25⟩ := yes_bind hm
      refine wpD_midX (τ := Unit) (Y := Unit) (fun y25 z25 => (⟨[], [(b1, Blk.cells [.v (.bool a0.gNull), .lst 1 (a0.gNames.map eStr) .no] 25), (b2, Blk.cells [.v (.bool a1.gNull), .lst 1 (a1.gNames.map eStr) .no] 25)], []⟩ : S)) x25 ?_ ?_
      · clear hm; have hm := yes_of q25
        refine wpD_block ?_
        obtain ⟨u26, hl26, hq26⟩ := yes_m hm
        refine loop_M (Y := Unit) hl26 (fun s26 z26 => (⟨[(2, .ptr b1 0), (3, .ptr b2 0), (5, .v (.int .i64 s26))], [(b1, Blk.cells [.v (.bool a0.gNull), .lst 1 (a0.gNames.map eStr) .no] 25), (b2, Blk.cells [.v (.bool a1.gNull), .lst 1 (a1.gNames.map eStr) .no] 25)], []⟩ : S)) ?_ ?_
        · skip
          exact WkX.of () (WkS.perm (WkS.cons rfl (Wk.refl _) (WkS.cons rfl (Wk.refl _) (WkS.cons rfl (Wk.refl _) (WkS.nil)))) (List.Perm.refl _) (List.Perm.refl _))
        · intro G26 s26 z26 hm
          refine wpD_seq ?_
          refine wpD_seq ?_
          refine wpD_region ?_
          refine p_pure htab rfl rfl rfl rfl ?_
          refine p_pure htab rfl rfl rfl rfl ?_
          refine p_load 0 htab rfl rfl rfl rfl rfl rfl rfl rfl ?_
          refine p_lenL htab rfl rfl rfl rfl rfl rfl rfl (by first | exact map_len | rfl) ?_
          refine p_pure htab rfl rfl rfl rfl ?_
          refine ops_nil ?_
          refine then_normal ?_
          refine wpD_cond rfl (fun hc37 => ?_) (fun hc37 => ?_)
          · replace hm := yes_t hc37 hm
            refine wpD_skip ?_
            refine then_normal ?_
            refine wpD_seq ?_
            refine wpD_block ?_
            refine wpD_seq ?_
            obtain ⟨x38, q38, hm⟩ := yes_bind hm
            obtain ⟨x39, q39, hm⟩ := yes_bind hm
            refine wpD_draws 10 [] [[],[0],[],[0,1],[0,1,3],[],[5],[],[5,6],[5,6,8]] [0,1,3,5,6,8] [[],[0],[],[0,1,2],[0,1,2,3],[],[5],[],[5,6,7],[5,6,7,8],[0,1,2,3,4,5,6,7,8,9]] (by kernel_rfl) (by kernel_rfl) (by kernel_rfl) (by rfl) (by rfl) (by kernel_rfl) ?_
            apply Exists.intro
            apply Exists.intro
            apply Exists.intro
            apply Exists.intro
            apply Exists.intro
            apply Exists.intro
            intro bs
            refine z_e rfl rfl (ex_pure htab rfl) rfl rfl rfl rfl rfl rfl ?_
            refine z_eM rfl rfl (xm_load 0 htab rfl rfl rfl rfl rfl) rfl rfl rfl rfl rfl rfl ?_
            refine z_q rfl rfl (ex_pure htab rfl) rfl rfl rfl rfl rfl rfl ?_
            refine z_e rfl rfl (x_elem htab rfl rfl rfl rfl rfl rfl rfl (idx_nonneg q38) (idx_map q38)) rfl rfl rfl rfl rfl rfl ?_
            refine z_qM rfl rfl (xm_loadEl htab rfl rfl rfl rfl rfl) rfl rfl rfl rfl rfl rfl ?_
            refine z_e rfl rfl (ex_pure htab rfl) rfl rfl rfl rfl rfl rfl ?_
            refine z_eM rfl rfl (xm_load 1 htab rfl rfl rfl rfl rfl) rfl rfl rfl rfl rfl rfl ?_
            refine z_q rfl rfl (ex_pure htab rfl) rfl rfl rfl rfl rfl rfl ?_
            refine z_e rfl rfl (x_elem htab rfl rfl rfl rfl rfl rfl rfl (idx_nonneg q39) (idx_map q39)) rfl rfl rfl rfl rfl rfl ?_
            refine z_qM rfl rfl (xm_loadEl htab rfl rfl rfl rfl rfl) rfl rfl rfl rfl rfl rfl ?_
            refine z_nil rfl rfl (fun e he => by simp [isAl] at he) ?_
            refine p_pure htab rfl rfl rfl rfl ?_
            refine ops_nil ?_
            refine then_normal ?_
            refine wpD_cond rfl (fun hc40 => ?_) (fun hc40 => ?_)
            · replace hm := yes_t hc40 hm
              refine wpD_seq ?_
              refine wpD_region ?_
              refine p_pure htab rfl rfl rfl rfl ?_
              refine ops_nil ?_
              refine then_normal ?_
              refine wpD_ret ?_
              refine block_ret ?_
              refine then_ret ?_
              have e26 := lp_done hm; subst e26; clear hm; have hm := hq26
              refine then_ret ?_
              refine block_ret ?_
              have e25 := yes_eq hm; subst e25; refine midX_inr ?_; clear hm; have hm := ho25; simp only [Sum.elim_inr] at hm
              refine then_ret ?_
              have er41 := yes_eq hm; subst er41
              refine retX.of (s' := ⟨[(4, .v (.bool false))], [], []⟩) (WkS.perm (WkS.cons rfl (Wk.refl _) (WkS.nil)) (List.Perm.refl _) (List.Perm.refl _)) (retD_mk (hh := []) (.inl rfl) (resL_cons (resOne_tmp rfl) (resL_nil)) (List.nil_sublist _) (List.Sublist.refl _) ?_)
              exact ⟨rfl, rfl, rfl⟩
            · replace hm := yes_f hc40 hm
              refine wpD_skip ?_
              refine block_normal ?_
              refine then_normal ?_
              refine wpD_region ?_
              refine p_pure htab rfl rfl rfl rfl ?_
              refine p_pure htab rfl rfl rfl rfl ?_
              refine p_pure htab rfl rfl rfl rfl ?_
              refine ops_nil ?_
              refine then_normal ⟨_, lp_next hm, ?_⟩
              exact WkX.of () (WkS.perm (WkS.cons rfl (Wk.refl _) (WkS.cons rfl (Wk.refl _) (WkS.cons rfl (Wk.refl _) (WkS.nil)))) (List.Perm.refl _) (List.Perm.refl _))
          · replace hm := yes_f hc37 hm
            refine wpD_exit ?_
            refine then_exit ?_
            have e26 := lp_done hm; subst e26; clear hm; have hm := hq26
            refine then_exit ?_
            refine block_hit ?_
            have e25 := yes_eq hm; subst e25
            refine midX_inl ?_
            exact WkX.of () (WkS.perm (WkS.nil) (List.Perm.refl _) (List.Perm.refl _))
      · intro y25 s25 hx25 hw25; subst hx25; clear hm; have hm := ho25; simp only [Sum.elim_inl] at hm; clear q25 ho25
        refine then_normal ?_
        refine wpD_wkX hw25 (fun z25 => ?_)
        refine wpD_seq ?_
        refine wpD_region ?_
        refine p_pure htab rfl rfl rfl rfl ?_
        refine ops_nil ?_
        refine then_normal ?_
        refine wpD_ret ?_
        have er42 := yes_eq hm; subst er42
        refine retX.of (s' := ⟨[(4, .v (.bool true))], [], []⟩) (WkS.perm (WkS.cons rfl (Wk.refl _) (WkS.nil)) (List.Perm.refl _) (List.Perm.refl _)) (retD_mk (hh := []) (.inl rfl) (resL_cons (resOne_tmp rfl) (resL_nil)) (List.nil_sublist _) (List.Sublist.refl _) ?_)
        exact ⟨rfl, rfl, rfl⟩
noncomputable def names_Meet (a0 : TApiSet) (a1 : TApiSet) : Option (TApiSet) :=
  (Option.bind (α := List ByteArray) (loopM (fun (s25 : List ByteArray × Int) => (bif (decide (s25.2 < (a0.gNames.length : Int))) then ((idx a0.gNames s25.2).bind fun x40 => ((slices_Contains_string_string a1.gNames x40).bind fun x41 => (bif x41 then ((app 16 s25.1 ([x40] : List ByteArray)).bind fun x43 => some (.next (x43, (IntKind.i64.wrap (s25.2 + (1 : Int)))))) else some (.next (s25.1, (IntKind.i64.wrap (s25.2 + (1 : Int)))))))) else some (.done s25.1))) (([] : List ByteArray), (0 : Int))) fun y24 => (bif a0.gNull then ((names_Of a1.gNull y24).bind fun x45 => some x45) else ((names_Of false y24).bind fun x47 => some x47)))
set_option maxRecDepth 100000 in
set_option maxHeartbeats 2000000 in
theorem names_Meet_ok (a0 : TApiSet) (a1 : TApiSet) (r : TApiSet) (h0 : names_Meet a0 a1 = some r) : CallsD Try.prog 12 [eTApiSet a0, eTApiSet a1] [] [] (fun d h k => d = eTApiSet r ∧ h = [] ∧ k = []) := by
  have hm := yes_of h0
  unfold names_Meet at hm
  clear h0
  refine enterX htab Try.func12 rfl rfl rfl rfl rfl (fun C => ?_)
  refine wpD_seq ?_
  refine wpD_region ?_
  refine p_box rfl rfl rfl rfl rfl rfl rfl (fun b1 => ?_)
  refine p_box rfl rfl rfl rfl rfl rfl rfl (fun b2 => ?_)
  refine p_alloc htab rfl rfl rfl rfl rfl rfl rfl (fun b3 => ?_)
  refine ops_nil ?_
  refine then_normal ?_
  refine wpD_seq ?_
  refine wpD_region ?_
  refine p_pure htab rfl rfl rfl rfl ?_
  refine ops_nil ?_
  refine then_normal ?_
  refine wpD_seq ?_
  refine wpD_seq ?_
  refine wpD_region ?_
  refine p_pure htab rfl rfl rfl rfl ?_
  refine p_load 0 htab rfl rfl rfl rfl rfl rfl rfl rfl ?_
  refine p_lenL htab rfl rfl rfl rfl rfl rfl rfl (by first | exact map_len | rfl) ?_
  refine p_pure htab rfl rfl rfl rfl ?_
  refine ops_nil ?_
  refine then_normal ?_
  obtain ⟨y24, q24, ho24⟩ := yes_bind hm
  refine wpD_mid (Y := Value) (fun z24 => (⟨[(2, .ptr b1 0), (3, .ptr b2 0), (4, .ptr b3 0), (5, .lst 1 (y24.map eStr) (.cur z24))], [(b1, Blk.cells [.v (.bool a0.gNull), .lst 1 (a0.gNames.map eStr) .no] 25), (b2, Blk.cells [.v (.bool a1.gNull), .lst 1 (a1.gNames.map eStr) .no] 25), (b3, Blk.cells [.v (.bool false), .lst 1 [] .full] 25)], [(1, z24)]⟩ : S)) ?_ ?_
  · clear hm; have hm := yes_of q24
    refine wpD_block ?_
    obtain ⟨u25, hl25, hq25⟩ := yes_m hm
    refine loop_M (Y := Value) hl25 (fun s25 z25 => (⟨[(2, .ptr b1 0), (3, .ptr b2 0), (4, .ptr b3 0), (5, .lst 1 (s25.1.map eStr) (.cur z25)), (9, .lst 1 (a0.gNames.map eStr) .no), (10, .v (.int .i64 (a0.gNames.length : Int))), (11, .v (.int .i64 s25.2))], [(b1, Blk.cells [.v (.bool a0.gNull), .lst 1 (a0.gNames.map eStr) .no] 25), (b2, Blk.cells [.v (.bool a1.gNull), .lst 1 (a1.gNames.map eStr) .no] 25), (b3, Blk.cells [.v (.bool false), .lst 1 [] .full] 25)], [(1, z25)]⟩ : S)) ?_ ?_
    · skip
      refine WkX.tokN (i := 5) 1 rfl (fun w38 => ?_)
      exact WkX.of w38 (WkS.perm (WkS.cons rfl (Wk.refl _) (WkS.cons rfl (Wk.refl _) (WkS.cons rfl (Wk.refl _) (WkS.cons rfl (Wk.refl _) (WkS.cons rfl (Wk.refl _) (WkS.cons rfl (Wk.refl _) (WkS.cons rfl (Wk.refl _) (WkS.nil)))))))) (List.Perm.refl _) (List.Perm.refl _))
    · intro G25 s25 z25 hm
      refine wpD_seq ?_
      refine wpD_region ?_
      refine p_pure htab rfl rfl rfl rfl ?_
      refine ops_nil ?_
      refine then_normal ?_
      refine wpD_seq ?_
      refine wpD_cond rfl (fun hc39 => ?_) (fun hc39 => ?_)
      · replace hm := yes_t hc39 hm
        refine wpD_skip ?_
        refine then_normal ?_
        refine wpD_seq ?_
        refine wpD_block ?_
        refine wpD_seq ?_
        refine wpD_region ?_
        obtain ⟨x40, q40, hm⟩ := yes_bind hm
        refine p_elem htab rfl rfl rfl rfl rfl rfl rfl rfl rfl rfl (idx_nonneg q40) (idx_map q40) ?_
        refine p_loadEl htab rfl rfl rfl rfl rfl rfl rfl rfl ?_
        refine p_pure htab rfl rfl rfl rfl ?_
        refine ops_nil ?_
        refine then_normal ?_
        refine wpD_seq ?_
        refine wpD_region ?_
        refine p_pure htab rfl rfl rfl rfl ?_
        refine p_load 1 htab rfl rfl rfl rfl rfl rfl rfl rfl ?_
        refine p_pure htab rfl rfl rfl rfl ?_
        obtain ⟨x41, q41, hm⟩ := yes_bind hm
        refine p_call0 (slices_Contains_string_string_ok a1.gNames x40 x41 q41) rfl rfl rfl rfl rfl (WkL.refl _) ?_
        rintro _ rfl
        refine ops_nil ?_
        refine then_normal ?_
        refine wpD_cond rfl (fun hc42 => ?_) (fun hc42 => ?_)
        · replace hm := yes_t hc42 hm
          refine wpD_region ?_
          refine p_pure htab rfl rfl rfl rfl ?_
          refine p_pure htab rfl rfl rfl rfl ?_
          refine p_lit htab rfl rfl rfl rfl rfl rfl rfl rfl rfl rfl rfl rfl rfl rfl ?_
          refine p_eq (i := 21) (d' := .lst 1 (([x40] : List ByteArray).map eStr) .full) rfl (Wk.lst0 (.cons (WkC.refl _) (.nil))) ?_
          obtain ⟨x43, q43, hm⟩ := yes_bind hm
          refine p_appC 0 htab rfl rfl rfl rfl rfl rfl rfl rfl rfl rfl rfl rfl rfl rfl rfl rfl rfl (app_bound q43) (fun v43 => ?_)
          refine p_mapD (i := 22) q43 rfl ?_
          refine p_pure htab rfl rfl rfl rfl ?_
          refine ops_nil ?_
          refine block_normal ?_
          refine then_normal ?_
          refine wpD_region ?_
          refine p_pure htab rfl rfl rfl rfl ?_
          refine p_pure htab rfl rfl rfl rfl ?_
          refine ops_nil ?_
          refine then_normal ⟨_, lp_next hm, ?_⟩
          exact WkX.of v43 (WkS.perm (WkS.cons rfl (Wk.refl _) (WkS.cons rfl (Wk.refl _) (WkS.cons rfl (Wk.refl _) (WkS.cons rfl (Wk.refl _) (WkS.cons rfl (Wk.refl _) (WkS.cons rfl (Wk.refl _) (WkS.cons rfl (Wk.refl _) (WkS.nil)))))))) (List.Perm.refl _) (List.Perm.refl _))
        · replace hm := yes_f hc42 hm
          refine wpD_skip ?_
          refine block_normal ?_
          refine then_normal ?_
          refine wpD_region ?_
          refine p_pure htab rfl rfl rfl rfl ?_
          refine p_pure htab rfl rfl rfl rfl ?_
          refine ops_nil ?_
          refine then_normal ⟨_, lp_next hm, ?_⟩
          exact WkX.of z25 (WkS.perm (WkS.cons rfl (Wk.refl _) (WkS.cons rfl (Wk.refl _) (WkS.cons rfl (Wk.refl _) (WkS.cons rfl (Wk.refl _) (WkS.cons rfl (Wk.refl _) (WkS.cons rfl (Wk.refl _) (WkS.cons rfl (Wk.refl _) (WkS.nil)))))))) (List.Perm.refl _) (List.Perm.refl _))
      · replace hm := yes_f hc39 hm
        refine wpD_exit ?_
        refine then_exit ?_
        have e25 := lp_done hm; subst e25; clear hm; have hm := hq25
        refine then_exit ?_
        refine block_hit ?_
        have e24 := yes_eq hm; subst e24
        refine ⟨rfl, ?_⟩
        exact WkX.of z25 (WkS.perm (WkS.cons rfl (Wk.refl _) (WkS.cons rfl (Wk.refl _) (WkS.cons rfl (Wk.refl _) (WkS.cons rfl (Wk.refl _) (WkS.nil))))) (List.Perm.refl _) (List.Perm.refl _))
  · intro s24 hw24; clear hm; have hm := ho24; clear q24 ho24
    refine then_normal ?_
    refine wpD_wkX hw24 (fun z24 => ?_)
    refine wpD_seq ?_
    refine wpD_region ?_
    refine p_pure htab rfl rfl rfl rfl ?_
    refine p_load 0 htab rfl rfl rfl rfl rfl rfl rfl rfl ?_
    refine p_pure htab rfl rfl rfl rfl ?_
    refine p_split (i := 26) rfl (fun hg44 => ?_) (fun hg44 => ?_)
    · replace hm := yes_t hg44 hm
      refine p_pure htab rfl rfl rfl rfl ?_
      refine p_load 1 htab rfl rfl rfl rfl rfl rfl rfl rfl ?_
      refine p_pickT rfl rfl rfl rfl rfl rfl ?_
      refine p_pure htab rfl rfl rfl rfl ?_
      obtain ⟨x45, q45, hm⟩ := yes_bind hm
      refine p_call0 (names_Of_ok a1.gNull y24 x45 q45) rfl rfl rfl rfl rfl (WkL.cons (Wk.refl _) (WkL.cons (Wk.no) (WkL.refl _))) ?_
      rintro _ rfl
      refine p_store (ds' := [.v (.bool x45.gNull), .lst 1 (x45.gNames.map eStr) .no]) (h' := [(b1, Blk.cells [.v (.bool a0.gNull), .lst 1 (a0.gNames.map eStr) .no] 25), (b2, Blk.cells [.v (.bool a1.gNull), .lst 1 (a1.gNames.map eStr) .no] 25), (b3, Blk.cells [.v (.bool x45.gNull), .lst 1 (x45.gNames.map eStr) .no] 25)]) 2 htab rfl rfl rfl rfl rfl rfl rfl rfl rfl rfl rfl rfl ?_
      refine ops_nil ?_
      refine then_normal ?_
      refine wpD_ret ?_
      have er46 := yes_eq hm; subst er46
      refine retX.of (s' := ⟨[(4, .ptr b3 0)], [(b3, Blk.cells [.v (.bool x45.gNull), .lst 1 (x45.gNames.map eStr) .no] 25)], []⟩) (WkS.perm (WkS.cons rfl (Wk.refl _) (WkS.nil)) ((perm_at (j := 2) rfl).trans (List.Perm.cons _ (List.Perm.refl _))) (List.Perm.refl _)) (retD_mk (hh := []) (.inl rfl) (resL_cons (resOne_cell 0 rfl rfl rfl rfl) (resL_nil)) (List.nil_sublist _) (List.Sublist.refl _) ?_)
      exact ⟨rfl, rfl, rfl⟩
    · replace hm := yes_f hg44 hm
      refine p_skip rfl rfl rfl ?_
      refine p_skip rfl rfl rfl ?_
      refine p_pickF rfl rfl rfl rfl rfl rfl ?_
      refine p_pure htab rfl rfl rfl rfl ?_
      obtain ⟨x47, q47, hm⟩ := yes_bind hm
      refine p_call0 (names_Of_ok false y24 x47 q47) rfl rfl rfl rfl rfl (WkL.cons (Wk.refl _) (WkL.cons (Wk.no) (WkL.refl _))) ?_
      rintro _ rfl
      refine p_store (ds' := [.v (.bool x47.gNull), .lst 1 (x47.gNames.map eStr) .no]) (h' := [(b1, Blk.cells [.v (.bool a0.gNull), .lst 1 (a0.gNames.map eStr) .no] 25), (b2, Blk.cells [.v (.bool a1.gNull), .lst 1 (a1.gNames.map eStr) .no] 25), (b3, Blk.cells [.v (.bool x47.gNull), .lst 1 (x47.gNames.map eStr) .no] 25)]) 2 htab rfl rfl rfl rfl rfl rfl rfl rfl rfl rfl rfl rfl ?_
      refine ops_nil ?_
      refine then_normal ?_
      refine wpD_ret ?_
      have er48 := yes_eq hm; subst er48
      refine retX.of (s' := ⟨[(4, .ptr b3 0)], [(b3, Blk.cells [.v (.bool x47.gNull), .lst 1 (x47.gNames.map eStr) .no] 25)], []⟩) (WkS.perm (WkS.cons rfl (Wk.refl _) (WkS.nil)) ((perm_at (j := 2) rfl).trans (List.Perm.cons _ (List.Perm.refl _))) (List.Perm.refl _)) (retD_mk (hh := []) (.inl rfl) (resL_cons (resOne_cell 0 rfl rfl rfl rfl) (resL_nil)) (List.nil_sublist _) (List.Sublist.refl _) ?_)
      exact ⟨rfl, rfl, rfl⟩
noncomputable def r07_Meet (a0 : TApiSet) (a1 : TApiSet) : Option (TApiSet) :=
  (Option.bind (α := List ByteArray) (loopM (fun (s28 : List ByteArray × Int) => (bif (decide (s28.2 < (a0.gNames.length : Int))) then ((idx a0.gNames s28.2).bind fun x45 => ((r07_In a1.gNames x45).bind fun x46 => (bif x46 then ((idx a0.gNames s28.2).bind fun x48 => ((app 16 s28.1 ([x48] : List ByteArray)).bind fun x49 => some (.next (x49, (IntKind.i64.wrap (s28.2 + (1 : Int))))))) else some (.next (s28.1, (IntKind.i64.wrap (s28.2 + (1 : Int)))))))) else some (.done s28.1))) (([] : List ByteArray), (0 : Int))) fun y27 => (bif a0.gNull then ((r07_Clean (⟨a1.gNull, y27⟩ : TApiSet)).bind fun x52 => some x52) else ((r07_Clean (⟨false, y27⟩ : TApiSet)).bind fun x55 => some x55)))
set_option maxRecDepth 100000 in
set_option maxHeartbeats 2000000 in
theorem r07_Meet_ok (a0 : TApiSet) (a1 : TApiSet) (r : TApiSet) (h0 : r07_Meet a0 a1 = some r) : CallsD Try.prog 18 [eTApiSet a0, eTApiSet a1] [] [] (fun d h k => ∃ y0, d = .agg [.v (.bool r.gNull), .lst 1 (r.gNames.map eStr) (.cur y0)] ∧ h = [] ∧ k = [(1, y0)]) := by
  have hm := yes_of h0
  unfold r07_Meet at hm
  clear h0
  refine enterX htab Try.func18 rfl rfl rfl rfl rfl (fun C => ?_)
  refine wpD_seq ?_
  refine wpD_region ?_
  refine p_box rfl rfl rfl rfl rfl rfl rfl (fun b1 => ?_)
  refine p_box rfl rfl rfl rfl rfl rfl rfl (fun b2 => ?_)
  refine p_alloc htab rfl rfl rfl rfl rfl rfl rfl (fun b3 => ?_)
  refine ops_nil ?_
  refine then_normal ?_
  refine wpD_seq ?_
  refine wpD_region ?_
  refine p_pure htab rfl rfl rfl rfl ?_
  refine ops_nil ?_
  refine then_normal ?_
  refine wpD_seq ?_
  refine wpD_seq ?_
  refine wpD_region ?_
  refine p_pure htab rfl rfl rfl rfl ?_
  refine ops_nil ?_
  refine then_normal ?_
  obtain ⟨y27, q27, ho27⟩ := yes_bind hm
  refine wpD_mid (Y := Value) (fun z27 => (⟨[(2, .ptr b1 0), (3, .ptr b2 0), (4, .ptr b3 0), (5, .lst 1 (y27.map eStr) (.cur z27))], [(b1, Blk.cells [.v (.bool a0.gNull), .lst 1 (a0.gNames.map eStr) .no] 25), (b2, Blk.cells [.v (.bool a1.gNull), .lst 1 (a1.gNames.map eStr) .no] 25), (b3, Blk.cells [.v (.bool false), .lst 1 [] .full] 25)], [(1, z27)]⟩ : S)) ?_ ?_
  · clear hm; have hm := yes_of q27
    refine wpD_block ?_
    obtain ⟨u28, hl28, hq28⟩ := yes_m hm
    refine loop_M (Y := Value) hl28 (fun s28 z28 => (⟨[(2, .ptr b1 0), (3, .ptr b2 0), (4, .ptr b3 0), (5, .lst 1 (s28.1.map eStr) (.cur z28)), (6, .v (.int .i64 s28.2))], [(b1, Blk.cells [.v (.bool a0.gNull), .lst 1 (a0.gNames.map eStr) .no] 25), (b2, Blk.cells [.v (.bool a1.gNull), .lst 1 (a1.gNames.map eStr) .no] 25), (b3, Blk.cells [.v (.bool false), .lst 1 [] .full] 25)], [(1, z28)]⟩ : S)) ?_ ?_
    · skip
      refine WkX.tokN (i := 5) 1 rfl (fun w43 => ?_)
      exact WkX.of w43 (WkS.perm (WkS.cons rfl (Wk.refl _) (WkS.cons rfl (Wk.refl _) (WkS.cons rfl (Wk.refl _) (WkS.cons rfl (Wk.refl _) (WkS.cons rfl (Wk.refl _) (WkS.nil)))))) (List.Perm.refl _) (List.Perm.refl _))
    · intro G28 s28 z28 hm
      refine wpD_seq ?_
      refine wpD_seq ?_
      refine wpD_region ?_
      refine p_pure htab rfl rfl rfl rfl ?_
      refine p_pure htab rfl rfl rfl rfl ?_
      refine p_load 0 htab rfl rfl rfl rfl rfl rfl rfl rfl ?_
      refine p_lenL htab rfl rfl rfl rfl rfl rfl rfl (by first | exact map_len | rfl) ?_
      refine p_pure htab rfl rfl rfl rfl ?_
      refine ops_nil ?_
      refine then_normal ?_
      refine wpD_cond rfl (fun hc44 => ?_) (fun hc44 => ?_)
      · replace hm := yes_t hc44 hm
        refine wpD_skip ?_
        refine then_normal ?_
        refine wpD_seq ?_
        refine wpD_block ?_
        refine wpD_seq ?_
        obtain ⟨x45, q45, hm⟩ := yes_bind hm
        refine wpD_draws 7 [] [[],[0],[],[2],[],[2,3],[2,3,5]] [0,1,2,3,5] [[],[0],[],[2],[],[2,3,4],[2,3,4,5],[0,1,2,3,4,5,6]] (by kernel_rfl) (by kernel_rfl) (by kernel_rfl) (by rfl) (by rfl) (by kernel_rfl) ?_
        apply Exists.intro
        apply Exists.intro
        apply Exists.intro
        apply Exists.intro
        apply Exists.intro
        intro bs
        refine z_e rfl rfl (ex_pure htab rfl) rfl rfl rfl rfl rfl rfl ?_
        refine z_eM rfl rfl (xm_load 1 htab rfl rfl rfl rfl rfl) rfl rfl rfl rfl rfl rfl ?_
        refine z_e rfl rfl (ex_pure htab rfl) rfl rfl rfl rfl rfl rfl ?_
        refine z_eM rfl rfl (xm_load 0 htab rfl rfl rfl rfl rfl) rfl rfl rfl rfl rfl rfl ?_
        refine z_q rfl rfl (ex_pure htab rfl) rfl rfl rfl rfl rfl rfl ?_
        refine z_e rfl rfl (x_elem htab rfl rfl rfl rfl rfl rfl rfl (idx_nonneg q45) (idx_map q45)) rfl rfl rfl rfl rfl rfl ?_
        refine z_qM rfl rfl (xm_loadEl htab rfl rfl rfl rfl rfl) rfl rfl rfl rfl rfl rfl ?_
        refine z_nil rfl rfl (fun e he => by simp [isAl] at he) ?_
        obtain ⟨x46, q46, hm⟩ := yes_bind hm
        refine p_call0 (r07_In_ok a1.gNames x45 x46 q46) rfl rfl rfl rfl rfl (WkL.refl _) ?_
        rintro _ rfl
        refine ops_nil ?_
        refine then_normal ?_
        refine wpD_cond rfl (fun hc47 => ?_) (fun hc47 => ?_)
        · replace hm := yes_t hc47 hm
          refine wpD_region ?_
          refine p_pure htab rfl rfl rfl rfl ?_
          refine p_pure htab rfl rfl rfl rfl ?_
          refine p_load 0 htab rfl rfl rfl rfl rfl rfl rfl rfl ?_
          refine p_pure htab rfl rfl rfl rfl ?_
          obtain ⟨x48, q48, hm⟩ := yes_bind hm
          refine p_elem htab rfl rfl rfl rfl rfl rfl rfl rfl rfl rfl (idx_nonneg q48) (idx_map q48) ?_
          refine p_loadEl htab rfl rfl rfl rfl rfl rfl rfl rfl ?_
          refine p_lit htab rfl rfl rfl rfl rfl rfl rfl rfl rfl rfl rfl rfl rfl rfl ?_
          refine p_eq (i := 28) (d' := .lst 1 (([x48] : List ByteArray).map eStr) .full) rfl (Wk.lst0 (.cons (WkC.refl _) (.nil))) ?_
          obtain ⟨x49, q49, hm⟩ := yes_bind hm
          refine p_appC 0 htab rfl rfl rfl rfl rfl rfl rfl rfl rfl rfl rfl rfl rfl rfl rfl rfl rfl (app_bound q49) (fun v49 => ?_)
          refine p_mapD (i := 29) q49 rfl ?_
          refine p_pure htab rfl rfl rfl rfl ?_
          refine ops_nil ?_
          refine block_normal ?_
          refine then_normal ?_
          refine wpD_region ?_
          refine p_pure htab rfl rfl rfl rfl ?_
          refine p_pure htab rfl rfl rfl rfl ?_
          refine p_pure htab rfl rfl rfl rfl ?_
          refine ops_nil ?_
          refine then_normal ⟨_, lp_next hm, ?_⟩
          exact WkX.of v49 (WkS.perm (WkS.cons rfl (Wk.refl _) (WkS.cons rfl (Wk.refl _) (WkS.cons rfl (Wk.refl _) (WkS.cons rfl (Wk.refl _) (WkS.cons rfl (Wk.refl _) (WkS.nil)))))) (List.Perm.refl _) (List.Perm.refl _))
        · replace hm := yes_f hc47 hm
          refine wpD_skip ?_
          refine block_normal ?_
          refine then_normal ?_
          refine wpD_region ?_
          refine p_pure htab rfl rfl rfl rfl ?_
          refine p_pure htab rfl rfl rfl rfl ?_
          refine p_pure htab rfl rfl rfl rfl ?_
          refine ops_nil ?_
          refine then_normal ⟨_, lp_next hm, ?_⟩
          exact WkX.of z28 (WkS.perm (WkS.cons rfl (Wk.refl _) (WkS.cons rfl (Wk.refl _) (WkS.cons rfl (Wk.refl _) (WkS.cons rfl (Wk.refl _) (WkS.cons rfl (Wk.refl _) (WkS.nil)))))) (List.Perm.refl _) (List.Perm.refl _))
      · replace hm := yes_f hc44 hm
        refine wpD_exit ?_
        refine then_exit ?_
        have e28 := lp_done hm; subst e28; clear hm; have hm := hq28
        refine then_exit ?_
        refine block_hit ?_
        have e27 := yes_eq hm; subst e27
        refine ⟨rfl, ?_⟩
        exact WkX.of z28 (WkS.perm (WkS.cons rfl (Wk.refl _) (WkS.cons rfl (Wk.refl _) (WkS.cons rfl (Wk.refl _) (WkS.cons rfl (Wk.refl _) (WkS.nil))))) (List.Perm.refl _) (List.Perm.refl _))
  · intro s27 hw27; clear hm; have hm := ho27; clear q27 ho27
    refine then_normal ?_
    refine wpD_wkX hw27 (fun z27 => ?_)
    refine wpD_seq ?_
    refine wpD_region ?_
    refine p_pure htab rfl rfl rfl rfl ?_
    refine p_load 0 htab rfl rfl rfl rfl rfl rfl rfl rfl ?_
    refine p_pure htab rfl rfl rfl rfl ?_
    refine p_split (i := 32) rfl (fun hg50 => ?_) (fun hg50 => ?_)
    · replace hm := yes_t hg50 hm
      refine p_pure htab rfl rfl rfl rfl ?_
      refine p_load 1 htab rfl rfl rfl rfl rfl rfl rfl rfl ?_
      refine p_pickT rfl rfl rfl rfl rfl rfl ?_
      refine p_pure htab rfl rfl rfl rfl ?_
      refine p_build (r := [.v (.bool a1.gNull), .lst 1 (y27.map eStr) (.cur z27)]) htab rfl rfl rfl rfl rfl rfl rfl rfl rfl ?_
      obtain ⟨x52, q52, hm⟩ := yes_bind hm
      refine p_callG (r07_Clean_ok (⟨a1.gNull, y27⟩ : TApiSet) x52 q52) rfl rfl rfl rfl rfl (WkL.cons (Wk.agg (WkR.cons (WkC.refl _) rfl (WkR.cons (WkC.no) rfl (WkR.nil)))) (WkL.refl _)) (List.Perm.refl _) (List.Perm.refl _) ?_
      rintro _ _ _ ⟨w51, rfl, rfl, rfl⟩
      refine p_store (ds' := [.v (.bool x52.gNull), .lst 1 (x52.gNames.map eStr) (.cur w51)]) (h' := [(b1, Blk.cells [.v (.bool a0.gNull), .lst 1 (a0.gNames.map eStr) .no] 25), (b2, Blk.cells [.v (.bool a1.gNull), .lst 1 (a1.gNames.map eStr) .no] 25), (b3, Blk.cells [.v (.bool x52.gNull), .lst 1 (x52.gNames.map eStr) (.cur w51)] 25)]) 2 htab rfl rfl rfl rfl rfl rfl rfl rfl rfl rfl rfl rfl ?_
      refine ops_nil ?_
      refine then_normal ?_
      refine wpD_ret ?_
      have er53 := yes_eq hm; subst er53
      refine retX.of (s' := ⟨[(4, .ptr b3 0)], [(b3, Blk.cells [.v (.bool x52.gNull), .lst 1 (x52.gNames.map eStr) (.cur w51)] 25)], [(1, w51)]⟩) (WkS.perm (WkS.cons rfl (Wk.refl _) (WkS.nil)) ((perm_at (j := 2) rfl).trans (List.Perm.cons _ (List.Perm.refl _))) (List.Perm.refl _)) (retD_mk (hh := []) (.inl rfl) (resL_cons (resOne_cell 0 rfl rfl rfl rfl) (resL_nil)) (List.nil_sublist _) (List.Sublist.refl _) ?_)
      exact ⟨w51, rfl, rfl, rfl⟩
    · replace hm := yes_f hg50 hm
      refine p_skip rfl rfl rfl ?_
      refine p_skip rfl rfl rfl ?_
      refine p_pickF rfl rfl rfl rfl rfl rfl ?_
      refine p_pure htab rfl rfl rfl rfl ?_
      refine p_build (r := [.v (.bool false), .lst 1 (y27.map eStr) (.cur z27)]) htab rfl rfl rfl rfl rfl rfl rfl rfl rfl ?_
      obtain ⟨x55, q55, hm⟩ := yes_bind hm
      refine p_callG (r07_Clean_ok (⟨false, y27⟩ : TApiSet) x55 q55) rfl rfl rfl rfl rfl (WkL.cons (Wk.agg (WkR.cons (WkC.refl _) rfl (WkR.cons (WkC.no) rfl (WkR.nil)))) (WkL.refl _)) (List.Perm.refl _) (List.Perm.refl _) ?_
      rintro _ _ _ ⟨w54, rfl, rfl, rfl⟩
      refine p_store (ds' := [.v (.bool x55.gNull), .lst 1 (x55.gNames.map eStr) (.cur w54)]) (h' := [(b1, Blk.cells [.v (.bool a0.gNull), .lst 1 (a0.gNames.map eStr) .no] 25), (b2, Blk.cells [.v (.bool a1.gNull), .lst 1 (a1.gNames.map eStr) .no] 25), (b3, Blk.cells [.v (.bool x55.gNull), .lst 1 (x55.gNames.map eStr) (.cur w54)] 25)]) 2 htab rfl rfl rfl rfl rfl rfl rfl rfl rfl rfl rfl rfl ?_
      refine ops_nil ?_
      refine then_normal ?_
      refine wpD_ret ?_
      have er56 := yes_eq hm; subst er56
      refine retX.of (s' := ⟨[(4, .ptr b3 0)], [(b3, Blk.cells [.v (.bool x55.gNull), .lst 1 (x55.gNames.map eStr) (.cur w54)] 25)], [(1, w54)]⟩) (WkS.perm (WkS.cons rfl (Wk.refl _) (WkS.nil)) ((perm_at (j := 2) rfl).trans (List.Perm.cons _ (List.Perm.refl _))) (List.Perm.refl _)) (retD_mk (hh := []) (.inl rfl) (resL_cons (resOne_cell 0 rfl rfl rfl rfl) (resL_nil)) (List.nil_sublist _) (List.Sublist.refl _) ?_)
      exact ⟨w54, rfl, rfl, rfl⟩
theorem r07_Meet_ok0 (a0 : TApiSet) (a1 : TApiSet) (r : TApiSet) (h0 : r07_Meet a0 a1 = some r) : CallsD Try.prog 18 [eTApiSet a0, eTApiSet a1] [] [] (fun d h k => d = eTApiSet r ∧ h = [] ∧ k = []) :=
  (r07_Meet_ok a0 a1 r h0).drop fun d h k ⟨y0, e, _, _⟩ => by subst e; exact Wk.agg (WkR.cons (WkC.refl _) rfl (WkR.cons (WkC.no) rfl (WkR.nil)))
noncomputable def names_Leq (a0 : TApiSet) (a1 : TApiSet) : Option (Bool) :=
  (Option.bind (α := Bool) (bif a0.gNull then some (!a1.gNull) else some false) fun y4 => (bif y4 then some false else (Option.bind (α := (Unit) ⊕ (Bool)) (loopM (fun (s26 : Int) => (bif (decide (s26 < (a0.gNames.length : Int))) then ((idx a0.gNames s26).bind fun x38 => ((slices_Contains_string_string a1.gNames x38).bind fun x39 => (bif (!x39) then some (.done (.inr false)) else some (.next (IntKind.i64.wrap (s26 + (1 : Int))))))) else some (.done (.inl ())))) (0 : Int)) (Sum.elim (fun y25 => some true) (fun r => some r)))))
set_option maxRecDepth 100000 in
set_option maxHeartbeats 2000000 in
theorem names_Leq_ok (a0 : TApiSet) (a1 : TApiSet) (r : Bool) (h0 : names_Leq a0 a1 = some r) : CallsD Try.prog 13 [eTApiSet a0, eTApiSet a1] [] [] (fun d h k => d = .v (.bool r) ∧ h = [] ∧ k = []) := by
  have hm := yes_of h0
  unfold names_Leq at hm
  clear h0
  refine enterX htab Try.func13 rfl rfl rfl rfl rfl (fun C => ?_)
  refine wpD_seq ?_
  refine wpD_region ?_
  refine p_box rfl rfl rfl rfl rfl rfl rfl (fun b1 => ?_)
  refine p_box rfl rfl rfl rfl rfl rfl rfl (fun b2 => ?_)
  refine p_pure htab rfl rfl rfl rfl ?_
  refine ops_nil ?_
  refine then_normal ?_
  refine wpD_seq ?_
  refine wpD_seq ?_
  obtain ⟨y4, q4, ho4⟩ := yes_bind hm
  refine wpD_mid (Y := Unit) (fun z4 => (⟨[(2, .ptr b1 0), (3, .ptr b2 0), (13, .v (.bool y4))], [(b1, Blk.cells [.v (.bool a0.gNull), .lst 1 (a0.gNames.map eStr) .no] 25), (b2, Blk.cells [.v (.bool a1.gNull), .lst 1 (a1.gNames.map eStr) .no] 25)], []⟩ : S)) ?_ ?_
  · clear hm; have hm := yes_of q4
    refine wpD_region ?_
    refine p_pure htab rfl rfl rfl rfl ?_
    refine p_load 0 htab rfl rfl rfl rfl rfl rfl rfl rfl ?_
    refine p_pure htab rfl rfl rfl rfl ?_
    refine p_split (i := 9) rfl (fun hg5 => ?_) (fun hg5 => ?_)
    · replace hm := yes_t hg5 hm
      refine p_pure htab rfl rfl rfl rfl ?_
      refine p_load 1 htab rfl rfl rfl rfl rfl rfl rfl rfl ?_
      refine p_pure htab rfl rfl rfl rfl ?_
      refine p_pickT rfl rfl rfl rfl rfl rfl ?_
      refine ops_nil ?_
      have e4 := yes_eq hm; subst e4
      refine ⟨rfl, ?_⟩
      exact WkX.of () (WkS.perm (WkS.cons rfl (Wk.refl _) (WkS.cons rfl (Wk.refl _) (WkS.cons rfl (Wk.refl _) (WkS.nil)))) (List.Perm.refl _) (List.Perm.refl _))
    · replace hm := yes_f hg5 hm
      refine p_skip rfl rfl rfl ?_
      refine p_skip rfl rfl rfl ?_
      refine p_skip rfl rfl rfl ?_
      refine p_pickF rfl rfl rfl rfl rfl rfl ?_
      refine ops_nil ?_
      have e4 := yes_eq hm; subst e4
      refine ⟨rfl, ?_⟩
      exact WkX.of () (WkS.perm (WkS.cons rfl (Wk.refl _) (WkS.cons rfl (Wk.refl _) (WkS.cons rfl (Wk.refl _) (WkS.nil)))) (List.Perm.refl _) (List.Perm.refl _))
  · intro s4 hw4; clear hm; have hm := ho4; clear q4 ho4
    refine then_normal ?_
    refine wpD_wkX hw4 (fun z4 => ?_)
    refine wpD_cond rfl (fun hc7 => ?_) (fun hc7 => ?_)
    · replace hm := yes_t hc7 hm
      refine wpD_seq ?_
      refine wpD_region ?_
      refine p_pure htab rfl rfl rfl rfl ?_
      refine ops_nil ?_
      refine then_normal ?_
      refine wpD_ret ?_
      refine then_ret ?_
      have er8 := yes_eq hm; subst er8
      refine retX.of (s' := ⟨[(4, .v (.bool false))], [], []⟩) (WkS.perm (WkS.cons rfl (Wk.refl _) (WkS.nil)) (List.Perm.refl _) (List.Perm.refl _)) (retD_mk (hh := []) (.inl rfl) (resL_cons (resOne_tmp rfl) (resL_nil)) (List.nil_sublist _) (List.Sublist.refl _) ?_)
      exact ⟨rfl, rfl, rfl⟩
    · replace hm := yes_f hc7 hm
      refine wpD_skip ?_
      refine then_normal ?_
      refine wpD_seq ?_
      refine wpD_seq ?_
      refine wpD_region ?_
      refine p_pure htab rfl rfl rfl rfl ?_
      refine p_load 0 htab rfl rfl rfl rfl rfl rfl rfl rfl ?_
      refine p_lenL htab rfl rfl rfl rfl rfl rfl rfl (by first | exact map_len | rfl) ?_
      refine p_pure htab rfl rfl rfl rfl ?_
      refine ops_nil ?_
      refine then_normal ?_
      obtain ⟨x25, q25, ho25⟩ := yes_bind hm
      refine wpD_midX (τ := Unit) (Y := Unit) (fun y25 z25 => (⟨[], [(b1, Blk.cells [.v (.bool a0.gNull), .lst 1 (a0.gNames.map eStr) .no] 25), (b2, Blk.cells [.v (.bool a1.gNull), .lst 1 (a1.gNames.map eStr) .no] 25)], []⟩ : S)) x25 ?_ ?_
      · clear hm; have hm := yes_of q25
        refine wpD_block ?_
        obtain ⟨u26, hl26, hq26⟩ := yes_m hm
        refine loop_M (Y := Unit) hl26 (fun s26 z26 => (⟨[(3, .ptr b2 0), (15, .lst 1 (a0.gNames.map eStr) .no), (16, .v (.int .i64 (a0.gNames.length : Int))), (17, .v (.int .i64 s26))], [(b1, Blk.cells [.v (.bool a0.gNull), .lst 1 (a0.gNames.map eStr) .no] 25), (b2, Blk.cells [.v (.bool a1.gNull), .lst 1 (a1.gNames.map eStr) .no] 25)], []⟩ : S)) ?_ ?_
        · skip
          exact WkX.of () (WkS.perm (WkS.cons rfl (Wk.refl _) (WkS.cons rfl (Wk.refl _) (WkS.cons rfl (Wk.refl _) (WkS.cons rfl (Wk.refl _) (WkS.nil))))) (List.Perm.refl _) (List.Perm.refl _))
        · intro G26 s26 z26 hm
          refine wpD_seq ?_
          refine wpD_region ?_
          refine p_pure htab rfl rfl rfl rfl ?_
          refine ops_nil ?_
          refine then_normal ?_
          refine wpD_seq ?_
          refine wpD_cond rfl (fun hc37 => ?_) (fun hc37 => ?_)
          · replace hm := yes_t hc37 hm
            refine wpD_skip ?_
            refine then_normal ?_
            refine wpD_seq ?_
            refine wpD_block ?_
            refine wpD_seq ?_
            refine wpD_region ?_
            obtain ⟨x38, q38, hm⟩ := yes_bind hm
            refine p_elem htab rfl rfl rfl rfl rfl rfl rfl rfl rfl rfl (idx_nonneg q38) (idx_map q38) ?_
            refine p_loadEl htab rfl rfl rfl rfl rfl rfl rfl rfl ?_
            refine p_pure htab rfl rfl rfl rfl ?_
            refine ops_nil ?_
            refine then_normal ?_
            refine wpD_seq ?_
            refine wpD_region ?_
            refine p_pure htab rfl rfl rfl rfl ?_
            refine p_load 1 htab rfl rfl rfl rfl rfl rfl rfl rfl ?_
            refine p_pure htab rfl rfl rfl rfl ?_
            obtain ⟨x39, q39, hm⟩ := yes_bind hm
            refine p_call0 (slices_Contains_string_string_ok a1.gNames x38 x39 q39) rfl rfl rfl rfl rfl (WkL.refl _) ?_
            rintro _ rfl
            refine p_pure htab rfl rfl rfl rfl ?_
            refine ops_nil ?_
            refine then_normal ?_
            refine wpD_cond rfl (fun hc40 => ?_) (fun hc40 => ?_)
            · replace hm := yes_t hc40 hm
              refine wpD_seq ?_
              refine wpD_region ?_
              refine p_pure htab rfl rfl rfl rfl ?_
              refine ops_nil ?_
              refine then_normal ?_
              refine wpD_ret ?_
              refine block_ret ?_
              refine then_ret ?_
              have e26 := lp_done hm; subst e26; clear hm; have hm := hq26
              refine then_ret ?_
              refine block_ret ?_
              have e25 := yes_eq hm; subst e25; refine midX_inr ?_; clear hm; have hm := ho25; simp only [Sum.elim_inr] at hm
              refine then_ret ?_
              have er41 := yes_eq hm; subst er41
              refine retX.of (s' := ⟨[(4, .v (.bool false))], [], []⟩) (WkS.perm (WkS.cons rfl (Wk.refl _) (WkS.nil)) (List.Perm.refl _) (List.Perm.refl _)) (retD_mk (hh := []) (.inl rfl) (resL_cons (resOne_tmp rfl) (resL_nil)) (List.nil_sublist _) (List.Sublist.refl _) ?_)
              exact ⟨rfl, rfl, rfl⟩
            · replace hm := yes_f hc40 hm
              refine wpD_skip ?_
              refine block_normal ?_
              refine then_normal ?_
              refine wpD_region ?_
              refine p_pure htab rfl rfl rfl rfl ?_
              refine p_pure htab rfl rfl rfl rfl ?_
              refine ops_nil ?_
              refine then_normal ⟨_, lp_next hm, ?_⟩
              exact WkX.of () (WkS.perm (WkS.cons rfl (Wk.refl _) (WkS.cons rfl (Wk.refl _) (WkS.cons rfl (Wk.refl _) (WkS.cons rfl (Wk.refl _) (WkS.nil))))) (List.Perm.refl _) (List.Perm.refl _))
          · replace hm := yes_f hc37 hm
            refine wpD_exit ?_
            refine then_exit ?_
            have e26 := lp_done hm; subst e26; clear hm; have hm := hq26
            refine then_exit ?_
            refine block_hit ?_
            have e25 := yes_eq hm; subst e25
            refine midX_inl ?_
            exact WkX.of () (WkS.perm (WkS.nil) (List.Perm.refl _) (List.Perm.refl _))
      · intro y25 s25 hx25 hw25; subst hx25; clear hm; have hm := ho25; simp only [Sum.elim_inl] at hm; clear q25 ho25
        refine then_normal ?_
        refine wpD_wkX hw25 (fun z25 => ?_)
        refine wpD_seq ?_
        refine wpD_region ?_
        refine p_pure htab rfl rfl rfl rfl ?_
        refine ops_nil ?_
        refine then_normal ?_
        refine wpD_ret ?_
        have er42 := yes_eq hm; subst er42
        refine retX.of (s' := ⟨[(4, .v (.bool true))], [], []⟩) (WkS.perm (WkS.cons rfl (Wk.refl _) (WkS.nil)) (List.Perm.refl _) (List.Perm.refl _)) (retD_mk (hh := []) (.inl rfl) (resL_cons (resOne_tmp rfl) (resL_nil)) (List.nil_sublist _) (List.Sublist.refl _) ?_)
        exact ⟨rfl, rfl, rfl⟩
noncomputable def r07_Leq (a0 : TApiSet) (a1 : TApiSet) : Option (Bool) :=
  (Option.bind (α := (Unit) ⊕ (Bool)) (loopM (fun (s20 : Int) => (bif (decide (s20 < (a0.gNames.length : Int))) then ((idx a0.gNames s20).bind fun x32 => ((r07_In a1.gNames x32).bind fun x33 => (bif (!x33) then some (.done (.inr false)) else some (.next (IntKind.i64.wrap (s20 + (1 : Int))))))) else some (.done (.inl ())))) (0 : Int)) (Sum.elim (fun y19 => (bif (!a0.gNull) then some true else some a1.gNull)) (fun r => some r)))
set_option maxRecDepth 100000 in
set_option maxHeartbeats 2000000 in
theorem r07_Leq_ok (a0 : TApiSet) (a1 : TApiSet) (r : Bool) (h0 : r07_Leq a0 a1 = some r) : CallsD Try.prog 24 [eTApiSet a0, eTApiSet a1] [] [] (fun d h k => d = .v (.bool r) ∧ h = [] ∧ k = []) := by
  have hm := yes_of h0
  unfold r07_Leq at hm
  clear h0
  refine enterX htab Try.func24 rfl rfl rfl rfl rfl (fun C => ?_)
  refine wpD_seq ?_
  refine wpD_region ?_
  refine p_box rfl rfl rfl rfl rfl rfl rfl (fun b1 => ?_)
  refine p_box rfl rfl rfl rfl rfl rfl rfl (fun b2 => ?_)
  refine p_pure htab rfl rfl rfl rfl ?_
  refine ops_nil ?_
  refine then_normal ?_
  refine wpD_seq ?_
  refine wpD_seq ?_
  refine wpD_region ?_
  refine p_pure htab rfl rfl rfl rfl ?_
  refine ops_nil ?_
  refine then_normal ?_
  obtain ⟨x19, q19, ho19⟩ := yes_bind hm
  refine wpD_midX (τ := Unit) (Y := Unit) (fun y19 z19 => (⟨[(2, .ptr b1 0), (3, .ptr b2 0)], [(b1, Blk.cells [.v (.bool a0.gNull), .lst 1 (a0.gNames.map eStr) .no] 25), (b2, Blk.cells [.v (.bool a1.gNull), .lst 1 (a1.gNames.map eStr) .no] 25)], []⟩ : S)) x19 ?_ ?_
  · clear hm; have hm := yes_of q19
    refine wpD_block ?_
    obtain ⟨u20, hl20, hq20⟩ := yes_m hm
    refine loop_M (Y := Unit) hl20 (fun s20 z20 => (⟨[(2, .ptr b1 0), (3, .ptr b2 0), (5, .v (.int .i64 s20))], [(b1, Blk.cells [.v (.bool a0.gNull), .lst 1 (a0.gNames.map eStr) .no] 25), (b2, Blk.cells [.v (.bool a1.gNull), .lst 1 (a1.gNames.map eStr) .no] 25)], []⟩ : S)) ?_ ?_
    · skip
      exact WkX.of () (WkS.perm (WkS.cons rfl (Wk.refl _) (WkS.cons rfl (Wk.refl _) (WkS.cons rfl (Wk.refl _) (WkS.nil)))) (List.Perm.refl _) (List.Perm.refl _))
    · intro G20 s20 z20 hm
      refine wpD_seq ?_
      refine wpD_seq ?_
      refine wpD_region ?_
      refine p_pure htab rfl rfl rfl rfl ?_
      refine p_pure htab rfl rfl rfl rfl ?_
      refine p_load 0 htab rfl rfl rfl rfl rfl rfl rfl rfl ?_
      refine p_lenL htab rfl rfl rfl rfl rfl rfl rfl (by first | exact map_len | rfl) ?_
      refine p_pure htab rfl rfl rfl rfl ?_
      refine ops_nil ?_
      refine then_normal ?_
      refine wpD_cond rfl (fun hc31 => ?_) (fun hc31 => ?_)
      · replace hm := yes_t hc31 hm
        refine wpD_skip ?_
        refine then_normal ?_
        refine wpD_seq ?_
        refine wpD_block ?_
        refine wpD_seq ?_
        obtain ⟨x32, q32, hm⟩ := yes_bind hm
        refine wpD_draws 7 [] [[],[0],[],[2],[],[2,3],[2,3,5]] [0,1,2,3,5] [[],[0],[],[2],[],[2,3,4],[2,3,4,5],[0,1,2,3,4,5,6],[0,1,2,3,4,5,6,7]] (by kernel_rfl) (by kernel_rfl) (by kernel_rfl) (by rfl) (by rfl) (by kernel_rfl) ?_
        apply Exists.intro
        apply Exists.intro
        apply Exists.intro
        apply Exists.intro
        apply Exists.intro
        intro bs
        refine z_e rfl rfl (ex_pure htab rfl) rfl rfl rfl rfl rfl rfl ?_
        refine z_eM rfl rfl (xm_load 1 htab rfl rfl rfl rfl rfl) rfl rfl rfl rfl rfl rfl ?_
        refine z_e rfl rfl (ex_pure htab rfl) rfl rfl rfl rfl rfl rfl ?_
        refine z_eM rfl rfl (xm_load 0 htab rfl rfl rfl rfl rfl) rfl rfl rfl rfl rfl rfl ?_
        refine z_q rfl rfl (ex_pure htab rfl) rfl rfl rfl rfl rfl rfl ?_
        refine z_e rfl rfl (x_elem htab rfl rfl rfl rfl rfl rfl rfl (idx_nonneg q32) (idx_map q32)) rfl rfl rfl rfl rfl rfl ?_
        refine z_qM rfl rfl (xm_loadEl htab rfl rfl rfl rfl rfl) rfl rfl rfl rfl rfl rfl ?_
        refine z_nil rfl rfl (fun e he => by simp [isAl] at he) ?_
        obtain ⟨x33, q33, hm⟩ := yes_bind hm
        refine p_call0 (r07_In_ok a1.gNames x32 x33 q33) rfl rfl rfl rfl rfl (WkL.refl _) ?_
        rintro _ rfl
        refine p_pure htab rfl rfl rfl rfl ?_
        refine ops_nil ?_
        refine then_normal ?_
        refine wpD_cond rfl (fun hc34 => ?_) (fun hc34 => ?_)
        · replace hm := yes_t hc34 hm
          refine wpD_seq ?_
          refine wpD_region ?_
          refine p_pure htab rfl rfl rfl rfl ?_
          refine ops_nil ?_
          refine then_normal ?_
          refine wpD_ret ?_
          refine block_ret ?_
          refine then_ret ?_
          have e20 := lp_done hm; subst e20; clear hm; have hm := hq20
          refine then_ret ?_
          refine block_ret ?_
          have e19 := yes_eq hm; subst e19; refine midX_inr ?_; clear hm; have hm := ho19; simp only [Sum.elim_inr] at hm
          refine then_ret ?_
          have er35 := yes_eq hm; subst er35
          refine retX.of (s' := ⟨[(4, .v (.bool false))], [], []⟩) (WkS.perm (WkS.cons rfl (Wk.refl _) (WkS.nil)) (List.Perm.refl _) (List.Perm.refl _)) (retD_mk (hh := []) (.inl rfl) (resL_cons (resOne_tmp rfl) (resL_nil)) (List.nil_sublist _) (List.Sublist.refl _) ?_)
          exact ⟨rfl, rfl, rfl⟩
        · replace hm := yes_f hc34 hm
          refine wpD_skip ?_
          refine block_normal ?_
          refine then_normal ?_
          refine wpD_region ?_
          refine p_pure htab rfl rfl rfl rfl ?_
          refine p_pure htab rfl rfl rfl rfl ?_
          refine p_pure htab rfl rfl rfl rfl ?_
          refine ops_nil ?_
          refine then_normal ⟨_, lp_next hm, ?_⟩
          exact WkX.of () (WkS.perm (WkS.cons rfl (Wk.refl _) (WkS.cons rfl (Wk.refl _) (WkS.cons rfl (Wk.refl _) (WkS.nil)))) (List.Perm.refl _) (List.Perm.refl _))
      · replace hm := yes_f hc31 hm
        refine wpD_exit ?_
        refine then_exit ?_
        have e20 := lp_done hm; subst e20; clear hm; have hm := hq20
        refine then_exit ?_
        refine block_hit ?_
        have e19 := yes_eq hm; subst e19
        refine midX_inl ?_
        exact WkX.of () (WkS.perm (WkS.cons rfl (Wk.refl _) (WkS.cons rfl (Wk.refl _) (WkS.nil))) (List.Perm.refl _) (List.Perm.refl _))
  · intro y19 s19 hx19 hw19; subst hx19; clear hm; have hm := ho19; simp only [Sum.elim_inl] at hm; clear q19 ho19
    refine then_normal ?_
    refine wpD_wkX hw19 (fun z19 => ?_)
    refine wpD_seq ?_
    refine wpD_region ?_
    refine p_pure htab rfl rfl rfl rfl ?_
    refine p_load 0 htab rfl rfl rfl rfl rfl rfl rfl rfl ?_
    refine p_pure htab rfl rfl rfl rfl ?_
    refine p_pure htab rfl rfl rfl rfl ?_
    refine p_split (i := 25) rfl (fun hg36 => ?_) (fun hg36 => ?_)
    · replace hm := yes_t hg36 hm
      refine p_skip rfl rfl rfl ?_
      refine p_skip rfl rfl rfl ?_
      refine p_pickT rfl rfl rfl rfl rfl rfl ?_
      refine p_pure htab rfl rfl rfl rfl ?_
      refine ops_nil ?_
      refine then_normal ?_
      refine wpD_ret ?_
      have er37 := yes_eq hm; subst er37
      refine retX.of (s' := ⟨[(4, .v (.bool true))], [], []⟩) (WkS.perm (WkS.cons rfl (Wk.refl _) (WkS.nil)) (List.Perm.refl _) (List.Perm.refl _)) (retD_mk (hh := []) (.inl rfl) (resL_cons (resOne_tmp rfl) (resL_nil)) (List.nil_sublist _) (List.Sublist.refl _) ?_)
      exact ⟨rfl, rfl, rfl⟩
    · replace hm := yes_f hg36 hm
      refine p_pure htab rfl rfl rfl rfl ?_
      refine p_load 1 htab rfl rfl rfl rfl rfl rfl rfl rfl ?_
      refine p_pickF rfl rfl rfl rfl rfl rfl ?_
      refine p_pure htab rfl rfl rfl rfl ?_
      refine ops_nil ?_
      refine then_normal ?_
      refine wpD_ret ?_
      have er38 := yes_eq hm; subst er38
      refine retX.of (s' := ⟨[(4, .v (.bool a1.gNull))], [], []⟩) (WkS.perm (WkS.cons rfl (Wk.refl _) (WkS.nil)) (List.Perm.refl _) (List.Perm.refl _)) (retD_mk (hh := []) (.inl rfl) (resL_cons (resOne_tmp rfl) (resL_nil)) (List.nil_sublist _) (List.Sublist.refl _) ?_)
      exact ⟨rfl, rfl, rfl⟩
noncomputable def names_Same (a0 : TApiSet) (a1 : TApiSet) : Option (Bool) :=
  ((names_Leq a0 a1).bind fun x3 => (bif x3 then ((names_Leq a1 a0).bind fun x5 => some x5) else some false))
set_option maxRecDepth 100000 in
set_option maxHeartbeats 2000000 in
theorem names_Same_ok (a0 : TApiSet) (a1 : TApiSet) (r : Bool) (h0 : names_Same a0 a1 = some r) : CallsD Try.prog 8 [eTApiSet a0, eTApiSet a1] [] [] (fun d h k => d = .v (.bool r) ∧ h = [] ∧ k = []) := by
  have hm := yes_of h0
  unfold names_Same at hm
  clear h0
  refine enterX htab Try.func8 rfl rfl rfl rfl rfl (fun C => ?_)
  refine wpD_seq ?_
  refine wpD_region ?_
  refine p_box rfl rfl rfl rfl rfl rfl rfl (fun b1 => ?_)
  refine p_box rfl rfl rfl rfl rfl rfl rfl (fun b2 => ?_)
  refine p_pure htab rfl rfl rfl rfl ?_
  refine ops_nil ?_
  refine then_normal ?_
  refine wpD_seq ?_
  refine wpD_region ?_
  refine p_load (d := eTApiSet a0) 0 htab rfl rfl rfl rfl rfl rfl rfl rfl ?_
  refine p_load (d := eTApiSet a1) 1 htab rfl rfl rfl rfl rfl rfl rfl rfl ?_
  obtain ⟨x3, q3, hm⟩ := yes_bind hm
  refine p_call0 (names_Leq_ok a0 a1 x3 q3) rfl rfl rfl rfl rfl (WkL.refl _) ?_
  rintro _ rfl
  refine p_pure htab rfl rfl rfl rfl ?_
  refine p_split (i := 8) rfl (fun hg4 => ?_) (fun hg4 => ?_)
  · replace hm := yes_t hg4 hm
    refine p_load (d := eTApiSet a1) 1 htab rfl rfl rfl rfl rfl rfl rfl rfl ?_
    refine p_load (d := eTApiSet a0) 0 htab rfl rfl rfl rfl rfl rfl rfl rfl ?_
    obtain ⟨x5, q5, hm⟩ := yes_bind hm
    refine p_call0 (names_Leq_ok a1 a0 x5 q5) rfl rfl rfl rfl rfl (WkL.refl _) ?_
    rintro _ rfl
    refine p_pickT rfl rfl rfl rfl rfl rfl ?_
    refine p_pure htab rfl rfl rfl rfl ?_
    refine ops_nil ?_
    refine then_normal ?_
    refine wpD_ret ?_
    have er6 := yes_eq hm; subst er6
    refine retX.of (s' := ⟨[(4, .v (.bool x5))], [], []⟩) (WkS.perm (WkS.cons rfl (Wk.refl _) (WkS.nil)) (List.Perm.refl _) (List.Perm.refl _)) (retD_mk (hh := []) (.inl rfl) (resL_cons (resOne_tmp rfl) (resL_nil)) (List.nil_sublist _) (List.Sublist.refl _) ?_)
    exact ⟨rfl, rfl, rfl⟩
  · replace hm := yes_f hg4 hm
    refine p_skip rfl rfl rfl ?_
    refine p_skip rfl rfl rfl ?_
    refine p_skip rfl rfl rfl ?_
    refine p_pickF rfl rfl rfl rfl rfl rfl ?_
    refine p_pure htab rfl rfl rfl rfl ?_
    refine ops_nil ?_
    refine then_normal ?_
    refine wpD_ret ?_
    have er7 := yes_eq hm; subst er7
    refine retX.of (s' := ⟨[(4, .v (.bool false))], [], []⟩) (WkS.perm (WkS.cons rfl (Wk.refl _) (WkS.nil)) (List.Perm.refl _) (List.Perm.refl _)) (retD_mk (hh := []) (.inl rfl) (resL_cons (resOne_tmp rfl) (resL_nil)) (List.nil_sublist _) (List.Sublist.refl _) ?_)
    exact ⟨rfl, rfl, rfl⟩
noncomputable def l07_lives : Option (Bool) :=
  ((names_Of false ([(ByteArray.mk #[98])] : List ByteArray)).bind fun x1 => ((names_Join (⟨true, ([(ByteArray.mk #[97])] : List ByteArray)⟩ : TApiSet) x1).bind fun x2 => ((names_Len x2).bind fun x3 => some (x3 == (3 : Int)))))
set_option maxRecDepth 100000 in
set_option maxHeartbeats 2000000 in
theorem l07_lives_ok  (r : Bool) (h0 : l07_lives = some r) : CallsD Try.prog 11 [] [] [] (fun d h k => d = .v (.bool r) ∧ h = [] ∧ k = []) := by
  have hm := yes_of h0
  unfold l07_lives at hm
  clear h0
  refine enterX htab Try.func11 rfl rfl rfl rfl rfl (fun C => ?_)
  refine wpD_seq ?_
  refine wpD_region ?_
  refine p_pure htab rfl rfl rfl rfl ?_
  refine ops_nil ?_
  refine then_normal ?_
  refine wpD_seq ?_
  refine wpD_region ?_
  refine p_lit htab rfl rfl rfl rfl rfl rfl rfl rfl rfl rfl rfl rfl rfl rfl ?_
  refine p_eq (i := 1) (d' := .lst 1 (([(ByteArray.mk #[97])] : List ByteArray).map eStr) .full) rfl (Wk.lst0 (.cons (WkC.refl _) (.nil))) ?_
  refine p_build (r := [.v (.bool true), .lst 1 (([(ByteArray.mk #[97])] : List ByteArray).map eStr) .full]) htab rfl rfl rfl rfl rfl rfl rfl rfl rfl ?_
  refine p_lit htab rfl rfl rfl rfl rfl rfl rfl rfl rfl rfl rfl rfl rfl rfl ?_
  refine p_eq (i := 3) (d' := .lst 1 (([(ByteArray.mk #[98])] : List ByteArray).map eStr) .full) rfl (Wk.lst0 (.cons (WkC.refl _) (.nil))) ?_
  obtain ⟨x1, q1, hm⟩ := yes_bind hm
  refine p_call0 (names_Of_ok false ([(ByteArray.mk #[98])] : List ByteArray) x1 q1) rfl rfl rfl rfl rfl (WkL.cons (Wk.refl _) (WkL.cons (Wk.no) (WkL.refl _))) ?_
  rintro _ rfl
  obtain ⟨x2, q2, hm⟩ := yes_bind hm
  refine p_call0 (names_Join_ok (⟨true, ([(ByteArray.mk #[97])] : List ByteArray)⟩ : TApiSet) x1 x2 q2) rfl rfl rfl rfl rfl (WkL.cons (Wk.agg (WkR.cons (WkC.refl _) rfl (WkR.cons (WkC.no) rfl (WkR.nil)))) (WkL.cons (Wk.refl _) (WkL.refl _))) ?_
  rintro _ rfl
  obtain ⟨x3, q3, hm⟩ := yes_bind hm
  refine p_call0 (names_Len_ok x2 x3 q3) rfl rfl rfl rfl rfl (WkL.refl _) ?_
  rintro _ rfl
  refine p_pure htab rfl rfl rfl rfl ?_
  refine p_pure htab rfl rfl rfl rfl ?_
  refine ops_nil ?_
  refine then_normal ?_
  refine wpD_ret ?_
  have er4 := yes_eq hm; subst er4
  refine retX.of (s' := ⟨[(0, .v (.bool (x3 == (3 : Int))))], [], []⟩) (WkS.perm (WkS.cons rfl (Wk.refl _) (WkS.nil)) (List.Perm.refl _) (List.Perm.refl _)) (retD_mk (hh := []) (.inl rfl) (resL_cons (resOne_tmp rfl) (resL_nil)) (List.nil_sublist _) (List.Sublist.refl _) ?_)
  exact ⟨rfl, rfl, rfl⟩
end Go.Proofs.Ytaofljigbobdpaa.Ab
