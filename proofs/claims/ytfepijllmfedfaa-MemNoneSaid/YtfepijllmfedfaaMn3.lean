/- The texts that memNone_holds leans on, part 3. -/
import Derived.Test.YtfepijllmfedfaaMn2
namespace Go.Proofs.Ytfepijllmfedfaa.Ab
open Go
set_option linter.all false
noncomputable def mem_Mem_Place2 (a1 : ByteArray) (a2 : Int) : Option (TApiCell × Int) :=
  some ((⟨ByteArray.empty, (0 : Int)⟩ : TApiCell), (1 : Int))
set_option maxRecDepth 100000 in
set_option maxHeartbeats 2000000 in
theorem mem_Mem_Place2_ok (a1 : ByteArray) (a2 : Int) (r : TApiCell × Int) (h0 : mem_Mem_Place2 a1 a2 = some r) : CallsD Try.prog 12 [.v (.pointer none), .v (.string a1), .v (.int .i64 a2)] [] [] (fun d h k => d = .tup [eTApiCell r.1, .v (.int .i64 r.2)] ∧ h = [] ∧ k = []) := by
  have hm := yes_of h0
  unfold mem_Mem_Place2 at hm
  clear h0
  refine enterX htab Try.func12 rfl rfl rfl rfl rfl (fun C => ?_)
  refine wpD_sr ?_
  refine p_alloc htab rfl rfl rfl rfl rfl rfl rfl (fun b1 => ?_)
  refine pu ?_
  refine ops_nt ?_
  refine wpD_seq ?_
  refine wpD_sr ?_
  refine pu ?_
  refine p_eqP htab rfl rfl rfl rfl rfl rfl rfl rfl rfl rfl ?_
  refine ops_nt ?_
  refine wpD_true rfl ?_
  refine wpD_sr ?_
  refine p_build (r := [.v (.string ByteArray.empty), .v (.int .i64 (0 : Int))]) htab rfl rfl rfl rfl rfl rfl rfl rfl rfl ?_
  refine pS0 (ds' := [.v (.string ByteArray.empty), .v (.int .i64 (0 : Int))]) ?_
  refine pu ?_
  refine ops_nt ?_
  refine wpD_ret ?_
  refine then_ret ?_
  have er2 := yes_eq hm; subst er2
  refine rP (t' := [(6, .ptr b1 0), (7, .v (.int .i64 (1 : Int)))]) [0] [] 0 (wC (wC wN)) (lC 0 (lT lN)) ?_
  exact ⟨rfl, rfl, rfl⟩
noncomputable def mem_Mem_known2 (a1 : TApiCell) : Option (Int) :=
  ((mem_Mem_Place2 a1.gName a1.gAt).bind fun x2 => some x2.2)
set_option maxRecDepth 100000 in
set_option maxHeartbeats 2000000 in
theorem mem_Mem_known2_ok (a1 : TApiCell) (r : Int) (h0 : mem_Mem_known2 a1 = some r) : CallsD Try.prog 18 [.v (.pointer none), eTApiCell a1] [] [] (fun d h k => d = .v (.int .i64 r) ∧ h = [] ∧ k = []) := by
  have hm := yes_of h0
  unfold mem_Mem_known2 at hm
  clear h0
  refine enterX htab Try.func18 rfl rfl rfl rfl rfl (fun C => ?_)
  refine wpD_sr ?_
  refine p_box rfl rfl rfl rfl rfl rfl rfl (fun b1 => ?_)
  refine pu ?_
  refine ops_nt ?_
  refine wpD_seq ?_
  refine wpD_sr ?_
  refine pu ?_
  refine p_eqP htab rfl rfl rfl rfl rfl rfl rfl rfl rfl rfl ?_
  refine pu ?_
  iterate 3 refine pK ?_
  refine p_pickF rfl rfl rfl rfl rfl rfl ?_
  refine ops_nt ?_
  refine wpD_false rfl ?_
  refine wpD_skip ?_
  refine then_normal ?_
  refine wpD_sr ?_
  refine pu ?_
  refine pu ?_
  refine pL 0 ?_
  refine pu ?_
  refine pL 0 ?_
  obtain ⟨x2, q2, hm⟩ := yes_bind hm
  refine p_call0 (mem_Mem_Place2_ok a1.gName a1.gAt x2 q2) rfl rfl rfl rfl rfl Wl ?_
  rintro _ rfl
  iterate 3 refine pu ?_
  refine p_alloc htab rfl rfl rfl rfl rfl rfl rfl (fun b3 => ?_)
  refine pS1 (ds' := [.v (.string x2.1.gName), .v (.int .i64 x2.1.gAt)]) ?_
  refine pu ?_
  refine ops_n2 ?_
  refine pu ?_
  refine pu ?_
  refine ops_nt ?_
  refine wpD_ret ?_
  have er4 := yes_eq hm; subst er4
  refine rP (t' := [(4, .v (.int .i64 x2.2))]) [] [] 0 (wC wN) (lT lN) ?_
  exact ⟨rfl, rfl, rfl⟩
noncomputable def mem_Mem_Get2 (a1 : TApiCell) : Option (TApiWord × Int) :=
  ((mem_Mem_known2 a1).bind fun x3 => (bif (x3 != (0 : Int)) then some ((⟨false, (0 : Int), (⟨ByteArray.empty, (0 : Int)⟩ : TApiCell)⟩ : TApiWord), x3) else none))
set_option maxRecDepth 100000 in
set_option maxHeartbeats 2000000 in
theorem mem_Mem_Get2_ok (a1 : TApiCell) (r : TApiWord × Int) (h0 : mem_Mem_Get2 a1 = some r) : CallsD Try.prog 8 [.v (.pointer none), eTApiCell a1] [] [] (fun d h k => d = .tup [eTApiWord r.1, .v (.int .i64 r.2)] ∧ h = [] ∧ k = []) := by
  have hm := yes_of h0
  unfold mem_Mem_Get2 at hm
  clear h0
  refine enterX htab Try.func8 rfl rfl rfl rfl rfl (fun C => ?_)
  refine wpD_sr ?_
  refine p_box rfl rfl rfl rfl rfl rfl rfl (fun b1 => ?_)
  refine p_alloc htab rfl rfl rfl rfl rfl rfl rfl (fun b2 => ?_)
  refine pu ?_
  refine ops_nt ?_
  refine wpD_seq ?_
  refine wpD_sr ?_
  refine pu ?_
  refine p_load (d := eTApiCell a1) 0 htab rfl rfl rfl rfl rfl rfl rfl rfl ?_
  obtain ⟨x3, q3, hm⟩ := yes_bind hm
  refine p_call0 (mem_Mem_known2_ok a1 x3 q3) rfl rfl rfl rfl rfl Wl ?_
  rintro _ rfl
  refine pu ?_
  refine ops_n2 ?_
  refine pu ?_
  refine pu ?_
  refine ops_nt ?_
  refine wpD_cond rfl (fun hc5 => ?_) (fun hc5 => ?_)
  ·replace hm := yes_t hc5 hm
   refine wpD_sr ?_
   refine p_build (r := [.v (.bool false), .v (.int .i64 (0 : Int)), .v (.string ByteArray.empty), .v (.int .i64 (0 : Int))]) htab rfl rfl rfl rfl rfl rfl rfl rfl rfl ?_
   refine pu ?_
   refine pS1 (ds' := [.v (.bool false), .v (.int .i64 (0 : Int)), .v (.string ByteArray.empty), .v (.int .i64 (0 : Int))]) ?_
   refine pu ?_
   refine ops_nt ?_
   refine wpD_ret ?_
   refine then_ret ?_
   have er6 := yes_eq hm; subst er6
   refine rP (t' := [(4, .ptr b2 0), (5, .v (.int .i64 x3))]) [1] [] 0 (wC (wC wN)) (lC 0 (lT lN)) ?_
   exact ⟨rfl, rfl, rfl⟩
  ·replace hm := yes_f hc5 hm
   refine wpD_skip ?_
   refine then_normal ?_
   refine wpD_seq ?_
   exact (yes_none hm).elim
noncomputable def mem_Mem_Set2 (a1 : TApiCell) (a2 : TApiWord) : Option (Int) :=
  ((mem_Mem_known2 a1).bind fun x3 => (bif (x3 != (0 : Int)) then some x3 else none))
set_option maxRecDepth 100000 in
set_option maxHeartbeats 2000000 in
theorem mem_Mem_Set2_ok (a1 : TApiCell) (a2 : TApiWord) (r : Int) (h0 : mem_Mem_Set2 a1 a2 = some r) : CallsD Try.prog 10 [.v (.pointer none), eTApiCell a1, eTApiWord a2] [] [] (fun d h k => d = .v (.int .i64 r) ∧ h = [] ∧ k = []) := by
  have hm := yes_of h0
  unfold mem_Mem_Set2 at hm
  clear h0
  refine enterX htab Try.func10 rfl rfl rfl rfl rfl (fun C => ?_)
  refine wpD_sr ?_
  refine p_box rfl rfl rfl rfl rfl rfl rfl (fun b1 => ?_)
  refine p_box rfl rfl rfl rfl rfl rfl rfl (fun b2 => ?_)
  refine pu ?_
  refine ops_nt ?_
  refine wpD_seq ?_
  refine wpD_sr ?_
  refine pu ?_
  refine p_load (d := eTApiCell a1) 0 htab rfl rfl rfl rfl rfl rfl rfl rfl ?_
  obtain ⟨x3, q3, hm⟩ := yes_bind hm
  refine p_call0 (mem_Mem_known2_ok a1 x3 q3) rfl rfl rfl rfl rfl Wl ?_
  rintro _ rfl
  refine pu ?_
  refine ops_n2 ?_
  refine pu ?_
  refine pu ?_
  refine ops_nt ?_
  refine wpD_cond rfl (fun hc5 => ?_) (fun hc5 => ?_)
  ·replace hm := yes_t hc5 hm
   refine wpD_sr ?_
   refine pu ?_
   refine pu ?_
   refine ops_nt ?_
   refine wpD_ret ?_
   refine then_ret ?_
   have er6 := yes_eq hm; subst er6
   refine rP (t' := [(6, .v (.int .i64 x3))]) [] [] 0 (wC wN) (lT lN) ?_
   exact ⟨rfl, rfl, rfl⟩
  ·replace hm := yes_f hc5 hm
   refine wpD_skip ?_
   refine then_normal ?_
   refine wpD_seq ?_
   refine wpD_seq ?_
   exact (yes_none hm).elim
noncomputable def mem_Mem_All2 : Option (List TMemHeld) :=
  some ([] : List TMemHeld)
set_option maxRecDepth 100000 in
set_option maxHeartbeats 2000000 in
theorem mem_Mem_All2_ok  (r : List TMemHeld) (h0 : mem_Mem_All2 = some r) : CallsD Try.prog 14 [.v (.pointer none)] [] [] (fun d h k => ∃ y0, d = .lst 6 (r.map eTMemHeld) (.cur y0) ∧ h = [] ∧ k = [(6, y0)]) := by
  have hm := yes_of h0
  unfold mem_Mem_All2 at hm
  clear h0
  refine enterX htab Try.func14 rfl rfl rfl rfl rfl (fun C => ?_)
  refine wpD_sr ?_
  refine pu ?_
  refine ops_n2 ?_
  refine pu ?_
  refine ops_nt ?_
  refine wpD_seq ?_
  refine wpD_sr ?_
  refine pu ?_
  refine p_eqP htab rfl rfl rfl rfl rfl rfl rfl rfl rfl rfl ?_
  refine ops_nt ?_
  refine wpD_true rfl ?_
  refine wpD_sr ?_
  refine pu ?_
  refine pu ?_
  refine ops_nt ?_
  refine wpD_ret ?_
  refine then_ret ?_
  have er1 := yes_eq hm; subst er1
  refine retX.tokN (i := 2) 6 rfl (fun w2 => ?_)
  refine rP (t' := [(2, .lst 6 (([] : List TMemHeld).map eTMemHeld) (.cur w2))]) [] [0] 0 (wC wN) (lT lN) ?_
  exact ⟨w2, rfl, rfl, rfl⟩
noncomputable def l19_MemNone (a0 : TApiCell) (a1 : TApiWord) : Option (Bool) :=
  ((mem_Mem_Get2 a0).bind fun x3 => ((mem_Mem_Place2 a0.gName a0.gAt).bind fun x5 => (bif (x3.2 == (1 : Int)) then (bif (x3.1.gPtr == false && (x3.1.gN == (0 : Int) && ((decide (x3.1.gTo.gName = ByteArray.empty) && (x3.1.gTo.gAt == (0 : Int) && true)) && true))) then (bif (x5.2 == (1 : Int)) then (bif (decide (x5.1.gName = ByteArray.empty) && (x5.1.gAt == (0 : Int) && true)) then ((mem_Mem_Set2 a0 a1).bind fun x11 => (bif (x11 == (1 : Int)) then (mem_Mem_All2.bind fun x14 => (bif ((x14.length : Int) == (0 : Int)) then (l19_lives.bind fun x16 => some x16) else some false)) else some false)) else some false) else some false) else some false) else some false)))
set_option maxRecDepth 100000 in
set_option maxHeartbeats 2000000 in
theorem l19_MemNone_ok (a0 : TApiCell) (a1 : TApiWord) (r : Bool) (h0 : l19_MemNone a0 a1 = some r) : CallsD Try.prog 4 [eTApiCell a0, eTApiWord a1] [] [] (fun d h k => d = .v (.bool r) ∧ h = [] ∧ k = []) := by
  have hm := yes_of h0
  unfold l19_MemNone at hm
  clear h0
  refine enterX htab Try.func4 rfl rfl rfl rfl rfl (fun C => ?_)
  refine wpD_sr ?_
  refine p_box rfl rfl rfl rfl rfl rfl rfl (fun b1 => ?_)
  refine p_box rfl rfl rfl rfl rfl rfl rfl (fun b2 => ?_)
  refine pu ?_
  refine ops_n2 ?_
  refine pu ?_
  refine ops_n2 ?_
  refine pu ?_
  refine p_load (d := eTApiCell a0) 0 htab rfl rfl rfl rfl rfl rfl rfl rfl ?_
  obtain ⟨x3, q3, hm⟩ := yes_bind hm
  refine p_call0 (mem_Mem_Get2_ok a0 x3 q3) rfl rfl rfl rfl rfl Wl ?_
  rintro _ rfl
  iterate 3 refine pu ?_
  refine p_alloc htab rfl rfl rfl rfl rfl rfl rfl (fun b4 => ?_)
  refine pS2 (ds' := [.v (.bool x3.1.gPtr), .v (.int .i64 x3.1.gN), .v (.string x3.1.gTo.gName), .v (.int .i64 x3.1.gTo.gAt)]) ?_
  refine pu ?_
  refine ops_n2 ?_
  refine pu ?_
  refine pu ?_
  refine pL 0 ?_
  refine pu ?_
  refine pL 0 ?_
  obtain ⟨x5, q5, hm⟩ := yes_bind hm
  refine p_call0 (mem_Mem_Place2_ok a0.gName a0.gAt x5 q5) rfl rfl rfl rfl rfl Wl ?_
  rintro _ rfl
  iterate 3 refine pu ?_
  refine p_alloc htab rfl rfl rfl rfl rfl rfl rfl (fun b6 => ?_)
  refine pS3 (ds' := [.v (.string x5.1.gName), .v (.int .i64 x5.1.gAt)]) ?_
  refine pu ?_
  refine ops_n2 ?_
  iterate 3 refine pu ?_
  refine p_split (i := 27) rfl (fun hg7 => ?_) (fun hg7 => ?_)
  ·replace hm := yes_t hg7 hm
   refine p_load (d := eTApiWord x3.1) 2 htab rfl rfl rfl rfl rfl rfl rfl rfl ?_
   refine p_build (r := [.v (.bool false), .v (.int .i64 (0 : Int)), .v (.string ByteArray.empty), .v (.int .i64 (0 : Int))]) htab rfl rfl rfl rfl rfl rfl rfl rfl rfl ?_
   refine p_eqC eqn37 htab rfl rfl rfl rfl rfl eqs37 eqg37 rfl rfl rfl rfl ?_
   refine p_pickT rfl rfl rfl rfl rfl rfl ?_
   refine pu ?_
   refine p_split (i := 32) rfl (fun hg8 => ?_) (fun hg8 => ?_)
   ·replace hm := yes_t hg8 hm
    refine pu ?_
    refine pu ?_
    refine p_pickT rfl rfl rfl rfl rfl rfl ?_
    refine pu ?_
    refine p_split (i := 36) rfl (fun hg9 => ?_) (fun hg9 => ?_)
    ·replace hm := yes_t hg9 hm
     refine p_load (d := eTApiCell x5.1) 3 htab rfl rfl rfl rfl rfl rfl rfl rfl ?_
     refine p_build (r := [.v (.string ByteArray.empty), .v (.int .i64 (0 : Int))]) htab rfl rfl rfl rfl rfl rfl rfl rfl rfl ?_
     refine p_eqS htab rfl rfl rfl rfl rfl eqt35 rfl rfl rfl rfl rfl ?_
     refine p_pickT rfl rfl rfl rfl rfl rfl ?_
     refine pu ?_
     refine p_split (i := 41) rfl (fun hg10 => ?_) (fun hg10 => ?_)
     ·replace hm := yes_t hg10 hm
      refine pu ?_
      refine p_load (d := eTApiCell a0) 0 htab rfl rfl rfl rfl rfl rfl rfl rfl ?_
      refine p_load (d := eTApiWord a1) 1 htab rfl rfl rfl rfl rfl rfl rfl rfl ?_
      obtain ⟨x11, q11, hm⟩ := yes_bind hm
      refine p_call0 (mem_Mem_Set2_ok a0 a1 x11 q11) rfl rfl rfl rfl rfl Wl ?_
      rintro _ rfl
      refine pu ?_
      refine p_pickT rfl rfl rfl rfl rfl rfl ?_
      refine pu ?_
      refine p_split (i := 48) rfl (fun hg12 => ?_) (fun hg12 => ?_)
      ·replace hm := yes_t hg12 hm
       refine pu ?_
       obtain ⟨x14, q14, hm⟩ := yes_bind hm
       refine pG (mem_Mem_All2_ok x14 q14) Wl Pf Pf ?_
       rintro _ _ _ ⟨w13, rfl, rfl, rfl⟩
       refine p_lenL htab rfl rfl rfl rfl rfl rfl rfl (by first | exact map_len | rfl) ?_
       refine pu ?_
       refine p_pickT rfl rfl rfl rfl rfl rfl ?_
       refine pu ?_
       refine p_split (i := 54) rfl (fun hg15 => ?_) (fun hg15 => ?_)
       ·replace hm := yes_t hg15 hm
        obtain ⟨x16, q16, hm⟩ := yes_bind hm
        refine p_call0 (l19_lives_ok x16 q16) rfl rfl rfl rfl rfl Wl ?_
        rintro _ rfl
        refine p_pickT rfl rfl rfl rfl rfl rfl ?_
        refine pu ?_
        refine ops_nt ?_
        refine wpD_ret ?_
        have er17 := yes_eq hm; subst er17
        refine rP (t' := [(4, .v (.bool x16))]) [] [] 0 (wC wN) (lT lN) ?_
        exact ⟨rfl, rfl, rfl⟩
       ·replace hm := yes_f hg15 hm
        refine pK ?_
        refine p_pickF rfl rfl rfl rfl rfl rfl ?_
        refine pu ?_
        refine ops_nt ?_
        refine wpD_ret ?_
        have er18 := yes_eq hm; subst er18
        refine rP (t' := [(4, .v (.bool false))]) [] [] 0 (wC wN) (lT lN) ?_
        exact ⟨rfl, rfl, rfl⟩
      ·replace hm := yes_f hg12 hm
       iterate 4 refine pK ?_
       refine p_pickF rfl rfl rfl rfl rfl rfl ?_
       refine pu ?_
       refine pK ?_
       refine p_pickF rfl rfl rfl rfl rfl rfl ?_
       refine pu ?_
       refine ops_nt ?_
       refine wpD_ret ?_
       have er19 := yes_eq hm; subst er19
       refine rP (t' := [(4, .v (.bool false))]) [] [] 0 (wC wN) (lT lN) ?_
       exact ⟨rfl, rfl, rfl⟩
     ·replace hm := yes_f hg10 hm
      iterate 5 refine pK ?_
      refine p_pickF rfl rfl rfl rfl rfl rfl ?_
      refine pu ?_
      iterate 4 refine pK ?_
      refine p_pickF rfl rfl rfl rfl rfl rfl ?_
      refine pu ?_
      refine pK ?_
      refine p_pickF rfl rfl rfl rfl rfl rfl ?_
      refine pu ?_
      refine ops_nt ?_
      refine wpD_ret ?_
      have er20 := yes_eq hm; subst er20
      refine rP (t' := [(4, .v (.bool false))]) [] [] 0 (wC wN) (lT lN) ?_
      exact ⟨rfl, rfl, rfl⟩
    ·replace hm := yes_f hg9 hm
     iterate 3 refine pK ?_
     refine p_pickF rfl rfl rfl rfl rfl rfl ?_
     refine pu ?_
     iterate 5 refine pK ?_
     refine p_pickF rfl rfl rfl rfl rfl rfl ?_
     refine pu ?_
     iterate 4 refine pK ?_
     refine p_pickF rfl rfl rfl rfl rfl rfl ?_
     refine pu ?_
     refine pK ?_
     refine p_pickF rfl rfl rfl rfl rfl rfl ?_
     refine pu ?_
     refine ops_nt ?_
     refine wpD_ret ?_
     have er21 := yes_eq hm; subst er21
     refine rP (t' := [(4, .v (.bool false))]) [] [] 0 (wC wN) (lT lN) ?_
     exact ⟨rfl, rfl, rfl⟩
   ·replace hm := yes_f hg8 hm
    refine pK ?_
    refine pK ?_
    refine p_pickF rfl rfl rfl rfl rfl rfl ?_
    refine pu ?_
    iterate 3 refine pK ?_
    refine p_pickF rfl rfl rfl rfl rfl rfl ?_
    refine pu ?_
    iterate 5 refine pK ?_
    refine p_pickF rfl rfl rfl rfl rfl rfl ?_
    refine pu ?_
    iterate 4 refine pK ?_
    refine p_pickF rfl rfl rfl rfl rfl rfl ?_
    refine pu ?_
    refine pK ?_
    refine p_pickF rfl rfl rfl rfl rfl rfl ?_
    refine pu ?_
    refine ops_nt ?_
    refine wpD_ret ?_
    have er22 := yes_eq hm; subst er22
    refine rP (t' := [(4, .v (.bool false))]) [] [] 0 (wC wN) (lT lN) ?_
    exact ⟨rfl, rfl, rfl⟩
  ·replace hm := yes_f hg7 hm
   iterate 3 refine pK ?_
   refine p_pickF rfl rfl rfl rfl rfl rfl ?_
   refine pu ?_
   refine pK ?_
   refine pK ?_
   refine p_pickF rfl rfl rfl rfl rfl rfl ?_
   refine pu ?_
   iterate 3 refine pK ?_
   refine p_pickF rfl rfl rfl rfl rfl rfl ?_
   refine pu ?_
   iterate 5 refine pK ?_
   refine p_pickF rfl rfl rfl rfl rfl rfl ?_
   refine pu ?_
   iterate 4 refine pK ?_
   refine p_pickF rfl rfl rfl rfl rfl rfl ?_
   refine pu ?_
   refine pK ?_
   refine p_pickF rfl rfl rfl rfl rfl rfl ?_
   refine pu ?_
   refine ops_nt ?_
   refine wpD_ret ?_
   have er23 := yes_eq hm; subst er23
   refine rP (t' := [(4, .v (.bool false))]) [] [] 0 (wC wN) (lT lN) ?_
   exact ⟨rfl, rfl, rfl⟩
end Go.Proofs.Ytfepijllmfedfaa.Ab
namespace Go.Proofs.Ytfepijllmfedfaa.Ab.Pq
open Go
set_option linter.all false
theorem mget_put {α β : Type} [DecidableEq α] (k : α) (v : β) (k' : α) : ∀ l : List (α × β), mget (mput l k v) k' = if k = k' then some v else mget l k'
  | [] => by simp [mput, mget]
  | (a, b) :: l => by
    unfold mput
    by_cases h : a = k
    · subst h
      rw [if_pos rfl]
      by_cases h2 : a = k'
      · simp [mget, h2]
      · simp [mget, h2]
    · rw [if_neg h]
      simp only [mget]
      by_cases h2 : a = k'
      · subst h2
        rw [if_pos rfl, if_neg (fun e => h e.symm), if_pos rfl]
      · rw [if_neg h2, if_neg h2, mget_put k v k' l]
theorem mgetD_put {α β : Type} [DecidableEq α] (k : α) (v z : β) (k' : α) (l : List (α × β)) : mgetD (mput l k v) k' z = if k = k' then v else mgetD l k' z := by
  unfold mgetD
  rw [mget_put]
  by_cases h : k = k'
  · rw [if_pos h, if_pos h]; rfl
  · rw [if_neg h, if_neg h]
theorem pre_len {α : Type} {l p : List α} {x : α} {q : List α} (h : l = p ++ x :: q) : p.length < l.length := by subst h; simp
def zW (b : Bool) : TApiWord := ⟨b, 0, ⟨ByteArray.empty, 0⟩⟩
abbrev Gl := List TApiGlobal
def fnG (l : Gl) (s : ByteArray) : Option TApiGlobal := l.find? fun x => decide (x.gName = s)
def szg (g : TApiGlobal) : Nat := if g.gPtr = true ∨ g.gSize < 1 then 1 else g.gSize.toNat
def szG (l : Gl) (s : ByteArray) : Nat := match fnG l s with
  | some g => szg g
  | none => 0
theorem szg_pos (g : TApiGlobal) : 1 ≤ szg g := by
  unfold szg
  split
  · omega
  · rename_i h; omega
theorem fnG_snoc (pre : Gl) (x : TApiGlobal) (s : ByteArray) : fnG (pre ++ [x]) s = match fnG pre s with
    | some g => some g
    | none => if x.gName = s then some x else none := by
  unfold fnG
  rw [List.find?_append]
  cases h : pre.find? fun x => decide (x.gName = s) with
  | some g => rfl
  | none =>
    by_cases h2 : x.gName = s
    · simp [h2]
    · simp [h2]
theorem szG_zero {l : Gl} {s : ByteArray} : szG l s = 0 ↔ fnG l s = none := by
  unfold szG
  cases h : fnG l s with
  | none => simp
  | some g => have := szg_pos g; simp; omega
theorem szG_snoc (pre : Gl) (x : TApiGlobal) (s : ByteArray) : szG (pre ++ [x]) s = if szG pre s = 0 ∧ x.gName = s then szg x else szG pre s := by
  have h0 := @szG_zero pre s
  unfold szG at h0 ⊢
  rw [fnG_snoc]
  cases h : fnG pre s with
  | some g => rw [h] at h0; simp only at h0 ⊢; have := szg_pos g; rw [if_neg (by omega)]
  | none =>
    by_cases h2 : x.gName = s
    · simp [h2]
    · simp [h2]
def cellsOf (s : ByteArray) (n : Nat) : List TApiCell := (List.range n).map fun i : Nat => (⟨s, (i : Int)⟩ : TApiCell)
theorem cells_mem (s : ByteArray) (n : Nat) (c : TApiCell) : c ∈ cellsOf s n ↔ c.gName = s ∧ 0 ≤ c.gAt ∧ c.gAt < n := by
  obtain ⟨m, a⟩ := c
  unfold cellsOf
  simp only [List.mem_map, List.mem_range, TApiCell.mk.injEq]
  constructor
  · rintro ⟨i, hi, rfl, rfl⟩; exact ⟨rfl, by omega, by omega⟩
  · rintro ⟨rfl, h1, h2⟩; exact ⟨a.toNat, by omega, rfl, by omega⟩
theorem cells_snoc (s : ByteArray) (n : Nat) : cellsOf s (n + 1) = cellsOf s n ++ [⟨s, (n : Int)⟩] := by
  unfold cellsOf; rw [List.range_succ, List.map_append]; rfl
theorem cells_len (s : ByteArray) (n : Nat) : (cellsOf s n).length = n := by unfold cellsOf; simp
theorem cells_rise (s : ByteArray) : ∀ n, (cellsOf s n).Pairwise ltC
  | 0 => by simp [cellsOf]
  | n + 1 => by
    rw [cells_snoc, List.pairwise_append]
    refine ⟨cells_rise s n, by simp, fun c hc d hd => ?_⟩
    rw [List.mem_singleton] at hd; subst hd
    obtain ⟨h1, h2, h3⟩ := (cells_mem _ _ _).1 hc
    exact .inr ⟨h1, h3⟩
abbrev St3 := List TApiCell × List (ByteArray × Int) × List (TApiCell × TApiWord)
def putAll (w : List (TApiCell × TApiWord)) (cs : List TApiCell) (b : Bool) : List (TApiCell × TApiWord) := cs.foldl (fun w c => mput w c (zW b)) w
def nstep (a : St3) (x : TApiGlobal) : St3 := if (0 : Int) < mgetD a.2.1 x.gName 0 then a else (a.1 ++ cellsOf x.gName (szg x), mput a.2.1 x.gName (szg x : Int), putAll a.2.2 (cellsOf x.gName (szg x)) x.gPtr)
theorem putAll_get (b : Bool) (c : TApiCell) (z : TApiWord) : ∀ (cs : List TApiCell) (w : List (TApiCell × TApiWord)), mgetD (putAll w cs b) c z = if c ∈ cs then zW b else mgetD w c z
  | [], w => by simp [putAll]
  | d :: cs, w => by
    have := putAll_get b c z cs (mput w d (zW b))
    show mgetD (putAll (mput w d (zW b)) cs b) c z = _
    rw [this, mgetD_put]
    by_cases h : c ∈ cs
    · rw [if_pos h, if_pos (List.mem_cons_of_mem _ h)]
    · rw [if_neg h]
      by_cases h2 : d = c
      · rw [if_pos h2, if_pos (by subst h2; simp)]
      · rw [if_neg h2, if_neg (by rw [List.mem_cons, not_or]; exact ⟨fun e => h2 e.symm, h⟩)]
def InG (l : Gl) (c : TApiCell) : Prop := 0 ≤ c.gAt ∧ c.gAt < szG l c.gName
structure NI (pre : Gl) (a : St3) : Prop where
  sz : ∀ s, mgetD a.2.1 s 0 = (szG pre s : Int)
  mem : ∀ c, c ∈ a.1 ↔ InG pre c
  nd : a.1.Nodup
  wd : ∀ c, InG pre c → mgetD a.2.2 c (zW false) = zW ((fnG pre c.gName).map (·.gPtr) |>.getD false)
  len : (∀ g ∈ pre, szg g ≤ 2000) → a.1.length ≤ 2000 * pre.length
theorem ltC_nodup {l : List TApiCell} (h : l.Pairwise ltC) : l.Nodup := h.imp fun {a b} k e => by subst e; exact ltC_irr _ k
theorem nstep_NI {pre : Gl} {a : St3} (x : TApiGlobal) (h : NI pre a) : NI (pre ++ [x]) (nstep a x) := by
  unfold nstep
  rw [h.sz]
  by_cases h0 : szG pre x.gName = 0
  · rw [if_neg (by omega)]
    have hf := szG_zero.1 h0
    have hin : ∀ c, InG (pre ++ [x]) c ↔ (InG pre c ∨ c ∈ cellsOf x.gName (szg x)) := fun c => by
      unfold InG
      rw [szG_snoc, cells_mem]
      by_cases e : x.gName = c.gName
      · rw [← e, if_pos ⟨h0, rfl⟩, h0]
        constructor
        · rintro ⟨a, b⟩; exact .inr ⟨rfl, a, b⟩
        · rintro (⟨a, b⟩ | ⟨_, a, b⟩)
          · omega
          · exact ⟨a, b⟩
      · rw [if_neg (fun q => e q.2)]
        constructor
        · exact fun k => .inl k
        · rintro (k | ⟨k, _⟩)
          · exact k
          · exact absurd k.symm e
    have hdis : ∀ c ∈ a.1, c ∉ cellsOf x.gName (szg x) := fun c hc hc2 => by
      have h1 := (h.mem c).1 hc
      have h2 := (cells_mem _ _ _).1 hc2
      unfold InG at h1
      rw [h2.1, h0] at h1; omega
    refine ⟨fun s => ?_, fun c => ?_, ?_, fun c hc => ?_, fun hb => ?_⟩
    · show mgetD (mput a.2.1 x.gName (szg x : Int)) s 0 = _
      rw [mgetD_put, szG_snoc, h.sz]
      by_cases e : x.gName = s
      · rw [if_pos e, if_pos ⟨e ▸ h0, e⟩]
      · rw [if_neg e, if_neg (fun q => e q.2)]
    · show c ∈ a.1 ++ _ ↔ _
      rw [List.mem_append, h.mem, hin]
    · show (a.1 ++ _).Nodup
      rw [List.nodup_append]
      exact ⟨h.nd, ltC_nodup (cells_rise _ _), fun c hc d hd e => by subst e; exact hdis c hc hd⟩
    · show mgetD (putAll a.2.2 _ _) c _ = _
      rw [putAll_get, fnG_snoc]
      by_cases e : c ∈ cellsOf x.gName (szg x)
      · rw [if_pos e]
        have e1 := ((cells_mem _ _ _).1 e).1
        rw [e1, hf]; simp
      · rw [if_neg e]
        have hp : InG pre c := by
          rcases (hin c).1 hc with k | k
          · exact k
          · exact absurd k e
        rw [h.wd c hp]
        cases hq : fnG pre c.gName with
        | some g => rfl
        | none =>
          have := szG_zero.2 hq
          unfold InG at hp
          omega
    · show (a.1 ++ _).length ≤ _
      have h1 := h.len fun g hg => hb g (List.mem_append_left _ hg)
      have h2 := hb x (by simp)
      rw [List.length_append, cells_len, List.length_append]
      simp only [List.length_cons, List.length_nil]
      omega
  · rw [if_pos (by omega)]
    have hs : ∀ s, szG (pre ++ [x]) s = szG pre s := fun s => by
      rw [szG_snoc]
      by_cases e : szG pre s = 0 ∧ x.gName = s
      · rw [← e.2] at e; exact absurd e.1 h0
      · rw [if_neg e]
    refine ⟨fun s => by rw [hs]; exact h.sz s, fun c => by unfold InG; rw [hs]; exact h.mem c, h.nd, fun c hc => ?_, fun hb => ?_⟩
    · unfold InG at hc
      rw [hs] at hc
      rw [h.wd c hc, fnG_snoc]
      cases hq : fnG pre c.gName with
      | some g => rfl
      | none =>
        have := szG_zero.2 hq
        omega
    · have h1 := h.len fun g hg => hb g (List.mem_append_left _ hg)
      rw [List.length_append]
      simp only [List.length_cons, List.length_nil]
      omega
theorem newAll (l : Gl) : NI l (l.foldl nstep ([], [], [])) := by
  have key : ∀ (post pre : Gl) (a : St3), NI pre a → NI (pre ++ post) (post.foldl nstep a) := by
    intro post
    induction post with
    | nil => intro pre a h; simpa using h
    | cons x post ih =>
      intro pre a h
      have := ih (pre ++ [x]) _ (nstep_NI x h)
      simpa using this
  have := key l [] ([], [], []) ⟨fun s => by simp [mgetD, mget, szG, fnG], fun c => by simp [InG, szG, fnG] <;> omega, by simp, fun c h => by (simp [InG, szG, fnG] at h) <;> omega, fun _ => by simp⟩
  simpa using this
def memN (p : TApiProgram) : TMemMem := ⟨(p.gGlobals.foldl nstep ([], [], [])).2.1, (p.gGlobals.foldl nstep ([], [], [])).2.2, (p.gGlobals.foldl nstep ([], [], [])).1⟩
theorem new_eq {p : TApiProgram} (hn : p.gGlobals.length ≤ 30) (hs : ∀ g ∈ p.gGlobals, g.gSize ≤ 2000) : mem_New p = some (memN p) := by
  have hz : ∀ g ∈ p.gGlobals, szg g ≤ 2000 := fun g hg => by
    have := hs g hg
    unfold szg; split <;> omega
  unfold mem_New
  refine loop_list p.gGlobals (fun pre => pre.foldl nstep ([], [], [])) (fun a n => ((n : Int), a)) (fun a => a) (by simp) (fun pre x post hpp => ?_) ?_ ?_
  · have hl := pre_len hpp
    have hx := pre_mem hpp
    have hI := newAll pre
    have hlen := hI.len fun g hg => hz g (by rw [hpp]; exact List.mem_append_left _ hg)
    rw [List.foldl_append, List.foldl_cons, List.foldl_nil]
    generalize pre.foldl nstep ([], [], []) = a at hI hlen ⊢
    obtain ⟨c0, s0, w0⟩ := a
    simp only at hlen
    simp only [lt_pre hpp, cond_true]
    rw [idx_pre2 hpp rfl, Option.bind_some, inc_pre hpp (by omega)]
    unfold nstep
    by_cases h : (0 : Int) < mgetD s0 x.gName 0
    · rw [decide_eq_true h, cond_true, if_pos h]
    · rw [decide_eq_false h, cond_false, if_neg h]
      have hy : (bif (!x.gPtr) then some (decide ((0 : Int) < x.gSize)) else some false) = some (!x.gPtr && decide ((0 : Int) < x.gSize)) := by cases x.gPtr <;> rfl
      have hw : (bif (!x.gPtr && decide ((0 : Int) < x.gSize)) then some x.gSize else some (1 : Int)) = some (szg x : Int) := by
        unfold szg
        cases x.gPtr
        · by_cases q : 0 < x.gSize
          · simp only [Bool.not_false, Bool.true_and, decide_eq_true q, cond_true]
            rw [if_neg (by simp; omega)]
            congr 1; omega
          · simp only [Bool.not_false, Bool.true_and, decide_eq_false q, cond_false]
            rw [if_pos (by right; omega)] <;> rfl
        · rfl
      simp only []
      rw [hy, Option.bind_some, hw, Option.bind_some]
      have hzx := hz x hx
      refine loop_list (List.range (szg x)) (fun q => (c0 ++ cellsOf x.gName q.length, putAll w0 (cellsOf x.gName q.length) x.gPtr)) (fun a n => ((n : Int), a)) (fun a => a) (by simp [cellsOf, putAll]) (fun q y r hq => ?_) ?_ ?_
      · have hql := pre_len hq
        rw [List.length_range] at hql
        simp only
        rw [decide_eq_true (by omega), cond_true, app_len (by omega) (by simp [cells_len]; omega), Option.bind_some, wrap_id (by omega) (by omega)]
        simp only [List.length_append, List.length_cons, List.length_nil, Nat.zero_add]
        rw [cells_snoc]
        unfold putAll
        rw [List.foldl_append, List.append_assoc]
        rfl
      · simp only [List.length_range]
        rw [decide_eq_false (by omega), cond_false]
      · simp only [List.length_range]
  · simp only [lt_end, cond_false]
  · rfl
end Go.Proofs.Ytfepijllmfedfaa.Ab.Pq
namespace Go.Proofs.Ytfepijllmfedfaa.Ab.Pq
open Go
set_option linter.all false
def nmsG (l : Gl) : List ByteArray := insA ltB (l.map (·.gName))
def CC (p : TApiProgram) : List TApiCell := (nmsG p.gGlobals).flatMap fun s => cellsOf s (szG p.gGlobals s)
theorem fn_name {l : Gl} {s : ByteArray} {g : TApiGlobal} (h : fnG l s = some g) : g ∈ l ∧ g.gName = s := ⟨List.mem_of_find?_eq_some h, by have := List.find?_some h; simpa using this⟩
theorem nms_mem {l : Gl} {s : ByteArray} (h : szG l s ≠ 0) : s ∈ nmsG l := by
  rw [nmsG, (insB_all _).2.1]
  cases e : fnG l s with
  | none => exact absurd (szG_zero.2 e) h
  | some g => obtain ⟨h1, h2⟩ := fn_name e; exact List.mem_map.2 ⟨g, h1, h2⟩
theorem CC_mem (p : TApiProgram) (c : TApiCell) : c ∈ CC p ↔ InG p.gGlobals c := by
  unfold CC InG
  rw [List.mem_flatMap]
  constructor
  · rintro ⟨s, _, h⟩
    obtain ⟨rfl, h1, h2⟩ := (cells_mem _ _ _).1 h
    exact ⟨h1, h2⟩
  · rintro ⟨h1, h2⟩
    exact ⟨c.gName, nms_mem (by omega), (cells_mem _ _ _).2 ⟨rfl, h1, h2⟩⟩
theorem CC_rise (p : TApiProgram) : (CC p).Pairwise ltC := by
  unfold CC
  rw [List.pairwise_flatMap]
  refine ⟨fun s _ => cells_rise _ _, ?_⟩
  have := (insB_all (p.gGlobals.map (·.gName))).1
  refine List.Pairwise.imp ?_ this
  intro a b h c hc d hd
  have e1 := ((cells_mem _ _ _).1 hc).1
  have e2 := ((cells_mem _ _ _).1 hd).1
  exact .inl (by rw [e1, e2]; exact (ltB_iff _ _).2 h)
end Go.Proofs.Ytfepijllmfedfaa.Ab.Pq
namespace Go.Proofs.Ytfepijllmfedfaa.Ab.Pq
open Go
set_option linter.all false
structure MI (p : TApiProgram) (m : TMemMem) : Prop where
  sz : ∀ s, mgetD m.gSizes s 0 = (szG p.gGlobals s : Int)
  mem : ∀ c, c ∈ m.gCells ↔ InG p.gGlobals c
  nd : m.gCells.Nodup
  len : m.gCells.length ≤ 60000
theorem memN_MI {p : TApiProgram} (hn : p.gGlobals.length ≤ 30) (hs : ∀ g ∈ p.gGlobals, g.gSize ≤ 2000) : MI p (memN p) := by
  have h := newAll p.gGlobals
  refine ⟨h.sz, h.mem, h.nd, ?_⟩
  have := h.len fun g hg => by
    have := hs g hg
    unfold szg; split <;> omega
  show (p.gGlobals.foldl nstep ([], [], [])).1.length ≤ _
  omega
theorem MI_put {p : TApiProgram} {m : TMemMem} (h : MI p m) (w : List (TApiCell × TApiWord)) : MI p ⟨m.gSizes, w, m.gCells⟩ := ⟨h.sz, h.mem, h.nd, h.len⟩
def pc (p : TApiProgram) (c : TApiCell) : Int := if szG p.gGlobals c.gName = 0 then 7 else if c.gAt < 0 ∨ (szG p.gGlobals c.gName : Int) ≤ c.gAt then 11 else 0
def kc (p : TApiProgram) (c : TApiCell) : Int := if c.gName = ByteArray.mk #[] then 12 else pc p c
theorem pc_zero {p : TApiProgram} {c : TApiCell} : pc p c = 0 ↔ InG p.gGlobals c := by
  unfold pc InG
  split
  · omega
  · split <;> omega
theorem place_eq {p : TApiProgram} {m : TMemMem} (h : MI p m) (s : ByteArray) (a : Int) : mem_Mem_Place m s a = some (if pc p ⟨s, a⟩ = 0 then ⟨s, a⟩ else ⟨ByteArray.empty, 0⟩, pc p ⟨s, a⟩) := by
  unfold mem_Mem_Place pc
  rw [h.sz]
  by_cases h0 : szG p.gGlobals s = 0
  · simp [h0]
  · have : ((szG p.gGlobals s : Int) == 0) = false := by simpa using h0
    rw [this, cond_false, if_neg h0]
    by_cases h1 : a < 0
    · simp [h1]
    · rw [decide_eq_false h1, cond_false, Option.bind_some]
      by_cases h2 : (szG p.gGlobals s : Int) ≤ a
      · simp [h1, h2]
      · simp [h1, h2]
theorem known_eq {p : TApiProgram} {m : TMemMem} (h : MI p m) (c : TApiCell) : mem_Mem_known m c = some (kc p c) := by
  unfold mem_Mem_known kc
  by_cases h0 : c.gName = ByteArray.mk #[]
  · rw [decide_eq_true h0, cond_true, if_pos h0]
  · rw [decide_eq_false h0, cond_false, if_neg h0, place_eq h, Option.bind_some]
theorem set_eq {p : TApiProgram} {m : TMemMem} (h : MI p m) (c : TApiCell) (w : TApiWord) : mem_Mem_Set m c w = some (if kc p c = 0 then (if (mgetD m.gWords c (zW false)).gPtr = w.gPtr then (0, ⟨m.gSizes, mput m.gWords c w, m.gCells⟩) else (9, m)) else (kc p c, m)) := by
  show (mem_Mem_known m c).bind (fun x3 => bif (x3 != (0 : Int)) then some (x3, m) else (bif (!((mgetD m.gWords c (zW false)).gPtr == w.gPtr)) then some ((9 : Int), m) else some ((0 : Int), (⟨m.gSizes, mput m.gWords c w, m.gCells⟩ : TMemMem)))) = _
  rw [known_eq h, Option.bind_some]
  by_cases h0 : kc p c = 0
  · have : (kc p c != 0) = false := by simpa using h0
    rw [this, cond_false, if_pos h0]
    by_cases h1 : (mgetD m.gWords c (zW false)).gPtr = w.gPtr
    · rw [if_pos h1, show (!((mgetD m.gWords c (zW false)).gPtr == w.gPtr)) = false by simp [h1], cond_false]
    · rw [if_neg h1, show (!((mgetD m.gWords c (zW false)).gPtr == w.gPtr)) = true by simpa using h1, cond_true]
  · have : (kc p c != 0) = true := by simpa using h0
    rw [this, cond_true, if_neg h0]
theorem rise_uniq {l1 l2 : List TApiCell} (h1 : l1.Pairwise ltC) (h2 : l2.Pairwise ltC) (hp : l1.Perm l2) : l1 = l2 :=
  List.Perm.eq_of_pairwise (fun a b _ _ h k => absurd (ltC_tr h k) (ltC_irr _)) h1 h2 hp
theorem all_eq {p : TApiProgram} {m : TMemMem} (h : MI p m) : mem_Mem_All m = some ((CC p).map fun c => ⟨c, mgetD m.gWords c (zW false)⟩) := by
  unfold mem_Mem_All
  have hlen := h.len
  refine loop_list m.gCells (fun pre => pre.map fun c => (⟨c, mgetD m.gWords c (zW false)⟩ : TMemHeld)) (fun a n => (a, (n : Int))) (fun a => a) (by simp) (fun pre x post hpp => ?_) ?_ ?_
  · have hl := pre_len hpp
    simp only [lt_pre hpp, cond_true]
    rw [idx_pre2 hpp rfl, Option.bind_some, app_len (by omega) (by simp; omega), Option.bind_some, inc_pre hpp (by omega), List.map_append]
    rfl
  · simp only [lt_end, cond_false]
  · have hL : (m.gCells.map fun c => (⟨c, mgetD m.gWords c (zW false)⟩ : TMemHeld)).length ≤ 60000 := by rw [List.length_map]; exact hlen
    rw [show len62H (m.gCells.map fun c => (⟨c, mgetD m.gWords c (zW false)⟩ : TMemHeld)) = true from decide_eq_true (by omega), need, cond_true, Option.bind_some]
    congr 1
    obtain ⟨_, k2, k3⟩ := pdqL_all swo_H (m.gCells.map fun c => (⟨c, mgetD m.gWords c (zW false)⟩ : TMemHeld))
    change (sortH _).Perm _ at k2
    change (sortH _).Pairwise _ at k3
    generalize sortH (m.gCells.map fun c => (⟨c, mgetD m.gWords c (zW false)⟩ : TMemHeld)) = S at k2 k3
    have hx : ∀ x ∈ S, x = ⟨x.gC, mgetD m.gWords x.gC (zW false)⟩ := fun x hx => by
      obtain ⟨c, _, rfl⟩ := List.mem_map.1 (k2.mem_iff.1 hx)
      rfl
    have hC : (S.map (·.gC)).Perm m.gCells := by
      have := k2.map (·.gC)
      rw [List.map_map] at this
      simpa [Function.comp_def] using this
    have hP : (S.map (·.gC)).Perm (CC p) := by
      refine hC.trans ?_
      rw [List.perm_ext_iff_of_nodup h.nd (ltC_nodup (CC_rise p))]
      intro c; rw [h.mem, CC_mem]
    have hS : S.map (·.gC) = CC p := by
      refine rise_uniq ?_ (CC_rise p) hP
      have hnd : (S.map (·.gC)).Pairwise (· ≠ ·) := hC.nodup_iff.2 h.nd
      rw [List.pairwise_map] at hnd ⊢
      refine (hnd.and k3).imp fun {a b} hab => ?_
      obtain ⟨h1, h2⟩ := hab
      unfold ltOf at h2
      rw [decide_eq_false_iff_not, cfH_lt] at h2
      rcases ltC_tot a.gC b.gC with k | k | k
      · exact k
      · exact absurd k h1
      · exact absurd k h2
    rw [← hS, List.map_map]
    conv => lhs; rw [← List.map_id S]
    exact List.map_congr_left fun x h => hx x h
def p1 : TApiProgram := ⟨[⟨ByteArray.mk #[97], false, 2, 0⟩], []⟩
theorem CC1 : CC p1 = [⟨ByteArray.mk #[97], 0⟩, ⟨ByteArray.mk #[97], 1⟩] := by
  have h1 : nmsG p1.gGlobals = [ByteArray.mk #[97]] := rfl
  have h2 : szG p1.gGlobals (ByteArray.mk #[97]) = 2 := by simp [szG, fnG, p1, szg]
  unfold CC
  rw [h1, List.flatMap_cons, h2]; rfl
theorem lives19 : l19_lives = some true := by
  have hn : p1.gGlobals.length ≤ 30 := by decide
  have hs : ∀ g ∈ p1.gGlobals, g.gSize ≤ 2000 := fun g hg => by
    simp only [p1, List.mem_singleton] at hg; subst hg; decide
  have hM := memN_MI hn hs
  unfold l19_lives
  rw [show mem_New (⟨([(⟨(ByteArray.mk #[97]), false, (2 : Int), (0 : Int)⟩ : TApiGlobal)] : List TApiGlobal), []⟩ : TApiProgram) = some (memN p1) from new_eq hn hs, Option.bind_some, all_eq hM, Option.bind_some, CC1]
  have hin : InG p1.gGlobals ⟨ByteArray.mk #[97], 1⟩ := (CC_mem p1 _).1 (by rw [CC1]; simp)
  have hk : kc p1 ⟨ByteArray.mk #[97], 1⟩ = 0 := by
    unfold kc
    rw [if_neg (fun h => by cases h)]
    exact pc_zero.2 hin
  have hw : (mgetD (memN p1).gWords ⟨ByteArray.mk #[97], 1⟩ (zW false)).gPtr = false := by
    have := (newAll p1.gGlobals).wd _ hin
    show (mgetD (p1.gGlobals.foldl nstep ([], [], [])).2.2 _ _).gPtr = _
    rw [this]; simp [zW, fnG, p1]
  rw [show (((List.map (fun c => (⟨c, mgetD (memN p1).gWords c (zW false)⟩ : TMemHeld)) [⟨ByteArray.mk #[97], 0⟩, ⟨ByteArray.mk #[97], 1⟩]).length : Int) == 2) = true from rfl, cond_true, set_eq hM, if_pos hk, if_pos hw, Option.bind_some]
  simp only [beq_self_eq_true, cond_true]
  rw [all_eq (MI_put hM _), Option.bind_some, CC1]
  simp only [List.map_cons, List.map_nil]
  rw [show (1 : Int) = ((1 : Nat) : Int) from rfl, idx_nat]
  simp [mgetD_put]
theorem memNone_law (c : TApiCell) (w : TApiWord) : l19_MemNone c w = some true := by
  unfold l19_MemNone mem_Mem_Get2 mem_Mem_Set2 mem_Mem_known2 mem_Mem_Place2 mem_Mem_All2
  simp only [lives19]
  rfl
end Go.Proofs.Ytfepijllmfedfaa.Ab.Pq
namespace Go.Proofs.Ytfepijllmfedfaa.Ab
open Go
set_option linter.all false
def wfTApiCell (x : TApiCell) : Prop := x.gName.size ≤ maxLen ∧ (Lit.int .i64 x.gAt).wf = true
theorem goodTApiCell {n : Nat} {d : D} (g : GoodT tab n 35 d) : ∃ x : TApiCell, d = eTApiCell x ∧ wfTApiCell x := by
  obtain ⟨n', ds, _, rfl, hl, h⟩ := good_struct ti35 rfl g
  match ds, hl with
  | [d0, d1], _ =>
    obtain ⟨x1, rfl, w1⟩ := good_str ti9 rfl (h 0 _ _ rfl rfl)
    obtain ⟨x2, rfl, w2⟩ := good_int ti3 rfl (h 1 _ _ rfl rfl)
    exact ⟨⟨x1, x2⟩, rfl, w1, w2⟩
def wfTApiWord (x : TApiWord) : Prop := (Lit.int .i64 x.gN).wf = true ∧ wfTApiCell x.gTo
theorem goodTApiWord {n : Nat} {d : D} (g : GoodT tab n 37 d) : ∃ x : TApiWord, d = eTApiWord x ∧ wfTApiWord x := by
  obtain ⟨n', ds, _, rfl, hl, h⟩ := good_struct ti37 rfl g
  match ds, hl with
  | [d0, d1, d2], _ =>
    obtain ⟨x1, rfl⟩ := good_bool ti4 rfl (h 0 _ _ rfl rfl)
    obtain ⟨x2, rfl, w2⟩ := good_int ti3 rfl (h 1 _ _ rfl rfl)
    obtain ⟨x3, rfl, w3⟩ := goodTApiCell (h 2 _ _ rfl rfl)
    exact ⟨⟨x1, x2, x3⟩, rfl, w2, w3⟩
theorem MemNone_true (a0 : TApiCell) (a1 : TApiWord) (_ : wfTApiCell a0) (_ : wfTApiWord a1) : l19_MemNone a0 a1 = some true := Pq.memNone_law a0 a1
end Go.Proofs.Ytfepijllmfedfaa.Ab
namespace Go.Proofs.Ytfepijllmfedfaa
open Go.ChangeShapes Go.WideShapes Go.ChangeAt Go.RowKit Go.Joins
set_option linter.all false
set_option maxRecDepth 100000 in
theorem liftedMemNone (os : Os) (started : os.Started) (H : Type) (enc : TypeId × Value → H) :
    ReturnsInHanded {} Try.checked os 4 .any (Rows.memNoneSpec.pre6 enc Try.prog Try.f4 Rows.memNoneRow.domain false) (Rows.memNoneSpec.post enc Try.prog Try.f4 false true false false) := by
  refine returnsInHanded_of_change (C := Try.checked) own started (by kernel_rfl) Try.func4
    (ChangeSpec.witness6 (enc := enc) (C := Try.checked) false ⟨#[], #[.agg #[.string ByteArray.empty, .int .i64 0], .agg #[.bool false, .int .i64 0, .string ByteArray.empty, .int .i64 0]], []⟩ 8 (by kernel_rfl) (by kernel_rfl) (by kernel_rfl) (by kernel_rfl)) ?_
  intro W base args ds gs before hval0 hW hcnd _
  have hval : ∀ (j : Nat) t v, Try.f4.params[j]? = some t → args[j]? = some v → Value.okWide Try.prog W .any base t v := hval0
  have hW' := hW
  obtain ⟨p, q, hA0, hV, rfl, hfz, hnd⟩ := hW
  have hA : DataW.TrodAll enc Try.prog W 0 (fun _ => true) true Try.f4.params.toList args.toList ds p := hA0
  obtain ⟨rfl, rfl⟩ := trodVars_none hV
  simp only [List.append_nil] at hW'
  have hback := args_back laidOut' (by kernel_rfl) hA (fun x hx => hW'.lt x hx)
  rw [Try.params4] at hA hval
  obtain ⟨v0, vs0, d0, ds0, p0, q0, hargs, rfl, hp0, h0, r0⟩ := trodAll_cons hA
  obtain ⟨v1, vs1, d1, ds1, p1, q1, rfl, rfl, hp1, h1, r1⟩ := trodAll_cons r0
  obtain ⟨rfl, rfl, hpn⟩ := trodAll_nil r1
  obtain rfl : args = #[v0, v1] := by cases args; simp_all
  obtain ⟨n0, x0, g0, rep0⟩ := Ab.rd_arg (t := 35) Ab.htab [3, 4, 9, 35, 37] (by kernel_rfl) (by kernel_rfl) (hval 0 35 v0 rfl rfl) h0
  obtain ⟨a0, rfl, k0⟩ := Ab.goodTApiCell g0
  obtain ⟨n1, x1, g1, rep1⟩ := Ab.rd_arg (t := 37) Ab.htab [3, 4, 9, 35, 37] (by kernel_rfl) (by kernel_rfl) (hval 1 37 v1 rfl rfl) h1
  obtain ⟨a1, rfl, k1⟩ := Ab.goodTApiWord g1
  clear hA0 hval0
  refine (Ab.to_calls (us := #[v0, v1]) (Ab.l19_MemNone_ok a0 a1 true (Ab.MemNone_true a0 a1 k0 k1)) (Ab.ag_all W) (by simp only [Ab.RepsV]; exact ⟨_, _, rfl, rep0, ⟨_, _, rfl, rep1, rfl⟩⟩)).mono fun e W' ⟨he, hb⟩ => ?_
  subst he
  exact ⟨_, rfl, _, _, _, [], p, [], hW', trodAll_cons_mk (shut_bool Try.underlying4 _) trodAll_mk0, hback W' hb _ (fun x hx => by simpa using hW'.lt x hx), rfl, hb.frame _, fun h => by cases h⟩
theorem memNone_holds : Rows.MemNoneSaid :=
  OpenClaim.holds_of_wide 4 Try.f4 rfl rfl rfl rfl rfl rfl rfl ⟨rfl, rfl, rfl, rfl, rfl⟩ rfl rfl rfl rfl rfl (by kernel_rfl) Try.func4 (by kernel_rfl)
    (of_decide_eq_true (by kernel_rfl)) (by unfold Func.isWrapper; rw [if_neg (of_decide_eq_false (by kernel_rfl))]; exact ⟨rfl, rfl⟩)
    (fun os started H enc _ => liftedMemNone os started H enc)
#print axioms memNone_holds
end Go.Proofs.Ytfepijllmfedfaa
