/- Layer 7: what the functions compute. -/
import Derived.Test.YtaofljigbobdpaaNm1a
namespace Go.Proofs.Ytaofljigbobdpaa.Ab
open Go
set_option linter.all false
abbrev nlNm1_11 : List (List Nat) := [[],[],[0],[],[0,2,3],[0,2,3,4],[0,2,3,4],[0,2,3,4],[0,2,3,4],[0,2,3,4],[0,2,3,4],[0,2,3,4],[0,2,3,4],[0,2,3,4],[0,2,3,4],[0,2,3,4,14],[0,2,3,4,14,15],[0,2,3,4,14,15],[0,2,3,4,14,15],[0,2,3,4,14,15],[0,2,3,4,14,15,19],[0,2,3,4,14,15,19,20],[0,2,3,4,14,15,19,20]]
abbrev nlNm1_12 : List (List Nat) := [[],[],[0,1],[],[0,1,2,3],[0,1,2,3,4],[0,1,2,3,4,5],[0,1,2,3,4,5],[0,1,2,3,4,5,6,7],[0,1,2,3,4,5,6,7,8],[0,1,2,3,4,5,6,7,8,9],[0,1,2,3,4,5,6,7,8,9,10],[0,1,2,3,4,5,6,7,8,9,10],[0,1,2,3,4,5,6,7,8,9,10,12],[0,1,2,3,4,5,6,7,8,9,10,12,13],[0,1,2,3,4,5,6,7,8,9,10,12,13,14],[0,1,2,3,4,5,6,7,8,9,10,12,13,14,15],[0,1,2,3,4,5,6,7,8,9,10,12,13,14,15,16],[0,1,2,3,4,5,6,7,8,9,10,12,13,14,15,16,17],[0,1,2,3,4,5,6,7,8,9,10,12,13,14,15,16,17,18],[0,1,2,3,4,5,6,7,8,9,10,12,13,14,15,16,17,18,19],[0,1,2,3,4,5,6,7,8,9,10,12,13,14,15,16,17,18,19,20],[0,1,2,3,4,5,6,7,8,9,10,12,13,14,15,16,17,18,19,20,21],[0,1,2,3,4,5,6,7,8,9,10,11,12,13,14,15,16,17,18,19,20,21,22],[0,1,2,3,4,5,6,7,8,9,10,11,12,13,14,15,16,17,18,19,20,21,22,23],[0,1,2,3,4,5,6,7,8,9,10,11,12,13,14,15,16,17,18,19,20,21,22,23,24],[0,1,2,3,4,5,6,7,8,9,10,11,12,13,14,15,16,17,18,19,20,21,22,23,24,25],[0,1,2,3,4,5,6,7,8,9,10,11,12,13,14,15,16,17,18,19,20,21,22,23,24,25,26],[0,1,2,3,4,5,6,7,8,9,10,11,12,13,14,15,16,17,18,19,20,21,22,23,24,25,26,27]]
abbrev nlNm1_13 : List (List Nat) := [[],[],[0],[],[0,2,3],[0,2,3,4],[0,2,3,4],[0,2,3,4],[0,2,3,4],[0,2,3,4],[0,2,3,4],[0,2,3,4],[0,2,3,4],[0,2,3,4],[0,2,3,4],[0,2,3,4,14],[0,2,3,4,14,15],[0,2,3,4,14,15],[0,2,3,4,14,15],[0,2,3,4,14,15],[0,2,3,4,14,15],[0,2,3,4,14,15],[0,2,3,4,14,15]]
abbrev nlNm1_14 : List (List Nat) := [[],[],[0],[],[0,2,3],[0,2,3,4],[0,2,3,4],[0,2,3,4],[0,2,3,4],[0,2,3,4],[0,2,3,4],[0,2,3,4],[0,2,3,4],[0,2,3,4],[0,2,3,4],[0,2,3,4],[0,2,3,4],[0,2,3,4],[0,2,3,4],[0,2,3,4],[0,2,3,4],[0,2,3,4],[0,2,3,4]]
noncomputable def l07_NamesOnly (a0 : TApiSet) (a1 : TApiSet) (a2 : Bool) : Option (Bool) :=
  ((r07_Clean a0).bind fun x4 => ((names_Only a0).bind fun x6 => (Option.bind (α := Bool) (bif (!x4.gNull) then some ((x4.gNames.length : Int) == (1 : Int)) else some false) fun y8 => (Option.bind (α := Bool) (bif (!(x6.2 == y8)) then some true else (bif x6.2 then ((idx x4.gNames (0 : Int)).bind fun x19 => (bif (!decide (x6.1 = x19)) then some true else (bif (!x6.2) then some (!decide (x6.1 = (ByteArray.mk #[]))) else some false))) else (bif (!x6.2) then some (!decide (x6.1 = (ByteArray.mk #[]))) else some false))) fun y16 => (bif y16 then some false else ((names_Equal a0 a1).bind fun x26 => ((r07_Meet a0 a1).bind fun x28 => ((r07_Len x28).bind fun x29 => (Option.bind (α := Bool) (bif x4.gNull then some (!a2) else some false) fun y31 => ((names_Without a0 a2).bind fun x33 => ((r07_Exact x33 (⟨y31, x4.gNames⟩ : TApiSet)).bind fun x34 => (bif x34 then (bif (x26.1 == (decide ((0 : Int) < x29))) then (bif (decide ((0 : Int) < x29)) then ((r07_Len a0).bind fun x38 => (bif (x38 == (1 : Int)) then ((r07_Len a1).bind fun x40 => (bif (x26.2 == (x40 == (1 : Int))) then (l07_lives.bind fun x42 => some x42) else some false)) else (bif (x26.2 == false) then (l07_lives.bind fun x46 => some x46) else some false))) else (bif (x26.2 == false) then (l07_lives.bind fun x50 => some x50) else some false)) else some false) else some false))))))))))))
set_option maxRecDepth 100000 in
set_option maxHeartbeats 2000000 in
theorem l07_NamesOnly_ok (a0 : TApiSet) (a1 : TApiSet) (a2 : Bool) (r : Bool) (h0 : l07_NamesOnly a0 a1 a2 = some r) : CallsD Try.prog 5 [eTApiSet a0, eTApiSet a1, .v (.bool a2)] [] [] (fun d h k => d = .v (.bool r) ∧ h = [] ∧ k = []) := by
  have hm := yes_of h0
  unfold l07_NamesOnly at hm
  clear h0
  refine enterX htab Try.func5 rfl rfl rfl rfl rfl (fun C => ?_)
  refine wpD_seq ?_
  refine wpD_region ?_
  refine p_box rfl rfl rfl rfl rfl rfl rfl (fun b1 => ?_)
  refine p_box rfl rfl rfl rfl rfl rfl rfl (fun b2 => ?_)
  refine p_pure htab rfl rfl rfl rfl ?_
  refine ops_nil ?_
  refine then_normal ?_
  refine wpD_seq ?_
  refine wpD_region ?_
  refine p_load (d := eTApiSet a0) 0 htab rfl rfl rfl rfl rfl rfl rfl rfl ?_
  obtain ⟨x4, q4, hm⟩ := yes_bind hm
  refine p_callG (r07_Clean_ok a0 x4 q4) rfl rfl rfl rfl rfl (WkL.refl _) (List.Perm.refl _) (List.Perm.refl _) ?_
  rintro _ _ _ ⟨w3, rfl, rfl, rfl⟩
  refine p_alloc htab rfl rfl rfl rfl rfl rfl rfl (fun b5 => ?_)
  refine p_store (ds' := [.v (.bool x4.gNull), .lst 1 (x4.gNames.map eStr) (.cur w3)]) (h' := [(b1, Blk.cells [.v (.bool a0.gNull), .lst 1 (a0.gNames.map eStr) .no] 25), (b2, Blk.cells [.v (.bool a1.gNull), .lst 1 (a1.gNames.map eStr) .no] 25), (b5, Blk.cells [.v (.bool x4.gNull), .lst 1 (x4.gNames.map eStr) (.cur w3)] 25)]) 2 htab rfl rfl rfl rfl rfl rfl rfl rfl rfl rfl rfl rfl ?_
  refine ops_nil ?_
  refine then_normal ?_
  refine wpD_seq ?_
  refine wpD_region ?_
  refine p_load (d := eTApiSet a0) 0 htab rfl rfl rfl rfl rfl rfl rfl rfl ?_
  obtain ⟨x6, q6, hm⟩ := yes_bind hm
  refine p_call0 (names_Only_ok a0 x6 q6) rfl rfl rfl rfl rfl (WkL.refl _) ?_
  rintro _ rfl
  refine p_pure htab rfl rfl rfl rfl ?_
  refine p_pure htab rfl rfl rfl rfl ?_
  refine p_pure htab rfl rfl rfl rfl ?_
  refine p_pure htab rfl rfl rfl rfl ?_
  refine p_pure htab rfl rfl rfl rfl ?_
  refine ops_nil ?_
  refine then_normal ?_
  refine wpD_seq ?_
  obtain ⟨y8, q8, ho8⟩ := yes_bind hm
  refine wpD_mid (Y := Unit) (fun z8 => (⟨[(2, .v (.bool a2)), (3, .ptr b1 0), (4, .ptr b2 0), (7, .ptr b5 0), (8, .v (.string x6.1)), (9, .v (.bool x6.2)), (10, .v (.bool y8))], [(b1, Blk.cells [.v (.bool a0.gNull), .lst 1 (a0.gNames.map eStr) .no] 25), (b2, Blk.cells [.v (.bool a1.gNull), .lst 1 (a1.gNames.map eStr) .no] 25), (b5, Blk.cells [.v (.bool x4.gNull), .lst 1 (x4.gNames.map eStr) (.cur w3)] 25)], [(1, w3)]⟩ : S)) ?_ ?_
  · clear hm; have hm := yes_of q8
    refine wpD_region ?_
    refine p_pure htab rfl rfl rfl rfl ?_
    refine p_load 2 htab rfl rfl rfl rfl rfl rfl rfl rfl ?_
    refine p_pure htab rfl rfl rfl rfl ?_
    refine p_pure htab rfl rfl rfl rfl ?_
    refine p_split (i := 24) rfl (fun hg9 => ?_) (fun hg9 => ?_)
    · replace hm := yes_t hg9 hm
      refine p_pure htab rfl rfl rfl rfl ?_
      refine p_load 2 htab rfl rfl rfl rfl rfl rfl rfl rfl ?_
      refine p_lenL htab rfl rfl rfl rfl rfl rfl rfl (by first | exact map_len | rfl) ?_
      refine p_pure htab rfl rfl rfl rfl ?_
      refine p_pickT rfl rfl rfl rfl rfl rfl ?_
      refine p_pure htab rfl rfl rfl rfl ?_
      refine ops_nil ?_
      have e8 := yes_eq hm; subst e8
      refine ⟨rfl, ?_⟩
      exact WkX.of () (WkS.perm (WkS.cons rfl (Wk.refl _) (WkS.cons rfl (Wk.refl _) (WkS.cons rfl (Wk.refl _) (WkS.cons rfl (Wk.refl _) (WkS.cons rfl (Wk.refl _) (WkS.cons rfl (Wk.refl _) (WkS.cons rfl (Wk.refl _) (WkS.nil)))))))) (List.Perm.refl _) (List.Perm.refl _))
    · replace hm := yes_f hg9 hm
      refine p_skip rfl rfl rfl ?_
      refine p_skip rfl rfl rfl ?_
      refine p_skip rfl rfl rfl ?_
      refine p_skip rfl rfl rfl ?_
      refine p_pickF rfl rfl rfl rfl rfl rfl ?_
      refine p_pure htab rfl rfl rfl rfl ?_
      refine ops_nil ?_
      have e8 := yes_eq hm; subst e8
      refine ⟨rfl, ?_⟩
      exact WkX.of () (WkS.perm (WkS.cons rfl (Wk.refl _) (WkS.cons rfl (Wk.refl _) (WkS.cons rfl (Wk.refl _) (WkS.cons rfl (Wk.refl _) (WkS.cons rfl (Wk.refl _) (WkS.cons rfl (Wk.refl _) (WkS.cons rfl (Wk.refl _) (WkS.nil)))))))) (List.Perm.refl _) (List.Perm.refl _))
  · intro s8 hw8; clear hm; have hm := ho8; clear q8 ho8
    refine then_normal ?_
    refine wpD_wkX hw8 (fun z8 => ?_)
    refine wpD_seq ?_
    refine wpD_seq ?_
    obtain ⟨y16, q16, ho16⟩ := yes_bind hm
    refine wpD_mid (Y := Unit) (fun z16 => (⟨[(2, .v (.bool a2)), (3, .ptr b1 0), (4, .ptr b2 0), (7, .ptr b5 0), (51, .v (.bool y16))], [(b1, Blk.cells [.v (.bool a0.gNull), .lst 1 (a0.gNames.map eStr) .no] 25), (b2, Blk.cells [.v (.bool a1.gNull), .lst 1 (a1.gNames.map eStr) .no] 25), (b5, Blk.cells [.v (.bool x4.gNull), .lst 1 (x4.gNames.map eStr) (.cur w3)] 25)], [(1, w3)]⟩ : S)) ?_ ?_
    · clear hm; have hm := yes_of q16
      refine wpD_region ?_
      refine p_pure htab rfl rfl rfl rfl ?_
      refine p_pure htab rfl rfl rfl rfl ?_
      refine p_pure htab rfl rfl rfl rfl ?_
      refine p_pure htab rfl rfl rfl rfl ?_
      refine p_split (i := 33) rfl (fun hg17 => ?_) (fun hg17 => ?_)
      · replace hm := yes_t hg17 hm
        refine p_skip rfl rfl rfl ?_
        refine p_skip rfl rfl rfl ?_
        refine p_skip rfl rfl rfl ?_
        refine p_skip rfl rfl rfl ?_
        refine p_skip rfl rfl rfl ?_
        refine p_skip rfl rfl rfl ?_
        refine p_skip rfl rfl rfl ?_
        refine p_skip rfl rfl rfl ?_
        refine p_skip rfl rfl rfl ?_
        refine p_pickT rfl rfl rfl rfl rfl rfl ?_
        refine p_pure htab rfl rfl rfl rfl ?_
        refine p_skip rfl rfl rfl ?_
        refine p_skip rfl rfl rfl ?_
        refine p_skip rfl rfl rfl ?_
        refine p_skip rfl rfl rfl ?_
        refine p_skip rfl rfl rfl ?_
        refine p_skip rfl rfl rfl ?_
        refine p_pickT rfl rfl rfl rfl rfl rfl ?_
        refine ops_nil ?_
        have e16 := yes_eq hm; subst e16
        refine ⟨rfl, ?_⟩
        exact WkX.of () (WkS.perm (WkS.cons rfl (Wk.refl _) (WkS.cons rfl (Wk.refl _) (WkS.cons rfl (Wk.refl _) (WkS.cons rfl (Wk.refl _) (WkS.cons rfl (Wk.refl _) (WkS.nil)))))) (List.Perm.refl _) (List.Perm.refl _))
      · replace hm := yes_f hg17 hm
        refine p_pure htab rfl rfl rfl rfl ?_
        refine p_pure htab rfl rfl rfl rfl ?_
        refine p_split (i := 35) rfl (fun hg18 => ?_) (fun hg18 => ?_)
        · replace hm := yes_t hg18 hm
          refine p_pure htab rfl rfl rfl rfl ?_
          refine p_pure htab rfl rfl rfl rfl ?_
          refine p_load 2 htab rfl rfl rfl rfl rfl rfl rfl rfl ?_
          obtain ⟨x19, q19, hm⟩ := yes_bind hm
          refine p_elem htab rfl rfl rfl rfl rfl rfl rfl rfl rfl rfl (idx_nonneg q19) (idx_map q19) ?_
          refine p_loadEl htab rfl rfl rfl rfl rfl rfl rfl rfl ?_
          refine p_pure htab rfl rfl rfl rfl ?_
          refine p_pickT rfl rfl rfl rfl rfl rfl ?_
          refine p_pickF rfl rfl rfl rfl rfl rfl ?_
          refine p_pure htab rfl rfl rfl rfl ?_
          refine p_split (i := 44) rfl (fun hg20 => ?_) (fun hg20 => ?_)
          · replace hm := yes_t hg20 hm
            refine p_skip rfl rfl rfl ?_
            refine p_skip rfl rfl rfl ?_
            refine p_skip rfl rfl rfl ?_
            refine p_skip rfl rfl rfl ?_
            refine p_skip rfl rfl rfl ?_
            refine p_skip rfl rfl rfl ?_
            refine p_pickT rfl rfl rfl rfl rfl rfl ?_
            refine ops_nil ?_
            have e16 := yes_eq hm; subst e16
            refine ⟨rfl, ?_⟩
            exact WkX.of () (WkS.perm (WkS.cons rfl (Wk.refl _) (WkS.cons rfl (Wk.refl _) (WkS.cons rfl (Wk.refl _) (WkS.cons rfl (Wk.refl _) (WkS.cons rfl (Wk.refl _) (WkS.nil)))))) (List.Perm.refl _) (List.Perm.refl _))
          · replace hm := yes_f hg20 hm
            refine p_pure htab rfl rfl rfl rfl ?_
            refine p_pure htab rfl rfl rfl rfl ?_
            refine p_pure htab rfl rfl rfl rfl ?_
            refine p_split (i := 47) rfl (fun hg21 => ?_) (fun hg21 => ?_)
            · replace hm := yes_t hg21 hm
              refine p_pure htab rfl rfl rfl rfl ?_
              refine p_pure htab rfl rfl rfl rfl ?_
              refine p_pickT rfl rfl rfl rfl rfl rfl ?_
              refine p_pickF rfl rfl rfl rfl rfl rfl ?_
              refine ops_nil ?_
              have e16 := yes_eq hm; subst e16
              refine ⟨rfl, ?_⟩
              exact WkX.of () (WkS.perm (WkS.cons rfl (Wk.refl _) (WkS.cons rfl (Wk.refl _) (WkS.cons rfl (Wk.refl _) (WkS.cons rfl (Wk.refl _) (WkS.cons rfl (Wk.refl _) (WkS.nil)))))) (List.Perm.refl _) (List.Perm.refl _))
            · replace hm := yes_f hg21 hm
              refine p_skip rfl rfl rfl ?_
              refine p_skip rfl rfl rfl ?_
              refine p_pickF rfl rfl rfl rfl rfl rfl ?_
              refine p_pickF rfl rfl rfl rfl rfl rfl ?_
              refine ops_nil ?_
              have e16 := yes_eq hm; subst e16
              refine ⟨rfl, ?_⟩
              exact WkX.of () (WkS.perm (WkS.cons rfl (Wk.refl _) (WkS.cons rfl (Wk.refl _) (WkS.cons rfl (Wk.refl _) (WkS.cons rfl (Wk.refl _) (WkS.cons rfl (Wk.refl _) (WkS.nil)))))) (List.Perm.refl _) (List.Perm.refl _))
        · replace hm := yes_f hg18 hm
          refine p_skip rfl rfl rfl ?_
          refine p_skip rfl rfl rfl ?_
          refine p_skip rfl rfl rfl ?_
          refine p_skip rfl rfl rfl ?_
          refine p_skip rfl rfl rfl ?_
          refine p_skip rfl rfl rfl ?_
          refine p_pickF rfl rfl rfl rfl rfl rfl ?_
          refine p_pickF rfl rfl rfl rfl rfl rfl ?_
          refine p_pure htab rfl rfl rfl rfl ?_
          refine p_pure htab rfl rfl rfl rfl ?_
          refine p_pure htab rfl rfl rfl rfl ?_
          refine p_pure htab rfl rfl rfl rfl ?_
          refine p_split (i := 47) rfl (fun hg22 => ?_) (fun hg22 => ?_)
          · replace hm := yes_t hg22 hm
            refine p_pure htab rfl rfl rfl rfl ?_
            refine p_pure htab rfl rfl rfl rfl ?_
            refine p_pickT rfl rfl rfl rfl rfl rfl ?_
            refine p_pickF rfl rfl rfl rfl rfl rfl ?_
            refine ops_nil ?_
            have e16 := yes_eq hm; subst e16
            refine ⟨rfl, ?_⟩
            exact WkX.of () (WkS.perm (WkS.cons rfl (Wk.refl _) (WkS.cons rfl (Wk.refl _) (WkS.cons rfl (Wk.refl _) (WkS.cons rfl (Wk.refl _) (WkS.cons rfl (Wk.refl _) (WkS.nil)))))) (List.Perm.refl _) (List.Perm.refl _))
          · replace hm := yes_f hg22 hm
            refine p_skip rfl rfl rfl ?_
            refine p_skip rfl rfl rfl ?_
            refine p_pickF rfl rfl rfl rfl rfl rfl ?_
            refine p_pickF rfl rfl rfl rfl rfl rfl ?_
            refine ops_nil ?_
            have e16 := yes_eq hm; subst e16
            refine ⟨rfl, ?_⟩
            exact WkX.of () (WkS.perm (WkS.cons rfl (Wk.refl _) (WkS.cons rfl (Wk.refl _) (WkS.cons rfl (Wk.refl _) (WkS.cons rfl (Wk.refl _) (WkS.cons rfl (Wk.refl _) (WkS.nil)))))) (List.Perm.refl _) (List.Perm.refl _))
    · intro s16 hw16; clear hm; have hm := ho16; clear q16 ho16
      refine then_normal ?_
      refine wpD_wkX hw16 (fun z16 => ?_)
      refine wpD_cond rfl (fun hc24 => ?_) (fun hc24 => ?_)
      · replace hm := yes_t hc24 hm
        refine wpD_seq ?_
        refine wpD_region ?_
        refine p_pure htab rfl rfl rfl rfl ?_
        refine ops_nil ?_
        refine then_normal ?_
        refine wpD_ret ?_
        refine then_ret ?_
        have er25 := yes_eq hm; subst er25
        refine retX.of (s' := ⟨[(6, .v (.bool false))], [], []⟩) (WkS.perm (WkS.cons rfl (Wk.refl _) (WkS.nil)) (List.Perm.refl _) (List.Perm.refl _)) (retD_mk (hh := []) (.inl rfl) (resL_cons (resOne_tmp rfl) (resL_nil)) (List.nil_sublist _) (List.Sublist.refl _) ?_)
        exact ⟨rfl, rfl, rfl⟩
      · replace hm := yes_f hc24 hm
        refine wpD_skip ?_
        refine then_normal ?_
        refine wpD_seq ?_
        refine wpD_region ?_
        refine p_load (d := eTApiSet a0) 0 htab rfl rfl rfl rfl rfl rfl rfl rfl ?_
        refine p_load (d := eTApiSet a1) 1 htab rfl rfl rfl rfl rfl rfl rfl rfl ?_
        obtain ⟨x26, q26, hm⟩ := yes_bind hm
        refine p_call0 (names_Equal_ok a0 a1 x26 q26) rfl rfl rfl rfl rfl (WkL.refl _) ?_
        rintro _ rfl
        refine p_pure htab rfl rfl rfl rfl ?_
        refine p_pure htab rfl rfl rfl rfl ?_
        refine p_pure htab rfl rfl rfl rfl ?_
        refine p_pure htab rfl rfl rfl rfl ?_
        refine p_pure htab rfl rfl rfl rfl ?_
        refine ops_nil ?_
        refine then_normal ?_
        refine wpD_seq ?_
        refine wpD_region ?_
        refine p_load (d := eTApiSet a0) 0 htab rfl rfl rfl rfl rfl rfl rfl rfl ?_
        refine p_load (d := eTApiSet a1) 1 htab rfl rfl rfl rfl rfl rfl rfl rfl ?_
        obtain ⟨x28, q28, hm⟩ := yes_bind hm
        refine p_callG (r07_Meet_ok a0 a1 x28 q28) rfl rfl rfl rfl rfl (WkL.refl _) (List.Perm.refl _) (List.Perm.refl _) ?_
        rintro _ _ _ ⟨w27, rfl, rfl, rfl⟩
        obtain ⟨x29, q29, hm⟩ := yes_bind hm
        refine p_call0 (r07_Len_ok x28 x29 q29) rfl rfl rfl rfl rfl (WkL.cons (Wk.agg (WkR.cons (WkC.refl _) rfl (WkR.cons (WkC.no) rfl (WkR.nil)))) (WkL.refl _)) ?_
        rintro _ rfl
        refine p_pure htab rfl rfl rfl rfl ?_
        refine p_pure htab rfl rfl rfl rfl ?_
        refine ops_nil ?_
        refine then_normal ?_
        refine wpD_seq ?_
        obtain ⟨y31, q31, ho31⟩ := yes_bind hm
        refine wpD_mid (Y := Unit) (fun z31 => (⟨[(2, .v (.bool a2)), (3, .ptr b1 0), (4, .ptr b2 0), (7, .ptr b5 0), (11, .v (.bool x26.1)), (12, .v (.bool x26.2)), (13, .v (.bool (decide ((0 : Int) < x29))))], [(b1, Blk.cells [.v (.bool a0.gNull), .lst 1 (a0.gNames.map eStr) .no] 25), (b2, Blk.cells [.v (.bool a1.gNull), .lst 1 (a1.gNames.map eStr) .no] 25), (b5, Blk.cells [.v (.bool y31), .lst 1 (x4.gNames.map eStr) (.cur w3)] 25)], [(1, w3)]⟩ : S)) ?_ ?_
        · clear hm; have hm := yes_of q31
          refine wpD_region ?_
          refine p_pure htab rfl rfl rfl rfl ?_
          refine p_load 2 htab rfl rfl rfl rfl rfl rfl rfl rfl ?_
          refine p_pure htab rfl rfl rfl rfl ?_
          refine p_split (i := 65) rfl (fun hg32 => ?_) (fun hg32 => ?_)
          · replace hm := yes_t hg32 hm
            refine p_pure htab rfl rfl rfl rfl ?_
            refine p_pure htab rfl rfl rfl rfl ?_
            refine p_pickT rfl rfl rfl rfl rfl rfl ?_
            refine p_pure htab rfl rfl rfl rfl ?_
            refine p_store (ds' := [.v (.bool (!a2)), .lst 1 (x4.gNames.map eStr) (.cur w3)]) (h' := [(b1, Blk.cells [.v (.bool a0.gNull), .lst 1 (a0.gNames.map eStr) .no] 25), (b2, Blk.cells [.v (.bool a1.gNull), .lst 1 (a1.gNames.map eStr) .no] 25), (b5, Blk.cells [.v (.bool (!a2)), .lst 1 (x4.gNames.map eStr) (.cur w3)] 25)]) 2 htab rfl rfl rfl rfl rfl rfl rfl rfl rfl rfl rfl rfl ?_
            refine ops_nil ?_
            have e31 := yes_eq hm; subst e31
            refine ⟨rfl, ?_⟩
            exact WkX.of () (WkS.perm (WkS.cons rfl (Wk.refl _) (WkS.cons rfl (Wk.refl _) (WkS.cons rfl (Wk.refl _) (WkS.cons rfl (Wk.refl _) (WkS.cons rfl (Wk.refl _) (WkS.cons rfl (Wk.refl _) (WkS.cons rfl (Wk.refl _) (WkS.nil)))))))) (List.Perm.refl _) ((perm_at (j := 1) rfl).trans (List.Perm.cons _ (List.Perm.refl _))))
          · replace hm := yes_f hg32 hm
            refine p_skip rfl rfl rfl ?_
            refine p_skip rfl rfl rfl ?_
            refine p_pickF rfl rfl rfl rfl rfl rfl ?_
            refine p_pure htab rfl rfl rfl rfl ?_
            refine p_store (ds' := [.v (.bool false), .lst 1 (x4.gNames.map eStr) (.cur w3)]) (h' := [(b1, Blk.cells [.v (.bool a0.gNull), .lst 1 (a0.gNames.map eStr) .no] 25), (b2, Blk.cells [.v (.bool a1.gNull), .lst 1 (a1.gNames.map eStr) .no] 25), (b5, Blk.cells [.v (.bool false), .lst 1 (x4.gNames.map eStr) (.cur w3)] 25)]) 2 htab rfl rfl rfl rfl rfl rfl rfl rfl rfl rfl rfl rfl ?_
            refine ops_nil ?_
            have e31 := yes_eq hm; subst e31
            refine ⟨rfl, ?_⟩
            exact WkX.of () (WkS.perm (WkS.cons rfl (Wk.refl _) (WkS.cons rfl (Wk.refl _) (WkS.cons rfl (Wk.refl _) (WkS.cons rfl (Wk.refl _) (WkS.cons rfl (Wk.refl _) (WkS.cons rfl (Wk.refl _) (WkS.cons rfl (Wk.refl _) (WkS.nil)))))))) (List.Perm.refl _) ((perm_at (j := 1) rfl).trans (List.Perm.cons _ (List.Perm.refl _))))
        · intro s31 hw31; clear hm; have hm := ho31; clear q31 ho31
          refine then_normal ?_
          refine wpD_wkX hw31 (fun z31 => ?_)
          refine wpD_seq ?_
          obtain ⟨x33, q33, hm⟩ := yes_bind hm
          obtain ⟨x34, q34, hm⟩ := yes_bind hm
          refine bycB x34 (fun hs35 => ?_) (fun hs35 => ?_)
          · replace hm := yes_t hs35 hm
            refine bycB (x26.1 == (decide ((0 : Int) < x29))) (fun hs36 => ?_) (fun hs36 => ?_)
            · replace hm := yes_t hs36 hm
              refine bycB (decide ((0 : Int) < x29)) (fun hs37 => ?_) (fun hs37 => ?_)
              · replace hm := yes_t hs37 hm
                obtain ⟨x38, q38, hm⟩ := yes_bind hm
                refine bycB (x38 == (1 : Int)) (fun hs39 => ?_) (fun hs39 => ?_)
                · replace hm := yes_t hs39 hm
                  obtain ⟨x40, q40, hm⟩ := yes_bind hm
                  refine wpD_draws 23 [] nlNm1_11 [0,2,3,4,14,15,19,20] nlNm1_12 (by kernel_rfl) (by kernel_rfl) (by kernel_rfl) (by rfl) (by rfl) (by kernel_rfl) ?_
                  apply Exists.intro
                  apply Exists.intro
                  apply Exists.intro
                  apply Exists.intro
                  apply Exists.intro
                  apply Exists.intro
                  apply Exists.intro
                  apply Exists.intro
                  intro bs
                  refine z_eM rfl rfl (xm_load (d := eTApiSet a0) 0 htab rfl rfl rfl rfl rfl) rfl rfl rfl rfl rfl rfl ?_
                  refine z_q rfl rfl (ex_pure htab rfl) rfl rfl rfl rfl rfl rfl ?_
                  refine z_call rfl rfl (names_Without_ok a0 a2 x33 q33) rfl rfl (WkL.refl _) rfl rfl rfl rfl rfl rfl ?_
                  refine z_eM rfl rfl (xm_load (d := .agg [.v (.bool y31), .lst 1 (x4.gNames.map eStr) (.cur w3)]) 2 htab rfl rfl rfl rfl rfl) rfl rfl rfl rfl rfl rfl ?_
                  refine z_call rfl rfl (r07_Exact_ok x33 (⟨y31, x4.gNames⟩ : TApiSet) x34 q34) rfl rfl (WkL.cons (Wk.refl _) (WkL.cons (Wk.agg (WkR.cons (WkC.refl _) rfl (WkR.cons (WkC.no) rfl (WkR.nil)))) (WkL.refl _))) rfl rfl rfl rfl rfl rfl ?_
                  refine z_q rfl rfl (ex_pure htab rfl) rfl rfl rfl rfl rfl rfl ?_
                  refine z_known (j := 75) (b' := true) rfl hs35 ?_
                  refine z_q rfl rfl (ex_pure htab rfl) rfl rfl rfl rfl rfl rfl ?_
                  refine z_q rfl rfl (ex_pure htab rfl) rfl rfl rfl rfl rfl rfl ?_
                  refine z_q rfl rfl (ex_pure htab rfl) rfl rfl rfl rfl rfl rfl ?_
                  refine z_q rfl rfl (x_pickT rfl rfl rfl) rfl rfl rfl rfl rfl rfl ?_
                  refine z_q rfl rfl (ex_pure htab rfl) rfl rfl rfl rfl rfl rfl ?_
                  refine z_known (j := 80) (b' := true) rfl hs36 ?_
                  refine z_q rfl rfl (ex_pure htab rfl) rfl rfl rfl rfl rfl rfl ?_
                  refine z_q rfl rfl (ex_pure htab rfl) rfl rfl rfl rfl rfl rfl ?_
                  refine z_q rfl rfl (ex_pure htab rfl) rfl rfl rfl rfl rfl rfl ?_
                  refine z_known (j := 83) (b' := true) rfl hs37 ?_
                  refine z_eM rfl rfl (xm_load (d := eTApiSet a0) 0 htab rfl rfl rfl rfl rfl) rfl rfl rfl rfl rfl rfl ?_
                  refine z_call rfl rfl (r07_Len_ok a0 x38 q38) rfl rfl (WkL.refl _) rfl rfl rfl rfl rfl rfl ?_
                  refine z_q rfl rfl (ex_pure htab rfl) rfl rfl rfl rfl rfl rfl ?_
                  refine z_q rfl rfl (x_pickT rfl rfl rfl) rfl rfl rfl rfl rfl rfl ?_
                  refine z_q rfl rfl (ex_pure htab rfl) rfl rfl rfl rfl rfl rfl ?_
                  refine z_known (j := 88) (b' := true) rfl hs39 ?_
                  refine z_eM rfl rfl (xm_load (d := eTApiSet a1) 1 htab rfl rfl rfl rfl rfl) rfl rfl rfl rfl rfl rfl ?_
                  refine z_call rfl rfl (r07_Len_ok a1 x40 q40) rfl rfl (WkL.refl _) rfl rfl rfl rfl rfl rfl ?_
                  refine z_q rfl rfl (ex_pure htab rfl) rfl rfl rfl rfl rfl rfl ?_
                  refine z_q rfl rfl (x_pickT rfl rfl rfl) rfl rfl rfl rfl rfl rfl ?_
                  refine z_nil rfl rfl (fun e he => by simp [isAl] at he) ?_
                  refine p_pure htab rfl rfl rfl rfl ?_
                  refine p_pickT rfl rfl rfl rfl rfl rfl ?_
                  refine p_pure htab rfl rfl rfl rfl ?_
                  refine p_split (i := 95) rfl (fun hg41 => ?_) (fun hg41 => ?_)
                  · replace hm := yes_t hg41 hm
                    obtain ⟨x42, q42, hm⟩ := yes_bind hm
                    refine p_call0 (l07_lives_ok x42 q42) rfl rfl rfl rfl rfl (WkL.refl _) ?_
                    rintro _ rfl
                    refine p_pickT rfl rfl rfl rfl rfl rfl ?_
                    refine p_pure htab rfl rfl rfl rfl ?_
                    refine ops_nil ?_
                    refine then_normal ?_
                    refine wpD_ret ?_
                    have er43 := yes_eq hm; subst er43
                    refine retX.of (s' := ⟨[(6, .v (.bool x42))], [], []⟩) (WkS.perm (WkS.cons rfl (Wk.refl _) (WkS.nil)) (List.Perm.refl _) (List.Perm.refl _)) (retD_mk (hh := []) (.inl rfl) (resL_cons (resOne_tmp rfl) (resL_nil)) (List.nil_sublist _) (List.Sublist.refl _) ?_)
                    exact ⟨rfl, rfl, rfl⟩
                  · replace hm := yes_f hg41 hm
                    refine p_skip rfl rfl rfl ?_
                    refine p_pickF rfl rfl rfl rfl rfl rfl ?_
                    refine p_pure htab rfl rfl rfl rfl ?_
                    refine ops_nil ?_
                    refine then_normal ?_
                    refine wpD_ret ?_
                    have er44 := yes_eq hm; subst er44
                    refine retX.of (s' := ⟨[(6, .v (.bool false))], [], []⟩) (WkS.perm (WkS.cons rfl (Wk.refl _) (WkS.nil)) (List.Perm.refl _) (List.Perm.refl _)) (retD_mk (hh := []) (.inl rfl) (resL_cons (resOne_tmp rfl) (resL_nil)) (List.nil_sublist _) (List.Sublist.refl _) ?_)
                    exact ⟨rfl, rfl, rfl⟩
                · replace hm := yes_f hs39 hm
                  refine wpD_draws 23 [] nlNm1_13 [0,2,3,4,14,15] nlNm1_12 (by kernel_rfl) (by kernel_rfl) (by kernel_rfl) (by rfl) (by rfl) (by kernel_rfl) ?_
                  apply Exists.intro
                  apply Exists.intro
                  apply Exists.intro
                  apply Exists.intro
                  apply Exists.intro
                  apply Exists.intro
                  intro bs
                  refine z_eM rfl rfl (xm_load (d := eTApiSet a0) 0 htab rfl rfl rfl rfl rfl) rfl rfl rfl rfl rfl rfl ?_
                  refine z_q rfl rfl (ex_pure htab rfl) rfl rfl rfl rfl rfl rfl ?_
                  refine z_call rfl rfl (names_Without_ok a0 a2 x33 q33) rfl rfl (WkL.refl _) rfl rfl rfl rfl rfl rfl ?_
                  refine z_eM rfl rfl (xm_load (d := .agg [.v (.bool y31), .lst 1 (x4.gNames.map eStr) (.cur w3)]) 2 htab rfl rfl rfl rfl rfl) rfl rfl rfl rfl rfl rfl ?_
                  refine z_call rfl rfl (r07_Exact_ok x33 (⟨y31, x4.gNames⟩ : TApiSet) x34 q34) rfl rfl (WkL.cons (Wk.refl _) (WkL.cons (Wk.agg (WkR.cons (WkC.refl _) rfl (WkR.cons (WkC.no) rfl (WkR.nil)))) (WkL.refl _))) rfl rfl rfl rfl rfl rfl ?_
                  refine z_q rfl rfl (ex_pure htab rfl) rfl rfl rfl rfl rfl rfl ?_
                  refine z_known (j := 75) (b' := true) rfl hs35 ?_
                  refine z_q rfl rfl (ex_pure htab rfl) rfl rfl rfl rfl rfl rfl ?_
                  refine z_q rfl rfl (ex_pure htab rfl) rfl rfl rfl rfl rfl rfl ?_
                  refine z_q rfl rfl (ex_pure htab rfl) rfl rfl rfl rfl rfl rfl ?_
                  refine z_q rfl rfl (x_pickT rfl rfl rfl) rfl rfl rfl rfl rfl rfl ?_
                  refine z_q rfl rfl (ex_pure htab rfl) rfl rfl rfl rfl rfl rfl ?_
                  refine z_known (j := 80) (b' := true) rfl hs36 ?_
                  refine z_q rfl rfl (ex_pure htab rfl) rfl rfl rfl rfl rfl rfl ?_
                  refine z_q rfl rfl (ex_pure htab rfl) rfl rfl rfl rfl rfl rfl ?_
                  refine z_q rfl rfl (ex_pure htab rfl) rfl rfl rfl rfl rfl rfl ?_
                  refine z_known (j := 83) (b' := true) rfl hs37 ?_
                  refine z_eM rfl rfl (xm_load (d := eTApiSet a0) 0 htab rfl rfl rfl rfl rfl) rfl rfl rfl rfl rfl rfl ?_
                  refine z_call rfl rfl (r07_Len_ok a0 x38 q38) rfl rfl (WkL.refl _) rfl rfl rfl rfl rfl rfl ?_
                  refine z_q rfl rfl (ex_pure htab rfl) rfl rfl rfl rfl rfl rfl ?_
                  refine z_q rfl rfl (x_pickT rfl rfl rfl) rfl rfl rfl rfl rfl rfl ?_
                  refine z_q rfl rfl (ex_pure htab rfl) rfl rfl rfl rfl rfl rfl ?_
                  refine z_known (j := 88) (b' := false) rfl hs39 ?_
                  refine z_skip rfl rfl rfl rfl ?_
                  refine z_skip rfl rfl rfl rfl ?_
                  refine z_skip rfl rfl rfl rfl ?_
                  refine z_q rfl rfl (x_pickF rfl rfl rfl) rfl rfl rfl rfl rfl rfl ?_
                  refine z_nil rfl rfl (fun e he => by simp [isAl] at he) ?_
                  refine p_pure htab rfl rfl rfl rfl ?_
                  refine p_pickT rfl rfl rfl rfl rfl rfl ?_
                  refine p_pure htab rfl rfl rfl rfl ?_
                  refine p_split (i := 95) rfl (fun hg45 => ?_) (fun hg45 => ?_)
                  · replace hm := yes_t hg45 hm
                    obtain ⟨x46, q46, hm⟩ := yes_bind hm
                    refine p_call0 (l07_lives_ok x46 q46) rfl rfl rfl rfl rfl (WkL.refl _) ?_
                    rintro _ rfl
                    refine p_pickT rfl rfl rfl rfl rfl rfl ?_
                    refine p_pure htab rfl rfl rfl rfl ?_
                    refine ops_nil ?_
                    refine then_normal ?_
                    refine wpD_ret ?_
                    have er47 := yes_eq hm; subst er47
                    refine retX.of (s' := ⟨[(6, .v (.bool x46))], [], []⟩) (WkS.perm (WkS.cons rfl (Wk.refl _) (WkS.nil)) (List.Perm.refl _) (List.Perm.refl _)) (retD_mk (hh := []) (.inl rfl) (resL_cons (resOne_tmp rfl) (resL_nil)) (List.nil_sublist _) (List.Sublist.refl _) ?_)
                    exact ⟨rfl, rfl, rfl⟩
                  · replace hm := yes_f hg45 hm
                    refine p_skip rfl rfl rfl ?_
                    refine p_pickF rfl rfl rfl rfl rfl rfl ?_
                    refine p_pure htab rfl rfl rfl rfl ?_
                    refine ops_nil ?_
                    refine then_normal ?_
                    refine wpD_ret ?_
                    have er48 := yes_eq hm; subst er48
                    refine retX.of (s' := ⟨[(6, .v (.bool false))], [], []⟩) (WkS.perm (WkS.cons rfl (Wk.refl _) (WkS.nil)) (List.Perm.refl _) (List.Perm.refl _)) (retD_mk (hh := []) (.inl rfl) (resL_cons (resOne_tmp rfl) (resL_nil)) (List.nil_sublist _) (List.Sublist.refl _) ?_)
                    exact ⟨rfl, rfl, rfl⟩
              · replace hm := yes_f hs37 hm
                refine wpD_draws 23 [] nlNm1_14 [0,2,3,4] nlNm1_12 (by kernel_rfl) (by kernel_rfl) (by kernel_rfl) (by rfl) (by rfl) (by kernel_rfl) ?_
                apply Exists.intro
                apply Exists.intro
                apply Exists.intro
                apply Exists.intro
                intro bs
                refine z_eM rfl rfl (xm_load (d := eTApiSet a0) 0 htab rfl rfl rfl rfl rfl) rfl rfl rfl rfl rfl rfl ?_
                refine z_q rfl rfl (ex_pure htab rfl) rfl rfl rfl rfl rfl rfl ?_
                refine z_call rfl rfl (names_Without_ok a0 a2 x33 q33) rfl rfl (WkL.refl _) rfl rfl rfl rfl rfl rfl ?_
                refine z_eM rfl rfl (xm_load (d := .agg [.v (.bool y31), .lst 1 (x4.gNames.map eStr) (.cur w3)]) 2 htab rfl rfl rfl rfl rfl) rfl rfl rfl rfl rfl rfl ?_
                refine z_call rfl rfl (r07_Exact_ok x33 (⟨y31, x4.gNames⟩ : TApiSet) x34 q34) rfl rfl (WkL.cons (Wk.refl _) (WkL.cons (Wk.agg (WkR.cons (WkC.refl _) rfl (WkR.cons (WkC.no) rfl (WkR.nil)))) (WkL.refl _))) rfl rfl rfl rfl rfl rfl ?_
                refine z_q rfl rfl (ex_pure htab rfl) rfl rfl rfl rfl rfl rfl ?_
                refine z_known (j := 75) (b' := true) rfl hs35 ?_
                refine z_q rfl rfl (ex_pure htab rfl) rfl rfl rfl rfl rfl rfl ?_
                refine z_q rfl rfl (ex_pure htab rfl) rfl rfl rfl rfl rfl rfl ?_
                refine z_q rfl rfl (ex_pure htab rfl) rfl rfl rfl rfl rfl rfl ?_
                refine z_q rfl rfl (x_pickT rfl rfl rfl) rfl rfl rfl rfl rfl rfl ?_
                refine z_q rfl rfl (ex_pure htab rfl) rfl rfl rfl rfl rfl rfl ?_
                refine z_known (j := 80) (b' := true) rfl hs36 ?_
                refine z_q rfl rfl (ex_pure htab rfl) rfl rfl rfl rfl rfl rfl ?_
                refine z_q rfl rfl (ex_pure htab rfl) rfl rfl rfl rfl rfl rfl ?_
                refine z_q rfl rfl (ex_pure htab rfl) rfl rfl rfl rfl rfl rfl ?_
                refine z_known (j := 83) (b' := false) rfl hs37 ?_
                refine z_skip rfl rfl rfl rfl ?_
                refine z_skip rfl rfl rfl rfl ?_
                refine z_skip rfl rfl rfl rfl ?_
                refine z_q rfl rfl (x_pickF rfl rfl rfl) rfl rfl rfl rfl rfl rfl ?_
                refine z_q rfl rfl (ex_pure htab rfl) rfl rfl rfl rfl rfl rfl ?_
                refine z_skip rfl rfl rfl rfl ?_
                refine z_skip rfl rfl rfl rfl ?_
                refine z_skip rfl rfl rfl rfl ?_
                refine z_q rfl rfl (x_pickF rfl rfl rfl) rfl rfl rfl rfl rfl rfl ?_
                refine z_nil rfl rfl (fun e he => by simp [isAl] at he) ?_
                refine p_pure htab rfl rfl rfl rfl ?_
                refine p_pickT rfl rfl rfl rfl rfl rfl ?_
                refine p_pure htab rfl rfl rfl rfl ?_
                refine p_split (i := 95) rfl (fun hg49 => ?_) (fun hg49 => ?_)
                · replace hm := yes_t hg49 hm
                  obtain ⟨x50, q50, hm⟩ := yes_bind hm
                  refine p_call0 (l07_lives_ok x50 q50) rfl rfl rfl rfl rfl (WkL.refl _) ?_
                  rintro _ rfl
                  refine p_pickT rfl rfl rfl rfl rfl rfl ?_
                  refine p_pure htab rfl rfl rfl rfl ?_
                  refine ops_nil ?_
                  refine then_normal ?_
                  refine wpD_ret ?_
                  have er51 := yes_eq hm; subst er51
                  refine retX.of (s' := ⟨[(6, .v (.bool x50))], [], []⟩) (WkS.perm (WkS.cons rfl (Wk.refl _) (WkS.nil)) (List.Perm.refl _) (List.Perm.refl _)) (retD_mk (hh := []) (.inl rfl) (resL_cons (resOne_tmp rfl) (resL_nil)) (List.nil_sublist _) (List.Sublist.refl _) ?_)
                  exact ⟨rfl, rfl, rfl⟩
                · replace hm := yes_f hg49 hm
                  refine p_skip rfl rfl rfl ?_
                  refine p_pickF rfl rfl rfl rfl rfl rfl ?_
                  refine p_pure htab rfl rfl rfl rfl ?_
                  refine ops_nil ?_
                  refine then_normal ?_
                  refine wpD_ret ?_
                  have er52 := yes_eq hm; subst er52
                  refine retX.of (s' := ⟨[(6, .v (.bool false))], [], []⟩) (WkS.perm (WkS.cons rfl (Wk.refl _) (WkS.nil)) (List.Perm.refl _) (List.Perm.refl _)) (retD_mk (hh := []) (.inl rfl) (resL_cons (resOne_tmp rfl) (resL_nil)) (List.nil_sublist _) (List.Sublist.refl _) ?_)
                  exact ⟨rfl, rfl, rfl⟩
            · replace hm := yes_f hs36 hm
              refine wpD_draws 23 [] nlNm1_14 [0,2,3,4] nlNm1_12 (by kernel_rfl) (by kernel_rfl) (by kernel_rfl) (by rfl) (by rfl) (by kernel_rfl) ?_
              apply Exists.intro
              apply Exists.intro
              apply Exists.intro
              apply Exists.intro
              intro bs
              refine z_eM rfl rfl (xm_load (d := eTApiSet a0) 0 htab rfl rfl rfl rfl rfl) rfl rfl rfl rfl rfl rfl ?_
              refine z_q rfl rfl (ex_pure htab rfl) rfl rfl rfl rfl rfl rfl ?_
              refine z_call rfl rfl (names_Without_ok a0 a2 x33 q33) rfl rfl (WkL.refl _) rfl rfl rfl rfl rfl rfl ?_
              refine z_eM rfl rfl (xm_load (d := .agg [.v (.bool y31), .lst 1 (x4.gNames.map eStr) (.cur w3)]) 2 htab rfl rfl rfl rfl rfl) rfl rfl rfl rfl rfl rfl ?_
              refine z_call rfl rfl (r07_Exact_ok x33 (⟨y31, x4.gNames⟩ : TApiSet) x34 q34) rfl rfl (WkL.cons (Wk.refl _) (WkL.cons (Wk.agg (WkR.cons (WkC.refl _) rfl (WkR.cons (WkC.no) rfl (WkR.nil)))) (WkL.refl _))) rfl rfl rfl rfl rfl rfl ?_
              refine z_q rfl rfl (ex_pure htab rfl) rfl rfl rfl rfl rfl rfl ?_
              refine z_known (j := 75) (b' := true) rfl hs35 ?_
              refine z_q rfl rfl (ex_pure htab rfl) rfl rfl rfl rfl rfl rfl ?_
              refine z_q rfl rfl (ex_pure htab rfl) rfl rfl rfl rfl rfl rfl ?_
              refine z_q rfl rfl (ex_pure htab rfl) rfl rfl rfl rfl rfl rfl ?_
              refine z_q rfl rfl (x_pickT rfl rfl rfl) rfl rfl rfl rfl rfl rfl ?_
              refine z_q rfl rfl (ex_pure htab rfl) rfl rfl rfl rfl rfl rfl ?_
              refine z_known (j := 80) (b' := false) rfl hs36 ?_
              refine z_skip rfl rfl rfl rfl ?_
              refine z_skip rfl rfl rfl rfl ?_
              refine z_skip rfl rfl rfl rfl ?_
              refine z_skip rfl rfl rfl rfl ?_
              refine z_skip rfl rfl rfl rfl ?_
              refine z_skip rfl rfl rfl rfl ?_
              refine z_skip rfl rfl rfl rfl ?_
              refine z_skip rfl rfl rfl rfl ?_
              refine z_skip rfl rfl rfl rfl ?_
              refine z_skip rfl rfl rfl rfl ?_
              refine z_skip rfl rfl rfl rfl ?_
              refine z_skip rfl rfl rfl rfl ?_
              refine z_nil rfl rfl (fun e he => by simp [isAl] at he) ?_
              refine p_skip rfl rfl rfl ?_
              refine p_pickF rfl rfl rfl rfl rfl rfl ?_
              refine p_pure htab rfl rfl rfl rfl ?_
              refine p_skip rfl rfl rfl ?_
              refine p_pickF rfl rfl rfl rfl rfl rfl ?_
              refine p_pure htab rfl rfl rfl rfl ?_
              refine ops_nil ?_
              refine then_normal ?_
              refine wpD_ret ?_
              have er53 := yes_eq hm; subst er53
              refine retX.of (s' := ⟨[(6, .v (.bool false))], [], []⟩) (WkS.perm (WkS.cons rfl (Wk.refl _) (WkS.nil)) (List.Perm.refl _) (List.Perm.refl _)) (retD_mk (hh := []) (.inl rfl) (resL_cons (resOne_tmp rfl) (resL_nil)) (List.nil_sublist _) (List.Sublist.refl _) ?_)
              exact ⟨rfl, rfl, rfl⟩
          · replace hm := yes_f hs35 hm
            refine wpD_draws 23 [] nlNm1_14 [0,2,3,4] nlNm1_12 (by kernel_rfl) (by kernel_rfl) (by kernel_rfl) (by rfl) (by rfl) (by kernel_rfl) ?_
            apply Exists.intro
            apply Exists.intro
            apply Exists.intro
            apply Exists.intro
            intro bs
            refine z_eM rfl rfl (xm_load (d := eTApiSet a0) 0 htab rfl rfl rfl rfl rfl) rfl rfl rfl rfl rfl rfl ?_
            refine z_q rfl rfl (ex_pure htab rfl) rfl rfl rfl rfl rfl rfl ?_
            refine z_call rfl rfl (names_Without_ok a0 a2 x33 q33) rfl rfl (WkL.refl _) rfl rfl rfl rfl rfl rfl ?_
            refine z_eM rfl rfl (xm_load (d := .agg [.v (.bool y31), .lst 1 (x4.gNames.map eStr) (.cur w3)]) 2 htab rfl rfl rfl rfl rfl) rfl rfl rfl rfl rfl rfl ?_
            refine z_call rfl rfl (r07_Exact_ok x33 (⟨y31, x4.gNames⟩ : TApiSet) x34 q34) rfl rfl (WkL.cons (Wk.refl _) (WkL.cons (Wk.agg (WkR.cons (WkC.refl _) rfl (WkR.cons (WkC.no) rfl (WkR.nil)))) (WkL.refl _))) rfl rfl rfl rfl rfl rfl ?_
            refine z_q rfl rfl (ex_pure htab rfl) rfl rfl rfl rfl rfl rfl ?_
            refine z_known (j := 75) (b' := false) rfl hs35 ?_
            refine z_skip rfl rfl rfl rfl ?_
            refine z_skip rfl rfl rfl rfl ?_
            refine z_skip rfl rfl rfl rfl ?_
            refine z_q rfl rfl (x_pickF rfl rfl rfl) rfl rfl rfl rfl rfl rfl ?_
            refine z_q rfl rfl (ex_pure htab rfl) rfl rfl rfl rfl rfl rfl ?_
            refine z_skip rfl rfl rfl rfl ?_
            refine z_skip rfl rfl rfl rfl ?_
            refine z_skip rfl rfl rfl rfl ?_
            refine z_skip rfl rfl rfl rfl ?_
            refine z_skip rfl rfl rfl rfl ?_
            refine z_skip rfl rfl rfl rfl ?_
            refine z_skip rfl rfl rfl rfl ?_
            refine z_skip rfl rfl rfl rfl ?_
            refine z_skip rfl rfl rfl rfl ?_
            refine z_skip rfl rfl rfl rfl ?_
            refine z_skip rfl rfl rfl rfl ?_
            refine z_skip rfl rfl rfl rfl ?_
            refine z_nil rfl rfl (fun e he => by simp [isAl] at he) ?_
            refine p_skip rfl rfl rfl ?_
            refine p_pickF rfl rfl rfl rfl rfl rfl ?_
            refine p_pure htab rfl rfl rfl rfl ?_
            refine p_skip rfl rfl rfl ?_
            refine p_pickF rfl rfl rfl rfl rfl rfl ?_
            refine p_pure htab rfl rfl rfl rfl ?_
            refine ops_nil ?_
            refine then_normal ?_
            refine wpD_ret ?_
            have er54 := yes_eq hm; subst er54
            refine retX.of (s' := ⟨[(6, .v (.bool false))], [], []⟩) (WkS.perm (WkS.cons rfl (Wk.refl _) (WkS.nil)) (List.Perm.refl _) (List.Perm.refl _)) (retD_mk (hh := []) (.inl rfl) (resL_cons (resOne_tmp rfl) (resL_nil)) (List.nil_sublist _) (List.Sublist.refl _) ?_)
            exact ⟨rfl, rfl, rfl⟩
abbrev nlNm1_15 : List (List Nat) := [[],[],[],[1,2],[0,1,2,3],[],[],[0,1,2,3,4,5,6],[0,1,2,3,4,5,6,7],[0,1,2,3,4,5,6,7,8],[0,1,2,3,4,5,6,7,8],[0,1,2,3,4,5,6,7,8],[0,1,2,3,4,5,6,7,8],[0,1,2,3,4,5,6,7,8,11,12],[0,1,2,3,4,5,6,7,8,10,11,12,13],[0,1,2,3,4,5,6,7,8],[0,1,2,3,4,5,6,7,8],[0,1,2,3,4,5,6,7,8],[0,1,2,3,4,5,6,7,8,10,11,12,13,14,16,17]]
abbrev nlNm1_16 : List (List Nat) := [[],[],[],[1,2],[0,1,2,3],[],[],[0,1,2,3,4,5,6],[0,1,2,3,4,5,6,7],[0,1,2,3,4,5,6,7,8],[0,1,2,3,4,5,6,7,8,9],[0,1,2,3,4,5,6,7,8,9],[0,1,2,3,4,5,6,7,8,9],[0,1,2,3,4,5,6,7,8,9,11,12],[0,1,2,3,4,5,6,7,8,9,10,11,12,13],[0,1,2,3,4,5,6,7,8,9],[0,1,2,3,4,5,6,7,8,9],[0,1,2,3,4,5,6,7,8,9],[0,1,2,3,4,5,6,7,8,9,10,11,12,13,14,16,17],[0,1,2,3,4,5,6,7,8,9,10,11,12,13,14,15,16,17,18],[0,1,2,3,4,5,6,7,8,9,10,11,12,13,14,15,16,17,18,19],[0,1,2,3,4,5,6,7,8,9,10,11,12,13,14,15,16,17,18,19,20],[0,1,2,3,4,5,6,7,8,9,10,11,12,13,14,15,16,17,18,19,20,21],[0,1,2,3,4,5,6,7,8,9,10,11,12,13,14,15,16,17,18,19,20,21,22],[0,1,2,3,4,5,6,7,8,9,10,11,12,13,14,15,16,17,18,19,20,21,22,23],[0,1,2,3,4,5,6,7,8,9,10,11,12,13,14,15,16,17,18,19,20,21,22,23,24]]
abbrev nlNm1_17 : List (List Nat) := [[],[],[],[1,2],[0,1,2,3],[],[],[0,1,2,3,4,5,6],[0,1,2,3,4,5,6,7],[0,1,2,3,4,5,6,7,8],[0,1,2,3,4,5,6,7,8],[0,1,2,3,4,5,6,7,8],[0,1,2,3,4,5,6,7,8],[0,1,2,3,4,5,6,7,8],[0,1,2,3,4,5,6,7,8],[0,1,2,3,4,5,6,7,8],[0,1,2,3,4,5,6,7,8],[0,1,2,3,4,5,6,7,8],[0,1,2,3,4,5,6,7,8]]
noncomputable def l07_NamesLattice (a0 : TApiSet) (a1 : TApiSet) (a2 : TApiSet) : Option (Bool) :=
  ((names_Join a0 a1).bind fun x4 => ((names_Meet a0 a1).bind fun x5 => (Option.bind (α := Bool) ((names_Leq a0 x4).bind fun x38 => (bif (!x38) then some true else ((names_Leq a1 x4).bind fun x40 => (bif (!x40) then some true else ((names_Leq x5 a0).bind fun x42 => (bif (!x42) then some true else ((names_Leq x5 a1).bind fun x44 => (bif (!x44) then some true else ((names_Leq a0 a2).bind fun x46 => (bif x46 then ((names_Leq a1 a2).bind fun x48 => (bif x48 then ((names_Leq x4 a2).bind fun x50 => (bif (!x50) then some true else ((names_Leq a2 a0).bind fun x52 => (bif x52 then ((names_Leq a2 a1).bind fun x54 => (bif x54 then ((names_Leq a2 x5).bind fun x56 => some (!x56)) else some false)) else some false)))) else ((names_Leq a2 a0).bind fun x57 => (bif x57 then ((names_Leq a2 a1).bind fun x59 => (bif x59 then ((names_Leq a2 x5).bind fun x61 => some (!x61)) else some false)) else some false)))) else ((names_Leq a2 a0).bind fun x62 => (bif x62 then ((names_Leq a2 a1).bind fun x64 => (bif x64 then ((names_Leq a2 x5).bind fun x66 => some (!x66)) else some false)) else some false)))))))))))) fun y37 => (bif y37 then some false else ((names_Join a1 a2).bind fun x70 => ((names_Join a0 x70).bind fun x71 => ((names_Join x4 a2).bind fun x72 => ((names_Same x71 x72).bind fun x73 => (bif x73 then ((names_Join a1 a2).bind fun x75 => ((names_Meet a0 x75).bind fun x76 => ((names_Meet a0 a2).bind fun x77 => ((names_Join x5 x77).bind fun x78 => ((names_Same x76 x78).bind fun x79 => (bif x79 then (l07_lives.bind fun x81 => some x81) else some false)))))) else some false)))))))))
set_option maxRecDepth 100000 in
set_option maxHeartbeats 2000000 in
theorem l07_NamesLattice_ok (a0 : TApiSet) (a1 : TApiSet) (a2 : TApiSet) (r : Bool) (h0 : l07_NamesLattice a0 a1 a2 = some r) : CallsD Try.prog 4 [eTApiSet a0, eTApiSet a1, eTApiSet a2] [] [] (fun d h k => d = .v (.bool r) ∧ h = [] ∧ k = []) := by
  have hm := yes_of h0
  unfold l07_NamesLattice at hm
  clear h0
  refine enterX htab Try.func4 rfl rfl rfl rfl rfl (fun C => ?_)
  refine wpD_seq ?_
  refine wpD_region ?_
  refine p_box rfl rfl rfl rfl rfl rfl rfl (fun b1 => ?_)
  refine p_box rfl rfl rfl rfl rfl rfl rfl (fun b2 => ?_)
  refine p_box rfl rfl rfl rfl rfl rfl rfl (fun b3 => ?_)
  refine p_pure htab rfl rfl rfl rfl ?_
  refine ops_nil ?_
  refine then_normal ?_
  refine wpD_seq ?_
  obtain ⟨x4, q4, hm⟩ := yes_bind hm
  obtain ⟨x5, q5, hm⟩ := yes_bind hm
  refine wpD_draws 8 [(6, [.v (.bool false), .lst 1 [] .full], 25), (7, [.v (.bool false), .lst 1 [] .full], 25)] [[],[],[0,1],[],[],[0,1,2,3,4],[],[]] [0,1,2,3,4,5,6,7] [[],[],[0,1],[],[],[0,1,2,3,4],[],[],[0,1,2,3,4,5,6,7],[0,1,2,3,4,5,6,7,8]] (by kernel_rfl) (by kernel_rfl) (by kernel_rfl) (by rfl) (by rfl) (by kernel_rfl) ?_
  apply Exists.intro
  apply Exists.intro
  apply Exists.intro
  apply Exists.intro
  apply Exists.intro
  apply Exists.intro
  refine ⟨.any, ?_⟩
  refine ⟨.any, ?_⟩
  intro bs
  refine z_eM rfl rfl (xm_load (d := eTApiSet a0) 0 htab rfl rfl rfl rfl rfl) rfl rfl rfl rfl rfl rfl ?_
  refine z_eM rfl rfl (xm_load (d := eTApiSet a1) 1 htab rfl rfl rfl rfl rfl) rfl rfl rfl rfl rfl rfl ?_
  refine z_call rfl rfl (names_Join_ok a0 a1 x4 q4) rfl rfl (WkL.refl _) rfl rfl rfl rfl rfl rfl ?_
  refine z_eM rfl rfl (xm_load (d := eTApiSet a0) 0 htab rfl rfl rfl rfl rfl) rfl rfl rfl rfl rfl rfl ?_
  refine z_eM rfl rfl (xm_load (d := eTApiSet a1) 1 htab rfl rfl rfl rfl rfl) rfl rfl rfl rfl rfl rfl ?_
  refine z_call rfl rfl (names_Meet_ok a0 a1 x5 q5) rfl rfl (WkL.refl _) rfl rfl rfl rfl rfl rfl ?_
  refine z_alloc rfl htab rfl rfl rfl rfl rfl rfl rfl rfl (by simp [dOf, eI64]) (by simp) ?_
  refine z_alloc rfl htab rfl rfl rfl rfl rfl rfl rfl rfl (by simp [dOf, eI64]) (by simp) ?_
  refine z_nil rfl (by simp only [List.map_cons, List.map_nil]; exact rfl) (fun e he => by simp [isAl] at he; rcases he with rfl | rfl <;> rfl) ?_
  obtain ⟨b6, hb6⟩ : ∃ b, bs 6 = b := ⟨_, rfl⟩
  obtain ⟨b7, hb7⟩ : ∃ b, bs 7 = b := ⟨_, rfl⟩
  simp only [hb6, hb7]
  clear hb6 hb7
  refine p_store (ds' := [.v (.bool x4.gNull), .lst 1 (x4.gNames.map eStr) .no]) (h' := [(b1, Blk.cells [.v (.bool a0.gNull), .lst 1 (a0.gNames.map eStr) .no] 25), (b2, Blk.cells [.v (.bool a1.gNull), .lst 1 (a1.gNames.map eStr) .no] 25), (b3, Blk.cells [.v (.bool a2.gNull), .lst 1 (a2.gNames.map eStr) .no] 25), (b6, Blk.cells [.v (.bool x4.gNull), .lst 1 (x4.gNames.map eStr) .no] 25), (b7, Blk.cells [.v (.bool false), .lst 1 [] .full] 25)]) 3 htab rfl rfl rfl rfl rfl rfl rfl rfl rfl rfl rfl rfl ?_
  refine p_store (ds' := [.v (.bool x5.gNull), .lst 1 (x5.gNames.map eStr) .no]) (h' := [(b1, Blk.cells [.v (.bool a0.gNull), .lst 1 (a0.gNames.map eStr) .no] 25), (b2, Blk.cells [.v (.bool a1.gNull), .lst 1 (a1.gNames.map eStr) .no] 25), (b3, Blk.cells [.v (.bool a2.gNull), .lst 1 (a2.gNames.map eStr) .no] 25), (b6, Blk.cells [.v (.bool x4.gNull), .lst 1 (x4.gNames.map eStr) .no] 25), (b7, Blk.cells [.v (.bool x5.gNull), .lst 1 (x5.gNames.map eStr) .no] 25)]) 4 htab rfl rfl rfl rfl rfl rfl rfl rfl rfl rfl rfl rfl ?_
  refine ops_nil ?_
  refine then_normal ?_
  refine wpD_seq ?_
  refine wpD_seq ?_
  obtain ⟨y37, q37, ho37⟩ := yes_bind hm
  refine wpD_mid (Y := Unit) (fun z37 => (⟨[(3, .ptr b1 0), (4, .ptr b2 0), (5, .ptr b3 0), (7, .ptr b6 0), (8, .ptr b7 0), (68, .v (.bool y37))], [(b1, Blk.cells [.v (.bool a0.gNull), .lst 1 (a0.gNames.map eStr) .no] 25), (b2, Blk.cells [.v (.bool a1.gNull), .lst 1 (a1.gNames.map eStr) .no] 25), (b3, Blk.cells [.v (.bool a2.gNull), .lst 1 (a2.gNames.map eStr) .no] 25), (b6, Blk.cells [.v (.bool x4.gNull), .lst 1 (x4.gNames.map eStr) .no] 25), (b7, Blk.cells [.v (.bool x5.gNull), .lst 1 (x5.gNames.map eStr) .no] 25)], []⟩ : S)) ?_ ?_
  · clear hm; have hm := yes_of q37
    refine wpD_region ?_
    refine p_load (d := eTApiSet a0) 0 htab rfl rfl rfl rfl rfl rfl rfl rfl ?_
    refine p_load (d := eTApiSet x4) 3 htab rfl rfl rfl rfl rfl rfl rfl rfl ?_
    obtain ⟨x38, q38, hm⟩ := yes_bind hm
    refine p_call0 (names_Leq_ok a0 x4 x38 q38) rfl rfl rfl rfl rfl (WkL.refl _) ?_
    rintro _ rfl
    refine p_pure htab rfl rfl rfl rfl ?_
    refine p_pure htab rfl rfl rfl rfl ?_
    refine p_split (i := 19) rfl (fun hg39 => ?_) (fun hg39 => ?_)
    · replace hm := yes_t hg39 hm
      refine p_skip rfl rfl rfl ?_
      refine p_skip rfl rfl rfl ?_
      refine p_skip rfl rfl rfl ?_
      refine p_skip rfl rfl rfl ?_
      refine p_pickT rfl rfl rfl rfl rfl rfl ?_
      refine p_pure htab rfl rfl rfl rfl ?_
      refine p_skip rfl rfl rfl ?_
      refine p_skip rfl rfl rfl ?_
      refine p_skip rfl rfl rfl ?_
      refine p_skip rfl rfl rfl ?_
      refine p_pickT rfl rfl rfl rfl rfl rfl ?_
      refine p_pure htab rfl rfl rfl rfl ?_
      refine p_skip rfl rfl rfl ?_
      refine p_skip rfl rfl rfl ?_
      refine p_skip rfl rfl rfl ?_
      refine p_skip rfl rfl rfl ?_
      refine p_pickT rfl rfl rfl rfl rfl rfl ?_
      refine p_pure htab rfl rfl rfl rfl ?_
      refine p_skip rfl rfl rfl ?_
      refine p_skip rfl rfl rfl ?_
      refine p_skip rfl rfl rfl ?_
      refine p_skip rfl rfl rfl ?_
      refine p_skip rfl rfl rfl ?_
      refine p_skip rfl rfl rfl ?_
      refine p_skip rfl rfl rfl ?_
      refine p_skip rfl rfl rfl ?_
      refine p_skip rfl rfl rfl ?_
      refine p_skip rfl rfl rfl ?_
      refine p_skip rfl rfl rfl ?_
      refine p_skip rfl rfl rfl ?_
      refine p_skip rfl rfl rfl ?_
      refine p_skip rfl rfl rfl ?_
      refine p_pickT rfl rfl rfl rfl rfl rfl ?_
      refine p_pure htab rfl rfl rfl rfl ?_
      refine p_skip rfl rfl rfl ?_
      refine p_skip rfl rfl rfl ?_
      refine p_skip rfl rfl rfl ?_
      refine p_skip rfl rfl rfl ?_
      refine p_skip rfl rfl rfl ?_
      refine p_skip rfl rfl rfl ?_
      refine p_skip rfl rfl rfl ?_
      refine p_skip rfl rfl rfl ?_
      refine p_skip rfl rfl rfl ?_
      refine p_skip rfl rfl rfl ?_
      refine p_skip rfl rfl rfl ?_
      refine p_skip rfl rfl rfl ?_
      refine p_skip rfl rfl rfl ?_
      refine p_skip rfl rfl rfl ?_
      refine p_pickT rfl rfl rfl rfl rfl rfl ?_
      refine ops_nil ?_
      have e37 := yes_eq hm; subst e37
      refine ⟨rfl, ?_⟩
      exact WkX.of () (WkS.perm (WkS.cons rfl (Wk.refl _) (WkS.cons rfl (Wk.refl _) (WkS.cons rfl (Wk.refl _) (WkS.cons rfl (Wk.refl _) (WkS.cons rfl (Wk.refl _) (WkS.cons rfl (Wk.refl _) (WkS.nil))))))) (List.Perm.refl _) (List.Perm.refl _))
    · replace hm := yes_f hg39 hm
      refine p_load (d := eTApiSet a1) 1 htab rfl rfl rfl rfl rfl rfl rfl rfl ?_
      refine p_load (d := eTApiSet x4) 3 htab rfl rfl rfl rfl rfl rfl rfl rfl ?_
      obtain ⟨x40, q40, hm⟩ := yes_bind hm
      refine p_call0 (names_Leq_ok a1 x4 x40 q40) rfl rfl rfl rfl rfl (WkL.refl _) ?_
      rintro _ rfl
      refine p_pure htab rfl rfl rfl rfl ?_
      refine p_pickF rfl rfl rfl rfl rfl rfl ?_
      refine p_pure htab rfl rfl rfl rfl ?_
      refine p_split (i := 25) rfl (fun hg41 => ?_) (fun hg41 => ?_)
      · replace hm := yes_t hg41 hm
        refine p_skip rfl rfl rfl ?_
        refine p_skip rfl rfl rfl ?_
        refine p_skip rfl rfl rfl ?_
        refine p_skip rfl rfl rfl ?_
        refine p_pickT rfl rfl rfl rfl rfl rfl ?_
        refine p_pure htab rfl rfl rfl rfl ?_
        refine p_skip rfl rfl rfl ?_
        refine p_skip rfl rfl rfl ?_
        refine p_skip rfl rfl rfl ?_
        refine p_skip rfl rfl rfl ?_
        refine p_pickT rfl rfl rfl rfl rfl rfl ?_
        refine p_pure htab rfl rfl rfl rfl ?_
        refine p_skip rfl rfl rfl ?_
        refine p_skip rfl rfl rfl ?_
        refine p_skip rfl rfl rfl ?_
        refine p_skip rfl rfl rfl ?_
        refine p_skip rfl rfl rfl ?_
        refine p_skip rfl rfl rfl ?_
        refine p_skip rfl rfl rfl ?_
        refine p_skip rfl rfl rfl ?_
        refine p_skip rfl rfl rfl ?_
        refine p_skip rfl rfl rfl ?_
        refine p_skip rfl rfl rfl ?_
        refine p_skip rfl rfl rfl ?_
        refine p_skip rfl rfl rfl ?_
        refine p_skip rfl rfl rfl ?_
        refine p_pickT rfl rfl rfl rfl rfl rfl ?_
        refine p_pure htab rfl rfl rfl rfl ?_
        refine p_skip rfl rfl rfl ?_
        refine p_skip rfl rfl rfl ?_
        refine p_skip rfl rfl rfl ?_
        refine p_skip rfl rfl rfl ?_
        refine p_skip rfl rfl rfl ?_
        refine p_skip rfl rfl rfl ?_
        refine p_skip rfl rfl rfl ?_
        refine p_skip rfl rfl rfl ?_
        refine p_skip rfl rfl rfl ?_
        refine p_skip rfl rfl rfl ?_
        refine p_skip rfl rfl rfl ?_
        refine p_skip rfl rfl rfl ?_
        refine p_skip rfl rfl rfl ?_
        refine p_skip rfl rfl rfl ?_
        refine p_pickT rfl rfl rfl rfl rfl rfl ?_
        refine ops_nil ?_
        have e37 := yes_eq hm; subst e37
        refine ⟨rfl, ?_⟩
        exact WkX.of () (WkS.perm (WkS.cons rfl (Wk.refl _) (WkS.cons rfl (Wk.refl _) (WkS.cons rfl (Wk.refl _) (WkS.cons rfl (Wk.refl _) (WkS.cons rfl (Wk.refl _) (WkS.cons rfl (Wk.refl _) (WkS.nil))))))) (List.Perm.refl _) (List.Perm.refl _))
      · replace hm := yes_f hg41 hm
        refine p_load (d := eTApiSet x5) 4 htab rfl rfl rfl rfl rfl rfl rfl rfl ?_
        refine p_load (d := eTApiSet a0) 0 htab rfl rfl rfl rfl rfl rfl rfl rfl ?_
        obtain ⟨x42, q42, hm⟩ := yes_bind hm
        refine p_call0 (names_Leq_ok x5 a0 x42 q42) rfl rfl rfl rfl rfl (WkL.refl _) ?_
        rintro _ rfl
        refine p_pure htab rfl rfl rfl rfl ?_
        refine p_pickF rfl rfl rfl rfl rfl rfl ?_
        refine p_pure htab rfl rfl rfl rfl ?_
        refine p_split (i := 31) rfl (fun hg43 => ?_) (fun hg43 => ?_)
        · replace hm := yes_t hg43 hm
          refine p_skip rfl rfl rfl ?_
          refine p_skip rfl rfl rfl ?_
          refine p_skip rfl rfl rfl ?_
          refine p_skip rfl rfl rfl ?_
          refine p_pickT rfl rfl rfl rfl rfl rfl ?_
          refine p_pure htab rfl rfl rfl rfl ?_
          refine p_skip rfl rfl rfl ?_
          refine p_skip rfl rfl rfl ?_
          refine p_skip rfl rfl rfl ?_
          refine p_skip rfl rfl rfl ?_
          refine p_skip rfl rfl rfl ?_
          refine p_skip rfl rfl rfl ?_
          refine p_skip rfl rfl rfl ?_
          refine p_skip rfl rfl rfl ?_
          refine p_skip rfl rfl rfl ?_
          refine p_skip rfl rfl rfl ?_
          refine p_skip rfl rfl rfl ?_
          refine p_skip rfl rfl rfl ?_
          refine p_skip rfl rfl rfl ?_
          refine p_skip rfl rfl rfl ?_
          refine p_pickT rfl rfl rfl rfl rfl rfl ?_
          refine p_pure htab rfl rfl rfl rfl ?_
          refine p_skip rfl rfl rfl ?_
          refine p_skip rfl rfl rfl ?_
          refine p_skip rfl rfl rfl ?_
          refine p_skip rfl rfl rfl ?_
          refine p_skip rfl rfl rfl ?_
          refine p_skip rfl rfl rfl ?_
          refine p_skip rfl rfl rfl ?_
          refine p_skip rfl rfl rfl ?_
          refine p_skip rfl rfl rfl ?_
          refine p_skip rfl rfl rfl ?_
          refine p_skip rfl rfl rfl ?_
          refine p_skip rfl rfl rfl ?_
          refine p_skip rfl rfl rfl ?_
          refine p_skip rfl rfl rfl ?_
          refine p_pickT rfl rfl rfl rfl rfl rfl ?_
          refine ops_nil ?_
          have e37 := yes_eq hm; subst e37
          refine ⟨rfl, ?_⟩
          exact WkX.of () (WkS.perm (WkS.cons rfl (Wk.refl _) (WkS.cons rfl (Wk.refl _) (WkS.cons rfl (Wk.refl _) (WkS.cons rfl (Wk.refl _) (WkS.cons rfl (Wk.refl _) (WkS.cons rfl (Wk.refl _) (WkS.nil))))))) (List.Perm.refl _) (List.Perm.refl _))
        · replace hm := yes_f hg43 hm
          refine p_load (d := eTApiSet x5) 4 htab rfl rfl rfl rfl rfl rfl rfl rfl ?_
          refine p_load (d := eTApiSet a1) 1 htab rfl rfl rfl rfl rfl rfl rfl rfl ?_
          obtain ⟨x44, q44, hm⟩ := yes_bind hm
          refine p_call0 (names_Leq_ok x5 a1 x44 q44) rfl rfl rfl rfl rfl (WkL.refl _) ?_
          rintro _ rfl
          refine p_pure htab rfl rfl rfl rfl ?_
          refine p_pickF rfl rfl rfl rfl rfl rfl ?_
          refine p_pure htab rfl rfl rfl rfl ?_
          refine p_split (i := 37) rfl (fun hg45 => ?_) (fun hg45 => ?_)
          · replace hm := yes_t hg45 hm
            refine p_skip rfl rfl rfl ?_
            refine p_skip rfl rfl rfl ?_
            refine p_skip rfl rfl rfl ?_
            refine p_skip rfl rfl rfl ?_
            refine p_skip rfl rfl rfl ?_
            refine p_skip rfl rfl rfl ?_
            refine p_skip rfl rfl rfl ?_
            refine p_skip rfl rfl rfl ?_
            refine p_skip rfl rfl rfl ?_
            refine p_skip rfl rfl rfl ?_
            refine p_skip rfl rfl rfl ?_
            refine p_skip rfl rfl rfl ?_
            refine p_skip rfl rfl rfl ?_
            refine p_skip rfl rfl rfl ?_
            refine p_pickT rfl rfl rfl rfl rfl rfl ?_
            refine p_pure htab rfl rfl rfl rfl ?_
            refine p_skip rfl rfl rfl ?_
            refine p_skip rfl rfl rfl ?_
            refine p_skip rfl rfl rfl ?_
            refine p_skip rfl rfl rfl ?_
            refine p_skip rfl rfl rfl ?_
            refine p_skip rfl rfl rfl ?_
            refine p_skip rfl rfl rfl ?_
            refine p_skip rfl rfl rfl ?_
            refine p_skip rfl rfl rfl ?_
            refine p_skip rfl rfl rfl ?_
            refine p_skip rfl rfl rfl ?_
            refine p_skip rfl rfl rfl ?_
            refine p_skip rfl rfl rfl ?_
            refine p_skip rfl rfl rfl ?_
            refine p_pickT rfl rfl rfl rfl rfl rfl ?_
            refine ops_nil ?_
            have e37 := yes_eq hm; subst e37
            refine ⟨rfl, ?_⟩
            exact WkX.of () (WkS.perm (WkS.cons rfl (Wk.refl _) (WkS.cons rfl (Wk.refl _) (WkS.cons rfl (Wk.refl _) (WkS.cons rfl (Wk.refl _) (WkS.cons rfl (Wk.refl _) (WkS.cons rfl (Wk.refl _) (WkS.nil))))))) (List.Perm.refl _) (List.Perm.refl _))
          · replace hm := yes_f hg45 hm
            refine p_load (d := eTApiSet a0) 0 htab rfl rfl rfl rfl rfl rfl rfl rfl ?_
            refine p_load (d := eTApiSet a2) 2 htab rfl rfl rfl rfl rfl rfl rfl rfl ?_
            obtain ⟨x46, q46, hm⟩ := yes_bind hm
            refine p_call0 (names_Leq_ok a0 a2 x46 q46) rfl rfl rfl rfl rfl (WkL.refl _) ?_
            rintro _ rfl
            refine p_pure htab rfl rfl rfl rfl ?_
            refine p_split (i := 41) rfl (fun hg47 => ?_) (fun hg47 => ?_)
            · replace hm := yes_t hg47 hm
              refine p_load (d := eTApiSet a1) 1 htab rfl rfl rfl rfl rfl rfl rfl rfl ?_
              refine p_load (d := eTApiSet a2) 2 htab rfl rfl rfl rfl rfl rfl rfl rfl ?_
              obtain ⟨x48, q48, hm⟩ := yes_bind hm
              refine p_call0 (names_Leq_ok a1 a2 x48 q48) rfl rfl rfl rfl rfl (WkL.refl _) ?_
              rintro _ rfl
              refine p_pickT rfl rfl rfl rfl rfl rfl ?_
              refine p_pure htab rfl rfl rfl rfl ?_
              refine p_split (i := 46) rfl (fun hg49 => ?_) (fun hg49 => ?_)
              · replace hm := yes_t hg49 hm
                refine p_load (d := eTApiSet x4) 3 htab rfl rfl rfl rfl rfl rfl rfl rfl ?_
                refine p_load (d := eTApiSet a2) 2 htab rfl rfl rfl rfl rfl rfl rfl rfl ?_
                obtain ⟨x50, q50, hm⟩ := yes_bind hm
                refine p_call0 (names_Leq_ok x4 a2 x50 q50) rfl rfl rfl rfl rfl (WkL.refl _) ?_
                rintro _ rfl
                refine p_pure htab rfl rfl rfl rfl ?_
                refine p_pickT rfl rfl rfl rfl rfl rfl ?_
                refine p_pickF rfl rfl rfl rfl rfl rfl ?_
                refine p_pure htab rfl rfl rfl rfl ?_
                refine p_split (i := 53) rfl (fun hg51 => ?_) (fun hg51 => ?_)
                · replace hm := yes_t hg51 hm
                  refine p_skip rfl rfl rfl ?_
                  refine p_skip rfl rfl rfl ?_
                  refine p_skip rfl rfl rfl ?_
                  refine p_skip rfl rfl rfl ?_
                  refine p_skip rfl rfl rfl ?_
                  refine p_skip rfl rfl rfl ?_
                  refine p_skip rfl rfl rfl ?_
                  refine p_skip rfl rfl rfl ?_
                  refine p_skip rfl rfl rfl ?_
                  refine p_skip rfl rfl rfl ?_
                  refine p_skip rfl rfl rfl ?_
                  refine p_skip rfl rfl rfl ?_
                  refine p_skip rfl rfl rfl ?_
                  refine p_skip rfl rfl rfl ?_
                  refine p_pickT rfl rfl rfl rfl rfl rfl ?_
                  refine ops_nil ?_
                  have e37 := yes_eq hm; subst e37
                  refine ⟨rfl, ?_⟩
                  exact WkX.of () (WkS.perm (WkS.cons rfl (Wk.refl _) (WkS.cons rfl (Wk.refl _) (WkS.cons rfl (Wk.refl _) (WkS.cons rfl (Wk.refl _) (WkS.cons rfl (Wk.refl _) (WkS.cons rfl (Wk.refl _) (WkS.nil))))))) (List.Perm.refl _) (List.Perm.refl _))
                · replace hm := yes_f hg51 hm
                  refine p_load (d := eTApiSet a2) 2 htab rfl rfl rfl rfl rfl rfl rfl rfl ?_
                  refine p_load (d := eTApiSet a0) 0 htab rfl rfl rfl rfl rfl rfl rfl rfl ?_
                  obtain ⟨x52, q52, hm⟩ := yes_bind hm
                  refine p_call0 (names_Leq_ok a2 a0 x52 q52) rfl rfl rfl rfl rfl (WkL.refl _) ?_
                  rintro _ rfl
                  refine p_pure htab rfl rfl rfl rfl ?_
                  refine p_split (i := 57) rfl (fun hg53 => ?_) (fun hg53 => ?_)
                  · replace hm := yes_t hg53 hm
                    refine p_load (d := eTApiSet a2) 2 htab rfl rfl rfl rfl rfl rfl rfl rfl ?_
                    refine p_load (d := eTApiSet a1) 1 htab rfl rfl rfl rfl rfl rfl rfl rfl ?_
                    obtain ⟨x54, q54, hm⟩ := yes_bind hm
                    refine p_call0 (names_Leq_ok a2 a1 x54 q54) rfl rfl rfl rfl rfl (WkL.refl _) ?_
                    rintro _ rfl
                    refine p_pickT rfl rfl rfl rfl rfl rfl ?_
                    refine p_pure htab rfl rfl rfl rfl ?_
                    refine p_split (i := 62) rfl (fun hg55 => ?_) (fun hg55 => ?_)
                    · replace hm := yes_t hg55 hm
                      refine p_load (d := eTApiSet a2) 2 htab rfl rfl rfl rfl rfl rfl rfl rfl ?_
                      refine p_load (d := eTApiSet x5) 4 htab rfl rfl rfl rfl rfl rfl rfl rfl ?_
                      obtain ⟨x56, q56, hm⟩ := yes_bind hm
                      refine p_call0 (names_Leq_ok a2 x5 x56 q56) rfl rfl rfl rfl rfl (WkL.refl _) ?_
                      rintro _ rfl
                      refine p_pure htab rfl rfl rfl rfl ?_
                      refine p_pickT rfl rfl rfl rfl rfl rfl ?_
                      refine p_pickF rfl rfl rfl rfl rfl rfl ?_
                      refine ops_nil ?_
                      have e37 := yes_eq hm; subst e37
                      refine ⟨rfl, ?_⟩
                      exact WkX.of () (WkS.perm (WkS.cons rfl (Wk.refl _) (WkS.cons rfl (Wk.refl _) (WkS.cons rfl (Wk.refl _) (WkS.cons rfl (Wk.refl _) (WkS.cons rfl (Wk.refl _) (WkS.cons rfl (Wk.refl _) (WkS.nil))))))) (List.Perm.refl _) (List.Perm.refl _))
                    · replace hm := yes_f hg55 hm
                      refine p_skip rfl rfl rfl ?_
                      refine p_skip rfl rfl rfl ?_
                      refine p_skip rfl rfl rfl ?_
                      refine p_skip rfl rfl rfl ?_
                      refine p_pickF rfl rfl rfl rfl rfl rfl ?_
                      refine p_pickF rfl rfl rfl rfl rfl rfl ?_
                      refine ops_nil ?_
                      have e37 := yes_eq hm; subst e37
                      refine ⟨rfl, ?_⟩
                      exact WkX.of () (WkS.perm (WkS.cons rfl (Wk.refl _) (WkS.cons rfl (Wk.refl _) (WkS.cons rfl (Wk.refl _) (WkS.cons rfl (Wk.refl _) (WkS.cons rfl (Wk.refl _) (WkS.cons rfl (Wk.refl _) (WkS.nil))))))) (List.Perm.refl _) (List.Perm.refl _))
                  · replace hm := yes_f hg53 hm
                    refine p_skip rfl rfl rfl ?_
                    refine p_skip rfl rfl rfl ?_
                    refine p_skip rfl rfl rfl ?_
                    refine p_pickF rfl rfl rfl rfl rfl rfl ?_
                    refine p_pure htab rfl rfl rfl rfl ?_
                    refine p_skip rfl rfl rfl ?_
                    refine p_skip rfl rfl rfl ?_
                    refine p_skip rfl rfl rfl ?_
                    refine p_skip rfl rfl rfl ?_
                    refine p_pickF rfl rfl rfl rfl rfl rfl ?_
                    refine p_pickF rfl rfl rfl rfl rfl rfl ?_
                    refine ops_nil ?_
                    have e37 := yes_eq hm; subst e37
                    refine ⟨rfl, ?_⟩
                    exact WkX.of () (WkS.perm (WkS.cons rfl (Wk.refl _) (WkS.cons rfl (Wk.refl _) (WkS.cons rfl (Wk.refl _) (WkS.cons rfl (Wk.refl _) (WkS.cons rfl (Wk.refl _) (WkS.cons rfl (Wk.refl _) (WkS.nil))))))) (List.Perm.refl _) (List.Perm.refl _))
              · replace hm := yes_f hg49 hm
                refine p_skip rfl rfl rfl ?_
                refine p_skip rfl rfl rfl ?_
                refine p_skip rfl rfl rfl ?_
                refine p_skip rfl rfl rfl ?_
                refine p_pickF rfl rfl rfl rfl rfl rfl ?_
                refine p_pickF rfl rfl rfl rfl rfl rfl ?_
                refine p_pure htab rfl rfl rfl rfl ?_
                refine p_load (d := eTApiSet a2) 2 htab rfl rfl rfl rfl rfl rfl rfl rfl ?_
                refine p_load (d := eTApiSet a0) 0 htab rfl rfl rfl rfl rfl rfl rfl rfl ?_
                obtain ⟨x57, q57, hm⟩ := yes_bind hm
                refine p_call0 (names_Leq_ok a2 a0 x57 q57) rfl rfl rfl rfl rfl (WkL.refl _) ?_
                rintro _ rfl
                refine p_pure htab rfl rfl rfl rfl ?_
                refine p_split (i := 57) rfl (fun hg58 => ?_) (fun hg58 => ?_)
                · replace hm := yes_t hg58 hm
                  refine p_load (d := eTApiSet a2) 2 htab rfl rfl rfl rfl rfl rfl rfl rfl ?_
                  refine p_load (d := eTApiSet a1) 1 htab rfl rfl rfl rfl rfl rfl rfl rfl ?_
                  obtain ⟨x59, q59, hm⟩ := yes_bind hm
                  refine p_call0 (names_Leq_ok a2 a1 x59 q59) rfl rfl rfl rfl rfl (WkL.refl _) ?_
                  rintro _ rfl
                  refine p_pickT rfl rfl rfl rfl rfl rfl ?_
                  refine p_pure htab rfl rfl rfl rfl ?_
                  refine p_split (i := 62) rfl (fun hg60 => ?_) (fun hg60 => ?_)
                  · replace hm := yes_t hg60 hm
                    refine p_load (d := eTApiSet a2) 2 htab rfl rfl rfl rfl rfl rfl rfl rfl ?_
                    refine p_load (d := eTApiSet x5) 4 htab rfl rfl rfl rfl rfl rfl rfl rfl ?_
                    obtain ⟨x61, q61, hm⟩ := yes_bind hm
                    refine p_call0 (names_Leq_ok a2 x5 x61 q61) rfl rfl rfl rfl rfl (WkL.refl _) ?_
                    rintro _ rfl
                    refine p_pure htab rfl rfl rfl rfl ?_
                    refine p_pickT rfl rfl rfl rfl rfl rfl ?_
                    refine p_pickF rfl rfl rfl rfl rfl rfl ?_
                    refine ops_nil ?_
                    have e37 := yes_eq hm; subst e37
                    refine ⟨rfl, ?_⟩
                    exact WkX.of () (WkS.perm (WkS.cons rfl (Wk.refl _) (WkS.cons rfl (Wk.refl _) (WkS.cons rfl (Wk.refl _) (WkS.cons rfl (Wk.refl _) (WkS.cons rfl (Wk.refl _) (WkS.cons rfl (Wk.refl _) (WkS.nil))))))) (List.Perm.refl _) (List.Perm.refl _))
                  · replace hm := yes_f hg60 hm
                    refine p_skip rfl rfl rfl ?_
                    refine p_skip rfl rfl rfl ?_
                    refine p_skip rfl rfl rfl ?_
                    refine p_skip rfl rfl rfl ?_
                    refine p_pickF rfl rfl rfl rfl rfl rfl ?_
                    refine p_pickF rfl rfl rfl rfl rfl rfl ?_
                    refine ops_nil ?_
                    have e37 := yes_eq hm; subst e37
                    refine ⟨rfl, ?_⟩
                    exact WkX.of () (WkS.perm (WkS.cons rfl (Wk.refl _) (WkS.cons rfl (Wk.refl _) (WkS.cons rfl (Wk.refl _) (WkS.cons rfl (Wk.refl _) (WkS.cons rfl (Wk.refl _) (WkS.cons rfl (Wk.refl _) (WkS.nil))))))) (List.Perm.refl _) (List.Perm.refl _))
                · replace hm := yes_f hg58 hm
                  refine p_skip rfl rfl rfl ?_
                  refine p_skip rfl rfl rfl ?_
                  refine p_skip rfl rfl rfl ?_
                  refine p_pickF rfl rfl rfl rfl rfl rfl ?_
                  refine p_pure htab rfl rfl rfl rfl ?_
                  refine p_skip rfl rfl rfl ?_
                  refine p_skip rfl rfl rfl ?_
                  refine p_skip rfl rfl rfl ?_
                  refine p_skip rfl rfl rfl ?_
                  refine p_pickF rfl rfl rfl rfl rfl rfl ?_
                  refine p_pickF rfl rfl rfl rfl rfl rfl ?_
                  refine ops_nil ?_
                  have e37 := yes_eq hm; subst e37
                  refine ⟨rfl, ?_⟩
                  exact WkX.of () (WkS.perm (WkS.cons rfl (Wk.refl _) (WkS.cons rfl (Wk.refl _) (WkS.cons rfl (Wk.refl _) (WkS.cons rfl (Wk.refl _) (WkS.cons rfl (Wk.refl _) (WkS.cons rfl (Wk.refl _) (WkS.nil))))))) (List.Perm.refl _) (List.Perm.refl _))
            · replace hm := yes_f hg47 hm
              refine p_skip rfl rfl rfl ?_
              refine p_skip rfl rfl rfl ?_
              refine p_skip rfl rfl rfl ?_
              refine p_pickF rfl rfl rfl rfl rfl rfl ?_
              refine p_pure htab rfl rfl rfl rfl ?_
              refine p_skip rfl rfl rfl ?_
              refine p_skip rfl rfl rfl ?_
              refine p_skip rfl rfl rfl ?_
              refine p_skip rfl rfl rfl ?_
              refine p_pickF rfl rfl rfl rfl rfl rfl ?_
              refine p_pickF rfl rfl rfl rfl rfl rfl ?_
              refine p_pure htab rfl rfl rfl rfl ?_
              refine p_load (d := eTApiSet a2) 2 htab rfl rfl rfl rfl rfl rfl rfl rfl ?_
              refine p_load (d := eTApiSet a0) 0 htab rfl rfl rfl rfl rfl rfl rfl rfl ?_
              obtain ⟨x62, q62, hm⟩ := yes_bind hm
              refine p_call0 (names_Leq_ok a2 a0 x62 q62) rfl rfl rfl rfl rfl (WkL.refl _) ?_
              rintro _ rfl
              refine p_pure htab rfl rfl rfl rfl ?_
              refine p_split (i := 57) rfl (fun hg63 => ?_) (fun hg63 => ?_)
              · replace hm := yes_t hg63 hm
                refine p_load (d := eTApiSet a2) 2 htab rfl rfl rfl rfl rfl rfl rfl rfl ?_
                refine p_load (d := eTApiSet a1) 1 htab rfl rfl rfl rfl rfl rfl rfl rfl ?_
                obtain ⟨x64, q64, hm⟩ := yes_bind hm
                refine p_call0 (names_Leq_ok a2 a1 x64 q64) rfl rfl rfl rfl rfl (WkL.refl _) ?_
                rintro _ rfl
                refine p_pickT rfl rfl rfl rfl rfl rfl ?_
                refine p_pure htab rfl rfl rfl rfl ?_
                refine p_split (i := 62) rfl (fun hg65 => ?_) (fun hg65 => ?_)
                · replace hm := yes_t hg65 hm
                  refine p_load (d := eTApiSet a2) 2 htab rfl rfl rfl rfl rfl rfl rfl rfl ?_
                  refine p_load (d := eTApiSet x5) 4 htab rfl rfl rfl rfl rfl rfl rfl rfl ?_
                  obtain ⟨x66, q66, hm⟩ := yes_bind hm
                  refine p_call0 (names_Leq_ok a2 x5 x66 q66) rfl rfl rfl rfl rfl (WkL.refl _) ?_
                  rintro _ rfl
                  refine p_pure htab rfl rfl rfl rfl ?_
                  refine p_pickT rfl rfl rfl rfl rfl rfl ?_
                  refine p_pickF rfl rfl rfl rfl rfl rfl ?_
                  refine ops_nil ?_
                  have e37 := yes_eq hm; subst e37
                  refine ⟨rfl, ?_⟩
                  exact WkX.of () (WkS.perm (WkS.cons rfl (Wk.refl _) (WkS.cons rfl (Wk.refl _) (WkS.cons rfl (Wk.refl _) (WkS.cons rfl (Wk.refl _) (WkS.cons rfl (Wk.refl _) (WkS.cons rfl (Wk.refl _) (WkS.nil))))))) (List.Perm.refl _) (List.Perm.refl _))
                · replace hm := yes_f hg65 hm
                  refine p_skip rfl rfl rfl ?_
                  refine p_skip rfl rfl rfl ?_
                  refine p_skip rfl rfl rfl ?_
                  refine p_skip rfl rfl rfl ?_
                  refine p_pickF rfl rfl rfl rfl rfl rfl ?_
                  refine p_pickF rfl rfl rfl rfl rfl rfl ?_
                  refine ops_nil ?_
                  have e37 := yes_eq hm; subst e37
                  refine ⟨rfl, ?_⟩
                  exact WkX.of () (WkS.perm (WkS.cons rfl (Wk.refl _) (WkS.cons rfl (Wk.refl _) (WkS.cons rfl (Wk.refl _) (WkS.cons rfl (Wk.refl _) (WkS.cons rfl (Wk.refl _) (WkS.cons rfl (Wk.refl _) (WkS.nil))))))) (List.Perm.refl _) (List.Perm.refl _))
              · replace hm := yes_f hg63 hm
                refine p_skip rfl rfl rfl ?_
                refine p_skip rfl rfl rfl ?_
                refine p_skip rfl rfl rfl ?_
                refine p_pickF rfl rfl rfl rfl rfl rfl ?_
                refine p_pure htab rfl rfl rfl rfl ?_
                refine p_skip rfl rfl rfl ?_
                refine p_skip rfl rfl rfl ?_
                refine p_skip rfl rfl rfl ?_
                refine p_skip rfl rfl rfl ?_
                refine p_pickF rfl rfl rfl rfl rfl rfl ?_
                refine p_pickF rfl rfl rfl rfl rfl rfl ?_
                refine ops_nil ?_
                have e37 := yes_eq hm; subst e37
                refine ⟨rfl, ?_⟩
                exact WkX.of () (WkS.perm (WkS.cons rfl (Wk.refl _) (WkS.cons rfl (Wk.refl _) (WkS.cons rfl (Wk.refl _) (WkS.cons rfl (Wk.refl _) (WkS.cons rfl (Wk.refl _) (WkS.cons rfl (Wk.refl _) (WkS.nil))))))) (List.Perm.refl _) (List.Perm.refl _))
  · intro s37 hw37; clear hm; have hm := ho37; clear q37 ho37
    refine then_normal ?_
    refine wpD_wkX hw37 (fun z37 => ?_)
    refine wpD_cond rfl (fun hc68 => ?_) (fun hc68 => ?_)
    · replace hm := yes_t hc68 hm
      refine wpD_seq ?_
      refine wpD_region ?_
      refine p_pure htab rfl rfl rfl rfl ?_
      refine ops_nil ?_
      refine then_normal ?_
      refine wpD_ret ?_
      refine then_ret ?_
      have er69 := yes_eq hm; subst er69
      refine retX.of (s' := ⟨[(6, .v (.bool false))], [], []⟩) (WkS.perm (WkS.cons rfl (Wk.refl _) (WkS.nil)) (List.Perm.refl _) (List.Perm.refl _)) (retD_mk (hh := []) (.inl rfl) (resL_cons (resOne_tmp rfl) (resL_nil)) (List.nil_sublist _) (List.Sublist.refl _) ?_)
      exact ⟨rfl, rfl, rfl⟩
    · replace hm := yes_f hc68 hm
      refine wpD_skip ?_
      refine then_normal ?_
      refine wpD_seq ?_
      obtain ⟨x70, q70, hm⟩ := yes_bind hm
      obtain ⟨x71, q71, hm⟩ := yes_bind hm
      obtain ⟨x72, q72, hm⟩ := yes_bind hm
      obtain ⟨x73, q73, hm⟩ := yes_bind hm
      refine bycB x73 (fun hs74 => ?_) (fun hs74 => ?_)
      · replace hm := yes_t hs74 hm
        obtain ⟨x75, q75, hm⟩ := yes_bind hm
        obtain ⟨x76, q76, hm⟩ := yes_bind hm
        obtain ⟨x77, q77, hm⟩ := yes_bind hm
        refine wpD_draws 19 [] nlNm1_15 [0,1,2,3,4,5,6,7,8,10,11,12,13,14,15,16,17,18] nlNm1_16 (by kernel_rfl) (by kernel_rfl) (by kernel_rfl) (by rfl) (by rfl) (by kernel_rfl) ?_
        apply Exists.intro
        apply Exists.intro
        apply Exists.intro
        apply Exists.intro
        apply Exists.intro
        apply Exists.intro
        apply Exists.intro
        apply Exists.intro
        apply Exists.intro
        apply Exists.intro
        apply Exists.intro
        apply Exists.intro
        apply Exists.intro
        apply Exists.intro
        apply Exists.intro
        apply Exists.intro
        apply Exists.intro
        apply Exists.intro
        intro bs
        refine z_eM rfl rfl (xm_load (d := eTApiSet a0) 0 htab rfl rfl rfl rfl rfl) rfl rfl rfl rfl rfl rfl ?_
        refine z_eM rfl rfl (xm_load (d := eTApiSet a1) 1 htab rfl rfl rfl rfl rfl) rfl rfl rfl rfl rfl rfl ?_
        refine z_eM rfl rfl (xm_load (d := eTApiSet a2) 2 htab rfl rfl rfl rfl rfl) rfl rfl rfl rfl rfl rfl ?_
        refine z_call rfl rfl (names_Join_ok a1 a2 x70 q70) rfl rfl (WkL.refl _) rfl rfl rfl rfl rfl rfl ?_
        refine z_call rfl rfl (names_Join_ok a0 x70 x71 q71) rfl rfl (WkL.refl _) rfl rfl rfl rfl rfl rfl ?_
        refine z_eM rfl rfl (xm_load (d := eTApiSet x4) 3 htab rfl rfl rfl rfl rfl) rfl rfl rfl rfl rfl rfl ?_
        refine z_eM rfl rfl (xm_load (d := eTApiSet a2) 2 htab rfl rfl rfl rfl rfl) rfl rfl rfl rfl rfl rfl ?_
        refine z_call rfl rfl (names_Join_ok x4 a2 x72 q72) rfl rfl (WkL.refl _) rfl rfl rfl rfl rfl rfl ?_
        refine z_call rfl rfl (names_Same_ok x71 x72 x73 q73) rfl rfl (WkL.refl _) rfl rfl rfl rfl rfl rfl ?_
        refine z_q rfl rfl (ex_pure htab rfl) rfl rfl rfl rfl rfl rfl ?_
        refine z_known (j := 78) (b' := true) rfl hs74 ?_
        refine z_eM rfl rfl (xm_load (d := eTApiSet a0) 0 htab rfl rfl rfl rfl rfl) rfl rfl rfl rfl rfl rfl ?_
        refine z_eM rfl rfl (xm_load (d := eTApiSet a1) 1 htab rfl rfl rfl rfl rfl) rfl rfl rfl rfl rfl rfl ?_
        refine z_eM rfl rfl (xm_load (d := eTApiSet a2) 2 htab rfl rfl rfl rfl rfl) rfl rfl rfl rfl rfl rfl ?_
        refine z_call rfl rfl (names_Join_ok a1 a2 x75 q75) rfl rfl (WkL.refl _) rfl rfl rfl rfl rfl rfl ?_
        refine z_call rfl rfl (names_Meet_ok a0 x75 x76 q76) rfl rfl (WkL.refl _) rfl rfl rfl rfl rfl rfl ?_
        refine z_eM rfl rfl (xm_load (d := eTApiSet x5) 4 htab rfl rfl rfl rfl rfl) rfl rfl rfl rfl rfl rfl ?_
        refine z_eM rfl rfl (xm_load (d := eTApiSet a0) 0 htab rfl rfl rfl rfl rfl) rfl rfl rfl rfl rfl rfl ?_
        refine z_eM rfl rfl (xm_load (d := eTApiSet a2) 2 htab rfl rfl rfl rfl rfl) rfl rfl rfl rfl rfl rfl ?_
        refine z_call rfl rfl (names_Meet_ok a0 a2 x77 q77) rfl rfl (WkL.refl _) rfl rfl rfl rfl rfl rfl ?_
        refine z_nil rfl rfl (fun e he => by simp [isAl] at he) ?_
        obtain ⟨x78, q78, hm⟩ := yes_bind hm
        refine p_call0 (names_Join_ok x5 x77 x78 q78) rfl rfl rfl rfl rfl (WkL.refl _) ?_
        rintro _ rfl
        obtain ⟨x79, q79, hm⟩ := yes_bind hm
        refine p_call0 (names_Same_ok x76 x78 x79 q79) rfl rfl rfl rfl rfl (WkL.refl _) ?_
        rintro _ rfl
        refine p_pickT rfl rfl rfl rfl rfl rfl ?_
        refine p_pure htab rfl rfl rfl rfl ?_
        refine p_split (i := 91) rfl (fun hg80 => ?_) (fun hg80 => ?_)
        · replace hm := yes_t hg80 hm
          obtain ⟨x81, q81, hm⟩ := yes_bind hm
          refine p_call0 (l07_lives_ok x81 q81) rfl rfl rfl rfl rfl (WkL.refl _) ?_
          rintro _ rfl
          refine p_pickT rfl rfl rfl rfl rfl rfl ?_
          refine p_pure htab rfl rfl rfl rfl ?_
          refine ops_nil ?_
          refine then_normal ?_
          refine wpD_ret ?_
          have er82 := yes_eq hm; subst er82
          refine retX.of (s' := ⟨[(6, .v (.bool x81))], [], []⟩) (WkS.perm (WkS.cons rfl (Wk.refl _) (WkS.nil)) (List.Perm.refl _) (List.Perm.refl _)) (retD_mk (hh := []) (.inl rfl) (resL_cons (resOne_tmp rfl) (resL_nil)) (List.nil_sublist _) (List.Sublist.refl _) ?_)
          exact ⟨rfl, rfl, rfl⟩
        · replace hm := yes_f hg80 hm
          refine p_skip rfl rfl rfl ?_
          refine p_pickF rfl rfl rfl rfl rfl rfl ?_
          refine p_pure htab rfl rfl rfl rfl ?_
          refine ops_nil ?_
          refine then_normal ?_
          refine wpD_ret ?_
          have er83 := yes_eq hm; subst er83
          refine retX.of (s' := ⟨[(6, .v (.bool false))], [], []⟩) (WkS.perm (WkS.cons rfl (Wk.refl _) (WkS.nil)) (List.Perm.refl _) (List.Perm.refl _)) (retD_mk (hh := []) (.inl rfl) (resL_cons (resOne_tmp rfl) (resL_nil)) (List.nil_sublist _) (List.Sublist.refl _) ?_)
          exact ⟨rfl, rfl, rfl⟩
      · replace hm := yes_f hs74 hm
        refine wpD_draws 19 [] nlNm1_17 [0,1,2,3,4,5,6,7,8] nlNm1_16 (by kernel_rfl) (by kernel_rfl) (by kernel_rfl) (by rfl) (by rfl) (by kernel_rfl) ?_
        apply Exists.intro
        apply Exists.intro
        apply Exists.intro
        apply Exists.intro
        apply Exists.intro
        apply Exists.intro
        apply Exists.intro
        apply Exists.intro
        apply Exists.intro
        intro bs
        refine z_eM rfl rfl (xm_load (d := eTApiSet a0) 0 htab rfl rfl rfl rfl rfl) rfl rfl rfl rfl rfl rfl ?_
        refine z_eM rfl rfl (xm_load (d := eTApiSet a1) 1 htab rfl rfl rfl rfl rfl) rfl rfl rfl rfl rfl rfl ?_
        refine z_eM rfl rfl (xm_load (d := eTApiSet a2) 2 htab rfl rfl rfl rfl rfl) rfl rfl rfl rfl rfl rfl ?_
        refine z_call rfl rfl (names_Join_ok a1 a2 x70 q70) rfl rfl (WkL.refl _) rfl rfl rfl rfl rfl rfl ?_
        refine z_call rfl rfl (names_Join_ok a0 x70 x71 q71) rfl rfl (WkL.refl _) rfl rfl rfl rfl rfl rfl ?_
        refine z_eM rfl rfl (xm_load (d := eTApiSet x4) 3 htab rfl rfl rfl rfl rfl) rfl rfl rfl rfl rfl rfl ?_
        refine z_eM rfl rfl (xm_load (d := eTApiSet a2) 2 htab rfl rfl rfl rfl rfl) rfl rfl rfl rfl rfl rfl ?_
        refine z_call rfl rfl (names_Join_ok x4 a2 x72 q72) rfl rfl (WkL.refl _) rfl rfl rfl rfl rfl rfl ?_
        refine z_call rfl rfl (names_Same_ok x71 x72 x73 q73) rfl rfl (WkL.refl _) rfl rfl rfl rfl rfl rfl ?_
        refine z_q rfl rfl (ex_pure htab rfl) rfl rfl rfl rfl rfl rfl ?_
        refine z_known (j := 78) (b' := false) rfl hs74 ?_
        refine z_skip rfl rfl rfl rfl ?_
        refine z_skip rfl rfl rfl rfl ?_
        refine z_skip rfl rfl rfl rfl ?_
        refine z_skip rfl rfl rfl rfl ?_
        refine z_skip rfl rfl rfl rfl ?_
        refine z_skip rfl rfl rfl rfl ?_
        refine z_skip rfl rfl rfl rfl ?_
        refine z_skip rfl rfl rfl rfl ?_
        refine z_skip rfl rfl rfl rfl ?_
        refine z_nil rfl rfl (fun e he => by simp [isAl] at he) ?_
        refine p_skip rfl rfl rfl ?_
        refine p_skip rfl rfl rfl ?_
        refine p_pickF rfl rfl rfl rfl rfl rfl ?_
        refine p_pure htab rfl rfl rfl rfl ?_
        refine p_skip rfl rfl rfl ?_
        refine p_pickF rfl rfl rfl rfl rfl rfl ?_
        refine p_pure htab rfl rfl rfl rfl ?_
        refine ops_nil ?_
        refine then_normal ?_
        refine wpD_ret ?_
        have er84 := yes_eq hm; subst er84
        refine retX.of (s' := ⟨[(6, .v (.bool false))], [], []⟩) (WkS.perm (WkS.cons rfl (Wk.refl _) (WkS.nil)) (List.Perm.refl _) (List.Perm.refl _)) (retD_mk (hh := []) (.inl rfl) (resL_cons (resOne_tmp rfl) (resL_nil)) (List.nil_sublist _) (List.Sublist.refl _) ?_)
        exact ⟨rfl, rfl, rfl⟩
noncomputable def l07_NamesClimbs (a0 : List TApiSet) : Option (Bool) :=
  (Option.bind (α := Int × Bool × List ByteArray × Bool × List ByteArray) (loopM (fun (s42 : Int × Int × Bool × List ByteArray × Bool × List ByteArray) => (bif (decide (s42.2.1 < (a0.length : Int))) then ((idx a0 s42.2.1).bind fun x69 => ((names_Join (⟨s42.2.2.1, s42.2.2.2.1⟩ : TApiSet) x69).bind fun x70 => ((names_Same x70 (⟨s42.2.2.1, s42.2.2.2.1⟩ : TApiSet)).bind fun x72 => (Option.bind (α := Int) (bif (!x72) then some (IntKind.i64.wrap (s42.1 + (1 : Int))) else some s42.1) fun y74 => ((idx a0 s42.2.1).bind fun x76 => ((r07_Join (⟨s42.2.2.2.2.1, s42.2.2.2.2.2⟩ : TApiSet) x76).bind fun x78 => some (.next (y74, (IntKind.i64.wrap (s42.2.1 + (1 : Int))), x70.gNull, x70.gNames, x78.gNull, x78.gNames)))))))) else some (.done (s42.1, s42.2.2.1, s42.2.2.2.1, s42.2.2.2.2.1, s42.2.2.2.2.2)))) ((0 : Int), (0 : Int), false, ([] : List ByteArray), false, ([] : List ByteArray))) fun y41 => (bif (decide (y41.1 ≤ (IntKind.i64.wrap ((y41.2.2.2.2.length : Int) + (1 : Int))))) then ((r07_Exact (⟨y41.2.1, y41.2.2.1⟩ : TApiSet) (⟨y41.2.2.2.1, y41.2.2.2.2⟩ : TApiSet)).bind fun x80 => (bif x80 then (l07_lives.bind fun x82 => some x82) else some false)) else some false))
set_option maxRecDepth 100000 in
set_option maxHeartbeats 2000000 in
theorem l07_NamesClimbs_ok (a0 : List TApiSet) (r : Bool) (h0 : l07_NamesClimbs a0 = some r) : CallsD Try.prog 3 [.lst 2 (a0.map eTApiSet) .no] [] [] (fun d h k => d = .v (.bool r) ∧ h = [] ∧ k = []) := by
  have hm := yes_of h0
  unfold l07_NamesClimbs at hm
  clear h0
  refine enterX htab Try.func3 rfl rfl rfl rfl rfl (fun C => ?_)
  refine wpD_seq ?_
  refine wpD_region ?_
  refine p_pure htab rfl rfl rfl rfl ?_
  refine ops_nil ?_
  refine then_normal ?_
  refine wpD_seq ?_
  refine wpD_region ?_
  refine p_alloc htab rfl rfl rfl rfl rfl rfl rfl (fun b1 => ?_)
  refine p_alloc htab rfl rfl rfl rfl rfl rfl rfl (fun b2 => ?_)
  refine ops_nil ?_
  refine then_normal ?_
  refine wpD_seq ?_
  refine wpD_region ?_
  refine p_pure htab rfl rfl rfl rfl ?_
  refine ops_nil ?_
  refine then_normal ?_
  refine wpD_seq ?_
  refine wpD_seq ?_
  refine wpD_region ?_
  refine p_pure htab rfl rfl rfl rfl ?_
  refine ops_nil ?_
  refine then_normal ?_
  obtain ⟨y41, q41, ho41⟩ := yes_bind hm
  refine wpD_mid (Y := Value) (fun z41 => (⟨[(3, .ptr b1 0), (4, .ptr b2 0), (5, .v (.int .i64 y41.1))], [(b1, Blk.cells [.v (.bool y41.2.1), .lst 1 (y41.2.2.1.map eStr) .no] 25), (b2, Blk.cells [.v (.bool y41.2.2.2.1), .lst 1 (y41.2.2.2.2.map eStr) (.cur z41)] 25)], [(1, z41)]⟩ : S)) ?_ ?_
  · clear hm; have hm := yes_of q41
    refine wpD_block ?_
    obtain ⟨u42, hl42, hq42⟩ := yes_m hm
    refine loop_M (Y := Value) hl42 (fun s42 z42 => (⟨[(0, .lst 2 (a0.map eTApiSet) .no), (3, .ptr b1 0), (4, .ptr b2 0), (5, .v (.int .i64 s42.1)), (6, .v (.int .i64 s42.2.1))], [(b1, Blk.cells [.v (.bool s42.2.2.1), .lst 1 (s42.2.2.2.1.map eStr) .no] 25), (b2, Blk.cells [.v (.bool s42.2.2.2.2.1), .lst 1 (s42.2.2.2.2.2.map eStr) (.cur z42)] 25)], [(1, z42)]⟩ : S)) ?_ ?_
    · skip
      refine WkX.cellF (off := 1) 1 1 rfl rfl (by first | exact Or.inl rfl | exact Or.inr rfl) (fun w67 => ?_)
      refine WkX.wk (WkS.blk (ds' := [.v (.bool false), .lst 1 (([] : List ByteArray).map eStr) .no]) (h' := [(b1, Blk.cells [.v (.bool false), .lst 1 (([] : List ByteArray).map eStr) .no] 25), (b2, Blk.cells [.v (.bool false), .lst 1 (([] : List ByteArray).map eStr) (.cur w67)] 25)]) 0 rfl (WkR.cons (WkC.refl _) rfl (WkR.cons (WkC.nil) rfl (WkR.nil))) rfl) ?_
      exact WkX.of w67 (WkS.perm (WkS.cons rfl (Wk.refl _) (WkS.cons rfl (Wk.refl _) (WkS.cons rfl (Wk.refl _) (WkS.cons rfl (Wk.refl _) (WkS.cons rfl (Wk.refl _) (WkS.nil)))))) (List.Perm.refl _) (List.Perm.refl _))
    · intro G42 s42 z42 hm
      refine wpD_seq ?_
      refine wpD_seq ?_
      refine wpD_region ?_
      refine p_pure htab rfl rfl rfl rfl ?_
      refine p_pure htab rfl rfl rfl rfl ?_
      refine p_lenL htab rfl rfl rfl rfl rfl rfl rfl (by first | exact map_len | rfl) ?_
      refine p_pure htab rfl rfl rfl rfl ?_
      refine ops_nil ?_
      refine then_normal ?_
      refine wpD_cond rfl (fun hc68 => ?_) (fun hc68 => ?_)
      · replace hm := yes_t hc68 hm
        refine wpD_skip ?_
        refine then_normal ?_
        refine wpD_seq ?_
        refine wpD_block ?_
        refine wpD_seq ?_
        obtain ⟨x69, q69, hm⟩ := yes_bind hm
        obtain ⟨x70, q70, hm⟩ := yes_bind hm
        refine wpD_draws 7 [(6, [.v (.bool false), .lst 1 [] .full], 25)] [[],[],[],[1],[1,3],[0,1,3,4],[]] [0,1,3,4,5,6] [[],[],[],[1,2],[1,2,3],[0,1,2,3,4],[],[0,1,2,3,4,5,6]] (by kernel_rfl) (by kernel_rfl) (by kernel_rfl) (by rfl) (by rfl) (by kernel_rfl) ?_
        apply Exists.intro
        apply Exists.intro
        apply Exists.intro
        apply Exists.intro
        apply Exists.intro
        refine ⟨.any, ?_⟩
        intro bs
        refine z_eM rfl rfl (xm_load (d := eTApiSet (⟨s42.2.2.1, s42.2.2.2.1⟩ : TApiSet)) 0 htab rfl rfl rfl rfl rfl) rfl rfl rfl rfl rfl rfl ?_
        refine z_e rfl rfl (ex_pure htab rfl) rfl rfl rfl rfl rfl rfl ?_
        refine z_q rfl rfl (ex_pure htab rfl) rfl rfl rfl rfl rfl rfl ?_
        refine z_e rfl rfl (x_elem htab rfl rfl rfl rfl rfl rfl rfl (idx_nonneg q69) (idx_map q69)) rfl rfl rfl rfl rfl rfl ?_
        refine z_eM rfl rfl (xm_loadEl (d := eTApiSet x69) htab rfl rfl rfl rfl rfl) rfl rfl rfl rfl rfl rfl ?_
        refine z_call rfl rfl (names_Join_ok (⟨s42.2.2.1, s42.2.2.2.1⟩ : TApiSet) x69 x70 q70) rfl rfl (WkL.refl _) rfl rfl rfl rfl rfl rfl ?_
        refine z_alloc rfl htab rfl rfl rfl rfl rfl rfl rfl rfl (by simp [dOf, eI64]) (by simp) ?_
        refine z_nil rfl (by simp only [List.map_cons, List.map_nil]; exact rfl) (fun e he => by simp [isAl] at he; subst he; rfl) ?_
        obtain ⟨b71, hb71⟩ : ∃ b, bs 6 = b := ⟨_, rfl⟩
        simp only [hb71]
        clear hb71
        refine p_store (ds' := [.v (.bool x70.gNull), .lst 1 (x70.gNames.map eStr) .no]) (h' := [(b1, Blk.cells [.v (.bool s42.2.2.1), .lst 1 (s42.2.2.2.1.map eStr) .no] 25), (b2, Blk.cells [.v (.bool s42.2.2.2.2.1), .lst 1 (s42.2.2.2.2.2.map eStr) (.cur z42)] 25), (b71, Blk.cells [.v (.bool x70.gNull), .lst 1 (x70.gNames.map eStr) .no] 25)]) 2 htab rfl rfl rfl rfl rfl rfl rfl rfl rfl rfl rfl rfl ?_
        refine ops_nil ?_
        refine then_normal ?_
        refine wpD_seq ?_
        refine wpD_seq ?_
        refine wpD_region ?_
        refine p_load (d := eTApiSet x70) 2 htab rfl rfl rfl rfl rfl rfl rfl rfl ?_
        refine p_load (d := eTApiSet (⟨s42.2.2.1, s42.2.2.2.1⟩ : TApiSet)) 0 htab rfl rfl rfl rfl rfl rfl rfl rfl ?_
        obtain ⟨x72, q72, hm⟩ := yes_bind hm
        refine p_call0 (names_Same_ok x70 (⟨s42.2.2.1, s42.2.2.2.1⟩ : TApiSet) x72 q72) rfl rfl rfl rfl rfl (WkL.refl _) ?_
        rintro _ rfl
        refine p_pure htab rfl rfl rfl rfl ?_
        refine ops_nil ?_
        refine then_normal ?_
        obtain ⟨y74, q74, ho74⟩ := yes_bind hm
        refine wpD_mid (Y := Unit) (fun z74 => (⟨[(0, .lst 2 (a0.map eTApiSet) .no), (3, .ptr b1 0), (4, .ptr b2 0), (5, .v (.int .i64 y74)), (6, .v (.int .i64 s42.2.1)), (7, .ptr b71 0)], [(b1, Blk.cells [.v (.bool s42.2.2.1), .lst 1 (s42.2.2.2.1.map eStr) .no] 25), (b2, Blk.cells [.v (.bool s42.2.2.2.2.1), .lst 1 (s42.2.2.2.2.2.map eStr) (.cur z42)] 25), (b71, Blk.cells [.v (.bool x70.gNull), .lst 1 (x70.gNames.map eStr) .no] 25)], [(1, z42)]⟩ : S)) ?_ ?_
        · clear hm; have hm := yes_of q74
          refine wpD_cond rfl (fun hc75 => ?_) (fun hc75 => ?_)
          · replace hm := yes_t hc75 hm
            refine wpD_region ?_
            refine p_pure htab rfl rfl rfl rfl ?_
            refine p_pure htab rfl rfl rfl rfl ?_
            refine p_pure htab rfl rfl rfl rfl ?_
            refine ops_nil ?_
            have e74 := yes_eq hm; subst e74
            refine ⟨rfl, ?_⟩
            exact WkX.of () (WkS.perm (WkS.cons rfl (Wk.refl _) (WkS.cons rfl (Wk.refl _) (WkS.cons rfl (Wk.refl _) (WkS.cons rfl (Wk.refl _) (WkS.cons rfl (Wk.refl _) (WkS.cons rfl (Wk.refl _) (WkS.nil))))))) (List.Perm.refl _) (List.Perm.refl _))
          · replace hm := yes_f hc75 hm
            refine wpD_skip ?_
            have e74 := yes_eq hm; subst e74
            refine ⟨rfl, ?_⟩
            exact WkX.of () (WkS.perm (WkS.cons rfl (Wk.refl _) (WkS.cons rfl (Wk.refl _) (WkS.cons rfl (Wk.refl _) (WkS.cons rfl (Wk.refl _) (WkS.cons rfl (Wk.refl _) (WkS.cons rfl (Wk.refl _) (WkS.nil))))))) (List.Perm.refl _) (List.Perm.refl _))
        · intro s74 hw74; clear hm; have hm := ho74; clear q74 ho74
          refine then_normal ?_
          refine wpD_wkX hw74 (fun z74 => ?_)
          refine wpD_seq ?_
          refine wpD_region ?_
          refine p_load (d := eTApiSet x70) 2 htab rfl rfl rfl rfl rfl rfl rfl rfl ?_
          refine p_store (ds' := [.v (.bool x70.gNull), .lst 1 (x70.gNames.map eStr) .no]) (h' := [(b1, Blk.cells [.v (.bool x70.gNull), .lst 1 (x70.gNames.map eStr) .no] 25), (b2, Blk.cells [.v (.bool s42.2.2.2.2.1), .lst 1 (s42.2.2.2.2.2.map eStr) (.cur z42)] 25), (b71, Blk.cells [.v (.bool x70.gNull), .lst 1 (x70.gNames.map eStr) .no] 25)]) 0 htab rfl rfl rfl rfl rfl rfl rfl rfl rfl rfl rfl rfl ?_
          refine ops_nil ?_
          refine then_normal ?_
          obtain ⟨x76, q76, hm⟩ := yes_bind hm
          refine wpD_draws 5 [] [[],[],[],[1],[1,3]] [0,1,3,4] [[],[],[],[1,2],[1,2,3],[0,1,2,3,4],[0,1,2,3,4,5]] (by kernel_rfl) (by kernel_rfl) (by kernel_rfl) (by rfl) (by rfl) (by kernel_rfl) ?_
          apply Exists.intro
          apply Exists.intro
          apply Exists.intro
          apply Exists.intro
          intro bs
          refine z_eM rfl rfl (xm_load (d := .agg [.v (.bool s42.2.2.2.2.1), .lst 1 (s42.2.2.2.2.2.map eStr) (.cur z42)]) 1 htab rfl rfl rfl rfl rfl) rfl rfl rfl rfl rfl rfl ?_
          refine z_e rfl rfl (ex_pure htab rfl) rfl rfl rfl rfl rfl rfl ?_
          refine z_q rfl rfl (ex_pure htab rfl) rfl rfl rfl rfl rfl rfl ?_
          refine z_e rfl rfl (x_elem htab rfl rfl rfl rfl rfl rfl rfl (idx_nonneg q76) (idx_map q76)) rfl rfl rfl rfl rfl rfl ?_
          refine z_eM rfl rfl (xm_loadEl (d := eTApiSet x76) htab rfl rfl rfl rfl rfl) rfl rfl rfl rfl rfl rfl ?_
          refine z_nil rfl rfl (fun e he => by simp [isAl] at he) ?_
          obtain ⟨x78, q78, hm⟩ := yes_bind hm
          refine p_callG (r07_Join_ok (⟨s42.2.2.2.2.1, s42.2.2.2.2.2⟩ : TApiSet) x76 x78 q78) rfl rfl rfl rfl rfl (WkL.cons (Wk.agg (WkR.cons (WkC.refl _) rfl (WkR.cons (WkC.no) rfl (WkR.nil)))) (WkL.cons (Wk.refl _) (WkL.refl _))) (List.Perm.refl _) (List.Perm.refl _) ?_
          rintro _ _ _ ⟨w77, rfl, rfl, rfl⟩
          refine p_store (ds' := [.v (.bool x78.gNull), .lst 1 (x78.gNames.map eStr) (.cur w77)]) (h' := [(b1, Blk.cells [.v (.bool x70.gNull), .lst 1 (x70.gNames.map eStr) .no] 25), (b2, Blk.cells [.v (.bool x78.gNull), .lst 1 (x78.gNames.map eStr) (.cur w77)] 25), (b71, Blk.cells [.v (.bool x70.gNull), .lst 1 (x70.gNames.map eStr) .no] 25)]) 1 htab rfl rfl rfl rfl rfl rfl rfl rfl rfl rfl rfl rfl ?_
          refine ops_nil ?_
          refine block_normal ?_
          refine then_normal ?_
          refine wpD_region ?_
          refine p_pure htab rfl rfl rfl rfl ?_
          refine p_pure htab rfl rfl rfl rfl ?_
          refine p_pure htab rfl rfl rfl rfl ?_
          refine ops_nil ?_
          refine then_normal ⟨_, lp_next hm, ?_⟩
          exact WkX.of w77 (WkS.perm (WkS.cons rfl (Wk.refl _) (WkS.cons rfl (Wk.refl _) (WkS.cons rfl (Wk.refl _) (WkS.cons rfl (Wk.refl _) (WkS.cons rfl (Wk.refl _) (WkS.nil)))))) (List.Perm.refl _) (List.Perm.refl _))
      · replace hm := yes_f hc68 hm
        refine wpD_exit ?_
        refine then_exit ?_
        have e42 := lp_done hm; subst e42; clear hm; have hm := hq42
        refine then_exit ?_
        refine block_hit ?_
        have e41 := yes_eq hm; subst e41
        refine ⟨rfl, ?_⟩
        exact WkX.of z42 (WkS.perm (WkS.cons rfl (Wk.refl _) (WkS.cons rfl (Wk.refl _) (WkS.cons rfl (Wk.refl _) (WkS.nil)))) (List.Perm.refl _) (List.Perm.refl _))
  · intro s41 hw41; clear hm; have hm := ho41; clear q41 ho41
    refine then_normal ?_
    refine wpD_wkX hw41 (fun z41 => ?_)
    refine wpD_seq ?_
    refine wpD_region ?_
    refine p_pure htab rfl rfl rfl rfl ?_
    refine p_pure htab rfl rfl rfl rfl ?_
    refine p_load 1 htab rfl rfl rfl rfl rfl rfl rfl rfl ?_
    refine p_lenL htab rfl rfl rfl rfl rfl rfl rfl (by first | exact map_len | rfl) ?_
    refine p_pure htab rfl rfl rfl rfl ?_
    refine p_pure htab rfl rfl rfl rfl ?_
    refine p_pure htab rfl rfl rfl rfl ?_
    refine p_split (i := 39) rfl (fun hg79 => ?_) (fun hg79 => ?_)
    · replace hm := yes_t hg79 hm
      refine p_load (d := eTApiSet (⟨y41.2.1, y41.2.2.1⟩ : TApiSet)) 0 htab rfl rfl rfl rfl rfl rfl rfl rfl ?_
      refine p_load (d := .agg [.v (.bool y41.2.2.2.1), .lst 1 (y41.2.2.2.2.map eStr) (.cur z41)]) 1 htab rfl rfl rfl rfl rfl rfl rfl rfl ?_
      obtain ⟨x80, q80, hm⟩ := yes_bind hm
      refine p_call0 (r07_Exact_ok (⟨y41.2.1, y41.2.2.1⟩ : TApiSet) (⟨y41.2.2.2.1, y41.2.2.2.2⟩ : TApiSet) x80 q80) rfl rfl rfl rfl rfl (WkL.cons (Wk.refl _) (WkL.cons (Wk.agg (WkR.cons (WkC.refl _) rfl (WkR.cons (WkC.no) rfl (WkR.nil)))) (WkL.refl _))) ?_
      rintro _ rfl
      refine p_pickT rfl rfl rfl rfl rfl rfl ?_
      refine p_pure htab rfl rfl rfl rfl ?_
      refine p_split (i := 44) rfl (fun hg81 => ?_) (fun hg81 => ?_)
      · replace hm := yes_t hg81 hm
        obtain ⟨x82, q82, hm⟩ := yes_bind hm
        refine p_call0 (l07_lives_ok x82 q82) rfl rfl rfl rfl rfl (WkL.refl _) ?_
        rintro _ rfl
        refine p_pickT rfl rfl rfl rfl rfl rfl ?_
        refine p_pure htab rfl rfl rfl rfl ?_
        refine ops_nil ?_
        refine then_normal ?_
        refine wpD_ret ?_
        have er83 := yes_eq hm; subst er83
        refine retX.of (s' := ⟨[(2, .v (.bool x82))], [], []⟩) (WkS.perm (WkS.cons rfl (Wk.refl _) (WkS.nil)) (List.Perm.refl _) (List.Perm.refl _)) (retD_mk (hh := []) (.inl rfl) (resL_cons (resOne_tmp rfl) (resL_nil)) (List.nil_sublist _) (List.Sublist.refl _) ?_)
        exact ⟨rfl, rfl, rfl⟩
      · replace hm := yes_f hg81 hm
        refine p_skip rfl rfl rfl ?_
        refine p_pickF rfl rfl rfl rfl rfl rfl ?_
        refine p_pure htab rfl rfl rfl rfl ?_
        refine ops_nil ?_
        refine then_normal ?_
        refine wpD_ret ?_
        have er84 := yes_eq hm; subst er84
        refine retX.of (s' := ⟨[(2, .v (.bool false))], [], []⟩) (WkS.perm (WkS.cons rfl (Wk.refl _) (WkS.nil)) (List.Perm.refl _) (List.Perm.refl _)) (retD_mk (hh := []) (.inl rfl) (resL_cons (resOne_tmp rfl) (resL_nil)) (List.nil_sublist _) (List.Sublist.refl _) ?_)
        exact ⟨rfl, rfl, rfl⟩
    · replace hm := yes_f hg79 hm
      refine p_skip rfl rfl rfl ?_
      refine p_skip rfl rfl rfl ?_
      refine p_skip rfl rfl rfl ?_
      refine p_pickF rfl rfl rfl rfl rfl rfl ?_
      refine p_pure htab rfl rfl rfl rfl ?_
      refine p_skip rfl rfl rfl ?_
      refine p_pickF rfl rfl rfl rfl rfl rfl ?_
      refine p_pure htab rfl rfl rfl rfl ?_
      refine ops_nil ?_
      refine then_normal ?_
      refine wpD_ret ?_
      have er85 := yes_eq hm; subst er85
      refine retX.of (s' := ⟨[(2, .v (.bool false))], [], []⟩) (WkS.perm (WkS.cons rfl (Wk.refl _) (WkS.nil)) (List.Perm.refl _) (List.Perm.refl _)) (retD_mk (hh := []) (.inl rfl) (resL_cons (resOne_tmp rfl) (resL_nil)) (List.nil_sublist _) (List.Sublist.refl _) ?_)
      exact ⟨rfl, rfl, rfl⟩
end Go.Proofs.Ytaofljigbobdpaa.Ab
