/- Layer 5, the program's, on. -/
import Derived.Test.YtjbpfgknhpdkaaaCg1
namespace Go.Proofs.Ytjbpfgknhpdkaaa.Ab
open Go
set_option linter.all false
noncomputable def math_bits_Div64 (a0 : Int) (a1 : Int) (a2 : Int) : Option (Int × Int) :=
  (bif (a2 == (0 : Int)) then none else (bif (decide (a2 ≤ a0)) then none else (bif (a0 == (0 : Int)) then ((need (a2 != 0)).bind fun x9 => ((need (a2 != 0)).bind fun x10 => some ((IntKind.u64.wrap (a1.tdiv a2)), (a1.tmod a2)))) else ((need (pU a2)).bind fun x12 => ((need (decide (0 ≤ (IntKind.u64.wrap (lead a2))))).bind fun x13 => ((need (decide (0 ≤ (IntKind.u64.wrap (lead a2))))).bind fun x14 => ((need (decide (0 ≤ (IntKind.u64.wrap ((64 : Int) - (IntKind.u64.wrap (lead a2))))))).bind fun x15 => ((need (decide (0 ≤ (IntKind.u64.wrap (lead a2))))).bind fun x16 => ((need ((shI .shr .u64 (shI .shl .u64 a2 (IntKind.u64.wrap (lead a2))) (32 : Int)) != 0)).bind fun x17 => (Option.bind (α := Int) (loopM (fun (s36 : Int × Int) => (Option.bind (α := Bool) (bif (decide ((4294967296 : Int) ≤ s36.1)) then some true else some (decide ((IntKind.u64.wrap ((IntKind.u64.wrap ((4294967296 : Int) * s36.2)) + (shI .shr .u64 (shI .shl .u64 a1 (IntKind.u64.wrap (lead a2))) (32 : Int)))) < (IntKind.u64.wrap (s36.1 * (bitI .and .u64 (shI .shl .u64 a2 (IntKind.u64.wrap (lead a2))) (4294967295 : Int))))))) fun y48 => (bif y48 then (bif (decide ((4294967296 : Int) ≤ (IntKind.u64.wrap (s36.2 + (shI .shr .u64 (shI .shl .u64 a2 (IntKind.u64.wrap (lead a2))) (32 : Int)))))) then some (.done (IntKind.u64.wrap (s36.1 - (1 : Int)))) else some (.next ((IntKind.u64.wrap (s36.1 - (1 : Int))), (IntKind.u64.wrap (s36.2 + (shI .shr .u64 (shI .shl .u64 a2 (IntKind.u64.wrap (lead a2))) (32 : Int))))))) else some (.done s36.1)))) ((IntKind.u64.wrap ((bitI .or .u64 (shI .shl .u64 a0 (IntKind.u64.wrap (lead a2))) (shI .shr .u64 a1 (IntKind.u64.wrap ((64 : Int) - (IntKind.u64.wrap (lead a2)))))).tdiv (shI .shr .u64 (shI .shl .u64 a2 (IntKind.u64.wrap (lead a2))) (32 : Int)))), (IntKind.u64.wrap ((bitI .or .u64 (shI .shl .u64 a0 (IntKind.u64.wrap (lead a2))) (shI .shr .u64 a1 (IntKind.u64.wrap ((64 : Int) - (IntKind.u64.wrap (lead a2)))))) - (IntKind.u64.wrap ((IntKind.u64.wrap ((bitI .or .u64 (shI .shl .u64 a0 (IntKind.u64.wrap (lead a2))) (shI .shr .u64 a1 (IntKind.u64.wrap ((64 : Int) - (IntKind.u64.wrap (lead a2)))))).tdiv (shI .shr .u64 (shI .shl .u64 a2 (IntKind.u64.wrap (lead a2))) (32 : Int)))) * (shI .shr .u64 (shI .shl .u64 a2 (IntKind.u64.wrap (lead a2))) (32 : Int)))))))) fun y35 => ((need ((shI .shr .u64 (shI .shl .u64 a2 (IntKind.u64.wrap (lead a2))) (32 : Int)) != 0)).bind fun x52 => (Option.bind (α := Int) (loopM (fun (s71 : Int × Int) => (Option.bind (α := Bool) (bif (decide ((4294967296 : Int) ≤ s71.2)) then some true else some (decide ((IntKind.u64.wrap ((IntKind.u64.wrap ((4294967296 : Int) * s71.1)) + (bitI .and .u64 (shI .shl .u64 a1 (IntKind.u64.wrap (lead a2))) (4294967295 : Int)))) < (IntKind.u64.wrap (s71.2 * (bitI .and .u64 (shI .shl .u64 a2 (IntKind.u64.wrap (lead a2))) (4294967295 : Int))))))) fun y83 => (bif y83 then (bif (decide ((4294967296 : Int) ≤ (IntKind.u64.wrap (s71.1 + (shI .shr .u64 (shI .shl .u64 a2 (IntKind.u64.wrap (lead a2))) (32 : Int)))))) then some (.done (IntKind.u64.wrap (s71.2 - (1 : Int)))) else some (.next ((IntKind.u64.wrap (s71.1 + (shI .shr .u64 (shI .shl .u64 a2 (IntKind.u64.wrap (lead a2))) (32 : Int)))), (IntKind.u64.wrap (s71.2 - (1 : Int)))))) else some (.done s71.2)))) ((IntKind.u64.wrap ((IntKind.u64.wrap ((IntKind.u64.wrap ((IntKind.u64.wrap ((bitI .or .u64 (shI .shl .u64 a0 (IntKind.u64.wrap (lead a2))) (shI .shr .u64 a1 (IntKind.u64.wrap ((64 : Int) - (IntKind.u64.wrap (lead a2)))))) * (4294967296 : Int))) + (shI .shr .u64 (shI .shl .u64 a1 (IntKind.u64.wrap (lead a2))) (32 : Int)))) - (IntKind.u64.wrap (y35 * (shI .shl .u64 a2 (IntKind.u64.wrap (lead a2))))))) - (IntKind.u64.wrap ((IntKind.u64.wrap ((IntKind.u64.wrap ((IntKind.u64.wrap ((IntKind.u64.wrap ((bitI .or .u64 (shI .shl .u64 a0 (IntKind.u64.wrap (lead a2))) (shI .shr .u64 a1 (IntKind.u64.wrap ((64 : Int) - (IntKind.u64.wrap (lead a2)))))) * (4294967296 : Int))) + (shI .shr .u64 (shI .shl .u64 a1 (IntKind.u64.wrap (lead a2))) (32 : Int)))) - (IntKind.u64.wrap (y35 * (shI .shl .u64 a2 (IntKind.u64.wrap (lead a2))))))).tdiv (shI .shr .u64 (shI .shl .u64 a2 (IntKind.u64.wrap (lead a2))) (32 : Int)))) * (shI .shr .u64 (shI .shl .u64 a2 (IntKind.u64.wrap (lead a2))) (32 : Int)))))), (IntKind.u64.wrap ((IntKind.u64.wrap ((IntKind.u64.wrap ((IntKind.u64.wrap ((bitI .or .u64 (shI .shl .u64 a0 (IntKind.u64.wrap (lead a2))) (shI .shr .u64 a1 (IntKind.u64.wrap ((64 : Int) - (IntKind.u64.wrap (lead a2)))))) * (4294967296 : Int))) + (shI .shr .u64 (shI .shl .u64 a1 (IntKind.u64.wrap (lead a2))) (32 : Int)))) - (IntKind.u64.wrap (y35 * (shI .shl .u64 a2 (IntKind.u64.wrap (lead a2))))))).tdiv (shI .shr .u64 (shI .shl .u64 a2 (IntKind.u64.wrap (lead a2))) (32 : Int)))))) fun y70 => ((need (decide (0 ≤ (IntKind.u64.wrap (lead a2))))).bind fun x87 => some ((IntKind.u64.wrap ((IntKind.u64.wrap (y35 * (4294967296 : Int))) + y70)), (shI .shr .u64 (IntKind.u64.wrap ((IntKind.u64.wrap ((IntKind.u64.wrap ((IntKind.u64.wrap ((IntKind.u64.wrap ((IntKind.u64.wrap ((bitI .or .u64 (shI .shl .u64 a0 (IntKind.u64.wrap (lead a2))) (shI .shr .u64 a1 (IntKind.u64.wrap ((64 : Int) - (IntKind.u64.wrap (lead a2)))))) * (4294967296 : Int))) + (shI .shr .u64 (shI .shl .u64 a1 (IntKind.u64.wrap (lead a2))) (32 : Int)))) - (IntKind.u64.wrap (y35 * (shI .shl .u64 a2 (IntKind.u64.wrap (lead a2))))))) * (4294967296 : Int))) + (bitI .and .u64 (shI .shl .u64 a1 (IntKind.u64.wrap (lead a2))) (4294967295 : Int)))) - (IntKind.u64.wrap (y70 * (shI .shl .u64 a2 (IntKind.u64.wrap (lead a2))))))) (IntKind.u64.wrap (lead a2)))))))))))))))))
set_option maxRecDepth 100000 in
set_option maxHeartbeats 2000000 in
theorem math_bits_Div64_ok (a0 : Int) (a1 : Int) (a2 : Int) (r : Int × Int) (h0 : math_bits_Div64 a0 a1 a2 = some r) : CallsD Try.prog 72 [.v (.int .u64 a0), .v (.int .u64 a1), .v (.int .u64 a2)] [] [] (fun d h k => d = .tup [.v (.int .u64 r.1), .v (.int .u64 r.2)] ∧ h = [] ∧ k = []) := by
  have hm := yes_of h0
  unfold math_bits_Div64 at hm
  clear h0
  refine enterX htab Try.func72 rfl rfl rfl rfl rfl (fun C => ?_)
  refine wpD_seq ?_
  refine wpD_region ?_
  refine p_pure htab rfl rfl rfl rfl ?_
  refine p_pure htab rfl rfl rfl rfl ?_
  refine ops_nil ?_
  refine then_normal ?_
  refine wpD_seq ?_
  refine wpD_seq ?_
  refine wpD_region ?_
  refine p_pure htab rfl rfl rfl rfl ?_
  refine p_pure htab rfl rfl rfl rfl ?_
  refine ops_nil ?_
  refine then_normal ?_
  refine wpD_cond rfl (fun hc2 => ?_) (fun hc2 => ?_)
  · replace hm := yes_t hc2 hm
    exact (yes_none hm).elim
  · replace hm := yes_f hc2 hm
    refine wpD_skip ?_
    refine then_normal ?_
    refine wpD_seq ?_
    refine wpD_seq ?_
    refine wpD_region ?_
    refine p_pure htab rfl rfl rfl rfl ?_
    refine p_pure htab rfl rfl rfl rfl ?_
    refine p_pure htab rfl rfl rfl rfl ?_
    refine ops_nil ?_
    refine then_normal ?_
    refine wpD_cond rfl (fun hc4 => ?_) (fun hc4 => ?_)
    · replace hm := yes_t hc4 hm
      exact (yes_none hm).elim
    · replace hm := yes_f hc4 hm
      refine wpD_skip ?_
      refine then_normal ?_
      refine wpD_seq ?_
      refine wpD_seq ?_
      refine wpD_region ?_
      refine p_pure htab rfl rfl rfl rfl ?_
      refine p_pure htab rfl rfl rfl rfl ?_
      refine ops_nil ?_
      refine then_normal ?_
      refine wpD_cond rfl (fun hc8 => ?_) (fun hc8 => ?_)
      · replace hm := yes_t hc8 hm
        refine wpD_seq ?_
        obtain ⟨x9, q9, hm⟩ := yes_bind hm
        obtain ⟨x10, q10, hm⟩ := yes_bind hm
        refine wpD_draws 7 [] [[],[],[],[],[],[],[]] [] [[],[],[0,1],[],[],[3,4],[0,1,2],[0,1,2,3,4,5,6]] (by kernel_rfl) (by kernel_rfl) (by kernel_rfl) (by rfl) (by rfl) (by kernel_rfl) ?_
        intro bs
        refine z_q rfl rfl (ex_pure htab rfl) rfl rfl rfl rfl rfl rfl ?_
        refine z_q rfl rfl (ex_pure htab rfl) rfl rfl rfl rfl rfl rfl ?_
        refine z_q rfl rfl (x_div rfl rfl rfl rfl (by simpa using need_ok q9)) rfl rfl rfl rfl rfl rfl ?_
        refine z_q rfl rfl (ex_pure htab rfl) rfl rfl rfl rfl rfl rfl ?_
        refine z_q rfl rfl (ex_pure htab rfl) rfl rfl rfl rfl rfl rfl ?_
        refine z_q rfl rfl (x_div rfl rfl rfl rfl (by simpa using need_ok q10)) rfl rfl rfl rfl rfl rfl ?_
        refine z_q rfl rfl (ex_pure htab rfl) rfl rfl rfl rfl rfl rfl ?_
        refine z_nil rfl rfl (fun e he => by simp [isAl] at he) ?_
        refine p_pure htab rfl rfl rfl rfl ?_
        refine ops_nil ?_
        refine then_normal ?_
        refine wpD_ret ?_
        refine then_ret ?_
        have er11 := yes_eq hm; subst er11
        refine retX.of (s' := ⟨[(6, .v (.int .u64 (IntKind.u64.wrap (a1.tdiv a2)))), (7, .v (.int .u64 (a1.tmod a2)))], [], []⟩) (WkS.perm (WkS.cons rfl (Wk.refl _) (WkS.cons rfl (Wk.refl _) (WkS.nil))) (List.Perm.refl _) (List.Perm.refl _)) (retD_mk (hh := []) (.inl rfl) (resL_cons (resOne_tmp rfl) (resL_cons (resOne_tmp rfl) (resL_nil))) (List.nil_sublist _) (List.Sublist.refl _) ?_)
        exact ⟨rfl, rfl, rfl⟩
      · replace hm := yes_f hc8 hm
        refine wpD_skip ?_
        refine then_normal ?_
        refine wpD_seq ?_
        refine wpD_region ?_
        refine p_pure htab rfl rfl rfl rfl ?_
        obtain ⟨x12, q12, hm⟩ := yes_bind hm
        refine p_call0 (lead_ok a2 (need_ok q12)) rfl rfl rfl rfl rfl (WkL.refl _) ?_
        rintro _ rfl
        refine p_pure htab rfl rfl rfl rfl ?_
        refine p_pure htab rfl rfl rfl rfl ?_
        refine ops_nil ?_
        refine then_normal ?_
        refine wpD_seq ?_
        refine wpD_region ?_
        refine p_pure htab rfl rfl rfl rfl ?_
        refine p_pure htab rfl rfl rfl rfl ?_
        obtain ⟨x13, q13, hm⟩ := yes_bind hm
        refine p_sh rfl rfl rfl rfl rfl rfl rfl (of_decide_eq_true (need_ok q13)) ?_
        refine p_pure htab rfl rfl rfl rfl ?_
        refine ops_nil ?_
        refine then_normal ?_
        refine wpD_seq ?_
        refine wpD_region ?_
        refine p_pure htab rfl rfl rfl rfl ?_
        refine p_sh rfl rfl rfl rfl rfl rfl rfl (by decide) ?_
        refine p_pure htab rfl rfl rfl rfl ?_
        refine ops_nil ?_
        refine then_normal ?_
        refine wpD_seq ?_
        refine wpD_region ?_
        refine p_pure htab rfl rfl rfl rfl ?_
        refine p_bit rfl rfl rfl rfl rfl rfl rfl ?_
        refine p_pure htab rfl rfl rfl rfl ?_
        refine ops_nil ?_
        refine then_normal ?_
        refine wpD_seq ?_
        refine wpD_region ?_
        refine p_pure htab rfl rfl rfl rfl ?_
        refine p_pure htab rfl rfl rfl rfl ?_
        obtain ⟨x14, q14, hm⟩ := yes_bind hm
        refine p_sh rfl rfl rfl rfl rfl rfl rfl (of_decide_eq_true (need_ok q14)) ?_
        refine p_pure htab rfl rfl rfl rfl ?_
        refine p_pure htab rfl rfl rfl rfl ?_
        refine p_pure htab rfl rfl rfl rfl ?_
        obtain ⟨x15, q15, hm⟩ := yes_bind hm
        refine p_sh rfl rfl rfl rfl rfl rfl rfl (of_decide_eq_true (need_ok q15)) ?_
        refine p_bit rfl rfl rfl rfl rfl rfl rfl ?_
        refine p_pure htab rfl rfl rfl rfl ?_
        refine ops_nil ?_
        refine then_normal ?_
        refine wpD_seq ?_
        refine wpD_region ?_
        refine p_pure htab rfl rfl rfl rfl ?_
        refine p_pure htab rfl rfl rfl rfl ?_
        obtain ⟨x16, q16, hm⟩ := yes_bind hm
        refine p_sh rfl rfl rfl rfl rfl rfl rfl (of_decide_eq_true (need_ok q16)) ?_
        refine p_pure htab rfl rfl rfl rfl ?_
        refine ops_nil ?_
        refine then_normal ?_
        refine wpD_seq ?_
        refine wpD_region ?_
        refine p_pure htab rfl rfl rfl rfl ?_
        refine p_sh rfl rfl rfl rfl rfl rfl rfl (by decide) ?_
        refine p_pure htab rfl rfl rfl rfl ?_
        refine ops_nil ?_
        refine then_normal ?_
        refine wpD_seq ?_
        refine wpD_region ?_
        refine p_pure htab rfl rfl rfl rfl ?_
        refine p_bit rfl rfl rfl rfl rfl rfl rfl ?_
        refine p_pure htab rfl rfl rfl rfl ?_
        refine ops_nil ?_
        refine then_normal ?_
        refine wpD_seq ?_
        refine wpD_region ?_
        refine p_pure htab rfl rfl rfl rfl ?_
        refine p_pure htab rfl rfl rfl rfl ?_
        obtain ⟨x17, q17, hm⟩ := yes_bind hm
        refine p_div rfl rfl rfl rfl rfl rfl rfl (by simpa using need_ok q17) ?_
        refine p_pure htab rfl rfl rfl rfl ?_
        refine ops_nil ?_
        refine then_normal ?_
        refine wpD_seq ?_
        refine wpD_region ?_
        refine p_pure htab rfl rfl rfl rfl ?_
        refine p_pure htab rfl rfl rfl rfl ?_
        refine p_pure htab rfl rfl rfl rfl ?_
        refine p_pure htab rfl rfl rfl rfl ?_
        refine p_pure htab rfl rfl rfl rfl ?_
        refine p_pure htab rfl rfl rfl rfl ?_
        refine ops_nil ?_
        refine then_normal ?_
        refine wpD_seq ?_
        obtain ⟨y35, q35, ho35⟩ := yes_bind hm
        refine wpD_mid (Y := Unit) (fun z35 => (⟨[(2, .v (.int .u64 (shI .shl .u64 a2 (IntKind.u64.wrap (lead a2))))), (8, .v (.int .u64 (IntKind.u64.wrap (lead a2)))), (9, .v (.int .u64 (shI .shr .u64 (shI .shl .u64 a2 (IntKind.u64.wrap (lead a2))) (32 : Int)))), (10, .v (.int .u64 (bitI .and .u64 (shI .shl .u64 a2 (IntKind.u64.wrap (lead a2))) (4294967295 : Int)))), (11, .v (.int .u64 (bitI .or .u64 (shI .shl .u64 a0 (IntKind.u64.wrap (lead a2))) (shI .shr .u64 a1 (IntKind.u64.wrap ((64 : Int) - (IntKind.u64.wrap (lead a2)))))))), (13, .v (.int .u64 (shI .shr .u64 (shI .shl .u64 a1 (IntKind.u64.wrap (lead a2))) (32 : Int)))), (14, .v (.int .u64 (bitI .and .u64 (shI .shl .u64 a1 (IntKind.u64.wrap (lead a2))) (4294967295 : Int)))), (15, .v (.int .u64 y35))], [], []⟩ : S)) ?_ ?_
        · clear hm; have hm := yes_of q35
          refine wpD_block ?_
          obtain ⟨u36, hl36, hq36⟩ := yes_m hm
          refine loop_M (Y := Unit) hl36 (fun s36 z36 => (⟨[(2, .v (.int .u64 (shI .shl .u64 a2 (IntKind.u64.wrap (lead a2))))), (8, .v (.int .u64 (IntKind.u64.wrap (lead a2)))), (9, .v (.int .u64 (shI .shr .u64 (shI .shl .u64 a2 (IntKind.u64.wrap (lead a2))) (32 : Int)))), (10, .v (.int .u64 (bitI .and .u64 (shI .shl .u64 a2 (IntKind.u64.wrap (lead a2))) (4294967295 : Int)))), (11, .v (.int .u64 (bitI .or .u64 (shI .shl .u64 a0 (IntKind.u64.wrap (lead a2))) (shI .shr .u64 a1 (IntKind.u64.wrap ((64 : Int) - (IntKind.u64.wrap (lead a2)))))))), (13, .v (.int .u64 (shI .shr .u64 (shI .shl .u64 a1 (IntKind.u64.wrap (lead a2))) (32 : Int)))), (14, .v (.int .u64 (bitI .and .u64 (shI .shl .u64 a1 (IntKind.u64.wrap (lead a2))) (4294967295 : Int)))), (15, .v (.int .u64 s36.1)), (16, .v (.int .u64 s36.2))], [], []⟩ : S)) ?_ ?_
          · skip
            exact WkX.of () (WkS.perm (WkS.cons rfl (Wk.refl _) (WkS.cons rfl (Wk.refl _) (WkS.cons rfl (Wk.refl _) (WkS.cons rfl (Wk.refl _) (WkS.cons rfl (Wk.refl _) (WkS.cons rfl (Wk.refl _) (WkS.cons rfl (Wk.refl _) (WkS.cons rfl (Wk.refl _) (WkS.cons rfl (Wk.refl _) (WkS.nil)))))))))) (List.Perm.refl _) (List.Perm.refl _))
          · intro G36 s36 z36 hm
            refine wpD_seq ?_
            refine wpD_seq ?_
            obtain ⟨y48, q48, ho48⟩ := yes_bind hm
            refine wpD_mid (Y := Unit) (fun z48 => (⟨[(2, .v (.int .u64 (shI .shl .u64 a2 (IntKind.u64.wrap (lead a2))))), (8, .v (.int .u64 (IntKind.u64.wrap (lead a2)))), (9, .v (.int .u64 (shI .shr .u64 (shI .shl .u64 a2 (IntKind.u64.wrap (lead a2))) (32 : Int)))), (10, .v (.int .u64 (bitI .and .u64 (shI .shl .u64 a2 (IntKind.u64.wrap (lead a2))) (4294967295 : Int)))), (11, .v (.int .u64 (bitI .or .u64 (shI .shl .u64 a0 (IntKind.u64.wrap (lead a2))) (shI .shr .u64 a1 (IntKind.u64.wrap ((64 : Int) - (IntKind.u64.wrap (lead a2)))))))), (13, .v (.int .u64 (shI .shr .u64 (shI .shl .u64 a1 (IntKind.u64.wrap (lead a2))) (32 : Int)))), (14, .v (.int .u64 (bitI .and .u64 (shI .shl .u64 a1 (IntKind.u64.wrap (lead a2))) (4294967295 : Int)))), (15, .v (.int .u64 s36.1)), (16, .v (.int .u64 s36.2)), (78, .v (.bool y48))], [], []⟩ : S)) ?_ ?_
            · clear hm; have hm := yes_of q48
              refine wpD_region ?_
              refine p_pure htab rfl rfl rfl rfl ?_
              refine p_pure htab rfl rfl rfl rfl ?_
              refine p_pure htab rfl rfl rfl rfl ?_
              refine p_split (i := 69) rfl (fun hg49 => ?_) (fun hg49 => ?_)
              · replace hm := yes_t hg49 hm
                refine p_skip rfl rfl rfl ?_
                refine p_skip rfl rfl rfl ?_
                refine p_skip rfl rfl rfl ?_
                refine p_skip rfl rfl rfl ?_
                refine p_skip rfl rfl rfl ?_
                refine p_skip rfl rfl rfl ?_
                refine p_skip rfl rfl rfl ?_
                refine p_skip rfl rfl rfl ?_
                refine p_pickT rfl rfl rfl rfl rfl rfl ?_
                refine ops_nil ?_
                have e48 := yes_eq hm; subst e48
                refine ⟨rfl, ?_⟩
                exact WkX.of () (WkS.perm (WkS.cons rfl (Wk.refl _) (WkS.cons rfl (Wk.refl _) (WkS.cons rfl (Wk.refl _) (WkS.cons rfl (Wk.refl _) (WkS.cons rfl (Wk.refl _) (WkS.cons rfl (Wk.refl _) (WkS.cons rfl (Wk.refl _) (WkS.cons rfl (Wk.refl _) (WkS.cons rfl (Wk.refl _) (WkS.cons rfl (Wk.refl _) (WkS.nil))))))))))) (List.Perm.refl _) (List.Perm.refl _))
              · replace hm := yes_f hg49 hm
                refine p_pure htab rfl rfl rfl rfl ?_
                refine p_pure htab rfl rfl rfl rfl ?_
                refine p_pure htab rfl rfl rfl rfl ?_
                refine p_pure htab rfl rfl rfl rfl ?_
                refine p_pure htab rfl rfl rfl rfl ?_
                refine p_pure htab rfl rfl rfl rfl ?_
                refine p_pure htab rfl rfl rfl rfl ?_
                refine p_pure htab rfl rfl rfl rfl ?_
                refine p_pickF rfl rfl rfl rfl rfl rfl ?_
                refine ops_nil ?_
                have e48 := yes_eq hm; subst e48
                refine ⟨rfl, ?_⟩
                exact WkX.of () (WkS.perm (WkS.cons rfl (Wk.refl _) (WkS.cons rfl (Wk.refl _) (WkS.cons rfl (Wk.refl _) (WkS.cons rfl (Wk.refl _) (WkS.cons rfl (Wk.refl _) (WkS.cons rfl (Wk.refl _) (WkS.cons rfl (Wk.refl _) (WkS.cons rfl (Wk.refl _) (WkS.cons rfl (Wk.refl _) (WkS.cons rfl (Wk.refl _) (WkS.nil))))))))))) (List.Perm.refl _) (List.Perm.refl _))
            · intro s48 hw48; clear hm; have hm := ho48; clear q48 ho48
              refine then_normal ?_
              refine wpD_wkX hw48 (fun z48 => ?_)
              refine wpD_cond rfl (fun hc50 => ?_) (fun hc50 => ?_)
              · replace hm := yes_t hc50 hm
                refine wpD_skip ?_
                refine then_normal ?_
                refine wpD_block ?_
                refine wpD_seq ?_
                refine wpD_region ?_
                refine p_pure htab rfl rfl rfl rfl ?_
                refine p_pure htab rfl rfl rfl rfl ?_
                refine p_pure htab rfl rfl rfl rfl ?_
                refine ops_nil ?_
                refine then_normal ?_
                refine wpD_seq ?_
                refine wpD_region ?_
                refine p_pure htab rfl rfl rfl rfl ?_
                refine p_pure htab rfl rfl rfl rfl ?_
                refine p_pure htab rfl rfl rfl rfl ?_
                refine p_pure htab rfl rfl rfl rfl ?_
                refine ops_nil ?_
                refine then_normal ?_
                refine wpD_seq ?_
                refine wpD_region ?_
                refine p_pure htab rfl rfl rfl rfl ?_
                refine p_pure htab rfl rfl rfl rfl ?_
                refine ops_nil ?_
                refine then_normal ?_
                refine wpD_cond rfl (fun hc51 => ?_) (fun hc51 => ?_)
                · replace hm := yes_t hc51 hm
                  refine wpD_exit ?_
                  refine block_miss rfl ?_
                  have e36 := lp_done hm; subst e36; clear hm; have hm := hq36
                  refine then_exit ?_
                  refine block_hit ?_
                  have e35 := yes_eq hm; subst e35
                  refine ⟨rfl, ?_⟩
                  exact WkX.of () (WkS.perm (WkS.cons rfl (Wk.refl _) (WkS.cons rfl (Wk.refl _) (WkS.cons rfl (Wk.refl _) (WkS.cons rfl (Wk.refl _) (WkS.cons rfl (Wk.refl _) (WkS.cons rfl (Wk.refl _) (WkS.cons rfl (Wk.refl _) (WkS.cons rfl (Wk.refl _) (WkS.nil))))))))) (List.Perm.refl _) (List.Perm.refl _))
                · replace hm := yes_f hc51 hm
                  refine wpD_skip ?_
                  refine block_normal ?_
                  refine then_normal ⟨_, lp_next hm, ?_⟩
                  exact WkX.of () (WkS.perm (WkS.cons rfl (Wk.refl _) (WkS.cons rfl (Wk.refl _) (WkS.cons rfl (Wk.refl _) (WkS.cons rfl (Wk.refl _) (WkS.cons rfl (Wk.refl _) (WkS.cons rfl (Wk.refl _) (WkS.cons rfl (Wk.refl _) (WkS.cons rfl (Wk.refl _) (WkS.cons rfl (Wk.refl _) (WkS.nil)))))))))) (List.Perm.refl _) (List.Perm.refl _))
              · replace hm := yes_f hc50 hm
                refine wpD_exit ?_
                refine then_exit ?_
                have e36 := lp_done hm; subst e36; clear hm; have hm := hq36
                refine then_exit ?_
                refine block_hit ?_
                have e35 := yes_eq hm; subst e35
                refine ⟨rfl, ?_⟩
                exact WkX.of () (WkS.perm (WkS.cons rfl (Wk.refl _) (WkS.cons rfl (Wk.refl _) (WkS.cons rfl (Wk.refl _) (WkS.cons rfl (Wk.refl _) (WkS.cons rfl (Wk.refl _) (WkS.cons rfl (Wk.refl _) (WkS.cons rfl (Wk.refl _) (WkS.cons rfl (Wk.refl _) (WkS.nil))))))))) (List.Perm.refl _) (List.Perm.refl _))
        · intro s35 hw35; clear hm; have hm := ho35; clear q35 ho35
          refine then_normal ?_
          refine wpD_wkX hw35 (fun z35 => ?_)
          refine wpD_seq ?_
          refine wpD_region ?_
          refine p_pure htab rfl rfl rfl rfl ?_
          refine p_pure htab rfl rfl rfl rfl ?_
          refine p_pure htab rfl rfl rfl rfl ?_
          refine p_pure htab rfl rfl rfl rfl ?_
          refine p_pure htab rfl rfl rfl rfl ?_
          refine p_pure htab rfl rfl rfl rfl ?_
          refine p_pure htab rfl rfl rfl rfl ?_
          refine p_pure htab rfl rfl rfl rfl ?_
          refine p_pure htab rfl rfl rfl rfl ?_
          refine ops_nil ?_
          refine then_normal ?_
          refine wpD_seq ?_
          refine wpD_region ?_
          refine p_pure htab rfl rfl rfl rfl ?_
          refine p_pure htab rfl rfl rfl rfl ?_
          obtain ⟨x52, q52, hm⟩ := yes_bind hm
          refine p_div rfl rfl rfl rfl rfl rfl rfl (by simpa using need_ok q52) ?_
          refine p_pure htab rfl rfl rfl rfl ?_
          refine ops_nil ?_
          refine then_normal ?_
          refine wpD_seq ?_
          refine wpD_region ?_
          refine p_pure htab rfl rfl rfl rfl ?_
          refine p_pure htab rfl rfl rfl rfl ?_
          refine p_pure htab rfl rfl rfl rfl ?_
          refine p_pure htab rfl rfl rfl rfl ?_
          refine p_pure htab rfl rfl rfl rfl ?_
          refine p_pure htab rfl rfl rfl rfl ?_
          refine ops_nil ?_
          refine then_normal ?_
          refine wpD_seq ?_
          obtain ⟨y70, q70, ho70⟩ := yes_bind hm
          refine wpD_mid (Y := Unit) (fun z70 => (⟨[(2, .v (.int .u64 (shI .shl .u64 a2 (IntKind.u64.wrap (lead a2))))), (8, .v (.int .u64 (IntKind.u64.wrap (lead a2)))), (14, .v (.int .u64 (bitI .and .u64 (shI .shl .u64 a1 (IntKind.u64.wrap (lead a2))) (4294967295 : Int)))), (15, .v (.int .u64 y35)), (17, .v (.int .u64 (IntKind.u64.wrap ((IntKind.u64.wrap ((IntKind.u64.wrap ((bitI .or .u64 (shI .shl .u64 a0 (IntKind.u64.wrap (lead a2))) (shI .shr .u64 a1 (IntKind.u64.wrap ((64 : Int) - (IntKind.u64.wrap (lead a2)))))) * (4294967296 : Int))) + (shI .shr .u64 (shI .shl .u64 a1 (IntKind.u64.wrap (lead a2))) (32 : Int)))) - (IntKind.u64.wrap (y35 * (shI .shl .u64 a2 (IntKind.u64.wrap (lead a2))))))))), (18, .v (.int .u64 y70))], [], []⟩ : S)) ?_ ?_
          · clear hm; have hm := yes_of q70
            refine wpD_block ?_
            obtain ⟨u71, hl71, hq71⟩ := yes_m hm
            refine loop_M (Y := Unit) hl71 (fun s71 z71 => (⟨[(2, .v (.int .u64 (shI .shl .u64 a2 (IntKind.u64.wrap (lead a2))))), (8, .v (.int .u64 (IntKind.u64.wrap (lead a2)))), (9, .v (.int .u64 (shI .shr .u64 (shI .shl .u64 a2 (IntKind.u64.wrap (lead a2))) (32 : Int)))), (10, .v (.int .u64 (bitI .and .u64 (shI .shl .u64 a2 (IntKind.u64.wrap (lead a2))) (4294967295 : Int)))), (14, .v (.int .u64 (bitI .and .u64 (shI .shl .u64 a1 (IntKind.u64.wrap (lead a2))) (4294967295 : Int)))), (15, .v (.int .u64 y35)), (16, .v (.int .u64 s71.1)), (17, .v (.int .u64 (IntKind.u64.wrap ((IntKind.u64.wrap ((IntKind.u64.wrap ((bitI .or .u64 (shI .shl .u64 a0 (IntKind.u64.wrap (lead a2))) (shI .shr .u64 a1 (IntKind.u64.wrap ((64 : Int) - (IntKind.u64.wrap (lead a2)))))) * (4294967296 : Int))) + (shI .shr .u64 (shI .shl .u64 a1 (IntKind.u64.wrap (lead a2))) (32 : Int)))) - (IntKind.u64.wrap (y35 * (shI .shl .u64 a2 (IntKind.u64.wrap (lead a2))))))))), (18, .v (.int .u64 s71.2))], [], []⟩ : S)) ?_ ?_
            · skip
              exact WkX.of () (WkS.perm (WkS.cons rfl (Wk.refl _) (WkS.cons rfl (Wk.refl _) (WkS.cons rfl (Wk.refl _) (WkS.cons rfl (Wk.refl _) (WkS.cons rfl (Wk.refl _) (WkS.cons rfl (Wk.refl _) (WkS.cons rfl (Wk.refl _) (WkS.cons rfl (Wk.refl _) (WkS.cons rfl (Wk.refl _) (WkS.nil)))))))))) (List.Perm.refl _) (List.Perm.refl _))
            · intro G71 s71 z71 hm
              refine wpD_seq ?_
              refine wpD_seq ?_
              obtain ⟨y83, q83, ho83⟩ := yes_bind hm
              refine wpD_mid (Y := Unit) (fun z83 => (⟨[(2, .v (.int .u64 (shI .shl .u64 a2 (IntKind.u64.wrap (lead a2))))), (8, .v (.int .u64 (IntKind.u64.wrap (lead a2)))), (9, .v (.int .u64 (shI .shr .u64 (shI .shl .u64 a2 (IntKind.u64.wrap (lead a2))) (32 : Int)))), (10, .v (.int .u64 (bitI .and .u64 (shI .shl .u64 a2 (IntKind.u64.wrap (lead a2))) (4294967295 : Int)))), (14, .v (.int .u64 (bitI .and .u64 (shI .shl .u64 a1 (IntKind.u64.wrap (lead a2))) (4294967295 : Int)))), (15, .v (.int .u64 y35)), (16, .v (.int .u64 s71.1)), (17, .v (.int .u64 (IntKind.u64.wrap ((IntKind.u64.wrap ((IntKind.u64.wrap ((bitI .or .u64 (shI .shl .u64 a0 (IntKind.u64.wrap (lead a2))) (shI .shr .u64 a1 (IntKind.u64.wrap ((64 : Int) - (IntKind.u64.wrap (lead a2)))))) * (4294967296 : Int))) + (shI .shr .u64 (shI .shl .u64 a1 (IntKind.u64.wrap (lead a2))) (32 : Int)))) - (IntKind.u64.wrap (y35 * (shI .shl .u64 a2 (IntKind.u64.wrap (lead a2))))))))), (18, .v (.int .u64 s71.2)), (113, .v (.bool y83))], [], []⟩ : S)) ?_ ?_
              · clear hm; have hm := yes_of q83
                refine wpD_region ?_
                refine p_pure htab rfl rfl rfl rfl ?_
                refine p_pure htab rfl rfl rfl rfl ?_
                refine p_pure htab rfl rfl rfl rfl ?_
                refine p_split (i := 104) rfl (fun hg84 => ?_) (fun hg84 => ?_)
                · replace hm := yes_t hg84 hm
                  refine p_skip rfl rfl rfl ?_
                  refine p_skip rfl rfl rfl ?_
                  refine p_skip rfl rfl rfl ?_
                  refine p_skip rfl rfl rfl ?_
                  refine p_skip rfl rfl rfl ?_
                  refine p_skip rfl rfl rfl ?_
                  refine p_skip rfl rfl rfl ?_
                  refine p_skip rfl rfl rfl ?_
                  refine p_pickT rfl rfl rfl rfl rfl rfl ?_
                  refine ops_nil ?_
                  have e83 := yes_eq hm; subst e83
                  refine ⟨rfl, ?_⟩
                  exact WkX.of () (WkS.perm (WkS.cons rfl (Wk.refl _) (WkS.cons rfl (Wk.refl _) (WkS.cons rfl (Wk.refl _) (WkS.cons rfl (Wk.refl _) (WkS.cons rfl (Wk.refl _) (WkS.cons rfl (Wk.refl _) (WkS.cons rfl (Wk.refl _) (WkS.cons rfl (Wk.refl _) (WkS.cons rfl (Wk.refl _) (WkS.cons rfl (Wk.refl _) (WkS.nil))))))))))) (List.Perm.refl _) (List.Perm.refl _))
                · replace hm := yes_f hg84 hm
                  refine p_pure htab rfl rfl rfl rfl ?_
                  refine p_pure htab rfl rfl rfl rfl ?_
                  refine p_pure htab rfl rfl rfl rfl ?_
                  refine p_pure htab rfl rfl rfl rfl ?_
                  refine p_pure htab rfl rfl rfl rfl ?_
                  refine p_pure htab rfl rfl rfl rfl ?_
                  refine p_pure htab rfl rfl rfl rfl ?_
                  refine p_pure htab rfl rfl rfl rfl ?_
                  refine p_pickF rfl rfl rfl rfl rfl rfl ?_
                  refine ops_nil ?_
                  have e83 := yes_eq hm; subst e83
                  refine ⟨rfl, ?_⟩
                  exact WkX.of () (WkS.perm (WkS.cons rfl (Wk.refl _) (WkS.cons rfl (Wk.refl _) (WkS.cons rfl (Wk.refl _) (WkS.cons rfl (Wk.refl _) (WkS.cons rfl (Wk.refl _) (WkS.cons rfl (Wk.refl _) (WkS.cons rfl (Wk.refl _) (WkS.cons rfl (Wk.refl _) (WkS.cons rfl (Wk.refl _) (WkS.cons rfl (Wk.refl _) (WkS.nil))))))))))) (List.Perm.refl _) (List.Perm.refl _))
              · intro s83 hw83; clear hm; have hm := ho83; clear q83 ho83
                refine then_normal ?_
                refine wpD_wkX hw83 (fun z83 => ?_)
                refine wpD_cond rfl (fun hc85 => ?_) (fun hc85 => ?_)
                · replace hm := yes_t hc85 hm
                  refine wpD_skip ?_
                  refine then_normal ?_
                  refine wpD_block ?_
                  refine wpD_seq ?_
                  refine wpD_region ?_
                  refine p_pure htab rfl rfl rfl rfl ?_
                  refine p_pure htab rfl rfl rfl rfl ?_
                  refine p_pure htab rfl rfl rfl rfl ?_
                  refine ops_nil ?_
                  refine then_normal ?_
                  refine wpD_seq ?_
                  refine wpD_region ?_
                  refine p_pure htab rfl rfl rfl rfl ?_
                  refine p_pure htab rfl rfl rfl rfl ?_
                  refine p_pure htab rfl rfl rfl rfl ?_
                  refine p_pure htab rfl rfl rfl rfl ?_
                  refine ops_nil ?_
                  refine then_normal ?_
                  refine wpD_seq ?_
                  refine wpD_region ?_
                  refine p_pure htab rfl rfl rfl rfl ?_
                  refine p_pure htab rfl rfl rfl rfl ?_
                  refine ops_nil ?_
                  refine then_normal ?_
                  refine wpD_cond rfl (fun hc86 => ?_) (fun hc86 => ?_)
                  · replace hm := yes_t hc86 hm
                    refine wpD_exit ?_
                    refine block_miss rfl ?_
                    have e71 := lp_done hm; subst e71; clear hm; have hm := hq71
                    refine then_exit ?_
                    refine block_hit ?_
                    have e70 := yes_eq hm; subst e70
                    refine ⟨rfl, ?_⟩
                    exact WkX.of () (WkS.perm (WkS.cons rfl (Wk.refl _) (WkS.cons rfl (Wk.refl _) (WkS.cons rfl (Wk.refl _) (WkS.cons rfl (Wk.refl _) (WkS.cons rfl (Wk.refl _) (WkS.cons rfl (Wk.refl _) (WkS.nil))))))) (List.Perm.refl _) (List.Perm.refl _))
                  · replace hm := yes_f hc86 hm
                    refine wpD_skip ?_
                    refine block_normal ?_
                    refine then_normal ⟨_, lp_next hm, ?_⟩
                    exact WkX.of () (WkS.perm (WkS.cons rfl (Wk.refl _) (WkS.cons rfl (Wk.refl _) (WkS.cons rfl (Wk.refl _) (WkS.cons rfl (Wk.refl _) (WkS.cons rfl (Wk.refl _) (WkS.cons rfl (Wk.refl _) (WkS.cons rfl (Wk.refl _) (WkS.cons rfl (Wk.refl _) (WkS.cons rfl (Wk.refl _) (WkS.nil)))))))))) (List.Perm.refl _) (List.Perm.refl _))
                · replace hm := yes_f hc85 hm
                  refine wpD_exit ?_
                  refine then_exit ?_
                  have e71 := lp_done hm; subst e71; clear hm; have hm := hq71
                  refine then_exit ?_
                  refine block_hit ?_
                  have e70 := yes_eq hm; subst e70
                  refine ⟨rfl, ?_⟩
                  exact WkX.of () (WkS.perm (WkS.cons rfl (Wk.refl _) (WkS.cons rfl (Wk.refl _) (WkS.cons rfl (Wk.refl _) (WkS.cons rfl (Wk.refl _) (WkS.cons rfl (Wk.refl _) (WkS.cons rfl (Wk.refl _) (WkS.nil))))))) (List.Perm.refl _) (List.Perm.refl _))
          · intro s70 hw70; clear hm; have hm := ho70; clear q70 ho70
            refine then_normal ?_
            refine wpD_wkX hw70 (fun z70 => ?_)
            refine wpD_seq ?_
            refine wpD_region ?_
            refine p_pure htab rfl rfl rfl rfl ?_
            refine p_pure htab rfl rfl rfl rfl ?_
            refine p_pure htab rfl rfl rfl rfl ?_
            refine p_pure htab rfl rfl rfl rfl ?_
            refine p_pure htab rfl rfl rfl rfl ?_
            refine p_pure htab rfl rfl rfl rfl ?_
            refine p_pure htab rfl rfl rfl rfl ?_
            refine p_pure htab rfl rfl rfl rfl ?_
            refine p_pure htab rfl rfl rfl rfl ?_
            refine p_pure htab rfl rfl rfl rfl ?_
            refine p_pure htab rfl rfl rfl rfl ?_
            refine p_pure htab rfl rfl rfl rfl ?_
            refine p_pure htab rfl rfl rfl rfl ?_
            obtain ⟨x87, q87, hm⟩ := yes_bind hm
            refine p_sh rfl rfl rfl rfl rfl rfl rfl (of_decide_eq_true (need_ok q87)) ?_
            refine p_pure htab rfl rfl rfl rfl ?_
            refine p_pure htab rfl rfl rfl rfl ?_
            refine ops_nil ?_
            refine then_normal ?_
            refine wpD_ret ?_
            have er88 := yes_eq hm; subst er88
            refine retX.of (s' := ⟨[(6, .v (.int .u64 (IntKind.u64.wrap ((IntKind.u64.wrap (y35 * (4294967296 : Int))) + y70)))), (7, .v (.int .u64 (shI .shr .u64 (IntKind.u64.wrap ((IntKind.u64.wrap ((IntKind.u64.wrap ((IntKind.u64.wrap ((IntKind.u64.wrap ((IntKind.u64.wrap ((bitI .or .u64 (shI .shl .u64 a0 (IntKind.u64.wrap (lead a2))) (shI .shr .u64 a1 (IntKind.u64.wrap ((64 : Int) - (IntKind.u64.wrap (lead a2)))))) * (4294967296 : Int))) + (shI .shr .u64 (shI .shl .u64 a1 (IntKind.u64.wrap (lead a2))) (32 : Int)))) - (IntKind.u64.wrap (y35 * (shI .shl .u64 a2 (IntKind.u64.wrap (lead a2))))))) * (4294967296 : Int))) + (bitI .and .u64 (shI .shl .u64 a1 (IntKind.u64.wrap (lead a2))) (4294967295 : Int)))) - (IntKind.u64.wrap (y70 * (shI .shl .u64 a2 (IntKind.u64.wrap (lead a2))))))) (IntKind.u64.wrap (lead a2)))))], [], []⟩) (WkS.perm (WkS.cons rfl (Wk.refl _) (WkS.cons rfl (Wk.refl _) (WkS.nil))) (List.Perm.refl _) (List.Perm.refl _)) (retD_mk (hh := []) (.inl rfl) (resL_cons (resOne_tmp rfl) (resL_cons (resOne_tmp rfl) (resL_nil))) (List.nil_sublist _) (List.Sublist.refl _) ?_)
            exact ⟨rfl, rfl, rfl⟩
noncomputable def cong_times (a0 : Int) (a1 : Int) (a2 : Int) : Option (Int) :=
  ((need (pUU a0 a1)).bind fun x1 => ((math_bits_Div64 ((mul64 a0 a1).1) ((mul64 a0 a1).2) a2).bind fun x2 => some x2.2))
set_option maxRecDepth 100000 in
set_option maxHeartbeats 2000000 in
theorem cong_times_ok (a0 : Int) (a1 : Int) (a2 : Int) (r : Int) (h0 : cong_times a0 a1 a2 = some r) : CallsD Try.prog 84 [.v (.int .u64 a0), .v (.int .u64 a1), .v (.int .u64 a2)] [] [] (fun d h k => d = .v (.int .u64 r) ∧ h = [] ∧ k = []) := by
  have hm := yes_of h0
  unfold cong_times at hm
  clear h0
  refine enterX htab Try.func84 rfl rfl rfl rfl rfl (fun C => ?_)
  refine wpD_seq ?_
  refine wpD_region ?_
  refine p_pure htab rfl rfl rfl rfl ?_
  refine ops_nil ?_
  refine then_normal ?_
  refine wpD_seq ?_
  refine wpD_region ?_
  refine p_pure htab rfl rfl rfl rfl ?_
  refine p_pure htab rfl rfl rfl rfl ?_
  obtain ⟨x1, q1, hm⟩ := yes_bind hm
  refine p_call0 (mul64_ok a0 a1 (need_ok q1)) rfl rfl rfl rfl rfl (WkL.refl _) ?_
  rintro _ rfl
  refine p_pure htab rfl rfl rfl rfl ?_
  refine p_pure htab rfl rfl rfl rfl ?_
  refine p_pure htab rfl rfl rfl rfl ?_
  refine p_pure htab rfl rfl rfl rfl ?_
  refine p_pure htab rfl rfl rfl rfl ?_
  refine ops_nil ?_
  refine then_normal ?_
  refine wpD_seq ?_
  refine wpD_region ?_
  refine p_pure htab rfl rfl rfl rfl ?_
  refine p_pure htab rfl rfl rfl rfl ?_
  refine p_pure htab rfl rfl rfl rfl ?_
  obtain ⟨x2, q2, hm⟩ := yes_bind hm
  refine p_call0 (math_bits_Div64_ok ((mul64 a0 a1).1) ((mul64 a0 a1).2) a2 x2 q2) rfl rfl rfl rfl rfl (WkL.refl _) ?_
  rintro _ rfl
  refine p_pure htab rfl rfl rfl rfl ?_
  refine p_pure htab rfl rfl rfl rfl ?_
  refine p_pure htab rfl rfl rfl rfl ?_
  refine p_pure htab rfl rfl rfl rfl ?_
  refine p_pure htab rfl rfl rfl rfl ?_
  refine ops_nil ?_
  refine then_normal ?_
  refine wpD_seq ?_
  refine wpD_region ?_
  refine p_pure htab rfl rfl rfl rfl ?_
  refine p_pure htab rfl rfl rfl rfl ?_
  refine ops_nil ?_
  refine then_normal ?_
  refine wpD_ret ?_
  have er3 := yes_eq hm; subst er3
  refine retX.of (s' := ⟨[(6, .v (.int .u64 x2.2))], [], []⟩) (WkS.perm (WkS.cons rfl (Wk.refl _) (WkS.nil)) (List.Perm.refl _) (List.Perm.refl _)) (retD_mk (hh := []) (.inl rfl) (resL_cons (resOne_tmp rfl) (resL_nil)) (List.nil_sublist _) (List.Sublist.refl _) ?_)
  exact ⟨rfl, rfl, rfl⟩
noncomputable def cong_inverse (a0 : Int) (a1 : Int) : Option (Int) :=
  ((need (a1 != 0)).bind fun x2 => ((need (a1 != 0)).bind fun x3 => (loopM (fun (s1 : Int × Int × Int × Int) => (bif (s1.1 == (0 : Int)) then some (.done s1.2.2.2) else ((need (s1.1 != 0)).bind fun x19 => ((need (a1 != 0)).bind fun x20 => ((cong_times ((IntKind.u64.wrap (s1.2.1.tdiv s1.1)).tmod a1) s1.2.2.1 a1).bind fun x21 => ((need (a1 != 0)).bind fun x22 => ((need (s1.1 != 0)).bind fun x23 => some (.next ((s1.2.1.tmod s1.1), s1.1, ((IntKind.u64.wrap ((IntKind.u64.wrap (s1.2.2.2 + a1)) - x21)).tmod a1), s1.2.2.1))))))))) ((a0.tmod a1), a1, ((1 : Int).tmod a1), (0 : Int)))))
set_option maxRecDepth 100000 in
set_option maxHeartbeats 2000000 in
theorem cong_inverse_ok (a0 : Int) (a1 : Int) (r : Int) (h0 : cong_inverse a0 a1 = some r) : CallsD Try.prog 85 [.v (.int .u64 a0), .v (.int .u64 a1)] [] [] (fun d h k => d = .v (.int .u64 r) ∧ h = [] ∧ k = []) := by
  have hm := yes_of h0
  unfold cong_inverse at hm
  clear h0
  refine enterX htab Try.func85 rfl rfl rfl rfl rfl (fun C => ?_)
  refine wpD_seq ?_
  refine wpD_region ?_
  refine p_pure htab rfl rfl rfl rfl ?_
  refine ops_nil ?_
  refine then_normal ?_
  obtain ⟨x2, q2, hm⟩ := yes_bind hm
  obtain ⟨x3, q3, hm⟩ := yes_bind hm
  obtain ⟨u1, hl1, hq1⟩ := yes_m hm
  refine scope_L (Y := Unit) 0 hl1 (fun s1 z1 => (⟨[(1, .v (.int .u64 a1)), (5, .v (.int .u64 s1.1)), (6, .v (.int .u64 s1.2.1)), (7, .v (.int .u64 s1.2.2.1)), (8, .v (.int .u64 s1.2.2.2))], [], []⟩ : S)) rfl ?_ ?_
  · intro Q' hr
    refine wpD_seq ?_
    refine wpD_region ?_
    refine p_pure htab rfl rfl rfl rfl ?_
    refine p_pure htab rfl rfl rfl rfl ?_
    refine p_div rfl rfl rfl rfl rfl rfl rfl (by simpa using need_ok q2) ?_
    refine p_pure htab rfl rfl rfl rfl ?_
    refine p_pure htab rfl rfl rfl rfl ?_
    refine p_pure htab rfl rfl rfl rfl ?_
    refine ops_nil ?_
    refine then_normal ?_
    refine wpD_seq ?_
    refine wpD_region ?_
    refine p_pure htab rfl rfl rfl rfl ?_
    refine p_div rfl rfl rfl rfl rfl rfl rfl (by simpa using need_ok q3) ?_
    refine p_pure htab rfl rfl rfl rfl ?_
    refine p_pure htab rfl rfl rfl rfl ?_
    refine ops_nil ?_
    refine then_normal ?_
    refine wpD_seq (wpD_label (then_normal ?_))
    refine wpD_wkX (S1 := (fun s1 z1 => (⟨[(1, .v (.int .u64 a1)), (5, .v (.int .u64 s1.1)), (6, .v (.int .u64 s1.2.1)), (7, .v (.int .u64 s1.2.2.1)), (8, .v (.int .u64 s1.2.2.2))], [], []⟩ : S)) ((a0.tmod a1), a1, ((1 : Int).tmod a1), (0 : Int))) ?_ (fun zz => hr zz)
    exact WkX.of () (WkS.perm (WkS.cons rfl (Wk.refl _) (WkS.cons rfl (Wk.refl _) (WkS.cons rfl (Wk.refl _) (WkS.cons rfl (Wk.refl _) (WkS.cons rfl (Wk.refl _) (WkS.nil)))))) (List.Perm.refl _) (List.Perm.refl _))
  · intro G1 s1 z1 hm
    refine wpD_seq ?_
    refine wpD_seq ?_
    refine wpD_region ?_
    refine p_pure htab rfl rfl rfl rfl ?_
    refine p_pure htab rfl rfl rfl rfl ?_
    refine ops_nil ?_
    refine then_normal ?_
    refine wpD_cond rfl (fun hc17 => ?_) (fun hc17 => ?_)
    · replace hm := yes_t hc17 hm
      refine wpD_seq ?_
      refine wpD_region ?_
      refine p_pure htab rfl rfl rfl rfl ?_
      refine p_pure htab rfl rfl rfl rfl ?_
      refine ops_nil ?_
      refine then_normal ?_
      refine wpD_ret ?_
      refine then_ret ?_
      have e1 := lp_done hm; subst e1; clear hm; have hm := hq1
      refine back_ret ?_
      have er18 := yes_eq hm; subst er18
      refine retX.of (s' := ⟨[(4, .v (.int .u64 s1.2.2.2))], [], []⟩) (WkS.perm (WkS.cons rfl (Wk.refl _) (WkS.nil)) (List.Perm.refl _) (List.Perm.refl _)) (retD_mk (hh := []) (.inl rfl) (resL_cons (resOne_tmp rfl) (resL_nil)) (List.nil_sublist _) (List.Sublist.refl _) ?_)
      exact ⟨rfl, rfl, rfl⟩
    · replace hm := yes_f hc17 hm
      refine wpD_skip ?_
      refine then_normal ?_
      refine wpD_seq ?_
      refine wpD_region ?_
      refine p_pure htab rfl rfl rfl rfl ?_
      refine p_pure htab rfl rfl rfl rfl ?_
      obtain ⟨x19, q19, hm⟩ := yes_bind hm
      refine p_div rfl rfl rfl rfl rfl rfl rfl (by simpa using need_ok q19) ?_
      refine p_pure htab rfl rfl rfl rfl ?_
      refine ops_nil ?_
      refine then_normal ?_
      refine wpD_seq ?_
      refine wpD_region ?_
      refine p_pure htab rfl rfl rfl rfl ?_
      refine p_pure htab rfl rfl rfl rfl ?_
      refine p_pure htab rfl rfl rfl rfl ?_
      refine p_pure htab rfl rfl rfl rfl ?_
      refine p_pure htab rfl rfl rfl rfl ?_
      obtain ⟨x20, q20, hm⟩ := yes_bind hm
      refine p_div rfl rfl rfl rfl rfl rfl rfl (by simpa using need_ok q20) ?_
      refine p_pure htab rfl rfl rfl rfl ?_
      refine p_pure htab rfl rfl rfl rfl ?_
      obtain ⟨x21, q21, hm⟩ := yes_bind hm
      refine p_call0 (cong_times_ok ((IntKind.u64.wrap (s1.2.1.tdiv s1.1)).tmod a1) s1.2.2.1 a1 x21 q21) rfl rfl rfl rfl rfl (WkL.refl _) ?_
      rintro _ rfl
      refine p_pure htab rfl rfl rfl rfl ?_
      refine p_pure htab rfl rfl rfl rfl ?_
      obtain ⟨x22, q22, hm⟩ := yes_bind hm
      refine p_div rfl rfl rfl rfl rfl rfl rfl (by simpa using need_ok q22) ?_
      refine p_pure htab rfl rfl rfl rfl ?_
      refine ops_nil ?_
      refine then_normal ?_
      refine wpD_seq ?_
      refine wpD_region ?_
      refine p_pure htab rfl rfl rfl rfl ?_
      refine p_pure htab rfl rfl rfl rfl ?_
      obtain ⟨x23, q23, hm⟩ := yes_bind hm
      refine p_div rfl rfl rfl rfl rfl rfl rfl (by simpa using need_ok q23) ?_
      refine p_pure htab rfl rfl rfl rfl ?_
      refine p_pure htab rfl rfl rfl rfl ?_
      refine p_pure htab rfl rfl rfl rfl ?_
      refine ops_nil ?_
      refine then_normal ?_
      refine wpD_seq ?_
      refine wpD_region ?_
      refine p_pure htab rfl rfl rfl rfl ?_
      refine p_pure htab rfl rfl rfl rfl ?_
      refine p_pure htab rfl rfl rfl rfl ?_
      refine p_pure htab rfl rfl rfl rfl ?_
      refine ops_nil ?_
      refine then_normal ?_
      refine wpD_goto ?_
      refine back_goto ⟨_, lp_next hm, ?_⟩
      exact WkX.of () (WkS.perm (WkS.cons rfl (Wk.refl _) (WkS.cons rfl (Wk.refl _) (WkS.cons rfl (Wk.refl _) (WkS.cons rfl (Wk.refl _) (WkS.cons rfl (Wk.refl _) (WkS.nil)))))) (List.Perm.refl _) (List.Perm.refl _))
noncomputable def cong_both (a0 : TApiCong) (a1 : TApiCong) (a2 : Int) : Option (Int) :=
  ((need (a2 != 0)).bind fun x3 => ((cong_Mod a0.gR a1.gM).bind fun x4 => ((cong_Mod (IntKind.i64.wrap (a1.gR - x4)) a1.gM).bind fun x5 => ((need (a2 != 0)).bind fun x6 => ((need ((IntKind.u64.wrap ((IntKind.u64.wrap a1.gM).tdiv a2)) != 0)).bind fun x7 => ((need (a2 != 0)).bind fun x8 => ((cong_inverse (IntKind.u64.wrap ((IntKind.u64.wrap a0.gM).tdiv a2)) (IntKind.u64.wrap ((IntKind.u64.wrap a1.gM).tdiv a2))).bind fun x9 => ((cong_times ((IntKind.u64.wrap ((IntKind.u64.wrap x5).tdiv a2)).tmod (IntKind.u64.wrap ((IntKind.u64.wrap a1.gM).tdiv a2))) x9 (IntKind.u64.wrap ((IntKind.u64.wrap a1.gM).tdiv a2))).bind fun x10 => ((need (pI a0.gR)).bind fun x11 => ((need (pII a0.gM (IntKind.i64.wrap x10))).bind fun x12 => ((need (pWW (wOf a0.gR) (wMul a0.gM (IntKind.i64.wrap x10)))).bind fun x13 => ((need (pW (wAdd (wOf a0.gR) (wMul a0.gM (IntKind.i64.wrap x10))))).bind fun x15 => some (wLow (wAdd (wOf a0.gR) (wMul a0.gM (IntKind.i64.wrap x10))))))))))))))))
set_option maxRecDepth 100000 in
set_option maxHeartbeats 2000000 in
theorem cong_both_ok (a0 : TApiCong) (a1 : TApiCong) (a2 : Int) (r : Int) (h0 : cong_both a0 a1 a2 = some r) : CallsD Try.prog 81 [eTApiCong a0, eTApiCong a1, .v (.int .u64 a2)] [] [] (fun d h k => d = .v (.int .i64 r) ∧ h = [] ∧ k = []) := by
  have hm := yes_of h0
  unfold cong_both at hm
  clear h0
  refine enterX htab Try.func81 rfl rfl rfl rfl rfl (fun C => ?_)
  refine wpD_seq ?_
  refine wpD_region ?_
  refine p_box rfl rfl rfl rfl rfl rfl rfl (fun b1 => ?_)
  refine p_box rfl rfl rfl rfl rfl rfl rfl (fun b2 => ?_)
  refine p_pure htab rfl rfl rfl rfl ?_
  refine ops_nil ?_
  refine then_normal ?_
  refine wpD_seq ?_
  refine wpD_region ?_
  refine p_pure htab rfl rfl rfl rfl ?_
  refine p_load 1 htab rfl rfl rfl rfl rfl rfl rfl rfl ?_
  refine p_pure htab rfl rfl rfl rfl ?_
  refine p_pure htab rfl rfl rfl rfl ?_
  obtain ⟨x3, q3, hm⟩ := yes_bind hm
  refine p_div rfl rfl rfl rfl rfl rfl rfl (by simpa using need_ok q3) ?_
  refine p_pure htab rfl rfl rfl rfl ?_
  refine ops_nil ?_
  refine then_normal ?_
  refine wpD_seq ?_
  obtain ⟨x4, q4, hm⟩ := yes_bind hm
  obtain ⟨x5, q5, hm⟩ := yes_bind hm
  refine wpD_draws 13 [] [[],[0],[],[2],[],[4],[2,4],[0,2,4,6],[],[8],[0,2,4,6,8],[0,2,4,6,8,10],[]] [0,2,4,6,8,10] [[],[0],[],[2],[],[4],[2,3,4,5],[0,1,2,3,4,5,6],[],[8],[0,1,2,3,4,5,6,7,8,9],[0,1,2,3,4,5,6,7,8,9,10],[],[0,1,2,3,4,5,6,7,8,9,10,11,12],[0,1,2,3,4,5,6,7,8,9,10,11,12,13]] (by kernel_rfl) (by kernel_rfl) (by kernel_rfl) (by rfl) (by rfl) (by kernel_rfl) ?_
  apply Exists.intro
  apply Exists.intro
  apply Exists.intro
  apply Exists.intro
  apply Exists.intro
  apply Exists.intro
  intro bs
  refine z_e rfl rfl (ex_pure htab rfl) rfl rfl rfl rfl rfl rfl ?_
  refine z_qM rfl rfl (xm_load 1 htab rfl rfl rfl rfl rfl) rfl rfl rfl rfl rfl rfl ?_
  refine z_e rfl rfl (ex_pure htab rfl) rfl rfl rfl rfl rfl rfl ?_
  refine z_qM rfl rfl (xm_load 0 htab rfl rfl rfl rfl rfl) rfl rfl rfl rfl rfl rfl ?_
  refine z_e rfl rfl (ex_pure htab rfl) rfl rfl rfl rfl rfl rfl ?_
  refine z_qM rfl rfl (xm_load 1 htab rfl rfl rfl rfl rfl) rfl rfl rfl rfl rfl rfl ?_
  refine z_call rfl rfl (cong_Mod_ok a0.gR a1.gM x4 q4) rfl rfl (WkL.refl _) rfl rfl rfl rfl rfl rfl ?_
  refine z_q rfl rfl (ex_pure htab rfl) rfl rfl rfl rfl rfl rfl ?_
  refine z_e rfl rfl (ex_pure htab rfl) rfl rfl rfl rfl rfl rfl ?_
  refine z_qM rfl rfl (xm_load 1 htab rfl rfl rfl rfl rfl) rfl rfl rfl rfl rfl rfl ?_
  refine z_call rfl rfl (cong_Mod_ok (IntKind.i64.wrap (a1.gR - x4)) a1.gM x5 q5) rfl rfl (WkL.refl _) rfl rfl rfl rfl rfl rfl ?_
  refine z_q rfl rfl (ex_pure htab rfl) rfl rfl rfl rfl rfl rfl ?_
  refine z_q rfl rfl (ex_pure htab rfl) rfl rfl rfl rfl rfl rfl ?_
  refine z_nil rfl rfl (fun e he => by simp [isAl] at he) ?_
  obtain ⟨x6, q6, hm⟩ := yes_bind hm
  refine p_div rfl rfl rfl rfl rfl rfl rfl (by simpa using need_ok q6) ?_
  refine p_pure htab rfl rfl rfl rfl ?_
  refine ops_nil ?_
  refine then_normal ?_
  refine wpD_seq ?_
  obtain ⟨x7, q7, hm⟩ := yes_bind hm
  obtain ⟨x8, q8, hm⟩ := yes_bind hm
  obtain ⟨x9, q9, hm⟩ := yes_bind hm
  refine wpD_draws 11 [] [[],[],[],[],[3],[3],[],[3],[],[3],[]] [3,9] [[],[],[0,1],[],[3],[3,4],[],[3,4,5,6],[],[3,4,5,6,7,8],[],[0,1,2,3,4,5,6,7,8,9,10],[0,1,2,3,4,5,6,7,8,9,10,11]] (by kernel_rfl) (by kernel_rfl) (by kernel_rfl) (by rfl) (by rfl) (by kernel_rfl) ?_
  apply Exists.intro
  apply Exists.intro
  intro bs
  refine z_q rfl rfl (ex_pure htab rfl) rfl rfl rfl rfl rfl rfl ?_
  refine z_q rfl rfl (ex_pure htab rfl) rfl rfl rfl rfl rfl rfl ?_
  refine z_q rfl rfl (x_div rfl rfl rfl rfl (by simpa using need_ok q7)) rfl rfl rfl rfl rfl rfl ?_
  refine z_e rfl rfl (ex_pure htab rfl) rfl rfl rfl rfl rfl rfl ?_
  refine z_qM rfl rfl (xm_load 0 htab rfl rfl rfl rfl rfl) rfl rfl rfl rfl rfl rfl ?_
  refine z_q rfl rfl (ex_pure htab rfl) rfl rfl rfl rfl rfl rfl ?_
  refine z_q rfl rfl (ex_pure htab rfl) rfl rfl rfl rfl rfl rfl ?_
  refine z_q rfl rfl (x_div rfl rfl rfl rfl (by simpa using need_ok q8)) rfl rfl rfl rfl rfl rfl ?_
  refine z_q rfl rfl (ex_pure htab rfl) rfl rfl rfl rfl rfl rfl ?_
  refine z_call rfl rfl (cong_inverse_ok (IntKind.u64.wrap ((IntKind.u64.wrap a0.gM).tdiv a2)) (IntKind.u64.wrap ((IntKind.u64.wrap a1.gM).tdiv a2)) x9 q9) rfl rfl (WkL.refl _) rfl rfl rfl rfl rfl rfl ?_
  refine z_q rfl rfl (ex_pure htab rfl) rfl rfl rfl rfl rfl rfl ?_
  refine z_nil rfl rfl (fun e he => by simp [isAl] at he) ?_
  obtain ⟨x10, q10, hm⟩ := yes_bind hm
  refine p_call0 (cong_times_ok ((IntKind.u64.wrap ((IntKind.u64.wrap x5).tdiv a2)).tmod (IntKind.u64.wrap ((IntKind.u64.wrap a1.gM).tdiv a2))) x9 (IntKind.u64.wrap ((IntKind.u64.wrap a1.gM).tdiv a2)) x10 q10) rfl rfl rfl rfl rfl (WkL.refl _) ?_
  rintro _ rfl
  refine p_pure htab rfl rfl rfl rfl ?_
  refine ops_nil ?_
  refine then_normal ?_
  refine wpD_seq ?_
  obtain ⟨x11, q11, hm⟩ := yes_bind hm
  obtain ⟨x12, q12, hm⟩ := yes_bind hm
  obtain ⟨x13, q13, hm⟩ := yes_bind hm
  refine wpD_draws 10 [(9, [.v (.int .i64 (0 : Int)), .v (.int .u64 (0 : Int))], 54)] [[],[0],[0],[],[3],[],[],[0,2,3],[0,2,3,7],[]] [0,2,3,7,8,9] [[],[0],[0,1],[],[3],[],[5],[0,1,2,3,4,5,6],[0,1,2,3,4,5,6,7],[],[0,1,2,3,4,5,6,7,8,9]] (by kernel_rfl) (by kernel_rfl) (by kernel_rfl) (by rfl) (by rfl) (by kernel_rfl) ?_
  apply Exists.intro
  apply Exists.intro
  apply Exists.intro
  apply Exists.intro
  apply Exists.intro
  refine ⟨.any, ?_⟩
  intro bs
  refine z_e rfl rfl (ex_pure htab rfl) rfl rfl rfl rfl rfl rfl ?_
  refine z_qM rfl rfl (xm_load 0 htab rfl rfl rfl rfl rfl) rfl rfl rfl rfl rfl rfl ?_
  refine z_call rfl rfl (wOf_ok a0.gR (need_ok q11)) rfl rfl (WkL.refl _) rfl rfl rfl rfl rfl rfl ?_
  refine z_e rfl rfl (ex_pure htab rfl) rfl rfl rfl rfl rfl rfl ?_
  refine z_qM rfl rfl (xm_load 0 htab rfl rfl rfl rfl rfl) rfl rfl rfl rfl rfl rfl ?_
  refine z_q rfl rfl (ex_pure htab rfl) rfl rfl rfl rfl rfl rfl ?_
  refine z_q rfl rfl (ex_pure htab rfl) rfl rfl rfl rfl rfl rfl ?_
  refine z_call rfl rfl (wMul_ok a0.gM (IntKind.i64.wrap x10) (need_ok q12)) rfl rfl (WkL.refl _) rfl rfl rfl rfl rfl rfl ?_
  refine z_call rfl rfl (wAdd_ok (wOf a0.gR) (wMul a0.gM (IntKind.i64.wrap x10)) (need_ok q13)) rfl rfl (WkL.refl _) rfl rfl rfl rfl rfl rfl ?_
  refine z_alloc rfl htab rfl rfl rfl rfl rfl rfl rfl rfl (by simp [dOf, eI64]) (by simp) ?_
  refine z_nil rfl (by simp only [List.map_cons, List.map_nil]; exact rfl) (fun e he => by simp [isAl] at he; subst he; rfl) ?_
  obtain ⟨b14, hb14⟩ : ∃ b, bs 9 = b := ⟨_, rfl⟩
  simp only [hb14]
  clear hb14
  refine p_store (ds' := [.v (.int .i64 ((wAdd (wOf a0.gR) (wMul a0.gM (IntKind.i64.wrap x10))).gHi)), .v (.int .u64 ((wAdd (wOf a0.gR) (wMul a0.gM (IntKind.i64.wrap x10))).gLo))]) (h' := [(b1, Blk.cells [.v (.bool a0.gSome), .v (.int .i64 a0.gM), .v (.int .i64 a0.gR)] 23), (b2, Blk.cells [.v (.bool a1.gSome), .v (.int .i64 a1.gM), .v (.int .i64 a1.gR)] 23), (b14, Blk.cells [.v (.int .i64 ((wAdd (wOf a0.gR) (wMul a0.gM (IntKind.i64.wrap x10))).gHi)), .v (.int .u64 ((wAdd (wOf a0.gR) (wMul a0.gM (IntKind.i64.wrap x10))).gLo))] 54)]) 2 htab rfl rfl rfl rfl rfl rfl rfl rfl rfl rfl rfl rfl ?_
  refine ops_nil ?_
  refine then_normal ?_
  refine wpD_seq ?_
  refine wpD_region ?_
  refine p_load (d := eTApiWide (wAdd (wOf a0.gR) (wMul a0.gM (IntKind.i64.wrap x10)))) 2 htab rfl rfl rfl rfl rfl rfl rfl rfl ?_
  obtain ⟨x15, q15, hm⟩ := yes_bind hm
  refine p_call0 (wLow_ok (wAdd (wOf a0.gR) (wMul a0.gM (IntKind.i64.wrap x10))) (need_ok q15)) rfl rfl rfl rfl rfl (WkL.refl _) ?_
  rintro _ rfl
  refine p_pure htab rfl rfl rfl rfl ?_
  refine ops_nil ?_
  refine then_normal ?_
  refine wpD_ret ?_
  have er16 := yes_eq hm; subst er16
  refine retX.of (s' := ⟨[(6, .v (.int .i64 (wLow (wAdd (wOf a0.gR) (wMul a0.gM (IntKind.i64.wrap x10))))))], [], []⟩) (WkS.perm (WkS.cons rfl (Wk.refl _) (WkS.nil)) (List.Perm.refl _) (List.Perm.refl _)) (retD_mk (hh := []) (.inl rfl) (resL_cons (resOne_tmp rfl) (resL_nil)) (List.nil_sublist _) (List.Sublist.refl _) ?_)
  exact ⟨rfl, rfl, rfl⟩
noncomputable def cong_Meet (a0 : TApiCong) (a1 : TApiCong) : Option (TApiCong) :=
  ((cong_Clean a0).bind fun x4 => ((cong_Clean a1).bind fun x5 => (Option.bind (α := Bool) ((cong_None x4).bind fun x29 => (bif x29 then some true else ((cong_None x5).bind fun x31 => some x31))) fun y28 => (bif y28 then some (⟨false, (0 : Int), (0 : Int)⟩ : TApiCong) else (Option.bind (α := Bool) (bif (x4.gM == (0 : Int)) then some true else some (x5.gM == (0 : Int))) fun y45 => (bif y45 then (Option.bind (α := Bool × Int × Int × Bool × Int × Int) (bif (x4.gM != (0 : Int)) then some (x5.gSome, x5.gM, x5.gR, x4.gSome, x4.gM, x4.gR) else some (x4.gSome, x4.gM, x4.gR, x5.gSome, x5.gM, x5.gR)) fun y55 => ((cong_Has (⟨y55.2.2.2.1, y55.2.2.2.2.1, y55.2.2.2.2.2⟩ : TApiCong) y55.2.2.1).bind fun x57 => (bif (!x57) then some (⟨false, (0 : Int), (0 : Int)⟩ : TApiCong) else some (⟨y55.1, y55.2.1, y55.2.2.1⟩ : TApiCong)))) else ((cong_Gcd (IntKind.u64.wrap x4.gM) (IntKind.u64.wrap x5.gM)).bind fun x62 => ((cong_apart x4.gR x5.gR).bind fun x63 => ((need (x62 != 0)).bind fun x64 => (bif ((x63.tmod x62) != (0 : Int)) then some (⟨false, (0 : Int), (0 : Int)⟩ : TApiCong) else ((need ((IntKind.i64.wrap x62) != 0)).bind fun x68 => ((need (pII x4.gM (IntKind.i64.wrap (x5.gM.tdiv (IntKind.i64.wrap x62))))).bind fun x69 => ((wide_Int (wMul x4.gM (IntKind.i64.wrap (x5.gM.tdiv (IntKind.i64.wrap x62))))).bind fun x70 => (bif x70.2 then ((cong_both x4 x5 x62).bind fun x72 => ((cong_Of x70.1 x72).bind fun x73 => some x73)) else (bif (decide (x4.gM < x5.gM)) then some x5 else some x4)))))))))))))))
set_option maxRecDepth 100000 in
set_option maxHeartbeats 2000000 in
theorem cong_Meet_ok (a0 : TApiCong) (a1 : TApiCong) (r : TApiCong) (h0 : cong_Meet a0 a1 = some r) : CallsD Try.prog 74 [eTApiCong a0, eTApiCong a1] [] [] (fun d h k => d = eTApiCong r ∧ h = [] ∧ k = []) := by
  have hm := yes_of h0
  unfold cong_Meet at hm
  clear h0
  refine enterX htab Try.func74 rfl rfl rfl rfl rfl (fun C => ?_)
  refine wpD_seq ?_
  refine wpD_region ?_
  refine p_box rfl rfl rfl rfl rfl rfl rfl (fun b1 => ?_)
  refine p_box rfl rfl rfl rfl rfl rfl rfl (fun b2 => ?_)
  refine p_alloc htab rfl rfl rfl rfl rfl rfl rfl (fun b3 => ?_)
  refine ops_nil ?_
  refine then_normal ?_
  refine wpD_seq ?_
  obtain ⟨x4, q4, hm⟩ := yes_bind hm
  obtain ⟨x5, q5, hm⟩ := yes_bind hm
  refine wpD_draws 6 [(4, [.v (.bool false), .v (.int .i64 (0 : Int)), .v (.int .i64 (0 : Int))], 23), (5, [.v (.bool false), .v (.int .i64 (0 : Int)), .v (.int .i64 (0 : Int))], 23)] [[],[0],[],[0,1,2],[],[]] [0,1,2,3,4,5] [[],[0],[],[0,1,2],[],[],[0,1,2,3,4,5],[0,1,2,3,4,5,6]] (by kernel_rfl) (by kernel_rfl) (by kernel_rfl) (by rfl) (by rfl) (by kernel_rfl) ?_
  apply Exists.intro
  apply Exists.intro
  apply Exists.intro
  apply Exists.intro
  refine ⟨.any, ?_⟩
  refine ⟨.any, ?_⟩
  intro bs
  refine z_eM rfl rfl (xm_load (d := eTApiCong a0) 0 htab rfl rfl rfl rfl rfl) rfl rfl rfl rfl rfl rfl ?_
  refine z_call rfl rfl (cong_Clean_ok a0 x4 q4) rfl rfl (WkL.refl _) rfl rfl rfl rfl rfl rfl ?_
  refine z_eM rfl rfl (xm_load (d := eTApiCong a1) 1 htab rfl rfl rfl rfl rfl) rfl rfl rfl rfl rfl rfl ?_
  refine z_call rfl rfl (cong_Clean_ok a1 x5 q5) rfl rfl (WkL.refl _) rfl rfl rfl rfl rfl rfl ?_
  refine z_alloc rfl htab rfl rfl rfl rfl rfl rfl rfl rfl (by simp [dOf, eI64]) (by simp) ?_
  refine z_alloc rfl htab rfl rfl rfl rfl rfl rfl rfl rfl (by simp [dOf, eI64]) (by simp) ?_
  refine z_nil rfl (by simp only [List.map_cons, List.map_nil]; exact rfl) (fun e he => by simp [isAl] at he; rcases he with rfl | rfl <;> rfl) ?_
  obtain ⟨b6, hb6⟩ : ∃ b, bs 4 = b := ⟨_, rfl⟩
  obtain ⟨b7, hb7⟩ : ∃ b, bs 5 = b := ⟨_, rfl⟩
  simp only [hb6, hb7]
  clear hb6 hb7
  refine p_store (ds' := [.v (.bool x4.gSome), .v (.int .i64 x4.gM), .v (.int .i64 x4.gR)]) (h' := [(b1, Blk.cells [.v (.bool a0.gSome), .v (.int .i64 a0.gM), .v (.int .i64 a0.gR)] 23), (b2, Blk.cells [.v (.bool a1.gSome), .v (.int .i64 a1.gM), .v (.int .i64 a1.gR)] 23), (b3, Blk.cells [.v (.bool false), .v (.int .i64 (0 : Int)), .v (.int .i64 (0 : Int))] 23), (b6, Blk.cells [.v (.bool x4.gSome), .v (.int .i64 x4.gM), .v (.int .i64 x4.gR)] 23), (b7, Blk.cells [.v (.bool false), .v (.int .i64 (0 : Int)), .v (.int .i64 (0 : Int))] 23)]) 3 htab rfl rfl rfl rfl rfl rfl rfl rfl rfl rfl rfl rfl ?_
  refine p_store (ds' := [.v (.bool x5.gSome), .v (.int .i64 x5.gM), .v (.int .i64 x5.gR)]) (h' := [(b1, Blk.cells [.v (.bool a0.gSome), .v (.int .i64 a0.gM), .v (.int .i64 a0.gR)] 23), (b2, Blk.cells [.v (.bool a1.gSome), .v (.int .i64 a1.gM), .v (.int .i64 a1.gR)] 23), (b3, Blk.cells [.v (.bool false), .v (.int .i64 (0 : Int)), .v (.int .i64 (0 : Int))] 23), (b6, Blk.cells [.v (.bool x4.gSome), .v (.int .i64 x4.gM), .v (.int .i64 x4.gR)] 23), (b7, Blk.cells [.v (.bool x5.gSome), .v (.int .i64 x5.gM), .v (.int .i64 x5.gR)] 23)]) 4 htab rfl rfl rfl rfl rfl rfl rfl rfl rfl rfl rfl rfl ?_
  refine ops_nil ?_
  refine then_normal ?_
  refine wpD_seq ?_
  refine wpD_block ?_
  refine wpD_seq ?_
  obtain ⟨y28, q28, ho28⟩ := yes_bind hm
  refine wpD_mid (Y := Unit) (fun z28 => (⟨[(4, .ptr b3 0), (5, .ptr b6 0), (6, .ptr b7 0), (14, .v (.bool y28))], [(b1, Blk.cells [.v (.bool a0.gSome), .v (.int .i64 a0.gM), .v (.int .i64 a0.gR)] 23), (b2, Blk.cells [.v (.bool a1.gSome), .v (.int .i64 a1.gM), .v (.int .i64 a1.gR)] 23), (b3, Blk.cells [.v (.bool false), .v (.int .i64 (0 : Int)), .v (.int .i64 (0 : Int))] 23), (b6, Blk.cells [.v (.bool x4.gSome), .v (.int .i64 x4.gM), .v (.int .i64 x4.gR)] 23), (b7, Blk.cells [.v (.bool x5.gSome), .v (.int .i64 x5.gM), .v (.int .i64 x5.gR)] 23)], []⟩ : S)) ?_ ?_
  · clear hm; have hm := yes_of q28
    refine wpD_region ?_
    refine p_load (d := eTApiCong x4) 3 htab rfl rfl rfl rfl rfl rfl rfl rfl ?_
    obtain ⟨x29, q29, hm⟩ := yes_bind hm
    refine p_call0 (cong_None_ok x4 x29 q29) rfl rfl rfl rfl rfl (WkL.refl _) ?_
    rintro _ rfl
    refine p_pure htab rfl rfl rfl rfl ?_
    refine p_split (i := 17) rfl (fun hg30 => ?_) (fun hg30 => ?_)
    · replace hm := yes_t hg30 hm
      refine p_skip rfl rfl rfl ?_
      refine p_skip rfl rfl rfl ?_
      refine p_pickT rfl rfl rfl rfl rfl rfl ?_
      refine p_pure htab rfl rfl rfl rfl ?_
      refine ops_nil ?_
      have e28 := yes_eq hm; subst e28
      refine ⟨rfl, ?_⟩
      exact WkX.of () (WkS.perm (WkS.cons rfl (Wk.refl _) (WkS.cons rfl (Wk.refl _) (WkS.cons rfl (Wk.refl _) (WkS.cons rfl (Wk.refl _) (WkS.nil))))) (List.Perm.refl _) (List.Perm.refl _))
    · replace hm := yes_f hg30 hm
      refine p_load (d := eTApiCong x5) 4 htab rfl rfl rfl rfl rfl rfl rfl rfl ?_
      obtain ⟨x31, q31, hm⟩ := yes_bind hm
      refine p_call0 (cong_None_ok x5 x31 q31) rfl rfl rfl rfl rfl (WkL.refl _) ?_
      rintro _ rfl
      refine p_pickF rfl rfl rfl rfl rfl rfl ?_
      refine p_pure htab rfl rfl rfl rfl ?_
      refine ops_nil ?_
      have e28 := yes_eq hm; subst e28
      refine ⟨rfl, ?_⟩
      exact WkX.of () (WkS.perm (WkS.cons rfl (Wk.refl _) (WkS.cons rfl (Wk.refl _) (WkS.cons rfl (Wk.refl _) (WkS.cons rfl (Wk.refl _) (WkS.nil))))) (List.Perm.refl _) (List.Perm.refl _))
  · intro s28 hw28; clear hm; have hm := ho28; clear q28 ho28
    refine then_normal ?_
    refine wpD_wkX hw28 (fun z28 => ?_)
    refine wpD_cond rfl (fun hc42 => ?_) (fun hc42 => ?_)
    · replace hm := yes_t hc42 hm
      refine wpD_seq ?_
      refine wpD_region ?_
      refine p_build (r := [.v (.bool false), .v (.int .i64 (0 : Int)), .v (.int .i64 (0 : Int))]) htab rfl rfl rfl rfl rfl rfl rfl rfl rfl ?_
      refine p_store (ds' := [.v (.bool false), .v (.int .i64 (0 : Int)), .v (.int .i64 (0 : Int))]) (h' := [(b1, Blk.cells [.v (.bool a0.gSome), .v (.int .i64 a0.gM), .v (.int .i64 a0.gR)] 23), (b2, Blk.cells [.v (.bool a1.gSome), .v (.int .i64 a1.gM), .v (.int .i64 a1.gR)] 23), (b3, Blk.cells [.v (.bool false), .v (.int .i64 (0 : Int)), .v (.int .i64 (0 : Int))] 23), (b6, Blk.cells [.v (.bool x4.gSome), .v (.int .i64 x4.gM), .v (.int .i64 x4.gR)] 23), (b7, Blk.cells [.v (.bool x5.gSome), .v (.int .i64 x5.gM), .v (.int .i64 x5.gR)] 23)]) 2 htab rfl rfl rfl rfl rfl rfl rfl rfl rfl rfl rfl rfl ?_
      refine ops_nil ?_
      refine then_normal ?_
      refine wpD_ret ?_
      refine block_ret ?_
      refine then_ret ?_
      have er43 := yes_eq hm; subst er43
      refine retX.of (s' := ⟨[(4, .ptr b3 0)], [(b3, Blk.cells [.v (.bool false), .v (.int .i64 (0 : Int)), .v (.int .i64 (0 : Int))] 23)], []⟩) (WkS.perm (WkS.cons rfl (Wk.refl _) (WkS.nil)) ((perm_at (j := 2) rfl).trans (List.Perm.cons _ (List.Perm.refl _))) (List.Perm.refl _)) (retD_mk (hh := []) (.inl rfl) (resL_cons (resOne_cell 0 rfl rfl rfl rfl) (resL_nil)) (List.nil_sublist _) (List.Sublist.refl _) ?_)
      exact ⟨rfl, rfl, rfl⟩
    · replace hm := yes_f hc42 hm
      refine wpD_seq ?_
      obtain ⟨y45, q45, ho45⟩ := yes_bind hm
      refine wpD_mid (Y := Unit) (fun z45 => (⟨[(4, .ptr b3 0), (5, .ptr b6 0), (6, .ptr b7 0), (22, .v (.bool y45))], [(b1, Blk.cells [.v (.bool a0.gSome), .v (.int .i64 a0.gM), .v (.int .i64 a0.gR)] 23), (b2, Blk.cells [.v (.bool a1.gSome), .v (.int .i64 a1.gM), .v (.int .i64 a1.gR)] 23), (b3, Blk.cells [.v (.bool false), .v (.int .i64 (0 : Int)), .v (.int .i64 (0 : Int))] 23), (b6, Blk.cells [.v (.bool x4.gSome), .v (.int .i64 x4.gM), .v (.int .i64 x4.gR)] 23), (b7, Blk.cells [.v (.bool x5.gSome), .v (.int .i64 x5.gM), .v (.int .i64 x5.gR)] 23)], []⟩ : S)) ?_ ?_
      · clear hm; have hm := yes_of q45
        refine wpD_region ?_
        refine p_pure htab rfl rfl rfl rfl ?_
        refine p_load 3 htab rfl rfl rfl rfl rfl rfl rfl rfl ?_
        refine p_pure htab rfl rfl rfl rfl ?_
        refine p_pure htab rfl rfl rfl rfl ?_
        refine p_split (i := 26) rfl (fun hg46 => ?_) (fun hg46 => ?_)
        · replace hm := yes_t hg46 hm
          refine p_skip rfl rfl rfl ?_
          refine p_skip rfl rfl rfl ?_
          refine p_skip rfl rfl rfl ?_
          refine p_pickT rfl rfl rfl rfl rfl rfl ?_
          refine p_pure htab rfl rfl rfl rfl ?_
          refine ops_nil ?_
          have e45 := yes_eq hm; subst e45
          refine ⟨rfl, ?_⟩
          exact WkX.of () (WkS.perm (WkS.cons rfl (Wk.refl _) (WkS.cons rfl (Wk.refl _) (WkS.cons rfl (Wk.refl _) (WkS.cons rfl (Wk.refl _) (WkS.nil))))) (List.Perm.refl _) (List.Perm.refl _))
        · replace hm := yes_f hg46 hm
          refine p_pure htab rfl rfl rfl rfl ?_
          refine p_load 4 htab rfl rfl rfl rfl rfl rfl rfl rfl ?_
          refine p_pure htab rfl rfl rfl rfl ?_
          refine p_pickF rfl rfl rfl rfl rfl rfl ?_
          refine p_pure htab rfl rfl rfl rfl ?_
          refine ops_nil ?_
          have e45 := yes_eq hm; subst e45
          refine ⟨rfl, ?_⟩
          exact WkX.of () (WkS.perm (WkS.cons rfl (Wk.refl _) (WkS.cons rfl (Wk.refl _) (WkS.cons rfl (Wk.refl _) (WkS.cons rfl (Wk.refl _) (WkS.nil))))) (List.Perm.refl _) (List.Perm.refl _))
      · intro s45 hw45; clear hm; have hm := ho45; clear q45 ho45
        refine then_normal ?_
        refine wpD_wkX hw45 (fun z45 => ?_)
        refine wpD_cond rfl (fun hc53 => ?_) (fun hc53 => ?_)
        · replace hm := yes_t hc53 hm
          refine wpD_seq ?_
          refine wpD_seq ?_
          refine wpD_region ?_
          refine p_pure htab rfl rfl rfl rfl ?_
          refine p_load 3 htab rfl rfl rfl rfl rfl rfl rfl rfl ?_
          refine p_pure htab rfl rfl rfl rfl ?_
          refine ops_nil ?_
          refine then_normal ?_
          obtain ⟨y55, q55, ho55⟩ := yes_bind hm
          refine wpD_mid (Y := Unit) (fun z55 => (⟨[(4, .ptr b3 0), (5, .ptr b6 0), (6, .ptr b7 0)], [(b1, Blk.cells [.v (.bool a0.gSome), .v (.int .i64 a0.gM), .v (.int .i64 a0.gR)] 23), (b2, Blk.cells [.v (.bool a1.gSome), .v (.int .i64 a1.gM), .v (.int .i64 a1.gR)] 23), (b3, Blk.cells [.v (.bool false), .v (.int .i64 (0 : Int)), .v (.int .i64 (0 : Int))] 23), (b6, Blk.cells [.v (.bool y55.1), .v (.int .i64 y55.2.1), .v (.int .i64 y55.2.2.1)] 23), (b7, Blk.cells [.v (.bool y55.2.2.2.1), .v (.int .i64 y55.2.2.2.2.1), .v (.int .i64 y55.2.2.2.2.2)] 23)], []⟩ : S)) ?_ ?_
          · clear hm; have hm := yes_of q55
            refine wpD_cond rfl (fun hc56 => ?_) (fun hc56 => ?_)
            · replace hm := yes_t hc56 hm
              refine wpD_region ?_
              refine p_load (d := eTApiCong x5) 4 htab rfl rfl rfl rfl rfl rfl rfl rfl ?_
              refine p_load (d := eTApiCong x4) 3 htab rfl rfl rfl rfl rfl rfl rfl rfl ?_
              refine p_store (ds' := [.v (.bool x5.gSome), .v (.int .i64 x5.gM), .v (.int .i64 x5.gR)]) (h' := [(b1, Blk.cells [.v (.bool a0.gSome), .v (.int .i64 a0.gM), .v (.int .i64 a0.gR)] 23), (b2, Blk.cells [.v (.bool a1.gSome), .v (.int .i64 a1.gM), .v (.int .i64 a1.gR)] 23), (b3, Blk.cells [.v (.bool false), .v (.int .i64 (0 : Int)), .v (.int .i64 (0 : Int))] 23), (b6, Blk.cells [.v (.bool x5.gSome), .v (.int .i64 x5.gM), .v (.int .i64 x5.gR)] 23), (b7, Blk.cells [.v (.bool x5.gSome), .v (.int .i64 x5.gM), .v (.int .i64 x5.gR)] 23)]) 3 htab rfl rfl rfl rfl rfl rfl rfl rfl rfl rfl rfl rfl ?_
              refine p_store (ds' := [.v (.bool x4.gSome), .v (.int .i64 x4.gM), .v (.int .i64 x4.gR)]) (h' := [(b1, Blk.cells [.v (.bool a0.gSome), .v (.int .i64 a0.gM), .v (.int .i64 a0.gR)] 23), (b2, Blk.cells [.v (.bool a1.gSome), .v (.int .i64 a1.gM), .v (.int .i64 a1.gR)] 23), (b3, Blk.cells [.v (.bool false), .v (.int .i64 (0 : Int)), .v (.int .i64 (0 : Int))] 23), (b6, Blk.cells [.v (.bool x5.gSome), .v (.int .i64 x5.gM), .v (.int .i64 x5.gR)] 23), (b7, Blk.cells [.v (.bool x4.gSome), .v (.int .i64 x4.gM), .v (.int .i64 x4.gR)] 23)]) 4 htab rfl rfl rfl rfl rfl rfl rfl rfl rfl rfl rfl rfl ?_
              refine ops_nil ?_
              have e55 := yes_eq hm; subst e55
              refine ⟨rfl, ?_⟩
              exact WkX.of () (WkS.perm (WkS.cons rfl (Wk.refl _) (WkS.cons rfl (Wk.refl _) (WkS.cons rfl (Wk.refl _) (WkS.nil)))) (List.Perm.refl _) (List.Perm.refl _))
            · replace hm := yes_f hc56 hm
              refine wpD_skip ?_
              have e55 := yes_eq hm; subst e55
              refine ⟨rfl, ?_⟩
              exact WkX.of () (WkS.perm (WkS.cons rfl (Wk.refl _) (WkS.cons rfl (Wk.refl _) (WkS.cons rfl (Wk.refl _) (WkS.nil)))) (List.Perm.refl _) (List.Perm.refl _))
          · intro s55 hw55; clear hm; have hm := ho55; clear q55 ho55
            refine then_normal ?_
            refine wpD_wkX hw55 (fun z55 => ?_)
            refine wpD_seq ?_
            refine wpD_seq ?_
            refine wpD_region ?_
            refine p_load (d := eTApiCong (⟨y55.2.2.2.1, y55.2.2.2.2.1, y55.2.2.2.2.2⟩ : TApiCong)) 4 htab rfl rfl rfl rfl rfl rfl rfl rfl ?_
            refine p_pure htab rfl rfl rfl rfl ?_
            refine p_load 3 htab rfl rfl rfl rfl rfl rfl rfl rfl ?_
            obtain ⟨x57, q57, hm⟩ := yes_bind hm
            refine p_call0 (cong_Has_ok (⟨y55.2.2.2.1, y55.2.2.2.2.1, y55.2.2.2.2.2⟩ : TApiCong) y55.2.2.1 x57 q57) rfl rfl rfl rfl rfl (WkL.refl _) ?_
            rintro _ rfl
            refine p_pure htab rfl rfl rfl rfl ?_
            refine ops_nil ?_
            refine then_normal ?_
            refine wpD_cond rfl (fun hc59 => ?_) (fun hc59 => ?_)
            · replace hm := yes_t hc59 hm
              refine wpD_seq ?_
              refine wpD_region ?_
              refine p_build (r := [.v (.bool false), .v (.int .i64 (0 : Int)), .v (.int .i64 (0 : Int))]) htab rfl rfl rfl rfl rfl rfl rfl rfl rfl ?_
              refine p_store (ds' := [.v (.bool false), .v (.int .i64 (0 : Int)), .v (.int .i64 (0 : Int))]) (h' := [(b1, Blk.cells [.v (.bool a0.gSome), .v (.int .i64 a0.gM), .v (.int .i64 a0.gR)] 23), (b2, Blk.cells [.v (.bool a1.gSome), .v (.int .i64 a1.gM), .v (.int .i64 a1.gR)] 23), (b3, Blk.cells [.v (.bool false), .v (.int .i64 (0 : Int)), .v (.int .i64 (0 : Int))] 23), (b6, Blk.cells [.v (.bool y55.1), .v (.int .i64 y55.2.1), .v (.int .i64 y55.2.2.1)] 23), (b7, Blk.cells [.v (.bool y55.2.2.2.1), .v (.int .i64 y55.2.2.2.2.1), .v (.int .i64 y55.2.2.2.2.2)] 23)]) 2 htab rfl rfl rfl rfl rfl rfl rfl rfl rfl rfl rfl rfl ?_
              refine ops_nil ?_
              refine then_normal ?_
              refine wpD_ret ?_
              refine then_ret ?_
              refine block_ret ?_
              refine then_ret ?_
              have er60 := yes_eq hm; subst er60
              refine retX.of (s' := ⟨[(4, .ptr b3 0)], [(b3, Blk.cells [.v (.bool false), .v (.int .i64 (0 : Int)), .v (.int .i64 (0 : Int))] 23)], []⟩) (WkS.perm (WkS.cons rfl (Wk.refl _) (WkS.nil)) ((perm_at (j := 2) rfl).trans (List.Perm.cons _ (List.Perm.refl _))) (List.Perm.refl _)) (retD_mk (hh := []) (.inl rfl) (resL_cons (resOne_cell 0 rfl rfl rfl rfl) (resL_nil)) (List.nil_sublist _) (List.Sublist.refl _) ?_)
              exact ⟨rfl, rfl, rfl⟩
            · replace hm := yes_f hc59 hm
              refine wpD_skip ?_
              refine then_normal ?_
              refine wpD_seq ?_
              refine wpD_region ?_
              refine p_load (d := eTApiCong (⟨y55.1, y55.2.1, y55.2.2.1⟩ : TApiCong)) 3 htab rfl rfl rfl rfl rfl rfl rfl rfl ?_
              refine p_store (ds' := [.v (.bool y55.1), .v (.int .i64 y55.2.1), .v (.int .i64 y55.2.2.1)]) (h' := [(b1, Blk.cells [.v (.bool a0.gSome), .v (.int .i64 a0.gM), .v (.int .i64 a0.gR)] 23), (b2, Blk.cells [.v (.bool a1.gSome), .v (.int .i64 a1.gM), .v (.int .i64 a1.gR)] 23), (b3, Blk.cells [.v (.bool y55.1), .v (.int .i64 y55.2.1), .v (.int .i64 y55.2.2.1)] 23), (b6, Blk.cells [.v (.bool y55.1), .v (.int .i64 y55.2.1), .v (.int .i64 y55.2.2.1)] 23), (b7, Blk.cells [.v (.bool y55.2.2.2.1), .v (.int .i64 y55.2.2.2.2.1), .v (.int .i64 y55.2.2.2.2.2)] 23)]) 2 htab rfl rfl rfl rfl rfl rfl rfl rfl rfl rfl rfl rfl ?_
              refine ops_nil ?_
              refine then_normal ?_
              refine wpD_ret ?_
              refine block_ret ?_
              refine then_ret ?_
              have er61 := yes_eq hm; subst er61
              refine retX.of (s' := ⟨[(4, .ptr b3 0)], [(b3, Blk.cells [.v (.bool y55.1), .v (.int .i64 y55.2.1), .v (.int .i64 y55.2.2.1)] 23)], []⟩) (WkS.perm (WkS.cons rfl (Wk.refl _) (WkS.nil)) ((perm_at (j := 2) rfl).trans (List.Perm.cons _ (List.Perm.refl _))) (List.Perm.refl _)) (retD_mk (hh := []) (.inl rfl) (resL_cons (resOne_cell 0 rfl rfl rfl rfl) (resL_nil)) (List.nil_sublist _) (List.Sublist.refl _) ?_)
              exact ⟨rfl, rfl, rfl⟩
        · replace hm := yes_f hc53 hm
          refine wpD_skip ?_
          refine block_normal ?_
          refine then_normal ?_
          refine wpD_seq ?_
          refine wpD_region ?_
          refine p_pure htab rfl rfl rfl rfl ?_
          refine p_load 3 htab rfl rfl rfl rfl rfl rfl rfl rfl ?_
          refine p_pure htab rfl rfl rfl rfl ?_
          refine p_pure htab rfl rfl rfl rfl ?_
          refine p_load 4 htab rfl rfl rfl rfl rfl rfl rfl rfl ?_
          refine p_pure htab rfl rfl rfl rfl ?_
          obtain ⟨x62, q62, hm⟩ := yes_bind hm
          refine p_call0 (cong_Gcd_ok (IntKind.u64.wrap x4.gM) (IntKind.u64.wrap x5.gM) x62 q62) rfl rfl rfl rfl rfl (WkL.refl _) ?_
          rintro _ rfl
          refine p_pure htab rfl rfl rfl rfl ?_
          refine ops_nil ?_
          refine then_normal ?_
          refine wpD_seq ?_
          refine wpD_seq ?_
          refine wpD_region ?_
          refine p_pure htab rfl rfl rfl rfl ?_
          refine p_load 3 htab rfl rfl rfl rfl rfl rfl rfl rfl ?_
          refine p_pure htab rfl rfl rfl rfl ?_
          refine p_load 4 htab rfl rfl rfl rfl rfl rfl rfl rfl ?_
          obtain ⟨x63, q63, hm⟩ := yes_bind hm
          refine p_call0 (cong_apart_ok x4.gR x5.gR x63 q63) rfl rfl rfl rfl rfl (WkL.refl _) ?_
          rintro _ rfl
          refine p_pure htab rfl rfl rfl rfl ?_
          obtain ⟨x64, q64, hm⟩ := yes_bind hm
          refine p_div rfl rfl rfl rfl rfl rfl rfl (by simpa using need_ok q64) ?_
          refine p_pure htab rfl rfl rfl rfl ?_
          refine ops_nil ?_
          refine then_normal ?_
          refine wpD_cond rfl (fun hc66 => ?_) (fun hc66 => ?_)
          · replace hm := yes_t hc66 hm
            refine wpD_seq ?_
            refine wpD_region ?_
            refine p_build (r := [.v (.bool false), .v (.int .i64 (0 : Int)), .v (.int .i64 (0 : Int))]) htab rfl rfl rfl rfl rfl rfl rfl rfl rfl ?_
            refine p_store (ds' := [.v (.bool false), .v (.int .i64 (0 : Int)), .v (.int .i64 (0 : Int))]) (h' := [(b1, Blk.cells [.v (.bool a0.gSome), .v (.int .i64 a0.gM), .v (.int .i64 a0.gR)] 23), (b2, Blk.cells [.v (.bool a1.gSome), .v (.int .i64 a1.gM), .v (.int .i64 a1.gR)] 23), (b3, Blk.cells [.v (.bool false), .v (.int .i64 (0 : Int)), .v (.int .i64 (0 : Int))] 23), (b6, Blk.cells [.v (.bool x4.gSome), .v (.int .i64 x4.gM), .v (.int .i64 x4.gR)] 23), (b7, Blk.cells [.v (.bool x5.gSome), .v (.int .i64 x5.gM), .v (.int .i64 x5.gR)] 23)]) 2 htab rfl rfl rfl rfl rfl rfl rfl rfl rfl rfl rfl rfl ?_
            refine ops_nil ?_
            refine then_normal ?_
            refine wpD_ret ?_
            refine then_ret ?_
            have er67 := yes_eq hm; subst er67
            refine retX.of (s' := ⟨[(4, .ptr b3 0)], [(b3, Blk.cells [.v (.bool false), .v (.int .i64 (0 : Int)), .v (.int .i64 (0 : Int))] 23)], []⟩) (WkS.perm (WkS.cons rfl (Wk.refl _) (WkS.nil)) ((perm_at (j := 2) rfl).trans (List.Perm.cons _ (List.Perm.refl _))) (List.Perm.refl _)) (retD_mk (hh := []) (.inl rfl) (resL_cons (resOne_cell 0 rfl rfl rfl rfl) (resL_nil)) (List.nil_sublist _) (List.Sublist.refl _) ?_)
            exact ⟨rfl, rfl, rfl⟩
          · replace hm := yes_f hc66 hm
            refine wpD_skip ?_
            refine then_normal ?_
            refine wpD_seq ?_
            obtain ⟨x68, q68, hm⟩ := yes_bind hm
            obtain ⟨x69, q69, hm⟩ := yes_bind hm
            obtain ⟨x70, q70, hm⟩ := yes_bind hm
            refine wpD_draws 13 [] [[],[0],[],[2],[],[],[2],[0,2],[0,2,7],[0,2,7,8],[0,2,7,8,9],[0,2,7,8,9],[0,2,7,8,9]] [0,2,7,8,9] [[],[0],[],[2],[],[4],[2,3,4,5],[0,1,2,3,4,5,6],[0,1,2,3,4,5,6,7],[0,1,2,3,4,5,6,7,8],[0,1,2,3,4,5,6,7,8,9],[0,1,2,3,4,5,6,7,8,9],[0,1,2,3,4,5,6,7,8,9,10],[0,1,2,3,4,5,6,7,8,9,10,11,12]] (by kernel_rfl) (by kernel_rfl) (by kernel_rfl) (by rfl) (by rfl) (by kernel_rfl) ?_
            apply Exists.intro
            apply Exists.intro
            apply Exists.intro
            apply Exists.intro
            apply Exists.intro
            intro bs
            refine z_e rfl rfl (ex_pure htab rfl) rfl rfl rfl rfl rfl rfl ?_
            refine z_qM rfl rfl (xm_load 3 htab rfl rfl rfl rfl rfl) rfl rfl rfl rfl rfl rfl ?_
            refine z_e rfl rfl (ex_pure htab rfl) rfl rfl rfl rfl rfl rfl ?_
            refine z_qM rfl rfl (xm_load 4 htab rfl rfl rfl rfl rfl) rfl rfl rfl rfl rfl rfl ?_
            refine z_q rfl rfl (ex_pure htab rfl) rfl rfl rfl rfl rfl rfl ?_
            refine z_q rfl rfl (ex_pure htab rfl) rfl rfl rfl rfl rfl rfl ?_
            refine z_q rfl rfl (x_div rfl rfl rfl rfl (by simpa using need_ok q68)) rfl rfl rfl rfl rfl rfl ?_
            refine z_call rfl rfl (wMul_ok x4.gM (IntKind.i64.wrap (x5.gM.tdiv (IntKind.i64.wrap x62))) (need_ok q69)) rfl rfl (WkL.refl _) rfl rfl rfl rfl rfl rfl ?_
            refine z_call rfl rfl (wide_Int_ok (wMul x4.gM (IntKind.i64.wrap (x5.gM.tdiv (IntKind.i64.wrap x62)))) x70 q70) rfl rfl (WkL.refl _) rfl rfl rfl rfl rfl rfl ?_
            refine z_e rfl rfl (ex_pure htab rfl) rfl rfl rfl rfl rfl rfl ?_
            refine z_q rfl rfl (ex_pure htab rfl) rfl rfl rfl rfl rfl rfl ?_
            refine z_q rfl rfl (ex_pure htab rfl) rfl rfl rfl rfl rfl rfl ?_
            refine z_q rfl rfl (ex_pure htab rfl) rfl rfl rfl rfl rfl rfl ?_
            refine z_nil rfl rfl (fun e he => by simp [isAl] at he) ?_
            refine p_pure htab rfl rfl rfl rfl ?_
            refine ops_nil ?_
            refine then_normal ?_
            refine wpD_seq ?_
            refine wpD_block ?_
            refine wpD_seq ?_
            refine wpD_region ?_
            refine p_pure htab rfl rfl rfl rfl ?_
            refine p_pure htab rfl rfl rfl rfl ?_
            refine ops_nil ?_
            refine then_normal ?_
            refine wpD_cond rfl (fun hc71 => ?_) (fun hc71 => ?_)
            · replace hm := yes_t hc71 hm
              refine wpD_seq ?_
              refine wpD_region ?_
              refine p_pure htab rfl rfl rfl rfl ?_
              refine p_load (d := eTApiCong x4) 3 htab rfl rfl rfl rfl rfl rfl rfl rfl ?_
              refine p_load (d := eTApiCong x5) 4 htab rfl rfl rfl rfl rfl rfl rfl rfl ?_
              refine p_pure htab rfl rfl rfl rfl ?_
              obtain ⟨x72, q72, hm⟩ := yes_bind hm
              refine p_call0 (cong_both_ok x4 x5 x62 x72 q72) rfl rfl rfl rfl rfl (WkL.refl _) ?_
              rintro _ rfl
              obtain ⟨x73, q73, hm⟩ := yes_bind hm
              refine p_call0 (cong_Of_ok x70.1 x72 x73 q73) rfl rfl rfl rfl rfl (WkL.refl _) ?_
              rintro _ rfl
              refine p_store (ds' := [.v (.bool x73.gSome), .v (.int .i64 x73.gM), .v (.int .i64 x73.gR)]) (h' := [(b1, Blk.cells [.v (.bool a0.gSome), .v (.int .i64 a0.gM), .v (.int .i64 a0.gR)] 23), (b2, Blk.cells [.v (.bool a1.gSome), .v (.int .i64 a1.gM), .v (.int .i64 a1.gR)] 23), (b3, Blk.cells [.v (.bool x73.gSome), .v (.int .i64 x73.gM), .v (.int .i64 x73.gR)] 23), (b6, Blk.cells [.v (.bool x4.gSome), .v (.int .i64 x4.gM), .v (.int .i64 x4.gR)] 23), (b7, Blk.cells [.v (.bool x5.gSome), .v (.int .i64 x5.gM), .v (.int .i64 x5.gR)] 23)]) 2 htab rfl rfl rfl rfl rfl rfl rfl rfl rfl rfl rfl rfl ?_
              refine ops_nil ?_
              refine then_normal ?_
              refine wpD_ret ?_
              refine block_ret ?_
              refine then_ret ?_
              have er74 := yes_eq hm; subst er74
              refine retX.of (s' := ⟨[(4, .ptr b3 0)], [(b3, Blk.cells [.v (.bool x73.gSome), .v (.int .i64 x73.gM), .v (.int .i64 x73.gR)] 23)], []⟩) (WkS.perm (WkS.cons rfl (Wk.refl _) (WkS.nil)) ((perm_at (j := 2) rfl).trans (List.Perm.cons _ (List.Perm.refl _))) (List.Perm.refl _)) (retD_mk (hh := []) (.inl rfl) (resL_cons (resOne_cell 0 rfl rfl rfl rfl) (resL_nil)) (List.nil_sublist _) (List.Sublist.refl _) ?_)
              exact ⟨rfl, rfl, rfl⟩
            · replace hm := yes_f hc71 hm
              refine wpD_seq ?_
              refine wpD_region ?_
              refine p_pure htab rfl rfl rfl rfl ?_
              refine p_load 4 htab rfl rfl rfl rfl rfl rfl rfl rfl ?_
              refine p_pure htab rfl rfl rfl rfl ?_
              refine p_load 3 htab rfl rfl rfl rfl rfl rfl rfl rfl ?_
              refine p_pure htab rfl rfl rfl rfl ?_
              refine p_pure htab rfl rfl rfl rfl ?_
              refine ops_nil ?_
              refine then_normal ?_
              refine wpD_cond rfl (fun hc75 => ?_) (fun hc75 => ?_)
              · replace hm := yes_t hc75 hm
                refine wpD_seq ?_
                refine wpD_region ?_
                refine p_load (d := eTApiCong x5) 4 htab rfl rfl rfl rfl rfl rfl rfl rfl ?_
                refine p_store (ds' := [.v (.bool x5.gSome), .v (.int .i64 x5.gM), .v (.int .i64 x5.gR)]) (h' := [(b1, Blk.cells [.v (.bool a0.gSome), .v (.int .i64 a0.gM), .v (.int .i64 a0.gR)] 23), (b2, Blk.cells [.v (.bool a1.gSome), .v (.int .i64 a1.gM), .v (.int .i64 a1.gR)] 23), (b3, Blk.cells [.v (.bool x5.gSome), .v (.int .i64 x5.gM), .v (.int .i64 x5.gR)] 23), (b6, Blk.cells [.v (.bool x4.gSome), .v (.int .i64 x4.gM), .v (.int .i64 x4.gR)] 23), (b7, Blk.cells [.v (.bool x5.gSome), .v (.int .i64 x5.gM), .v (.int .i64 x5.gR)] 23)]) 2 htab rfl rfl rfl rfl rfl rfl rfl rfl rfl rfl rfl rfl ?_
                refine ops_nil ?_
                refine then_normal ?_
                refine wpD_ret ?_
                refine block_ret ?_
                refine then_ret ?_
                have er76 := yes_eq hm; subst er76
                refine retX.of (s' := ⟨[(4, .ptr b3 0)], [(b3, Blk.cells [.v (.bool x5.gSome), .v (.int .i64 x5.gM), .v (.int .i64 x5.gR)] 23)], []⟩) (WkS.perm (WkS.cons rfl (Wk.refl _) (WkS.nil)) ((perm_at (j := 2) rfl).trans (List.Perm.cons _ (List.Perm.refl _))) (List.Perm.refl _)) (retD_mk (hh := []) (.inl rfl) (resL_cons (resOne_cell 0 rfl rfl rfl rfl) (resL_nil)) (List.nil_sublist _) (List.Sublist.refl _) ?_)
                exact ⟨rfl, rfl, rfl⟩
              · replace hm := yes_f hc75 hm
                refine wpD_skip ?_
                refine block_normal ?_
                refine then_normal ?_
                refine wpD_seq ?_
                refine wpD_region ?_
                refine p_load (d := eTApiCong x4) 3 htab rfl rfl rfl rfl rfl rfl rfl rfl ?_
                refine p_store (ds' := [.v (.bool x4.gSome), .v (.int .i64 x4.gM), .v (.int .i64 x4.gR)]) (h' := [(b1, Blk.cells [.v (.bool a0.gSome), .v (.int .i64 a0.gM), .v (.int .i64 a0.gR)] 23), (b2, Blk.cells [.v (.bool a1.gSome), .v (.int .i64 a1.gM), .v (.int .i64 a1.gR)] 23), (b3, Blk.cells [.v (.bool x4.gSome), .v (.int .i64 x4.gM), .v (.int .i64 x4.gR)] 23), (b6, Blk.cells [.v (.bool x4.gSome), .v (.int .i64 x4.gM), .v (.int .i64 x4.gR)] 23), (b7, Blk.cells [.v (.bool x5.gSome), .v (.int .i64 x5.gM), .v (.int .i64 x5.gR)] 23)]) 2 htab rfl rfl rfl rfl rfl rfl rfl rfl rfl rfl rfl rfl ?_
                refine ops_nil ?_
                refine then_normal ?_
                refine wpD_ret ?_
                have er77 := yes_eq hm; subst er77
                refine retX.of (s' := ⟨[(4, .ptr b3 0)], [(b3, Blk.cells [.v (.bool x4.gSome), .v (.int .i64 x4.gM), .v (.int .i64 x4.gR)] 23)], []⟩) (WkS.perm (WkS.cons rfl (Wk.refl _) (WkS.nil)) ((perm_at (j := 2) rfl).trans (List.Perm.cons _ (List.Perm.refl _))) (List.Perm.refl _)) (retD_mk (hh := []) (.inl rfl) (resL_cons (resOne_cell 0 rfl rfl rfl rfl) (resL_nil)) (List.nil_sublist _) (List.Sublist.refl _) ?_)
                exact ⟨rfl, rfl, rfl⟩
end Go.Proofs.Ytjbpfgknhpdkaaa.Ab
