/- Layer 1: the law on the least and the greatest. -/
import Derived.Test.YtbkohmpogdameaaBs
namespace Go.Proofs.Ytbkohmpogdameaa.Ab
open Go Go.RowKit Go.Shelf Go.Proofs.Ytbkohmpogdameaa
def eqW (p q : WP) : Bool := (p.1 == q.1) && ((p.2 == q.2) && true)
def xin (a x : WP) (l : List WP) : Bool := eqW x a || l.any fun b => eqW x b
theorem xin_succ {a x b : WP} {l : List WP} {k : Nat} (h : l[k]? = some b) : xin a x (l.take (k + 1)) = (xin a x (l.take k) || eqW x b) := by
  unfold xin
  rw [List.take_add_one, h]
  simp [Bool.or_assoc]
theorem bests_walk (a x y : WP) (l : List WP) (ha : ok a) (hx : ok x) (hy : ok y) (hl : ∀ b ∈ l, ok b) (hlen : l.length ≤ 9223372036854775807)
    (mn : CallsD Try.prog 27 [wD a, .lst 2 (l.map wD) .no] [] [] (fun d h k => d = wD x ∧ h = [] ∧ k = [])) (mx : CallsD Try.prog 28 [wD a, .lst 2 (l.map wD) .no] [] [] (fun d h k => d = wD y ∧ h = [] ∧ k = []))
    (f1 : decide (0 < cmpI (val x) (val a)) = false) (f2 : decide (cmpI (val y) (val a) < 0) = false) (f3 : ∀ b ∈ l, decide (0 < cmpI (val x) (val b)) = false) (f4 : ∀ b ∈ l, decide (cmpI (val y) (val b) < 0) = false) (f5 : xin a x l = true) (f6 : xin a y l = true) :
    CallsD Try.prog 6 [wD a, .lst 2 (l.map wD) .no] [] [] (fun d h k => d = .v (.bool true) ∧ h = [] ∧ k = []) := by
  refine enter htab Try.func6 rfl rfl rfl rfl rfl (fun C => ?_)
  refine wpD_seq ?_
  refine wpD_region ?_
  refine p_box rfl rfl rfl rfl rfl rfl rfl (fun b1 => ?_)
  refine p_pure htab rfl rfl rfl rfl ?_
  refine ops_nil ?_
  refine then_normal ?_
  refine wpD_seq ?_
  refine wpD_draws 8 [(6, [.v (.int .i64 0), .v (.int .u64 0)], 24), (7, [.v (.int .i64 0), .v (.int .u64 0)], 24)] [[],[],[0,1],[],[],[0,1,2,3,4],[],[]] [0,1,2,3,4,5,6,7] [[],[],[0,1],[],[],[0,1,2,3,4],[],[],[0,1,2,3,4,5,6,7],[0,1,2,3,4,5,6,7,8]] (by kernel_rfl) (by kernel_rfl) (by kernel_rfl) (by rfl) (by rfl) (by kernel_rfl) ?_
  apply Exists.intro
  apply Exists.intro
  apply Exists.intro
  apply Exists.intro
  apply Exists.intro
  apply Exists.intro
  refine ⟨.any, ?_⟩
  refine ⟨.any, ?_⟩
  intro bs
  refine z_eM rfl rfl (xm_load 0 htab rfl rfl rfl rfl rfl) rfl rfl rfl rfl rfl rfl ?_
  refine z_e rfl rfl (ex_pure htab rfl) rfl rfl rfl rfl rfl rfl ?_
  refine z_call rfl rfl (mn) rfl rfl (WkL.refl _) rfl rfl rfl rfl rfl rfl ?_
  refine z_eM rfl rfl (xm_load 0 htab rfl rfl rfl rfl rfl) rfl rfl rfl rfl rfl rfl ?_
  refine z_e rfl rfl (ex_pure htab rfl) rfl rfl rfl rfl rfl rfl ?_
  refine z_call rfl rfl (mx) rfl rfl (WkL.refl _) rfl rfl rfl rfl rfl rfl ?_
  refine z_alloc rfl htab rfl rfl rfl rfl rfl rfl rfl rfl (by simp [dOf]) (by simp) ?_
  refine z_alloc rfl htab rfl rfl rfl rfl rfl rfl rfl rfl (by simp [dOf]) (by simp) ?_
  refine z_nil rfl (by simp only [List.map_cons, List.map_nil]; exact rfl) (fun e he => by simp [isAl] at he; rcases he with rfl | rfl <;> rfl) ?_
  obtain ⟨b2, hb2⟩ : ∃ b, bs 6 = b := ⟨_, rfl⟩
  obtain ⟨b3, hb3⟩ : ∃ b, bs 7 = b := ⟨_, rfl⟩
  simp only [hb2, hb3]
  clear hb2 hb3
  refine p_store 1 htab rfl rfl rfl rfl rfl rfl rfl rfl rfl rfl rfl rfl ?_
  refine p_store 2 htab rfl rfl rfl rfl rfl rfl rfl rfl rfl rfl rfl rfl ?_
  refine ops_nil ?_
  refine then_normal ?_
  refine wpD_seq ?_
  refine wpD_draws 7 [] [[],[],[0,1],[],[],[3,4],[0,1]] [0,1,3,4] [[],[],[0,1],[],[],[3,4],[0,1,2],[0,1,2,3,4,5,6]] (by kernel_rfl) (by kernel_rfl) (by kernel_rfl) (by rfl) (by rfl) (by kernel_rfl) ?_
  apply Exists.intro
  apply Exists.intro
  apply Exists.intro
  apply Exists.intro
  intro bs
  refine z_eM rfl rfl (xm_load 1 htab rfl rfl rfl rfl rfl) rfl rfl rfl rfl rfl rfl ?_
  refine z_eM rfl rfl (xm_load 0 htab rfl rfl rfl rfl rfl) rfl rfl rfl rfl rfl rfl ?_
  refine z_q rfl rfl (x_eqS htab rfl rfl eqt24 rfl rfl rfl rfl rfl) rfl rfl rfl rfl rfl rfl ?_
  refine z_eM rfl rfl (xm_load 2 htab rfl rfl rfl rfl rfl) rfl rfl rfl rfl rfl rfl ?_
  refine z_eM rfl rfl (xm_load 0 htab rfl rfl rfl rfl rfl) rfl rfl rfl rfl rfl rfl ?_
  refine z_q rfl rfl (x_eqS htab rfl rfl eqt24 rfl rfl rfl rfl rfl) rfl rfl rfl rfl rfl rfl ?_
  refine z_q rfl rfl (ex_pure htab rfl) rfl rfl rfl rfl rfl rfl ?_
  refine z_nil rfl rfl (fun e he => by simp [isAl] at he) ?_
  refine p_pure htab rfl rfl rfl rfl ?_
  refine ops_nil ?_
  refine then_normal ?_
  refine wpD_seq ?_
  refine wpD_seq ?_
  refine wpD_region ?_
  refine p_load 1 htab rfl rfl rfl rfl rfl rfl rfl rfl ?_
  refine p_load 0 htab rfl rfl rfl rfl rfl rfl rfl rfl ?_
  refine p_call0 (rcmpE x a hx ha) rfl rfl rfl rfl rfl (WkL.refl _) ?_
  rintro _ rfl
  refine p_pure htab rfl rfl rfl rfl ?_
  refine p_pure htab rfl rfl rfl rfl ?_
  refine p_split (i := 26) rfl (fun hg4 => ?_) (fun hg4 => ?_)
  · skip
    refine p_skip rfl rfl rfl ?_
    refine p_skip rfl rfl rfl ?_
    refine p_skip rfl rfl rfl ?_
    refine p_skip rfl rfl rfl ?_
    refine p_pickT rfl rfl rfl rfl rfl rfl ?_
    refine ops_nil ?_
    refine then_normal ?_
    refine wpD_true rfl ?_
    refine wpD_seq ?_
    refine wpD_region ?_
    refine p_pure htab rfl rfl rfl rfl ?_
    refine ops_nil ?_
    refine then_normal ?_
    refine wpD_ret ?_
    refine then_ret ?_
    refine ret1 (.inl rfl) rfl ?_
    first | rfl | (exfalso; simp_all; done) | (exfalso; rw [List.take_of_length_le (show l.length ≤ k by simpa using hc6)] at *; simp_all; done) | (exfalso; have e : l.take k = l := List.take_of_length_le (by simpa using hc6); simp_all; done)
  · skip
    refine p_load 2 htab rfl rfl rfl rfl rfl rfl rfl rfl ?_
    refine p_load 0 htab rfl rfl rfl rfl rfl rfl rfl rfl ?_
    refine p_call0 (rcmpE y a hy ha) rfl rfl rfl rfl rfl (WkL.refl _) ?_
    rintro _ rfl
    refine p_pure htab rfl rfl rfl rfl ?_
    refine p_pickF rfl rfl rfl rfl rfl rfl ?_
    refine ops_nil ?_
    refine then_normal ?_
    refine wpD_cond rfl (fun hc5 => ?_) (fun hc5 => ?_)
    · skip
      refine wpD_seq ?_
      refine wpD_region ?_
      refine p_pure htab rfl rfl rfl rfl ?_
      refine ops_nil ?_
      refine then_normal ?_
      refine wpD_ret ?_
      refine then_ret ?_
      refine ret1 (.inl rfl) rfl ?_
      first | rfl | (exfalso; simp_all; done) | (exfalso; rw [List.take_of_length_le (show l.length ≤ k by simpa using hc6)] at *; simp_all; done) | (exfalso; have e : l.take k = l := List.take_of_length_le (by simpa using hc6); simp_all; done)
    · skip
      refine wpD_skip ?_
      refine then_normal ?_
      refine wpD_seq ?_
      refine wpD_seq ?_
      refine wpD_region ?_
      refine p_pure htab rfl rfl rfl rfl ?_
      refine ops_nil ?_
      refine then_normal ?_
      refine wpD_block ?_
      refine loop_ind (α := Nat) (fun k => k ≤ l.length) (fun k => ⟨[(1, .lst 2 (l.map wD) .no), (2, .ptr b1 0), (5, .ptr b2 0), (6, .ptr b3 0), (7, .v (.bool (xin a x (l.take k)))), (8, .v (.bool (xin a y (l.take k)))), (9, .v (.int .i64 k))], _, []⟩) (fun k => l.length - k) 0 (Nat.zero_le _) (WkS.slots (WkS.cons rfl (Wk.refl _) (WkS.cons rfl (Wk.refl _) (WkS.cons rfl (Wk.refl _) (WkS.cons rfl (Wk.refl _) (WkS.cons rfl (Wk.of_eq (by simp [xin, eqW])) (WkS.cons rfl (Wk.of_eq (by simp [xin, eqW])) (WkS.cons rfl (Wk.refl _) (WkS.nil)))))))) (List.Sublist.refl _) (List.Sublist.refl _)) ?_
      intro k hk
      refine wpD_seq ?_
      refine wpD_seq ?_
      refine wpD_region ?_
      refine p_pure htab rfl rfl rfl rfl ?_
      refine p_pure htab rfl rfl rfl rfl ?_
      refine p_lenL htab rfl rfl rfl rfl rfl rfl rfl (by first | exact List.length_map _ | rfl) ?_
      refine p_pure htab rfl rfl rfl rfl ?_
      refine ops_nil ?_
      refine then_normal ?_
      refine wpD_cond rfl (fun hc6 => ?_) (fun hc6 => ?_)
      · skip
        refine wpD_skip ?_
        refine then_normal ?_
        refine wpD_seq ?_
        refine wpD_block ?_
        refine wpD_seq ?_
        refine wpD_seq ?_
        have hlt : k < l.length := (by simpa using hc6); obtain ⟨b, hb⟩ : ∃ b, l[k]? = some b := ⟨l[k]'hlt, by simp⟩; have kb : ok b := hl b (List.mem_of_getElem? hb); have g3 := f3 b (List.mem_of_getElem? hb); have g4 := f4 b (List.mem_of_getElem? hb)
        refine bycB (decide (0 < cmpI (val x) (val b))) (fun hs7 => ?_) (fun hs7 => ?_)
        · skip
          refine wpD_draws 13 [] [[],[],[],[1],[1,3],[0,1,3,4],[0,1,3,4,5],[0,1,3,4,5],[0,1,3,4,5],[0,1,3,4,5],[0,1,3,4,5],[0,1,3,4,5],[0,1,3,4,5]] [0,1,3,4,5] [[],[],[],[1,2],[1,2,3],[0,1,2,3,4],[0,1,2,3,4,5],[0,1,2,3,4,5,6],[0,1,2,3,4,5,6,7],[0,1,2,3,4,5,6,7],[0,1,2,3,4,5,6,7],[0,1,2,3,4,5,6,7,9,10],[0,1,2,3,4,5,6,7,9,10,11],[0,1,2,3,4,5,6,7,8,9,10,11,12],[0,1,2,3,4,5,6,7,8,9,10,11,12,13],[0,1,2,3,4,5,6,7,8,9,10,11,12,13,14]] (by kernel_rfl) (by kernel_rfl) (by kernel_rfl) (by rfl) (by rfl) (by kernel_rfl) ?_
          apply Exists.intro
          apply Exists.intro
          apply Exists.intro
          apply Exists.intro
          apply Exists.intro
          intro bs
          refine z_eM rfl rfl (xm_load 1 htab rfl rfl rfl rfl rfl) rfl rfl rfl rfl rfl rfl ?_
          refine z_e rfl rfl (ex_pure htab rfl) rfl rfl rfl rfl rfl rfl ?_
          refine z_q rfl rfl (ex_pure htab rfl) rfl rfl rfl rfl rfl rfl ?_
          refine z_e rfl rfl (x_elem htab rfl rfl rfl rfl rfl rfl rfl (by omega) (map_get hb)) rfl rfl rfl rfl rfl rfl ?_
          refine z_eM rfl rfl (xm_loadEl htab rfl rfl rfl rfl rfl) rfl rfl rfl rfl rfl rfl ?_
          refine z_call rfl rfl (rcmpE x b hx kb) rfl rfl (WkL.refl _) rfl rfl rfl rfl rfl rfl ?_
          refine z_q rfl rfl (ex_pure htab rfl) rfl rfl rfl rfl rfl rfl ?_
          refine z_q rfl rfl (ex_pure htab rfl) rfl rfl rfl rfl rfl rfl ?_
          refine z_known (j := 45) (b' := true) rfl hs7 ?_
          refine z_skip rfl rfl rfl rfl ?_
          refine z_skip rfl rfl rfl rfl ?_
          refine z_skip rfl rfl rfl rfl ?_
          refine z_skip rfl rfl rfl rfl ?_
          refine z_skip rfl rfl rfl rfl ?_
          refine z_nil rfl rfl (fun e he => by simp [isAl] at he) ?_
          refine p_skip rfl rfl rfl ?_
          refine p_skip rfl rfl rfl ?_
          refine p_pickT rfl rfl rfl rfl rfl rfl ?_
          refine ops_nil ?_
          refine then_normal ?_
          refine wpD_true rfl ?_
          refine wpD_seq ?_
          refine wpD_region ?_
          refine p_pure htab rfl rfl rfl rfl ?_
          refine ops_nil ?_
          refine then_normal ?_
          refine wpD_ret ?_
          refine then_ret ?_
          refine block_ret ?_
          refine then_ret ?_
          refine then_ret ?_
          refine block_ret ?_
          refine then_ret ?_
          refine ret1 (.inl rfl) rfl ?_
          first | rfl | (exfalso; simp_all; done) | (exfalso; rw [List.take_of_length_le (show l.length ≤ k by simpa using hc6)] at *; simp_all; done) | (exfalso; have e : l.take k = l := List.take_of_length_le (by simpa using hc6); simp_all; done)
        · skip
          refine wpD_draws 13 [] [[],[],[],[1],[1,3],[0,1,3,4],[0,1,3,4,5],[0,1,3,4,5],[0,1,3,4,5],[0,1,3,4,5],[0,1,3,4,5],[0,1,3,4,5,9],[0,1,3,4,5,9,11]] [0,1,3,4,5,8,9,11,12] [[],[],[],[1,2],[1,2,3],[0,1,2,3,4],[0,1,2,3,4,5],[0,1,2,3,4,5,6],[0,1,2,3,4,5,6,7],[0,1,2,3,4,5,6,7],[0,1,2,3,4,5,6,7],[0,1,2,3,4,5,6,7,9,10],[0,1,2,3,4,5,6,7,9,10,11],[0,1,2,3,4,5,6,7,8,9,10,11,12],[0,1,2,3,4,5,6,7,8,9,10,11,12,13],[0,1,2,3,4,5,6,7,8,9,10,11,12,13,14]] (by kernel_rfl) (by kernel_rfl) (by kernel_rfl) (by rfl) (by rfl) (by kernel_rfl) ?_
          apply Exists.intro
          apply Exists.intro
          apply Exists.intro
          apply Exists.intro
          apply Exists.intro
          apply Exists.intro
          apply Exists.intro
          apply Exists.intro
          apply Exists.intro
          intro bs
          refine z_eM rfl rfl (xm_load 1 htab rfl rfl rfl rfl rfl) rfl rfl rfl rfl rfl rfl ?_
          refine z_e rfl rfl (ex_pure htab rfl) rfl rfl rfl rfl rfl rfl ?_
          refine z_q rfl rfl (ex_pure htab rfl) rfl rfl rfl rfl rfl rfl ?_
          refine z_e rfl rfl (x_elem htab rfl rfl rfl rfl rfl rfl rfl (by omega) (map_get hb)) rfl rfl rfl rfl rfl rfl ?_
          refine z_eM rfl rfl (xm_loadEl htab rfl rfl rfl rfl rfl) rfl rfl rfl rfl rfl rfl ?_
          refine z_call rfl rfl (rcmpE x b hx kb) rfl rfl (WkL.refl _) rfl rfl rfl rfl rfl rfl ?_
          refine z_q rfl rfl (ex_pure htab rfl) rfl rfl rfl rfl rfl rfl ?_
          refine z_q rfl rfl (ex_pure htab rfl) rfl rfl rfl rfl rfl rfl ?_
          refine z_known (j := 45) (b' := false) rfl hs7 ?_
          refine z_eM rfl rfl (xm_load 2 htab rfl rfl rfl rfl rfl) rfl rfl rfl rfl rfl rfl ?_
          refine z_e rfl rfl (ex_pure htab rfl) rfl rfl rfl rfl rfl rfl ?_
          refine z_q rfl rfl (ex_pure htab rfl) rfl rfl rfl rfl rfl rfl ?_
          refine z_e rfl rfl (x_elem htab rfl rfl rfl rfl rfl rfl rfl (by omega) (map_get hb)) rfl rfl rfl rfl rfl rfl ?_
          refine z_eM rfl rfl (xm_loadEl htab rfl rfl rfl rfl rfl) rfl rfl rfl rfl rfl rfl ?_
          refine z_nil rfl rfl (fun e he => by simp [isAl] at he) ?_
          refine p_call0 (rcmpE y b hy kb) rfl rfl rfl rfl rfl (WkL.refl _) ?_
          rintro _ rfl
          refine p_pure htab rfl rfl rfl rfl ?_
          refine p_pickF rfl rfl rfl rfl rfl rfl ?_
          refine ops_nil ?_
          refine then_normal ?_
          refine wpD_cond rfl (fun hc8 => ?_) (fun hc8 => ?_)
          · skip
            refine wpD_seq ?_
            refine wpD_region ?_
            refine p_pure htab rfl rfl rfl rfl ?_
            refine ops_nil ?_
            refine then_normal ?_
            refine wpD_ret ?_
            refine then_ret ?_
            refine block_ret ?_
            refine then_ret ?_
            refine then_ret ?_
            refine block_ret ?_
            refine then_ret ?_
            refine ret1 (.inl rfl) rfl ?_
            first | rfl | (exfalso; simp_all; done) | (exfalso; rw [List.take_of_length_le (show l.length ≤ k by simpa using hc6)] at *; simp_all; done) | (exfalso; have e : l.take k = l := List.take_of_length_le (by simpa using hc6); simp_all; done)
          · skip
            refine wpD_skip ?_
            refine then_normal ?_
            refine wpD_seq ?_
            refine bycB (xin a x (l.take k)) (fun hs9 => ?_) (fun hs9 => ?_)
            · skip
              refine wpD_draws 7 [] [[],[],[],[],[],[],[]] [] [[],[0],[0,1],[0,1],[0,1],[0,1,3,4],[0,1,3,4,5],[0,1,2,3,4,5,6],[0,1,2,3,4,5,6,7],[0,1,2,3,4,5,6,7,8]] (by kernel_rfl) (by kernel_rfl) (by kernel_rfl) (by rfl) (by rfl) (by kernel_rfl) ?_
              intro bs
              refine z_q rfl rfl (ex_pure htab rfl) rfl rfl rfl rfl rfl rfl ?_
              refine z_q rfl rfl (ex_pure htab rfl) rfl rfl rfl rfl rfl rfl ?_
              refine z_known (j := 55) (b' := true) rfl hs9 ?_
              refine z_skip rfl rfl rfl rfl ?_
              refine z_skip rfl rfl rfl rfl ?_
              refine z_skip rfl rfl rfl rfl ?_
              refine z_skip rfl rfl rfl rfl ?_
              refine z_skip rfl rfl rfl rfl ?_
              refine z_nil rfl rfl (fun e he => by simp [isAl] at he) ?_
              refine p_skip rfl rfl rfl ?_
              refine p_pickT rfl rfl rfl rfl rfl rfl ?_
              refine p_pure htab rfl rfl rfl rfl ?_
              refine ops_nil ?_
              refine then_normal ?_
              refine bycB (xin a y (l.take k)) (fun hs10 => ?_) (fun hs10 => ?_)
              · skip
                refine wpD_draws 7 [] [[],[],[],[],[],[],[]] [] [[],[0],[0,1],[0,1],[0,1],[0,1,3,4],[0,1,3,4,5],[0,1,2,3,4,5,6],[0,1,2,3,4,5,6,7],[0,1,2,3,4,5,6,7,8]] (by kernel_rfl) (by kernel_rfl) (by kernel_rfl) (by rfl) (by rfl) (by kernel_rfl) ?_
                intro bs
                refine z_q rfl rfl (ex_pure htab rfl) rfl rfl rfl rfl rfl rfl ?_
                refine z_q rfl rfl (ex_pure htab rfl) rfl rfl rfl rfl rfl rfl ?_
                refine z_known (j := 64) (b' := true) rfl hs10 ?_
                refine z_skip rfl rfl rfl rfl ?_
                refine z_skip rfl rfl rfl rfl ?_
                refine z_skip rfl rfl rfl rfl ?_
                refine z_skip rfl rfl rfl rfl ?_
                refine z_skip rfl rfl rfl rfl ?_
                refine z_nil rfl rfl (fun e he => by simp [isAl] at he) ?_
                refine p_skip rfl rfl rfl ?_
                refine p_pickT rfl rfl rfl rfl rfl rfl ?_
                refine p_pure htab rfl rfl rfl rfl ?_
                refine ops_nil ?_
                refine block_normal ?_
                refine then_normal ?_
                refine wpD_region ?_
                refine p_pure htab rfl rfl rfl rfl ?_
                refine p_pure htab rfl rfl rfl rfl ?_
                refine p_pure htab rfl rfl rfl rfl ?_
                refine ops_nil ?_
                refine then_normal ?_
                refine ⟨(k + 1), WkS.slots (WkS.cons rfl (Wk.refl _) (WkS.cons rfl (Wk.refl _) (WkS.cons rfl (Wk.refl _) (WkS.cons rfl (Wk.refl _) (WkS.cons rfl (Wk.of_eq (by rw [xin_succ hb]; first | (rw [(by assumption : xin a x (l.take k) = true)]; rfl) | (rw [(by assumption : xin a x (l.take k) = false)]; rfl))) (WkS.cons rfl (Wk.of_eq (by rw [xin_succ hb]; first | (rw [(by assumption : xin a y (l.take k) = true)]; rfl) | (rw [(by assumption : xin a y (l.take k) = false)]; rfl))) (WkS.cons rfl (Wk.of_eq (by rw [wrapS (by omega)])) (WkS.nil)))))))) (List.Sublist.refl _) (List.Sublist.refl _), (by omega), by omega⟩
              · skip
                refine wpD_draws 7 [] [[],[],[],[],[],[3],[3,5]] [2,3,5,6] [[],[0],[0,1],[0,1],[0,1],[0,1,3,4],[0,1,3,4,5],[0,1,2,3,4,5,6],[0,1,2,3,4,5,6,7],[0,1,2,3,4,5,6,7,8]] (by kernel_rfl) (by kernel_rfl) (by kernel_rfl) (by rfl) (by rfl) (by kernel_rfl) ?_
                apply Exists.intro
                apply Exists.intro
                apply Exists.intro
                apply Exists.intro
                intro bs
                refine z_q rfl rfl (ex_pure htab rfl) rfl rfl rfl rfl rfl rfl ?_
                refine z_q rfl rfl (ex_pure htab rfl) rfl rfl rfl rfl rfl rfl ?_
                refine z_known (j := 64) (b' := false) rfl hs10 ?_
                refine z_eM rfl rfl (xm_load 2 htab rfl rfl rfl rfl rfl) rfl rfl rfl rfl rfl rfl ?_
                refine z_e rfl rfl (ex_pure htab rfl) rfl rfl rfl rfl rfl rfl ?_
                refine z_q rfl rfl (ex_pure htab rfl) rfl rfl rfl rfl rfl rfl ?_
                refine z_e rfl rfl (x_elem htab rfl rfl rfl rfl rfl rfl rfl (by omega) (map_get hb)) rfl rfl rfl rfl rfl rfl ?_
                refine z_eM rfl rfl (xm_loadEl htab rfl rfl rfl rfl rfl) rfl rfl rfl rfl rfl rfl ?_
                refine z_nil rfl rfl (fun e he => by simp [isAl] at he) ?_
                refine p_eqS htab rfl rfl rfl rfl rfl eqt24 rfl rfl rfl rfl rfl ?_
                refine p_pickF rfl rfl rfl rfl rfl rfl ?_
                refine p_pure htab rfl rfl rfl rfl ?_
                refine ops_nil ?_
                refine block_normal ?_
                refine then_normal ?_
                refine wpD_region ?_
                refine p_pure htab rfl rfl rfl rfl ?_
                refine p_pure htab rfl rfl rfl rfl ?_
                refine p_pure htab rfl rfl rfl rfl ?_
                refine ops_nil ?_
                refine then_normal ?_
                refine ⟨(k + 1), WkS.slots (WkS.cons rfl (Wk.refl _) (WkS.cons rfl (Wk.refl _) (WkS.cons rfl (Wk.refl _) (WkS.cons rfl (Wk.refl _) (WkS.cons rfl (Wk.of_eq (by rw [xin_succ hb]; first | (rw [(by assumption : xin a x (l.take k) = true)]; rfl) | (rw [(by assumption : xin a x (l.take k) = false)]; rfl))) (WkS.cons rfl (Wk.of_eq (by rw [xin_succ hb]; first | (rw [(by assumption : xin a y (l.take k) = true)]; rfl) | (rw [(by assumption : xin a y (l.take k) = false)]; rfl))) (WkS.cons rfl (Wk.of_eq (by rw [wrapS (by omega)])) (WkS.nil)))))))) (List.Sublist.refl _) (List.Sublist.refl _), (by omega), by omega⟩
            · skip
              refine wpD_draws 7 [] [[],[],[],[],[],[3],[3,5]] [2,3,5,6] [[],[0],[0,1],[0,1],[0,1],[0,1,3,4],[0,1,3,4,5],[0,1,2,3,4,5,6],[0,1,2,3,4,5,6,7],[0,1,2,3,4,5,6,7,8]] (by kernel_rfl) (by kernel_rfl) (by kernel_rfl) (by rfl) (by rfl) (by kernel_rfl) ?_
              apply Exists.intro
              apply Exists.intro
              apply Exists.intro
              apply Exists.intro
              intro bs
              refine z_q rfl rfl (ex_pure htab rfl) rfl rfl rfl rfl rfl rfl ?_
              refine z_q rfl rfl (ex_pure htab rfl) rfl rfl rfl rfl rfl rfl ?_
              refine z_known (j := 55) (b' := false) rfl hs9 ?_
              refine z_eM rfl rfl (xm_load 1 htab rfl rfl rfl rfl rfl) rfl rfl rfl rfl rfl rfl ?_
              refine z_e rfl rfl (ex_pure htab rfl) rfl rfl rfl rfl rfl rfl ?_
              refine z_q rfl rfl (ex_pure htab rfl) rfl rfl rfl rfl rfl rfl ?_
              refine z_e rfl rfl (x_elem htab rfl rfl rfl rfl rfl rfl rfl (by omega) (map_get hb)) rfl rfl rfl rfl rfl rfl ?_
              refine z_eM rfl rfl (xm_loadEl htab rfl rfl rfl rfl rfl) rfl rfl rfl rfl rfl rfl ?_
              refine z_nil rfl rfl (fun e he => by simp [isAl] at he) ?_
              refine p_eqS htab rfl rfl rfl rfl rfl eqt24 rfl rfl rfl rfl rfl ?_
              refine p_pickF rfl rfl rfl rfl rfl rfl ?_
              refine p_pure htab rfl rfl rfl rfl ?_
              refine ops_nil ?_
              refine then_normal ?_
              refine bycB (xin a y (l.take k)) (fun hs11 => ?_) (fun hs11 => ?_)
              · skip
                refine wpD_draws 7 [] [[],[],[],[],[],[],[]] [] [[],[0],[0,1],[0,1],[0,1],[0,1,3,4],[0,1,3,4,5],[0,1,2,3,4,5,6],[0,1,2,3,4,5,6,7],[0,1,2,3,4,5,6,7,8]] (by kernel_rfl) (by kernel_rfl) (by kernel_rfl) (by rfl) (by rfl) (by kernel_rfl) ?_
                intro bs
                refine z_q rfl rfl (ex_pure htab rfl) rfl rfl rfl rfl rfl rfl ?_
                refine z_q rfl rfl (ex_pure htab rfl) rfl rfl rfl rfl rfl rfl ?_
                refine z_known (j := 64) (b' := true) rfl hs11 ?_
                refine z_skip rfl rfl rfl rfl ?_
                refine z_skip rfl rfl rfl rfl ?_
                refine z_skip rfl rfl rfl rfl ?_
                refine z_skip rfl rfl rfl rfl ?_
                refine z_skip rfl rfl rfl rfl ?_
                refine z_nil rfl rfl (fun e he => by simp [isAl] at he) ?_
                refine p_skip rfl rfl rfl ?_
                refine p_pickT rfl rfl rfl rfl rfl rfl ?_
                refine p_pure htab rfl rfl rfl rfl ?_
                refine ops_nil ?_
                refine block_normal ?_
                refine then_normal ?_
                refine wpD_region ?_
                refine p_pure htab rfl rfl rfl rfl ?_
                refine p_pure htab rfl rfl rfl rfl ?_
                refine p_pure htab rfl rfl rfl rfl ?_
                refine ops_nil ?_
                refine then_normal ?_
                refine ⟨(k + 1), WkS.slots (WkS.cons rfl (Wk.refl _) (WkS.cons rfl (Wk.refl _) (WkS.cons rfl (Wk.refl _) (WkS.cons rfl (Wk.refl _) (WkS.cons rfl (Wk.of_eq (by rw [xin_succ hb]; first | (rw [(by assumption : xin a x (l.take k) = true)]; rfl) | (rw [(by assumption : xin a x (l.take k) = false)]; rfl))) (WkS.cons rfl (Wk.of_eq (by rw [xin_succ hb]; first | (rw [(by assumption : xin a y (l.take k) = true)]; rfl) | (rw [(by assumption : xin a y (l.take k) = false)]; rfl))) (WkS.cons rfl (Wk.of_eq (by rw [wrapS (by omega)])) (WkS.nil)))))))) (List.Sublist.refl _) (List.Sublist.refl _), (by omega), by omega⟩
              · skip
                refine wpD_draws 7 [] [[],[],[],[],[],[3],[3,5]] [2,3,5,6] [[],[0],[0,1],[0,1],[0,1],[0,1,3,4],[0,1,3,4,5],[0,1,2,3,4,5,6],[0,1,2,3,4,5,6,7],[0,1,2,3,4,5,6,7,8]] (by kernel_rfl) (by kernel_rfl) (by kernel_rfl) (by rfl) (by rfl) (by kernel_rfl) ?_
                apply Exists.intro
                apply Exists.intro
                apply Exists.intro
                apply Exists.intro
                intro bs
                refine z_q rfl rfl (ex_pure htab rfl) rfl rfl rfl rfl rfl rfl ?_
                refine z_q rfl rfl (ex_pure htab rfl) rfl rfl rfl rfl rfl rfl ?_
                refine z_known (j := 64) (b' := false) rfl hs11 ?_
                refine z_eM rfl rfl (xm_load 2 htab rfl rfl rfl rfl rfl) rfl rfl rfl rfl rfl rfl ?_
                refine z_e rfl rfl (ex_pure htab rfl) rfl rfl rfl rfl rfl rfl ?_
                refine z_q rfl rfl (ex_pure htab rfl) rfl rfl rfl rfl rfl rfl ?_
                refine z_e rfl rfl (x_elem htab rfl rfl rfl rfl rfl rfl rfl (by omega) (map_get hb)) rfl rfl rfl rfl rfl rfl ?_
                refine z_eM rfl rfl (xm_loadEl htab rfl rfl rfl rfl rfl) rfl rfl rfl rfl rfl rfl ?_
                refine z_nil rfl rfl (fun e he => by simp [isAl] at he) ?_
                refine p_eqS htab rfl rfl rfl rfl rfl eqt24 rfl rfl rfl rfl rfl ?_
                refine p_pickF rfl rfl rfl rfl rfl rfl ?_
                refine p_pure htab rfl rfl rfl rfl ?_
                refine ops_nil ?_
                refine block_normal ?_
                refine then_normal ?_
                refine wpD_region ?_
                refine p_pure htab rfl rfl rfl rfl ?_
                refine p_pure htab rfl rfl rfl rfl ?_
                refine p_pure htab rfl rfl rfl rfl ?_
                refine ops_nil ?_
                refine then_normal ?_
                refine ⟨(k + 1), WkS.slots (WkS.cons rfl (Wk.refl _) (WkS.cons rfl (Wk.refl _) (WkS.cons rfl (Wk.refl _) (WkS.cons rfl (Wk.refl _) (WkS.cons rfl (Wk.of_eq (by rw [xin_succ hb]; first | (rw [(by assumption : xin a x (l.take k) = true)]; rfl) | (rw [(by assumption : xin a x (l.take k) = false)]; rfl))) (WkS.cons rfl (Wk.of_eq (by rw [xin_succ hb]; first | (rw [(by assumption : xin a y (l.take k) = true)]; rfl) | (rw [(by assumption : xin a y (l.take k) = false)]; rfl))) (WkS.cons rfl (Wk.of_eq (by rw [wrapS (by omega)])) (WkS.nil)))))))) (List.Sublist.refl _) (List.Sublist.refl _), (by omega), by omega⟩
      · skip
        refine wpD_exit ?_
        refine then_exit ?_
        refine then_exit ?_
        refine block_hit ?_
        refine then_normal ?_
        refine wpD_seq ?_
        refine wpD_region ?_
        refine p_pure htab rfl rfl rfl rfl ?_
        refine p_pure htab rfl rfl rfl rfl ?_
        refine p_split (i := 73) rfl (fun hg12 => ?_) (fun hg12 => ?_)
        · skip
          refine p_pure htab rfl rfl rfl rfl ?_
          refine p_pickT rfl rfl rfl rfl rfl rfl ?_
          refine p_pure htab rfl rfl rfl rfl ?_
          refine p_split (i := 76) rfl (fun hg13 => ?_) (fun hg13 => ?_)
          · skip
            refine p_call0 (livesE) rfl rfl rfl rfl rfl (WkL.refl _) ?_
            rintro _ rfl
            refine p_pickT rfl rfl rfl rfl rfl rfl ?_
            refine p_pure htab rfl rfl rfl rfl ?_
            refine ops_nil ?_
            refine then_normal ?_
            refine wpD_ret ?_
            refine ret1 (.inl rfl) rfl ?_
            first | rfl | (exfalso; simp_all; done) | (exfalso; rw [List.take_of_length_le (show l.length ≤ k by simpa using hc6)] at *; simp_all; done) | (exfalso; have e : l.take k = l := List.take_of_length_le (by simpa using hc6); simp_all; done)
          · skip
            refine p_skip rfl rfl rfl ?_
            refine p_pickF rfl rfl rfl rfl rfl rfl ?_
            refine p_pure htab rfl rfl rfl rfl ?_
            refine ops_nil ?_
            refine then_normal ?_
            refine wpD_ret ?_
            refine ret1 (.inl rfl) rfl ?_
            first | rfl | (exfalso; simp_all; done) | (exfalso; rw [List.take_of_length_le (show l.length ≤ k by simpa using hc6)] at *; simp_all; done) | (exfalso; have e : l.take k = l := List.take_of_length_le (by simpa using hc6); simp_all; done)
        · skip
          refine p_skip rfl rfl rfl ?_
          refine p_pickF rfl rfl rfl rfl rfl rfl ?_
          refine p_pure htab rfl rfl rfl rfl ?_
          refine p_skip rfl rfl rfl ?_
          refine p_pickF rfl rfl rfl rfl rfl rfl ?_
          refine p_pure htab rfl rfl rfl rfl ?_
          refine ops_nil ?_
          refine then_normal ?_
          refine wpD_ret ?_
          refine ret1 (.inl rfl) rfl ?_
          first | rfl | (exfalso; simp_all; done) | (exfalso; rw [List.take_of_length_le (show l.length ≤ k by simpa using hc6)] at *; simp_all; done) | (exfalso; have e : l.take k = l := List.take_of_length_le (by simpa using hc6); simp_all; done)
end Go.Proofs.Ytbkohmpogdameaa.Ab
