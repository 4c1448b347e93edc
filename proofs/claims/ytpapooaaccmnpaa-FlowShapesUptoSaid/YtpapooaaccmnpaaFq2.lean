/- Layer 17: the program's graphs; the law of graphs. -/
import Derived.Test.YtpapooaaccmnpaaFq1
namespace Go.Proofs.Ytpapooaaccmnpaa.Ab
open Go
set_option linter.all false
abbrev Mk := TFlowMaker
def pr (m : Mk) : Md := ⟨m.gG.gNodes, m.gAt, m.gG.gEdges, m.gPlaces⟩
def emb (m : Mk) (x : Md) : Mk := ⟨⟨m.gG.gFunc, x.gNodes, x.gEdges, m.gG.gVars, m.gG.gMany⟩, x.gAt, x.gPlaces⟩
theorem emb_pr (m : Mk) : emb m (pr m) = m := rfl
theorem pr_emb (m : Mk) (x : Md) : pr (emb m x) = x := rfl
theorem emb_emb (m : Mk) (x y : Md) : emb (emb m x) y = emb m y := rfl
theorem node_eq {m : Mk} (h : 0 ≤ m.gG.gNodes) (k : m.gG.gNodes ≤ 9000000) : flow_maker_node m = some (m.gG.gNodes, emb m ⟨m.gG.gNodes + 1, m.gAt, m.gG.gEdges, m.gPlaces⟩) := by
  unfold flow_maker_node
  rw [wrap_id (n := m.gG.gNodes + 1) (by omega) (by omega), wrap_id (by omega) (by omega)]
  congr 2; omega
theorem edge_eq {m : Mk} {a b k : Int} {s : TApiStmt} (hk : k ≠ 0) (h : m.gG.gEdges.length ≤ 8000000) (he : s.gExps.length ≤ 8000000) : flow_maker_edge m a b k s = some (emb m (ed (pr m) a b k s)) := by
  unfold flow_maker_edge slices_Clone_api_Expr_api_Expr
  rw [show (k != 0) = true by simp [hk], cond_true, app_len (by omega) (by simp; omega), Option.bind_some, Option.bind_some, app_len (by omega) (by simp; omega), Option.bind_some, List.append_nil]
  rfl
theorem edge0_eq {m : Mk} {a b : Int} {s : TApiStmt} (h : m.gG.gEdges.length ≤ 8000000) : flow_maker_edge m a b 0 s = some (emb m (ed (pr m) a b 0 (tst []))) := by
  unfold flow_maker_edge
  rw [show ((0 : Int) != 0) = false from rfl, cond_false, Option.bind_some, app_len (by omega) (by simp; omega), Option.bind_some]
  rfl
theorem step_eq {m : Mk} {s : TApiStmt} {k : Int} (hk : k ≠ 0) (h0 : 0 ≤ m.gG.gNodes) (h1 : m.gG.gNodes ≤ 9000000) (h : m.gG.gEdges.length ≤ 8000000) (he : s.gExps.length ≤ 8000000) : flow_maker_step m k s = some (emb m ⟨m.gG.gNodes + 1, m.gG.gNodes, m.gG.gEdges ++ [⟨m.gAt, m.gG.gNodes, k, s.gName, s.gFunc, s.gExps⟩], m.gPlaces⟩) := by
  unfold flow_maker_step
  rw [node_eq h0 h1, Option.bind_some]
  simp only []
  rw [edge_eq hk (by simpa [emb] using h) he]; rfl
theorem leave_eq {m : Mk} {s : TApiStmt} (h0 : 0 ≤ m.gG.gNodes) (h1 : m.gG.gNodes ≤ 9000000) (h : m.gG.gEdges.length ≤ 8000000) (he : s.gExps.length ≤ 8000000) : flow_maker_leave m s = some (emb m ⟨m.gG.gNodes + 1, m.gG.gNodes, m.gG.gEdges ++ [⟨m.gAt, 1, 8, ByteArray.empty, ByteArray.empty, s.gExps⟩], m.gPlaces⟩) := by
  unfold flow_maker_leave
  rw [edge_eq (by decide) h (by simpa using he), Option.bind_some, node_eq (by simpa [emb, ed, pr] using h0) (by simpa [emb, ed, pr] using h1)]; rfl
theorem exps_len (s : TApiStmt) : s.gExps.length ≤ wS s := by
  have h1 := szEs_len s.gExps
  have h2 := szEs_le s.gExps
  have h3 := wS_eq s
  omega
theorem wS_mem : ∀ {l : List TApiStmt} {s : TApiStmt}, s ∈ l → wS s ≤ wSs l
  | x :: l, e, h => by
    rw [wSs_cons]
    rcases List.mem_cons.1 h with rfl | h
    · omega
    · have := wS_mem h; omega
theorem test_eq (s : TApiStmt) : flow_test s = some (tst s.gExps) := rfl
theorem mall_go : ∀ (n : Nat), (∀ (l : List TApiStmt) (m : Mk), 3 * hSs l ≤ n + 2 → Rm (pr m) (cSs l) → wSs l ≤ 4000000 → (flow_maker_all_g n).1 m l = some (emb m (goSs l (pr m)))) ∧
    (∀ (s : TApiStmt) (m : Mk), 3 * hS s ≤ n + 3 → Rm (pr m) (cS s) → wS s ≤ 4000000 → (flow_maker_all_g n).2.1 m s = some (emb m (goS s (pr m)))) ∧
    (∀ (s : TApiStmt) (m : Mk) (pl : List Int), 3 * hS s ≤ n + 4 → Rm (pr m) (cS s) → wS s ≤ 4000000 → kd s.gOp = 0 → s.gOp = 6 → (flow_maker_all_g n).2.2.1 ⟨m.gG, m.gAt, m.gPlaces ++ [m.gAt]⟩ s = some (emb m (goS s (pr m)))) ∧
    (∀ (s : TApiStmt) (m : Mk) (pl : List Int), 3 * hS s ≤ n + 4 → Rm (pr m) (cS s) → wS s ≤ 4000000 → kd s.gOp = 0 → s.gOp = 7 → (flow_maker_all_g n).2.2.2 ⟨m.gG, m.gAt, m.gPlaces ++ [m.gAt]⟩ s = some (emb m (goS s (pr m))))
  | 0 => by
    refine ⟨fun l m h _ _ => ?_, fun s m h _ _ => ?_, fun s m _ h _ _ _ _ => ?_, fun s m _ h _ _ _ _ => ?_⟩
    · have := hSs_pos l; omega
    · have := hSs_pos s.gKids; rw [hS_eq] at h; omega
    · have := hSs_pos s.gKids; rw [hS_eq] at h; omega
    · have := hSs_pos s.gKids; rw [hS_eq] at h; omega
  | n + 1 => by
    obtain ⟨h1, h2, h3, h4⟩ := mall_go n
    refine ⟨fun l m h hr hw => ?_, fun s m h hr hw => ?_, fun s m _ h hr hw hk h6 => ?_, fun s m _ h hr hw hk h7 => ?_⟩
    · show flow_maker_all_b (flow_maker_all_g n).1 (flow_maker_all_g n).2.1 (flow_maker_all_g n).2.2.1 (flow_maker_all_g n).2.2.2 m l = _
      unfold flow_maker_all_b
      have hl := cSs_len l
      refine loop_list l (fun pre => goSs pre (pr m)) (fun a i => ((i : Int), m.gG.gFunc, a.gNodes, a.gEdges, m.gG.gVars, m.gG.gMany, a.gAt, a.gPlaces)) (fun a => (m.gG.gFunc, a.gNodes, a.gEdges, m.gG.gVars, m.gG.gMany, a.gAt, a.gPlaces)) rfl (fun p x q hp => ?_) ?_ ?_
      · have hx := hS_mem (pre_mem hp)
        have hwx := wS_mem (pre_mem hp)
        have hc := cSs_pre hp
        have hb := goSs_bd p (pr m)
        simp only [lt_pre hp, cond_true]
        have hrx : Rm (goSs p (pr m)) (cS x) := by unfold Rm Bd at *; omega
        unfold Rm at hr
        rw [idx_pre2 hp rfl, Option.bind_some, inc_pre hp (by omega)]
        have := h2 x (emb m (goSs p (pr m))) (by omega) hrx (by omega)
        change Option.bind ((flow_maker_all_g n).2.1 (emb m (goSs p (pr m))) x) _ = _
        rw [this, Option.bind_some, goSs_append]
        simp only [goSs]
        rfl
      · simp only [lt_end, cond_false]
      · rfl
    · show flow_maker_stmt_b (flow_maker_all_g n).1 (flow_maker_all_g n).2.1 (flow_maker_all_g n).2.2.1 (flow_maker_all_g n).2.2.2 m s = _
      unfold flow_maker_stmt_b
      have hex := exps_len s
      have hc := cS_eq s
      have hr0 := hr
      unfold Rm pr at hr
      simp only [] at hr
      rw [app_len (by omega) (by simp; omega), Option.bind_some, goS_eq]
      have st : ∀ k : Int, k ≠ 0 → kd s.gOp = k → (Option.bind (flow_maker_step ⟨m.gG, m.gAt, m.gPlaces ++ [m.gAt]⟩ k s) fun x => some x) = some (emb m (step1 s (pr m))) := by
        intro k hk e
        rw [step_eq hk (by simp only []; omega) (by simp only []; omega) (by simp only []; omega) (by omega)]
        unfold step1; rw [e]; rfl
      by_cases e1 : s.gOp = 1
      · have ek : kd s.gOp = 1 := by rw [e1]; rfl
        rw [show (s.gOp == 1) = true by simp [e1], cond_true, show (kd s.gOp != 0) = true by rw [ek]; rfl, cond_true]
        exact st 1 (by decide) ek
      · rw [show (s.gOp == 1) = false by simp [e1], cond_false]
        by_cases e2 : s.gOp = 2
        · have ek : kd s.gOp = 2 := by rw [e2]; rfl
          rw [show (s.gOp == 2) = true by simp [e2], cond_true, show (kd s.gOp != 0) = true by rw [ek]; rfl, cond_true]
          exact st 2 (by decide) ek
        · rw [show (s.gOp == 2) = false by simp [e2], cond_false]
          by_cases e3 : s.gOp = 3
          · have ek : kd s.gOp = 3 := by rw [e3]; rfl
            rw [show (s.gOp == 3) = true by simp [e3], cond_true, show (kd s.gOp != 0) = true by rw [ek]; rfl, cond_true]
            exact st 3 (by decide) ek
          · rw [show (s.gOp == 3) = false by simp [e3], cond_false]
            by_cases e4 : s.gOp = 4
            · have ek : kd s.gOp = 4 := by rw [e4]; rfl
              rw [show (s.gOp == 4) = true by simp [e4], cond_true, show (kd s.gOp != 0) = true by rw [ek]; rfl, cond_true]
              exact st 4 (by decide) ek
            · rw [show (s.gOp == 4) = false by simp [e4], cond_false]
              by_cases e5 : s.gOp = 5
              · have ek : kd s.gOp = 5 := by rw [e5]; rfl
                rw [show (s.gOp == 5) = true by simp [e5], cond_true, show (kd s.gOp != 0) = true by rw [ek]; rfl, cond_true]
                exact st 5 (by decide) ek
              · rw [show (s.gOp == 5) = false by simp [e5], cond_false]
                by_cases e9 : s.gOp = 9
                · have ek : kd s.gOp = 9 := by rw [e9]; rfl
                  rw [show (s.gOp == 9) = true by simp [e9], cond_true, show (kd s.gOp != 0) = true by rw [ek]; rfl, cond_true]
                  exact st 9 (by decide) ek
                · have ek : kd s.gOp = 0 := by
                    unfold kd
                    rw [show (s.gOp == 1) = false by simp [e1], show (s.gOp == 2) = false by simp [e2], show (s.gOp == 3) = false by simp [e3], show (s.gOp == 4) = false by simp [e4], show (s.gOp == 5) = false by simp [e5], show (s.gOp == 9) = false by simp [e9]]; rfl
                  rw [show (s.gOp == 9) = false by simp [e9], cond_false, show (kd s.gOp != 0) = false by rw [ek]; rfl, cond_false]
                  by_cases e8 : s.gOp = 8
                  · rw [show (s.gOp == 8) = true by simp [e8], cond_true, cond_true, leave_eq (by simp only []; omega) (by simp only []; omega) (by simp only []; omega) (by omega)]
                    rfl
                  · rw [show (s.gOp == 8) = false by simp [e8], cond_false, cond_false]
                    by_cases e6 : s.gOp = 6
                    · rw [show (s.gOp == 6) = true by simp [e6], cond_true, h3 s m [] (by omega) hr0 hw ek e6, Option.bind_some, goS_eq, ek, e6]; rfl
                    · rw [show (s.gOp == 6) = false by simp [e6], cond_false, cond_false]
                      by_cases e7 : s.gOp = 7
                      · rw [show (s.gOp == 7) = true by simp [e7], cond_true, h4 s m [] (by omega) hr0 hw ek e7, Option.bind_some, goS_eq, ek, e7]; rfl
                      · rw [show (s.gOp == 7) = false by simp [e7], cond_false, cond_false]; rfl
    · show flow_maker_branch_b (flow_maker_all_g n).1 (flow_maker_all_g n).2.1 (flow_maker_all_g n).2.2.1 (flow_maker_all_g n).2.2.2 _ s = _
      unfold flow_maker_branch_b
      have hex := exps_len s
      have hc := cS_eq s
      have hh := hS_eq s
      have hws := wS_eq s
      have b1 := goSs_bd s.gKids (opn6 s.gExps (pr m))
      have e1 := opn6_n s.gExps (pr m)
      have e2 := mid6_n ((pr m).gNodes + 1) (goSs s.gKids (opn6 s.gExps (pr m)))
      have b2 := goSs_bd s.gElse (mid6 ((pr m).gNodes + 1) (goSs s.gKids (opn6 s.gExps (pr m))))
      unfold Bd at b1 b2
      have rm1 : Rm (opn6 s.gExps (pr m)) (cSs s.gKids) := by unfold Rm at *; omega
      have rm2 : Rm (mid6 ((pr m).gNodes + 1) (goSs s.gKids (opn6 s.gExps (pr m)))) (cSs s.gElse) := by unfold Rm at *; omega
      unfold Rm at hr
      have hn : (pr m).gNodes = m.gG.gNodes := rfl
      have hE : (pr m).gEdges = m.gG.gEdges := rfl
      have hP : (pr m).gPlaces = m.gPlaces := rfl
      rw [hE] at hr e1
      rw [node_eq (by simp only []; omega) (by simp only []; omega), Option.bind_some, node_eq (by simp only [emb]; omega) (by simp only [emb]; omega), Option.bind_some, test_eq, Option.bind_some, edge_eq (by decide) (by simp only [emb]; omega) (by simp only [tst]; omega), Option.bind_some, Option.bind_some, edge_eq (by decide) (by simp [emb, ed, pr]; omega) (by simp only [tst]; omega), Option.bind_some]
      have key : ∀ x : Md, x = opn6 s.gExps (pr m) → Option.bind ((flow_maker_all_g n).1 (emb m x) s.gKids) (fun x12 => (flow_maker_node x12).bind fun x13 => (flow_maker_edge x13.2 x13.2.gAt x13.1 (0 : Int) s).bind fun x15 => ((flow_maker_all_g n).1 (⟨x15.gG, m.gG.gNodes + 1, x15.gPlaces⟩ : TFlowMaker) s.gElse).bind fun x18 => (flow_maker_edge x18 x18.gAt x13.1 (0 : Int) s).bind fun x20 => some (⟨x20.gG, x13.1, x20.gPlaces⟩ : TFlowMaker)) = some (emb m (goS s (pr m))) := by
        rintro x rfl
        rw [h1 s.gKids (emb m (opn6 s.gExps (pr m))) (by omega) rm1 (by omega), Option.bind_some]
        simp only [pr_emb, emb_emb]
        rw [node_eq (by simp only [emb]; omega) (by simp only [emb]; omega), Option.bind_some, edge0_eq (by simp only [emb]; omega), Option.bind_some]
        change Option.bind ((flow_maker_all_g n).1 (emb m (mid6 ((pr m).gNodes + 1) (goSs s.gKids (opn6 s.gExps (pr m))))) s.gElse) _ = _
        rw [h1 s.gElse (emb m (mid6 ((pr m).gNodes + 1) (goSs s.gKids (opn6 s.gExps (pr m))))) (by omega) rm2 (by omega), Option.bind_some]
        simp only [pr_emb, emb_emb]
        rw [edge0_eq (by simp only [emb]; omega), Option.bind_some, goS_eq, hk, h6]
        rfl
      have e12 : m.gG.gNodes + 1 + 1 = m.gG.gNodes + 2 := by omega
      refine Eq.trans ?_ (key _ rfl)
      simp only [emb, ed, pr, opn6, tst, e12]
    · show flow_maker_loop_b (flow_maker_all_g n).1 (flow_maker_all_g n).2.1 (flow_maker_all_g n).2.2.1 (flow_maker_all_g n).2.2.2 _ s = _
      unfold flow_maker_loop_b
      have hex := exps_len s
      have hc := cS_eq s
      have hh := hS_eq s
      have hws := wS_eq s
      have b1 := goSs_bd s.gKids (opn7 s.gExps (pr m))
      have e1 := opn7_n s.gExps (pr m)
      unfold Bd at b1
      have rm1 : Rm (opn7 s.gExps (pr m)) (cSs s.gKids) := by unfold Rm at *; omega
      unfold Rm at hr
      have hn : (pr m).gNodes = m.gG.gNodes := rfl
      have hE : (pr m).gEdges = m.gG.gEdges := rfl
      have hP : (pr m).gPlaces = m.gPlaces := rfl
      rw [hE] at hr e1
      rw [node_eq (by simp only []; omega) (by simp only []; omega), Option.bind_some, edge0_eq (by simp only [emb]; omega), Option.bind_some, node_eq (by simp only [emb, ed, pr]; omega) (by simp only [emb, ed, pr]; omega), Option.bind_some, node_eq (by simp only [emb, ed, pr]; omega) (by simp only [emb, ed, pr]; omega), Option.bind_some, test_eq, Option.bind_some, edge_eq (by decide) (by simp [emb, ed, pr]; omega) (by simp only [tst]; omega), Option.bind_some, Option.bind_some, edge_eq (by decide) (by simp [emb, ed, pr]; omega) (by simp only [tst]; omega), Option.bind_some]
      have key : ∀ x : Md, x = opn7 s.gExps (pr m) → Option.bind ((flow_maker_all_g n).1 (emb m x) s.gKids) (fun x15 => (flow_maker_edge x15 x15.gAt m.gG.gNodes (0 : Int) s).bind fun x17 => some (⟨x17.gG, m.gG.gNodes + 2, x17.gPlaces⟩ : TFlowMaker)) = some (emb m (goS s (pr m))) := by
        rintro x rfl
        rw [h1 s.gKids (emb m (opn7 s.gExps (pr m))) (by omega) rm1 (by omega), Option.bind_some]
        simp only [pr_emb, emb_emb]
        rw [edge0_eq (by simp only [emb]; omega), Option.bind_some, goS_eq, hk, h7]
        rfl
      have e12 : m.gG.gNodes + 1 + 1 = m.gG.gNodes + 2 := by omega
      have e13 : m.gG.gNodes + 2 + 1 = m.gG.gNodes + 3 := by omega
      refine Eq.trans ?_ (key _ rfl)
      simp only [emb, ed, pr, opn7, tst, e12, e13]
theorem mall_eq {l : List TApiStmt} {m : Mk} (h : Rm (pr m) (cSs l)) (hw : wSs l ≤ 4000000) : flow_maker_all m l = some (emb m (goSs l (pr m))) := flow_maker_all_of m l (3 * hSs l) ((mall_go _).1 l m (by omega) h hw)
end Go.Proofs.Ytpapooaaccmnpaa.Ab
