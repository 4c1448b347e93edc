/- Layer 17: the law of graphs. -/
import Derived.Test.YtpapooaaccmnpaaFq2
namespace Go.Proofs.Ytpapooaaccmnpaa.Ab
open Go
set_option linter.all false
def ExB (m : Md) : Prop := ∀ e ∈ m.gEdges, szEs e.gExps ≤ 1048576
theorem ExB.add {m : Md} {n a : Int} {pl : List Int} {e : TApiEdge} (h : ExB m) (k : szEs e.gExps ≤ 1048576) : ExB ⟨n, a, m.gEdges ++ [e], pl⟩ := by
  intro x hx
  rcases List.mem_append.1 hx with hx | hx
  · exact h x hx
  · rw [List.mem_singleton] at hx; subst hx; exact k
mutual
theorem goS_ex : ∀ (s : TApiStmt) (m : Md), ExB m → wS s ≤ 1048576 → ExB (goS s m)
  | ⟨op, a, b, es, ks, ls, d⟩, m, h, hw => by
    rw [wS_eq] at hw
    simp only [] at hw
    have he := szEs_le es
    have h1 := goSs_ex ks (opn6 es m) (((h.add (n := 0) (a := 0) (pl := []) (by simp only []; omega)).add (by simp only []; omega))) (by omega)
    have h2 := goSs_ex ls (mid6 (m.gNodes + 1) (goSs ks (opn6 es m))) (h1.add (by simp [szEs])) (by omega)
    have h3 := goSs_ex ks (opn7 es m) (((h.add (n := 0) (a := 0) (pl := []) (by simp [szEs])).add (n := 0) (a := 0) (pl := []) (by simp only []; omega)).add (by simp only []; omega)) (by omega)
    rw [goS_eq]
    cases kd op != 0
    · cases op == 8
      · cases op == 6
        · cases op == 7
          · exact h
          · exact h3.add (by simp [szEs])
        · exact h2.add (by simp [szEs])
      · exact h.add (by simp only []; omega)
    · exact h.add (by simp only []; omega)
theorem goSs_ex : ∀ (l : List TApiStmt) (m : Md), ExB m → wSs l ≤ 1048576 → ExB (goSs l m)
  | [], m, h, _ => by simpa [goSs] using h
  | s :: l, m, h, hw => by
    rw [wSs_cons] at hw
    simp only [goSs]
    exact goSs_ex l _ (goS_ex s m h (by omega)) (by omega)
end
theorem flatten_pre {l p : List (List TApiVar)} {x : List TApiVar} {q : List (List TApiVar)} (h : l = p ++ x :: q) : p.flatten.length + x.length ≤ l.flatten.length := by
  subst h; simp
theorem concat_eq {l : List (List TApiVar)} (hl : l.length ≤ 1048576) (hb : l.flatten.length ≤ 4000000) : slices_Concat_api_Var_api_Var l = some l.flatten := by
  unfold slices_Concat_api_Var_api_Var
  refine loop_list l (fun pre => pre.flatten.length) (fun a n => ((a : Int), (n : Int))) (fun a => (a : Int)) (by simp) (fun p x q hp => ?_) ?_ ?_
  · have := flatten_pre hp
    simp only [lt_pre hp, cond_true]
    rw [idx_pre2 hp rfl, Option.bind_some, inc_pre hp (by omega), wrap_id (by omega) (by omega), decide_eq_false (by omega), cond_false]
    simp
  · simp only [lt_end, cond_false]
  · rw [need_bind (by unfold growPre; rw [Bool.and_eq_true, decide_eq_true_iff, decide_eq_true_iff]; omega)]
    refine loop_list l (fun pre => pre.flatten) (fun a n => ((n : Int), a)) (fun a => a) (by simp [growF]) (fun p x q hp => ?_) ?_ ?_
    · have := flatten_pre hp
      simp only [lt_pre hp, cond_true]
      rw [idx_pre2 hp rfl, Option.bind_some, inc_pre hp (by omega), app_len (by omega) (by omega), Option.bind_some]
      simp
    · simp only [lt_end, cond_false]
    · rfl
def g0 : Md := ⟨2, 0, [], []⟩
def lastE : TApiStmt := tst [⟨1, 0, ByteArray.empty, [], 0⟩]
def whole (a : TApiFunc) : Md := ed (goSs a.gBody g0) (goSs a.gBody g0).gAt 1 8 lastE
def mk0 (a : TApiFunc) : Mk := ⟨⟨a.gName, 2, [], a.gParams ++ a.gLocals, (a.gParams.length : Int)⟩, 0, []⟩
mutual
theorem cS_le : ∀ s, cS s ≤ wS s
  | ⟨a, b, c, es, ks, ls, d⟩ => by
    have h1 := cSs_le ks
    have h2 := cSs_le ls
    rw [wS_eq]; simp only [cS]; omega
theorem cSs_le : ∀ l, cSs l ≤ wSs l
  | [] => by simp [cSs]
  | s :: l => by
    have h1 := cSs_le l
    have h2 := cS_le s
    rw [wSs_cons]; simp only [cSs]; omega
end
/-- What is asked of a function's size. -/
def FnB (a : TApiFunc) : Prop := a.gParams.length + a.gLocals.length + wSs a.gBody ≤ 1048576
theorem rm0 {a : TApiFunc} (h : FnB a) : Rm g0 (cSs a.gBody) := by
  have := cSs_le a.gBody
  unfold FnB at h
  unfold Rm g0; simp only [List.length_nil]; omega
theorem bd0 {a : TApiFunc} (h : FnB a) : (goSs a.gBody g0).gEdges.length ≤ 8000000 ∧ (goSs a.gBody g0).gPlaces.length ≤ 8000000 := by
  have h1 := goSs_bd a.gBody g0
  have h2 := cSs_le a.gBody
  unfold FnB at h
  unfold Bd at h1
  simp only [g0, List.length_nil] at h1
  simp only [g0]
  omega
theorem of_eq {a : TApiFunc} (h : FnB a) : flow_of a = some (emb (mk0 a) (whole a)) := by
  have hb := bd0 h
  have hr := rm0 h
  unfold FnB at h
  unfold flow_of
  rw [concat_eq (by simp) (by simp; omega), Option.bind_some]
  simp only [List.flatten_cons, List.flatten_nil, List.append_nil]
  change Option.bind (flow_maker_all (mk0 a) a.gBody) _ = _
  rw [mall_eq (l := a.gBody) (m := mk0 a) hr (by omega), Option.bind_some]
  change Option.bind (flow_maker_edge (emb (mk0 a) (goSs a.gBody g0)) (goSs a.gBody g0).gAt 1 8 lastE) _ = _
  rw [edge_eq (by decide) hb.1 (by decide), Option.bind_some]
  rfl
theorem rgraph_eq {a : TApiFunc} (h : FnB a) : r17_Graph a = some (⟨a.gName, (whole a).gNodes, (whole a).gEdges, a.gParams ++ a.gLocals, (a.gParams.length : Int)⟩, (whole a).gPlaces) := by
  have hb := bd0 h
  have hr := rm0 h
  unfold FnB at h
  unfold r17_Graph
  change Option.bind (r17_All g0 a.gBody) _ = _
  rw [rall_go_eq hr, Option.bind_some, with_eq hb.1, Option.bind_some, app_len (by omega) (by simp; omega), Option.bind_some, app_len (by omega) (by simp; omega)]
  rfl
theorem edge_refl {e : TApiEdge} (h : szEs e.gExps ≤ 1048576) : r17_SameEdge e e = some true := by
  unfold r17_SameEdge
  rw [rexps_eq h, eqEs_refl]; simp
theorem same_refl {g : TApiGraph} (h1 : ∀ e ∈ g.gEdges, szEs e.gExps ≤ 1048576) (h2 : g.gEdges.length ≤ 9000000) (h3 : g.gVars.length ≤ 9000000) : r17_Same g g = some true := by
  unfold r17_Same
  simp only [decide_true, Bool.not_true, cond_false, bne_self_eq_false, Option.bind_some]
  rw [loop_all (l := g.gEdges) (fun p x q h => ?_) ?_]
  · simp only [Option.bind_some, Sum.elim_inl]
    rw [loop_all (l := g.gVars) (fun p x q h => ?_) ?_]
    · rfl
    · rw [lt_end, cond_false]
    · rw [lt_pre h, cond_true, idx_pre2 h rfl, Option.bind_some, Option.bind_some, inc_pre h (by omega)]; simp
  · rw [lt_end, cond_false]
  · rw [lt_pre h, cond_true, idx_pre2 h rfl, Option.bind_some, Option.bind_some, edge_refl (h1 x (pre_mem h)), Option.bind_some, inc_pre h (by omega)]; rfl
theorem ints_refl {l : List Int} (hb : l.length ≤ 9000000) : r11_Ints l l = some true := by
  unfold r11_Ints
  rw [pairs (fun a b => a == b) l l (fun p x q p' y q' e e' hp => ?_) ?_, all2_refl fun x _ => by simp]
  · rw [lt_end, cond_false]
  · obtain rfl : x = y := Option.some.inj ((idx_pre2 e rfl).symm.trans (idx_pre2 e' hp))
    rw [lt_pre e, cond_true, idx_pre2 e rfl, Option.bind_some, Option.bind_some, inc_pre e (by omega)]; simp
theorem graph_eq {a : TApiFunc} (h : FnB a) : flow_Graph a = some ⟨a.gName, (whole a).gNodes, (whole a).gEdges, a.gParams ++ a.gLocals, (a.gParams.length : Int)⟩ := by
  unfold flow_Graph; rw [of_eq h]; rfl
theorem places_eq {a : TApiFunc} (h : FnB a) : flow_Places a = some (whole a).gPlaces := by
  unfold flow_Places; rw [of_eq h]; rfl
theorem lives17 : l17_lives = some true := by
  unfold l17_lives
  rw [graph_eq (by unfold FnB; decide), Option.bind_some]
  rfl
theorem graphs_law {a : TApiFunc} (h : FnB a) : l17_FlowGraphs a = some true := by
  have hb := bd0 h
  have hx : ExB (goSs a.gBody g0) := goSs_ex a.gBody g0 (by intro e he; cases he) (by unfold FnB at h; omega)
  have hw : ExB (whole a) := hx.add (show szEs lastE.gExps ≤ 1048576 by decide)
  have hl : (whole a).gEdges.length ≤ 9000000 := by simp [whole, ed]; omega
  unfold l17_FlowGraphs
  rw [rgraph_eq h, Option.bind_some, graph_eq h, Option.bind_some, same_refl (fun e he => hw e he) hl (by unfold FnB at h; simp; omega), Option.bind_some, cond_true, places_eq h, Option.bind_some, ints_refl (by show (goSs a.gBody g0).gPlaces.length ≤ _; omega), Option.bind_some, cond_true, lives17]
  rfl
end Go.Proofs.Ytpapooaaccmnpaa.Ab
