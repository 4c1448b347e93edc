/- Layer 17: graphs, plainly; the law of graphs. -/
import Derived.Test.YtpapooaaccmnpaaEx1
namespace Go.Proofs.Ytpapooaaccmnpaa.Ab
open Go
set_option linter.all false
abbrev Md := TSondageref17Made
def tst (es : List TApiExpr) : TApiStmt := ⟨0, ByteArray.empty, ByteArray.empty, es, [], [], 0⟩
def ed (m : Md) (a b k : Int) (s : TApiStmt) : Md := ⟨m.gNodes, m.gAt, m.gEdges ++ [⟨a, b, k, s.gName, s.gFunc, s.gExps⟩], m.gPlaces⟩
def kd (op : Int) : Int := bif op == 1 then 1 else bif op == 2 then 2 else bif op == 3 then 3 else bif op == 4 then 4 else bif op == 5 then 5 else bif op == 9 then 9 else 0
def step1 (s : TApiStmt) (m : Md) : Md := ⟨m.gNodes + 1, m.gNodes, m.gEdges ++ [⟨m.gAt, m.gNodes, kd s.gOp, s.gName, s.gFunc, s.gExps⟩], m.gPlaces ++ [m.gAt]⟩
def step8 (es : List TApiExpr) (m : Md) : Md := ⟨m.gNodes + 1, m.gNodes, m.gEdges ++ [⟨m.gAt, 1, 8, ByteArray.empty, ByteArray.empty, es⟩], m.gPlaces ++ [m.gAt]⟩
def opn6 (es : List TApiExpr) (m : Md) : Md := ⟨m.gNodes + 2, m.gNodes, m.gEdges ++ [⟨m.gAt, m.gNodes, 6, ByteArray.empty, ByteArray.empty, es⟩] ++ [⟨m.gAt, m.gNodes + 1, 7, ByteArray.empty, ByteArray.empty, es⟩], m.gPlaces ++ [m.gAt]⟩
def mid6 (no : Int) (m : Md) : Md := ⟨m.gNodes + 1, no, m.gEdges ++ [⟨m.gAt, m.gNodes, 0, ByteArray.empty, ByteArray.empty, []⟩], m.gPlaces⟩
def end6 (j : Int) (m : Md) : Md := ⟨m.gNodes, j, m.gEdges ++ [⟨m.gAt, j, 0, ByteArray.empty, ByteArray.empty, []⟩], m.gPlaces⟩
def opn7 (es : List TApiExpr) (m : Md) : Md := ⟨m.gNodes + 3, m.gNodes + 1, m.gEdges ++ [⟨m.gAt, m.gNodes, 0, ByteArray.empty, ByteArray.empty, []⟩] ++ [⟨m.gNodes, m.gNodes + 1, 6, ByteArray.empty, ByteArray.empty, es⟩] ++ [⟨m.gNodes, m.gNodes + 2, 7, ByteArray.empty, ByteArray.empty, es⟩], m.gPlaces ++ [m.gAt]⟩
def end7 (n : Int) (m : Md) : Md := ⟨m.gNodes, n + 2, m.gEdges ++ [⟨m.gAt, n, 0, ByteArray.empty, ByteArray.empty, []⟩], m.gPlaces⟩
mutual
def goS : TApiStmt → Md → Md
  | ⟨op, a, b, es, ks, ls, d⟩, m =>
    bif kd op != 0 then step1 ⟨op, a, b, es, ks, ls, d⟩ m
    else bif op == 8 then step8 es m
    else bif op == 6 then
      end6 (goSs ks (opn6 es m)).gNodes (goSs ls (mid6 (m.gNodes + 1) (goSs ks (opn6 es m))))
    else bif op == 7 then end7 m.gNodes (goSs ks (opn7 es m))
    else ⟨m.gNodes, m.gAt, m.gEdges, m.gPlaces ++ [m.gAt]⟩
def goSs : List TApiStmt → Md → Md
  | [], m => m
  | s :: l, m => goSs l (goS s m)
end
mutual
def cS : TApiStmt → Nat
  | ⟨_, _, _, _, ks, ls, _⟩ => 1 + cSs ks + cSs ls
def cSs : List TApiStmt → Nat
  | [] => 0
  | s :: l => cS s + cSs l
end
theorem cS_eq (s : TApiStmt) : cS s = 1 + cSs s.gKids + cSs s.gElse := by cases s; simp only [cS]
theorem goS_eq (s : TApiStmt) (m : Md) : goS s m = (bif kd s.gOp != 0 then step1 s m
    else bif s.gOp == 8 then step8 s.gExps m
    else bif s.gOp == 6 then end6 (goSs s.gKids (opn6 s.gExps m)).gNodes (goSs s.gElse (mid6 (m.gNodes + 1) (goSs s.gKids (opn6 s.gExps m))))
    else bif s.gOp == 7 then end7 m.gNodes (goSs s.gKids (opn7 s.gExps m))
    else ⟨m.gNodes, m.gAt, m.gEdges, m.gPlaces ++ [m.gAt]⟩) := by cases s; simp only [goS]
theorem goSs_append : ∀ (l k : List TApiStmt) (m : Md), goSs (l ++ k) m = goSs k (goSs l m)
  | [], k, m => by simp [goSs]
  | s :: l, k, m => by simp only [List.cons_append, goSs, goSs_append l k]
theorem cSs_append : ∀ l m, cSs (l ++ m) = cSs l + cSs m
  | [], m => by simp [cSs]
  | e :: l, m => by simp only [List.cons_append, cSs, cSs_append l m]; omega
theorem cSs_len : ∀ l, l.length ≤ cSs l
  | [] => by simp
  | e :: l => by
    have := cSs_len l
    have h := cS_eq e
    simp only [cSs, List.length_cons]; omega
theorem cSs_pre {l p : List TApiStmt} {x : TApiStmt} {q : List TApiStmt} (h : l = p ++ x :: q) : cSs p + cS x ≤ cSs l := by
  subst h; rw [cSs_append]; simp only [cSs]; omega
/-- How far a graph may grow. -/
def Bd (m m' : Md) (c : Nat) : Prop := m.gNodes ≤ m'.gNodes ∧ m'.gNodes ≤ m.gNodes + 3 * c ∧ m'.gEdges.length ≤ m.gEdges.length + 4 * c ∧ m'.gPlaces.length ≤ m.gPlaces.length + c
mutual
theorem goS_bd : ∀ (s : TApiStmt) (m : Md), Bd m (goS s m) (cS s)
  | ⟨op, a, b, es, ks, ls, d⟩, m => by
    have h1 := goSs_bd ks (opn6 es m)
    have h2 := goSs_bd ls (mid6 (m.gNodes + 1) (goSs ks (opn6 es m)))
    have h3 := goSs_bd ks (opn7 es m)
    rw [goS_eq]
    simp only [cS]
    unfold Bd at *
    cases kd op != 0
    · cases op == 8
      · cases op == 6
        · cases op == 7
          · simp only [cond_false, List.length_append, List.length_cons, List.length_nil]; omega
          · simp only [cond_false, cond_true, end7, opn7, List.length_append, List.length_cons, List.length_nil] at h3 ⊢
            omega
        · simp only [cond_false, cond_true, end6, mid6, opn6, List.length_append, List.length_cons, List.length_nil] at h1 h2 ⊢
          omega
      · simp only [cond_false, cond_true, step8, List.length_append, List.length_cons, List.length_nil]; omega
    · simp only [cond_true, step1, List.length_append, List.length_cons, List.length_nil]; omega
theorem goSs_bd : ∀ (l : List TApiStmt) (m : Md), Bd m (goSs l m) (cSs l)
  | [], m => by unfold Bd; simp only [goSs, cSs]; omega
  | s :: l, m => by
    have h1 := goS_bd s m
    have h2 := goSs_bd l (goS s m)
    unfold Bd at *
    simp only [goSs, cSs]
    omega
end
/-- There is room for c statements more. -/
def Rm (m : Md) (c : Nat) : Prop := 0 ≤ m.gNodes ∧ m.gNodes + 3 * c ≤ 8000000 ∧ m.gEdges.length + 4 * c ≤ 8000000 ∧ m.gPlaces.length + c ≤ 8000000
theorem opn6_n (es : List TApiExpr) (m : Md) : (opn6 es m).gNodes = m.gNodes + 2 ∧ (opn6 es m).gEdges.length = m.gEdges.length + 2 ∧ (opn6 es m).gPlaces.length = m.gPlaces.length + 1 := by simp [opn6]
theorem mid6_n (no : Int) (m : Md) : (mid6 no m).gNodes = m.gNodes + 1 ∧ (mid6 no m).gEdges.length = m.gEdges.length + 1 ∧ (mid6 no m).gPlaces.length = m.gPlaces.length := by simp [mid6]
theorem opn7_n (es : List TApiExpr) (m : Md) : (opn7 es m).gNodes = m.gNodes + 3 ∧ (opn7 es m).gEdges.length = m.gEdges.length + 3 ∧ (opn7 es m).gPlaces.length = m.gPlaces.length + 1 := by simp [opn7]
theorem kind_eq (op : Int) : r17_kind op = some (kd op) := by
  unfold r17_kind kd
  cases op == 1 <;> cases op == 2 <;> cases op == 3 <;> cases op == 4 <;> cases op == 5 <;> cases op == 9 <;> rfl
theorem with_eq {m : Md} {a b k : Int} {s : TApiStmt} (h : m.gEdges.length ≤ 8000000) : r17_with m a b k s = some (ed m a b k s) := by
  unfold r17_with ed
  rw [app_len (by omega) (by simp; omega), Option.bind_some, List.nil_append, app_len (by omega) (by simp; omega)]
  rfl
theorem rall_go : ∀ (n : Nat), (∀ (l : List TApiStmt) (m : Md), 2 * hSs l ≤ n + 1 → Rm m (cSs l) → (r17_All_g n).1 m l = some (goSs l m)) ∧ (∀ (s : TApiStmt) (m : Md), 2 * hS s ≤ n + 2 → Rm m (cS s) → (r17_All_g n).2 m s = some (goS s m))
  | 0 => by
    refine ⟨fun l m h _ => ?_, fun s m h _ => ?_⟩
    · have := hSs_pos l; omega
    · have := hSs_pos s.gKids; rw [hS_eq] at h; omega
  | n + 1 => by
    obtain ⟨h1, h2⟩ := rall_go n
    refine ⟨fun l m h hr => ?_, fun s m h hr => ?_⟩
    · show r17_All_b (r17_All_g n).1 (r17_All_g n).2 m l = _
      unfold r17_All_b
      have hl := cSs_len l
      refine loop_list l (fun pre => goSs pre m) (fun a i => ((i : Int), a.gNodes, a.gAt, a.gEdges, a.gPlaces)) (fun a => (a.gNodes, a.gAt, a.gEdges, a.gPlaces)) (by simp [goSs]) (fun p x q hp => ?_) ?_ ?_
      · have hx := hS_mem (pre_mem hp)
        have hc := cSs_pre hp
        have hb := goSs_bd p m
        unfold Rm Bd at *
        simp only [lt_pre hp, cond_true]
        rw [idx_pre2 hp rfl, Option.bind_some, inc_pre hp (by omega), h2 x _ (by omega) (by simp only []; omega), Option.bind_some, goSs_append]
        simp only [goSs]
      · simp only [lt_end, cond_false]
      · rfl
    · show r17_one_b (r17_All_g n).1 (r17_All_g n).2 m s = _
      unfold r17_one_b
      have hh := hS_eq s
      have hc := cS_eq s
      unfold Rm at hr
      have w1 : IntKind.i64.wrap (m.gNodes + 1) = m.gNodes + 1 := wrap_id (by omega) (by omega)
      have w2 : IntKind.i64.wrap (m.gNodes + 2) = m.gNodes + 2 := wrap_id (by omega) (by omega)
      have w3 : IntKind.i64.wrap (m.gNodes + 3) = m.gNodes + 3 := wrap_id (by omega) (by omega)
      rw [app_len (by omega) (by simp; omega), Option.bind_some, List.nil_append, app_len (by omega) (by simp; omega), Option.bind_some, kind_eq, Option.bind_some, goS_eq]
      cases hk : kd s.gOp != 0
      · simp only [cond_false]
        cases h8 : s.gOp == 8
        · simp only [cond_false]
          cases h6 : s.gOp == 6
          · simp only [cond_false]
            cases h7 : s.gOp == 7
            · rfl
            · simp only [cond_true]
              rw [w1, w2, w3]
              have b1 := goSs_bd s.gKids (opn7 s.gExps m)
              have e1 := opn7_n s.gExps m
              unfold Bd at b1
              have rm1 : Rm (opn7 s.gExps m) (cSs s.gKids) := by unfold Rm; omega
              rw [with_eq (by simp only []; omega), Option.bind_some, with_eq (by simp [ed]; omega), Option.bind_some, with_eq (by simp [ed]; omega), Option.bind_some]
              simp only [ed]
              change Option.bind ((r17_All_g n).1 (opn7 s.gExps m) s.gKids) _ = _
              rw [h1 _ _ (by omega) rm1, Option.bind_some, with_eq (by omega), Option.bind_some]
              rfl
          · simp only [cond_true]
            rw [w1, w2]
            have b1 := goSs_bd s.gKids (opn6 s.gExps m)
            have e1 := opn6_n s.gExps m
            have rm1 : Rm (opn6 s.gExps m) (cSs s.gKids) := by unfold Rm; omega
            have e2 := mid6_n (m.gNodes + 1) (goSs s.gKids (opn6 s.gExps m))
            have b2 := goSs_bd s.gElse (mid6 (m.gNodes + 1) (goSs s.gKids (opn6 s.gExps m)))
            unfold Bd at b1 b2
            have rm2 : Rm (mid6 (m.gNodes + 1) (goSs s.gKids (opn6 s.gExps m))) (cSs s.gElse) := by unfold Rm; omega
            rw [with_eq (by simp only []; omega), Option.bind_some, with_eq (by simp [ed]; omega), Option.bind_some]
            simp only [ed]
            change Option.bind ((r17_All_g n).1 (opn6 s.gExps m) s.gKids) _ = _
            rw [h1 _ _ (by omega) rm1, Option.bind_some, wrap_id (n := (goSs s.gKids (opn6 s.gExps m)).gNodes + 1) (by omega) (by omega), with_eq (by simp only []; omega), Option.bind_some]
            simp only [ed]
            change Option.bind ((r17_All_g n).1 (mid6 (m.gNodes + 1) (goSs s.gKids (opn6 s.gExps m))) s.gElse) _ = _
            rw [h1 _ _ (by omega) rm2, Option.bind_some, with_eq (by omega), Option.bind_some]
            rfl
        · simp only [cond_true]
          rw [w1, with_eq (by simp only []; omega)]; rfl
      · simp only [cond_true, Option.bind_some]
        rw [w1, with_eq (by simp only []; omega)]; rfl
theorem rall_go_eq {l : List TApiStmt} {m : Md} (h : Rm m (cSs l)) : r17_All m l = some (goSs l m) := r17_All_of m l (2 * hSs l) ((rall_go _).1 l m (by omega) h)
end Go.Proofs.Ytpapooaaccmnpaa.Ab
