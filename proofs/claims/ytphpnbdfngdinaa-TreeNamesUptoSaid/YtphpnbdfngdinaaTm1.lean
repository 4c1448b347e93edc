/- Loops over lists, plainly; trees' measures. -/
import Derived.Test.YtphpnbdfngdinaaTn1e
import Derived.Test.YtphpnbdfngdinaaRb
namespace Go.Proofs.Ytphpnbdfngdinaa.Ab
open Go
set_option linter.all false
/-! ### Loops over lists -/
theorem loop_pre {σ τ α β : Type} {f : σ → Option (Step σ τ)} (l : List β) (g : List β → α) (st : α → Nat → σ) (fin : α → τ)
    (h1 : ∀ pre x post, l = pre ++ x :: post → f (st (g pre) pre.length) = some (.next (st (g (pre ++ [x])) (pre.length + 1))))
    (h2 : f (st (g l) l.length) = some (.done (fin (g l)))) : loopM f (st (g []) 0) = some (fin (g l)) := by
  have key : ∀ (post pre : List β), l = pre ++ post → loopM f (st (g pre) pre.length) = some (fin (g l)) := by
    intro post
    induction post with
    | nil => intro pre h; rw [List.append_nil] at h; subst h; exact loopM_done h2
    | cons x post ih =>
      intro pre h
      rw [loopM_next (h1 pre x post h)]
      have := ih (pre ++ [x]) (by simp [h])
      simpa using this
  simpa using key l [] rfl
/-- The same, with what follows. -/
theorem loop_list {σ τ α β ρ : Type} {f : σ → Option (Step σ τ)} {s0 : σ} {k : τ → Option ρ} {r : Option ρ} (l : List β) (g : List β → α) (st : α → Nat → σ) (fin : α → τ) (h0 : st (g []) 0 = s0)
    (h1 : ∀ pre x post, l = pre ++ x :: post → f (st (g pre) pre.length) = some (.next (st (g (pre ++ [x])) (pre.length + 1))))
    (h2 : f (st (g l) l.length) = some (.done (fin (g l)))) (hk : k (fin (g l)) = r) : Option.bind (loopM f s0) k = r := by
  subst h0
  rw [loop_pre l g st fin h1 h2]; exact hk
theorem idx_pre {β : Type} (pre : List β) (x : β) (post : List β) : idx (pre ++ x :: post) (pre.length : Int) = some x := by
  rw [idx_nat]; simp
theorem lt_pre {β : Type} {l pre : List β} {x : β} {post : List β} (h : l = pre ++ x :: post) : decide ((pre.length : Int) < (l.length : Int)) = true := by
  subst h; simp; omega
theorem lt_end {β : Type} (l : List β) : decide ((l.length : Int) < (l.length : Int)) = false := by simp
theorem inc_pre {β : Type} {l pre : List β} {x : β} {post : List β} (h : l = pre ++ x :: post) (hb : l.length ≤ 4611686018427387904) : IntKind.i64.wrap ((pre.length : Int) + 1) = ((pre.length + 1 : Nat) : Int) := by
  have : pre.length < l.length := by subst h; simp
  rw [IntKind.wrap_i64]; omega
theorem wrap_id {n : Int} (h : -9223372036854775808 ≤ n) (k : n < 9223372036854775808) : IntKind.i64.wrap n = n := by rw [IntKind.wrap_i64]; omega
theorem wrap_nat {n : Nat} (k : n < 4611686018427387904) : IntKind.i64.wrap (n : Int) = (n : Int) := wrap_id (by omega) (by omega)
/-! ### Expressions -/
mutual
def szE : TApiExpr → Nat
  | ⟨_, _, _, ks, _⟩ => 1 + szEs ks
def szEs : List TApiExpr → Nat
  | [] => 0
  | e :: l => szE e + szEs l
end
mutual
def dpE : TApiExpr → Nat
  | ⟨_, _, _, ks, _⟩ => 1 + dpEs ks
def dpEs : List TApiExpr → Nat
  | [] => 0
  | e :: l => max (dpE e) (dpEs l)
end
mutual
def allE : TApiExpr → List TApiExpr
  | ⟨a, b, c, ks, d⟩ => ⟨a, b, c, ks, d⟩ :: allEs ks
def allEs : List TApiExpr → List TApiExpr
  | [] => []
  | e :: l => allE e ++ allEs l
end
theorem szE_eq (e : TApiExpr) : szE e = 1 + szEs e.gKids := by cases e; simp only [szE]
theorem dpE_eq (e : TApiExpr) : dpE e = 1 + dpEs e.gKids := by cases e; simp only [dpE]
theorem allE_eq (e : TApiExpr) : allE e = e :: allEs e.gKids := by cases e; simp only [allE]
theorem szEs_append : ∀ l m, szEs (l ++ m) = szEs l + szEs m
  | [], m => by simp [szEs]
  | e :: l, m => by simp only [List.cons_append, szEs, szEs_append l m]; omega
theorem dpEs_append : ∀ l m, dpEs (l ++ m) = max (dpEs l) (dpEs m)
  | [], m => by simp [dpEs]
  | e :: l, m => by simp only [List.cons_append, dpEs, dpEs_append l m]; omega
theorem allEs_append : ∀ l m, allEs (l ++ m) = allEs l ++ allEs m
  | [], m => by simp [allEs]
  | e :: l, m => by simp only [List.cons_append, allEs, allEs_append l m, List.append_assoc]
theorem dpE_mem : ∀ {l : List TApiExpr} {e : TApiExpr}, e ∈ l → dpE e ≤ dpEs l
  | x :: l, e, h => by
    simp only [dpEs]
    rcases List.mem_cons.1 h with rfl | h
    · omega
    · have := dpE_mem h; omega
theorem szE_mem : ∀ {l : List TApiExpr} {e : TApiExpr}, e ∈ l → szE e ≤ szEs l
  | x :: l, e, h => by
    simp only [szEs]
    rcases List.mem_cons.1 h with rfl | h
    · omega
    · have := szE_mem h; omega
mutual
theorem allE_len : ∀ e, (allE e).length = szE e
  | ⟨_, _, _, ks, _⟩ => by simp only [allE, szE, List.length_cons, allEs_len ks]; omega
theorem allEs_len : ∀ l, (allEs l).length = szEs l
  | [] => rfl
  | e :: l => by simp only [allEs, szEs, List.length_append, allE_len e, allEs_len l]
end
/-- How great an expression is. -/
def wE (e : TApiExpr) : Nat := wt (eTApiExpr e)
def wEs (l : List TApiExpr) : Nat := wts (l.map eTApiExpr)
theorem wE_eq (e : TApiExpr) : wE e = e.gName.size + wEs e.gKids + 5 := by
  unfold wE wEs
  rw [eTApiExpr_eq]
  simp only [wt, wts, wtv]; omega
theorem wEs_cons (e : TApiExpr) (l : List TApiExpr) : wEs (e :: l) = wE e + wEs l := by unfold wEs wE; simp only [List.map_cons, wts]
mutual
theorem szE_le : ∀ e, szE e ≤ wE e
  | ⟨a, b, c, ks, d⟩ => by
    have := szEs_le ks
    rw [wE_eq]
    simp only [szE]; omega
theorem szEs_le : ∀ l, szEs l ≤ wEs l
  | [] => by simp [szEs]
  | e :: l => by
    have h1 := szE_le e
    have h2 := szEs_le l
    rw [wEs_cons]
    simp only [szEs]; omega
end
mutual
theorem dpE_le : ∀ e, dpE e ≤ szE e
  | ⟨a, b, c, ks, d⟩ => by
    have := dpEs_le ks
    simp only [szE, dpE]; omega
theorem dpEs_le : ∀ l, dpEs l ≤ szEs l
  | [] => by simp [szEs, dpEs]
  | e :: l => by
    have h1 := dpE_le e
    have h2 := dpEs_le l
    simp only [szEs, dpEs]; omega
end
theorem szEs_len : ∀ l, l.length ≤ szEs l
  | [] => by simp
  | e :: l => by
    have := szEs_len l
    have h := szE_eq e
    simp only [szEs, List.length_cons]; omega
theorem kids_mem {e k : TApiExpr} (h : k ∈ e.gKids) : dpE k < dpE e ∧ szE k < szE e := by
  have h1 := dpE_mem h
  have h2 := szE_mem h
  rw [dpE_eq e, szE_eq e]; omega
theorem pre_mem {β : Type} {l pre : List β} {x : β} {post : List β} (h : l = pre ++ x :: post) : x ∈ l := by subst h; simp
theorem szEs_pre {l pre : List TApiExpr} {x : TApiExpr} {post : List TApiExpr} (h : l = pre ++ x :: post) : szEs pre + szE x ≤ szEs l := by
  subst h; rw [szEs_append]; simp only [szEs]; omega
theorem size_g : ∀ (n : Nat) (e : TApiExpr), dpE e ≤ n → szE e ≤ 1048576 → tree_Size_g n e = some (szE e : Int)
  | 0, e, h, _ => by rw [dpE_eq] at h; omega
  | n + 1, e, h, hb => by
    show tree_Size_b (tree_Size_g n) e = _
    unfold tree_Size_b
    have hs := szE_eq e
    have hl := szEs_len e.gKids
    refine loop_list e.gKids (fun pre => 1 + szEs pre) (fun a n => ((a : Nat), (n : Nat))) (fun a => (a : Int)) (by simp [szEs, dpEs, allEs]) (fun pre x post hp => ?_) ?_ ?_
    · have hk := kids_mem (pre_mem hp)
      have hsp := szEs_pre hp
      simp only [lt_pre hp, cond_true]
      rw [inc_pre hp (by omega)]
      rw [show idx e.gKids (pre.length : Int) = some x by rw [hp]; exact idx_pre _ _ _, Option.bind_some, size_g n x (by omega) (by omega), Option.bind_some]
      rw [wrap_id (by omega) (by omega), szEs_append]
      simp only [szEs]
      congr 3; omega
    · simp only [lt_end, cond_false]
    · rw [hs]
theorem size_eq {e : TApiExpr} (hb : szE e ≤ 1048576) : tree_Size e = some (szE e : Int) := tree_Size_of e (dpE e) (size_g _ e (Nat.le_refl _) hb)
theorem deep_g : ∀ (n : Nat) (e : TApiExpr), dpE e ≤ n → szE e ≤ 1048576 → tree_Deep_g n e = some (dpE e : Int)
  | 0, e, h, _ => by rw [dpE_eq] at h; omega
  | n + 1, e, h, hb => by
    show tree_Deep_b (tree_Deep_g n) e = _
    unfold tree_Deep_b
    have hs := szE_eq e
    have hd := dpE_eq e
    have hde := dpE_le e
    have hl := szEs_len e.gKids
    refine loop_list e.gKids (fun pre => dpEs pre) (fun a n => ((a : Nat), (n : Nat))) (fun a => (a : Int)) (by simp [szEs, dpEs, allEs]) (fun pre x post hp => ?_) ?_ ?_
    · have hk := kids_mem (pre_mem hp)
      simp only [lt_pre hp, cond_true]
      rw [inc_pre hp (by omega)]
      rw [show idx e.gKids (pre.length : Int) = some x by rw [hp]; exact idx_pre _ _ _, Option.bind_some, deep_g n x (by omega) (by omega), Option.bind_some]
      rw [dpEs_append]
      simp only [dpEs]
      congr 3; omega
    · simp only [lt_end, cond_false]
    · rw [hd, wrap_id (by omega) (by omega)]; congr 1; omega
theorem deep_eq {e : TApiExpr} (hb : szE e ≤ 1048576) : tree_Deep e = some (dpE e : Int) := tree_Deep_of e (dpE e) (deep_g _ e (Nat.le_refl _) hb)
theorem rdeep_g : ∀ (n : Nat) (e : TApiExpr), dpE e ≤ n → szE e ≤ 1048576 → r11_Deep_g n e = some (dpE e : Int)
  | 0, e, h, _ => by rw [dpE_eq] at h; omega
  | n + 1, e, h, hb => by
    show r11_Deep_b (r11_Deep_g n) e = _
    unfold r11_Deep_b
    have hs := szE_eq e
    have hd := dpE_eq e
    have hde := dpE_le e
    have hl := szEs_len e.gKids
    refine loop_list e.gKids (fun pre => dpEs pre) (fun a n => ((a : Nat), (n : Nat))) (fun a => (a : Int)) (by simp [szEs, dpEs, allEs]) (fun pre x post hp => ?_) ?_ ?_
    · have hk := kids_mem (pre_mem hp)
      simp only [lt_pre hp, cond_true]
      rw [inc_pre hp (by omega)]
      rw [show idx e.gKids (pre.length : Int) = some x by rw [hp]; exact idx_pre _ _ _, Option.bind_some, rdeep_g n x (by omega) (by omega), Option.bind_some]
      rw [dpEs_append]
      simp only [dpEs]
      congr 3; omega
    · simp only [lt_end, cond_false]
    · rw [hd, wrap_id (by omega) (by omega)]; congr 1
theorem rdeep_eq {e : TApiExpr} (hb : szE e ≤ 1048576) : r11_Deep e = some (dpE e : Int) := r11_Deep_of e (dpE e) (rdeep_g _ e (Nat.le_refl _) hb)
theorem app_len {β : Type} {bb : Nat} {xs ys : List β} (hb : bb ≤ 4096) (h : xs.length + ys.length ≤ 8388608) : app bb xs ys = some (xs ++ ys) := by
  refine app_of ?_
  have := Nat.mul_le_mul h hb
  omega
theorem rall_g : ∀ (n : Nat) (e : TApiExpr), dpE e ≤ n → szE e ≤ 1048576 → r11_All_g n e = some (allE e)
  | 0, e, h, _ => by rw [dpE_eq] at h; omega
  | n + 1, e, h, hb => by
    show r11_All_b (r11_All_g n) e = _
    unfold r11_All_b
    have hs := szE_eq e
    have hl := szEs_len e.gKids
    refine loop_list e.gKids (fun pre => e :: allEs pre) (fun a n => (a, (n : Nat))) (fun a => a) (by simp [szEs, dpEs, allEs]) (fun pre x post hp => ?_) ?_ ?_
    · have hk := kids_mem (pre_mem hp)
      have hsp := szEs_pre hp
      simp only [lt_pre hp, cond_true]
      rw [inc_pre hp (by omega)]
      rw [show idx e.gKids (pre.length : Int) = some x by rw [hp]; exact idx_pre _ _ _, Option.bind_some, rall_g n x (by omega) (by omega), Option.bind_some]
      rw [app_len (by omega) (by rw [List.length_cons, allEs_len, allE_len]; omega), Option.bind_some, allEs_append]
      simp only [allEs, List.append_nil, List.cons_append]
    · simp only [lt_end, cond_false]
    · rw [allE_eq]
theorem rall_eq {e : TApiExpr} (hb : szE e ≤ 1048576) : r11_All e = some (allE e) := r11_All_of e (dpE e) (rall_g _ e (Nat.le_refl _) hb)
end Go.Proofs.Ytphpnbdfngdinaa.Ab
