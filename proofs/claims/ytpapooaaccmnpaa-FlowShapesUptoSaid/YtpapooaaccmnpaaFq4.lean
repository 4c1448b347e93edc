/- Layer 17: the law of shapes. -/
import Derived.Test.YtpapooaaccmnpaaFq3
import Derived.Test.YtpapooaaccmnpaaFl3c
namespace Go.Proofs.Ytpapooaaccmnpaa.Ab
open Go
set_option linter.all false
mutual
def flS : TApiStmt → List TApiStmt
  | ⟨a, b, c, es, ks, ls, d⟩ => ⟨a, b, c, es, ks, ls, d⟩ :: (flSs ks ++ flSs ls)
def flSs : List TApiStmt → List TApiStmt
  | [] => []
  | s :: l => flS s ++ flSs l
end
theorem flS_eq (s : TApiStmt) : flS s = s :: (flSs s.gKids ++ flSs s.gElse) := by cases s; simp only [flS]
theorem flSs_append : ∀ l m, flSs (l ++ m) = flSs l ++ flSs m
  | [], m => by simp [flSs]
  | e :: l, m => by simp only [List.cons_append, flSs, flSs_append l m, List.append_assoc]
mutual
theorem flS_len : ∀ s, (flS s).length = cS s
  | ⟨a, b, c, es, ks, ls, d⟩ => by
    have h1 := flSs_len ks
    have h2 := flSs_len ls
    simp only [flS, cS, List.length_cons, List.length_append]; omega
theorem flSs_len : ∀ l, (flSs l).length = cSs l
  | [] => rfl
  | s :: l => by
    have h1 := flS_len s
    have h2 := flSs_len l
    simp only [flSs, cSs, List.length_append]; omega
end
theorem stmts_g : ∀ (n : Nat) (l : List TApiStmt), hSs l ≤ n → cSs l ≤ 1048576 → r11_Stmts_g n l = some (flSs l)
  | 0, l, h, _ => by have := hSs_pos l; omega
  | n + 1, l, h, hb => by
    show r11_Stmts_b (r11_Stmts_g n) l = _
    unfold r11_Stmts_b
    have hl := cSs_len l
    refine loop_list l (fun pre => flSs pre) (fun a n => (a, (n : Nat))) (fun a => a) (by simp [flSs]) (fun pre x post hp => ?_) ?_ ?_
    · have hx := pre_mem hp
      have hk := fuel h hx
      have hsp := cSs_pre hp
      have hsx := cS_eq x
      have f1 := flSs_len pre
      have f2 := flSs_len x.gKids
      have f3 := flSs_len x.gElse
      simp only [lt_pre hp, cond_true]
      rw [inc_pre hp (by omega)]
      rw [show idx l (pre.length : Int) = some x by rw [hp]; exact idx_pre _ _ _, Option.bind_some, app_len (by omega) (by simp; omega), Option.bind_some, Option.bind_some, stmts_g n _ hk.1 (by omega), Option.bind_some, app_len (by omega) (by simp; omega), Option.bind_some, Option.bind_some, stmts_g n _ hk.2 (by omega), Option.bind_some, app_len (by omega) (by simp; omega), Option.bind_some]
      rw [flSs_append]
      simp only [flSs, List.append_nil, flS_eq x, List.append_assoc, List.cons_append, List.nil_append]
    · simp only [lt_end, cond_false]
    · rfl
theorem stmts_eq {l : List TApiStmt} (hb : cSs l ≤ 1048576) : r11_Stmts l = some (flSs l) := r11_Stmts_of l (hSs l) (stmts_g _ l (Nat.le_refl _) hb)
/-! ### What goes out of each node -/
def wk (k : Int) : Int := bif k == 6 then 2 else bif k == 7 then 3 else 5
def outs : List TApiEdge → Int → Int
  | [], _ => 0
  | e :: l, i => (bif e.gFrom == i then wk e.gKind else 0) + outs l i
theorem outs_snoc (e : TApiEdge) (i : Int) : ∀ l, outs (l ++ [e]) i = outs l i + (bif e.gFrom == i then wk e.gKind else 0)
  | [] => by simp [outs]
  | x :: l => by simp only [List.cons_append, outs, outs_snoc e i l]; omega
theorem wk_le (k : Int) : 0 ≤ wk k ∧ wk k ≤ 5 := by
  unfold wk; cases k == 6 <;> cases k == 7 <;> simp
theorem outs_le (i : Int) : ∀ l : List TApiEdge, 0 ≤ outs l i ∧ outs l i ≤ 5 * l.length
  | [] => by simp [outs]
  | e :: l => by
    have := outs_le i l
    have hw := wk_le e.gKind
    simp only [outs, List.length_cons]
    cases e.gFrom == i <;> simp only [cond_true, cond_false] <;> omega
theorem outs_zero {l : List TApiEdge} {i : Int} (h : ∀ e ∈ l, e.gFrom ≠ i) : outs l i = 0 := by
  induction l with
  | nil => rfl
  | cons e l ih =>
    have h1 := h e (by simp)
    simp only [outs, ih (fun x hx => h x (by simp [hx])), show (e.gFrom == i) = false by simp [h1], cond_false]; rfl
def EOK (n : Int) (e : TApiEdge) : Prop := 0 ≤ e.gFrom ∧ e.gFrom < n ∧ 1 ≤ e.gTo ∧ e.gTo < n ∧ e.gFrom ≠ 1
/-- Of the nodes all but those of R and where one is have all their edges. -/
structure Inv (m : Md) (R : List Int) : Prop where
  n2 : 2 ≤ m.gNodes
  at0 : 0 ≤ m.gAt ∧ m.gAt < m.gNodes ∧ m.gAt ≠ 1 ∧ m.gAt ∉ R
  r0 : ∀ r ∈ R, 0 ≤ r ∧ r < m.gNodes ∧ r ≠ 1
  es : ∀ e ∈ m.gEdges, EOK m.gNodes e
  out : ∀ i, 0 ≤ i → i < m.gNodes → i ≠ 1 → outs m.gEdges i = if i = m.gAt ∨ i ∈ R then 0 else 5
theorem EOK.mono {n n' : Int} {e : TApiEdge} (h : EOK n e) (k : n ≤ n') : EOK n' e := by unfold EOK at *; omega
theorem Inv.fresh {m : Md} {R : List Int} (h : Inv m R) {i : Int} (hi : m.gNodes ≤ i) : outs m.gEdges i = 0 :=
  outs_zero fun e he => by have := h.es e he; unfold EOK at this; omega
/-- An edge of a whole node goes to a node that is new. -/
theorem Inv.stepTo {m : Md} {R : List Int} (h : Inv m R) {e : TApiEdge} {to : Int} {pl : List Int} (hf : e.gFrom = m.gAt) (ht : 1 ≤ e.gTo ∧ e.gTo ≤ m.gNodes) (hk : wk e.gKind = 5) : Inv ⟨m.gNodes + 1, m.gNodes, m.gEdges ++ [e], pl⟩ R := by
  obtain ⟨n2, a0, r0, es, out⟩ := h
  have hfr := Inv.fresh ⟨n2, a0, r0, es, out⟩ (i := m.gNodes) (by omega)
  refine ⟨by simp only []; omega, ⟨by simp only []; omega, by simp only []; omega, by simp only []; omega, fun hr => ?_⟩, fun r hr => ?_, fun x hx => ?_, fun i h0 h1 hi => ?_⟩
  · have := r0 _ hr; simp only [] at this; omega
  · have := r0 r hr; simp only []; omega
  · rcases List.mem_append.1 hx with hx | hx
    · exact (es x hx).mono (by simp only []; omega)
    · rw [List.mem_singleton] at hx; subst hx
      unfold EOK; simp only []; omega
  · simp only [outs_snoc, hf, hk] at h1 ⊢
    by_cases q : i = m.gNodes
    · subst q
      rw [hfr, show (m.gAt == m.gNodes) = false by simp; omega, if_pos (Or.inl rfl)]; rfl
    · rw [out i h0 (by omega) hi]
      by_cases q1 : i = m.gAt
      · subst q1
        rw [if_pos (Or.inl rfl), if_neg (by rintro (x | x); exact q x; exact a0.2.2.2 x)]
        simp
      · rw [show (m.gAt == i) = false by simp; omega, cond_false, Int.add_zero]
        by_cases q2 : i ∈ R
        · rw [if_pos (Or.inr q2), if_pos (Or.inr q2)]
        · rw [if_neg (by rintro (x | x); exact q1 x; exact q2 x), if_neg (by rintro (x | x); exact q x; exact q2 x)]
theorem Inv.places {m : Md} {R : List Int} {pl : List Int} (h : Inv m R) : Inv ⟨m.gNodes, m.gAt, m.gEdges, pl⟩ R := ⟨h.n2, h.at0, h.r0, h.es, h.out⟩
/-- Both ways of a test, from where one is. -/
theorem Inv.test {m : Md} {R : List Int} (h : Inv m R) {es : List TApiExpr} {pl : List Int} : Inv ⟨m.gNodes + 2, m.gNodes, m.gEdges ++ [⟨m.gAt, m.gNodes, 6, ByteArray.empty, ByteArray.empty, es⟩] ++ [⟨m.gAt, m.gNodes + 1, 7, ByteArray.empty, ByteArray.empty, es⟩], pl⟩ ((m.gNodes + 1) :: R) := by
  obtain ⟨n2, a0, r0, es', out⟩ := h
  have hfr := fun i => Inv.fresh ⟨n2, a0, r0, es', out⟩ (i := i)
  refine ⟨by simp only []; omega, ⟨by simp only []; omega, by simp only []; omega, by simp only []; omega, fun hr => ?_⟩, fun r hr => ?_, fun x hx => ?_, fun i h0 h1 hi => ?_⟩
  · rcases List.mem_cons.1 hr with q | q
    · simp only [] at q; omega
    · have := r0 _ q; simp only [] at this; omega
  · rcases List.mem_cons.1 hr with q | q
    · simp only []; omega
    · have := r0 r q; simp only []; omega
  · rcases List.mem_append.1 hx with hx | hx
    · rcases List.mem_append.1 hx with hx | hx
      · exact (es' x hx).mono (by simp only []; omega)
      · rw [List.mem_singleton] at hx; subst hx
        unfold EOK; simp only []; omega
    · rw [List.mem_singleton] at hx; subst hx
      unfold EOK; simp only []; omega
  · simp only [outs_snoc] at h1 ⊢
    by_cases q : m.gNodes ≤ i
    · rw [hfr i q, show (m.gAt == i) = false by simp; omega, if_pos (by rcases (show i = m.gNodes ∨ i = m.gNodes + 1 by omega) with x | x; exact .inl x; exact .inr (by simp [x]))]; rfl
    · rw [out i h0 (by omega) hi]
      by_cases q1 : i = m.gAt
      · subst q1
        rw [if_pos (Or.inl rfl), if_neg (by rintro (x | x); omega; rcases List.mem_cons.1 x with x | x; omega; exact a0.2.2.2 x)]
        simp [wk]
      · rw [show (m.gAt == i) = false by simp; omega, cond_false, cond_false, Int.add_zero, Int.add_zero]
        by_cases q2 : i ∈ R
        · rw [if_pos (Or.inr q2), if_pos (Or.inr (List.mem_cons_of_mem _ q2))]
        · rw [if_neg (by rintro (x | x); exact q1 x; exact q2 x), if_neg (by rintro (x | x); omega; rcases List.mem_cons.1 x with x | x; omega; exact q2 x)]
/-- Where one is gets its edge; on to a node of those that wait. -/
theorem Inv.join {m : Md} {R : List Int} {a : Int} {e : TApiEdge} {pl : List Int} (h : Inv m (a :: R)) (ha : a ∉ R) (hf : e.gFrom = m.gAt) (ht : 1 ≤ e.gTo ∧ e.gTo < m.gNodes) (hk : wk e.gKind = 5) : Inv ⟨m.gNodes, a, m.gEdges ++ [e], pl⟩ R := by
  obtain ⟨n2, a0, r0, es, out⟩ := h
  have hra := r0 a (by simp)
  have hne : a ≠ m.gAt := fun q => a0.2.2.2 (by simp [q])
  refine ⟨n2, ⟨hra.1, hra.2.1, hra.2.2, ha⟩, fun r hr => r0 r (by simp [hr]), fun x hx => ?_, fun i h0 h1 hi => ?_⟩
  · rcases List.mem_append.1 hx with hx | hx
    · exact es x hx
    · rw [List.mem_singleton] at hx; subst hx
      unfold EOK; simp only []; omega
  · simp only [outs_snoc, hf, hk] at h1 ⊢
    rw [out i h0 h1 hi]
    by_cases q1 : i = m.gAt
    · subst q1
      rw [if_pos (Or.inl rfl), if_neg (by rintro (x | x); exact hne x.symm; exact a0.2.2.2 (by simp [x]))]
      simp
    · rw [show (m.gAt == i) = false by simp; omega, cond_false, Int.add_zero]
      by_cases q2 : i = a ∨ i ∈ R
      · rw [if_pos (by simpa using Or.inr q2), if_pos q2]
      · rw [if_neg (by rintro (x | x); exact q1 x; exact q2 (by simpa using x)), if_neg q2]
/-- The same, by a node that is new. -/
theorem Inv.mid {m : Md} {R : List Int} {a : Int} {e : TApiEdge} {pl : List Int} (h : Inv m (a :: R)) (ha : a ∉ R) (hf : e.gFrom = m.gAt) (ht : e.gTo = m.gNodes) (hk : wk e.gKind = 5) : Inv ⟨m.gNodes + 1, a, m.gEdges ++ [e], pl⟩ (m.gNodes :: R) := by
  obtain ⟨n2, a0, r0, es, out⟩ := h
  have hra := r0 a (by simp)
  have hfr := Inv.fresh ⟨n2, a0, r0, es, out⟩ (i := m.gNodes) (by omega)
  have hne : a ≠ m.gAt := fun q => a0.2.2.2 (by simp [q])
  refine ⟨by simp only []; omega, ⟨hra.1, by simp only []; omega, hra.2.2, fun hr => ?_⟩, fun r hr => ?_, fun x hx => ?_, fun i h0 h1 hi => ?_⟩
  · rcases List.mem_cons.1 hr with q | q
    · simp only [] at q; omega
    · exact ha q
  · rcases List.mem_cons.1 hr with q | q
    · subst q; simp only []; omega
    · have := r0 r (by simp [q]); simp only []; omega
  · rcases List.mem_append.1 hx with hx | hx
    · exact (es x hx).mono (by simp only []; omega)
    · rw [List.mem_singleton] at hx; subst hx
      unfold EOK; simp only []; omega
  · simp only [outs_snoc, hf, hk] at h1 ⊢
    by_cases q : i = m.gNodes
    · subst q
      rw [hfr, show (m.gAt == m.gNodes) = false by simp; omega, if_pos (Or.inr (by simp))]; rfl
    · rw [out i h0 (by omega) hi]
      by_cases q1 : i = m.gAt
      · subst q1
        rw [if_pos (Or.inl rfl), if_neg (by rintro (x | x); exact hne x.symm; rcases List.mem_cons.1 x with x | x; exact q x; exact a0.2.2.2 (by simp [x]))]
        simp
      · rw [show (m.gAt == i) = false by simp; omega, cond_false, Int.add_zero]
        by_cases q2 : i = a ∨ i ∈ R
        · rw [if_pos (by simpa using Or.inr q2), if_pos (by rcases q2 with x | x; exact .inl x; exact .inr (by simp [x]))]
        · rw [if_neg (by rintro (x | x); exact q1 x; exact q2 (by simpa using x)), if_neg (by rintro (x | x); exact q2 (.inl x); rcases List.mem_cons.1 x with x | x; exact q x; exact q2 (.inr x))]
theorem wk_kd {op : Int} (h : (kd op != 0) = true) : wk (kd op) = 5 := by
  unfold kd at h ⊢
  cases op == 1 <;> cases op == 2 <;> cases op == 3 <;> cases op == 4 <;> cases op == 5 <;> cases op == 9 <;> first | rfl | (simp at h)
mutual
theorem goS_inv : ∀ (s : TApiStmt) (m : Md) (R : List Int), Inv m R → Inv (goS s m) R
  | ⟨op, a, b, es, ks, ls, d⟩, m, R, h => by
    have hR : ∀ n : Int, m.gNodes ≤ n → n ∉ R := fun n hn hr => by have := h.r0 n hr; omega
    rw [goS_eq]
    simp only []
    cases hk : kd op != 0
    · cases op == 8
      · cases op == 6
        · cases op == 7
          · exact h.places
          · simp only [cond_true, cond_false]
            have h1 : Inv (opn7 es m) ((m.gNodes + 2) :: R) := by
              have q1 := h.stepTo (to := m.gNodes) (pl := m.gPlaces ++ [m.gAt]) (e := ⟨m.gAt, m.gNodes, 0, ByteArray.empty, ByteArray.empty, []⟩) rfl ⟨by have := h.n2; simp only []; omega, by simp⟩ rfl
              have q2 := q1.test (es := es) (pl := m.gPlaces ++ [m.gAt])
              have e1 : m.gNodes + 1 + 2 = m.gNodes + 3 := by omega
              have e2 : m.gNodes + 1 + 1 = m.gNodes + 2 := by omega
              simp only [e1, e2] at q2
              exact q2
            have h2 := goSs_inv ks _ _ h1
            have hb := (goSs_bd ks (opn7 es m)).1
            have hn := (opn7_n es m).1
            exact h2.join (hR _ (by omega)) rfl ⟨by have := h.n2; simp only []; omega, by simp only []; omega⟩ rfl
        · simp only [cond_true, cond_false]
          have h1 : Inv (opn6 es m) ((m.gNodes + 1) :: R) := h.test
          have h2 := goSs_inv ks _ _ h1
          have hb := (goSs_bd ks (opn6 es m)).1
          have hn := (opn6_n es m).1
          have h3 : Inv (mid6 (m.gNodes + 1) (goSs ks (opn6 es m))) ((goSs ks (opn6 es m)).gNodes :: R) := h2.mid (hR _ (by omega)) rfl rfl rfl
          have h4 := goSs_inv ls _ _ h3
          have hb2 := (goSs_bd ls (mid6 (m.gNodes + 1) (goSs ks (opn6 es m)))).1
          have hn2 := (mid6_n (m.gNodes + 1) (goSs ks (opn6 es m))).1
          exact h4.join (hR _ (by omega)) rfl ⟨by have := h.n2; simp only []; omega, by simp only []; omega⟩ rfl
      · simp only [cond_true, cond_false]
        exact h.stepTo (to := 1) rfl ⟨by simp, by have := h.n2; simp only []; omega⟩ rfl
    · simp only [cond_true]
      exact h.stepTo (to := m.gNodes) rfl ⟨by have := h.n2; simp only []; omega, by simp⟩ (wk_kd hk)
theorem goSs_inv : ∀ (l : List TApiStmt) (m : Md) (R : List Int), Inv m R → Inv (goSs l m) R
  | [], m, R, h => by simpa [goSs] using h
  | s :: l, m, R, h => by
    simp only [goSs]
    exact goSs_inv l _ R (goS_inv s m R h)
end
theorem inv0 : Inv g0 [] := ⟨by decide, by simp [g0], by simp, by simp [g0], fun i h0 h1 hi => by
  have h2 : i < 2 := h1
  have h3 : i = g0.gAt := show i = 0 by omega
  rw [if_pos (Or.inl h3)]; rfl⟩
/-- The whole graph. -/
theorem whole_ok (a : TApiFunc) : 2 ≤ (whole a).gNodes ∧ (∀ e ∈ (whole a).gEdges, EOK (whole a).gNodes e) ∧ ∀ i, 0 ≤ i → i < (whole a).gNodes → i ≠ 1 → outs (whole a).gEdges i = 5 := by
  obtain ⟨n2, a0, r0, es, out⟩ := goSs_inv a.gBody g0 [] inv0
  refine ⟨n2, fun x hx => ?_, fun i h0 h1 hi => ?_⟩
  · rcases List.mem_append.1 (show x ∈ (goSs a.gBody g0).gEdges ++ [_] from hx) with hx | hx
    · exact es x hx
    · rw [List.mem_singleton] at hx; subst hx
      show EOK (goSs a.gBody g0).gNodes _
      unfold EOK; simp only []; omega
  · show outs ((goSs a.gBody g0).gEdges ++ [_]) i = 5
    rw [outs_snoc, out i h0 h1 hi]
    by_cases q : i = (goSs a.gBody g0).gAt
    · subst q; simp [wk]
    · rw [if_neg (by rintro (x | x); exact q x; simp at x), show ((goSs a.gBody g0).gAt == i) = false by simp; omega]; rfl
theorem whole_one (a : TApiFunc) : outs (whole a).gEdges 1 = 0 := outs_zero fun e he => by
  have := (whole_ok a).2.1 e he
  unfold EOK at this; omega
/-! ### The law -/
def outL (l : List TApiEdge) (n : Nat) : List Int := (List.range n).map fun i : Nat => outs l (i : Int)
theorem outL_at {l : List TApiEdge} {n : Nat} {i : Int} (h0 : 0 ≤ i) (h1 : i < n) : idx (outL l n) i = some (outs l i) := by
  obtain ⟨j, rfl⟩ := Int.eq_ofNat_of_zero_le h0
  rw [idx_nat]
  unfold outL
  rw [List.getElem?_map, List.getElem?_range (by omega)]; rfl
theorem outL_set {l : List TApiEdge} {n : Nat} {e : TApiEdge} (h0 : 0 ≤ e.gFrom) : (outL l n).set e.gFrom.toNat (outs l e.gFrom + wk e.gKind) = outL (l ++ [e]) n := by
  obtain ⟨j, hj⟩ := Int.eq_ofNat_of_zero_le h0
  apply List.ext_getElem?
  intro i
  rw [List.getElem?_set]
  unfold outL
  simp only [List.length_map, List.length_range, List.getElem?_map, outs_snoc, hj, Int.toNat_natCast]
  by_cases q : j = i
  · subst q
    rw [if_pos rfl]
    by_cases q2 : j < n
    · rw [if_pos q2, List.getElem?_range q2]
      simp
    · rw [if_neg q2, List.getElem?_eq_none (by simpa using q2)]; rfl
  · rw [if_neg q]
    by_cases q2 : i < n
    · rw [List.getElem?_range q2]
      simp only [Option.map_some]
      rw [show ((j : Int) == (i : Int)) = false by simp; omega, cond_false, Int.add_zero]
    · rw [List.getElem?_eq_none (by simpa using q2)]; rfl
theorem outL_nil (n : Nat) : List.replicate n (0 : Int) = outL [] n := by
  unfold outL
  apply List.ext_getElem?
  intro i
  rw [List.getElem?_replicate, List.getElem?_map]
  by_cases q2 : i < n
  · rw [if_pos q2, List.getElem?_range q2]; rfl
  · rw [if_neg q2, List.getElem?_eq_none (by simpa using q2)]; rfl
theorem shapes_law {a : TApiFunc} (h : FnB a) : l17_FlowShapes a = some true := by
  have hb := bd0 h
  obtain ⟨n2, hes, hout⟩ := whole_ok a
  have hone := whole_one a
  have hl : (whole a).gEdges.length ≤ 9000000 := by simp [whole, ed]; omega
  have hbd := goSs_bd a.gBody g0
  have hcs := cSs_le a.gBody
  have hf := flSs_len a.gBody
  unfold Bd at hbd
  have hN : (whole a).gNodes = (goSs a.gBody g0).gNodes := rfl
  have hP : (whole a).gPlaces = (goSs a.gBody g0).gPlaces := rfl
  have hFB := h
  unfold FnB at hFB
  simp only [g0, List.length_nil] at hbd
  obtain ⟨N, hNN⟩ := Int.eq_ofNat_of_zero_le (show 0 ≤ (whole a).gNodes by omega)
  have hNb : N ≤ 4000000 := by simp only [g0] at hN; omega
  unfold l17_FlowShapes
  rw [graph_eq h, Option.bind_some, stmts_eq (by omega), Option.bind_some, places_eq h]
  simp only [Option.bind_some]
  rw [hf, decide_eq_false (by omega), cond_false, wrap_id (n := 3 * (cSs a.gBody : Int)) (by omega) (by omega), wrap_id (n := 2 + 3 * (cSs a.gBody : Int)) (by omega) (by omega), decide_eq_false (by simp only [g0] at hN; omega), cond_false, decide_eq_false (by rw [hP]; simp only [g0]; omega), Option.bind_some, cond_false]
  rw [need_bind (by unfold mkOK; simp only [Bool.and_eq_true, decide_eq_true_eq]; simp only [g0] at hN; omega)]
  rw [show List.replicate (whole a).gNodes.toNat (0 : Int) = outL [] N by rw [hNN]; exact outL_nil N]
  refine loop_list (whole a).gEdges (fun pre => outL pre N) (fun x i => ((i : Int), x)) (fun x => .inl x) rfl (fun p x q hp => ?_) ?_ ?_
  · have hx := hes x (pre_mem hp)
    have hxx := hx
    unfold EOK at hxx
    have hpl : p.length ≤ 9000000 := by have := congrArg List.length hp; simp at this; omega
    have ho := outs_le x.gFrom p
    simp only [lt_pre hp, cond_true]
    rw [idx_pre2 hp rfl, Option.bind_some, decide_eq_false (by omega), cond_false, decide_eq_false (by omega), cond_false, decide_eq_false (by omega), cond_false, decide_eq_false (by omega), cond_false, show (x.gFrom == 1) = false by simp; omega, Option.bind_some, cond_false, outL_at (by omega) (by omega)]
    simp only [Option.bind_some, inc_pre hp (by omega)]
    rw [wrap_id (n := outs p x.gFrom + 2) (by omega) (by omega), wrap_id (n := outs p x.gFrom + 3) (by omega) (by omega), wrap_id (n := outs p x.gFrom + 5) (by omega) (by omega), ← outL_set (l := p) (n := N) (e := x) (by omega)]
    unfold wk
    cases x.gKind == 6 <;> cases x.gKind == 7 <;> rfl
  · simp only [lt_end, cond_false]
  · simp only [Sum.elim_inl]
    have hlen : (outL (whole a).gEdges N).length = N := by simp [outL]
    rw [loop_all (l := outL (whole a).gEdges N) (fun p x q hp => ?_) ?_]
    · simp only [Option.bind_some, Sum.elim_inl, lives17]
    · rw [lt_end, cond_false]
    · have hpl : p.length < N := by have := congrArg List.length hp; simp [hlen] at this; omega
      have hx : x = outs (whole a).gEdges (p.length : Int) := by
        have h1 := outL_at (l := (whole a).gEdges) (n := N) (i := (p.length : Int)) (by omega) (by omega)
        rw [idx_pre2 hp rfl] at h1
        exact Option.some.inj h1
      rw [lt_pre hp, cond_true, idx_pre2 hp rfl, inc_pre hp (by rw [hlen]; omega)]
      simp only [Option.bind_some]
      by_cases q1 : (p.length : Int) = 1
      · rw [q1] at hx
        rw [hone] at hx
        subst hx
        rw [q1]; rfl
      · rw [hout _ (by omega) (by omega) q1] at hx
        subst hx
        rw [show ((p.length : Int) == 1) = false by simp; omega, show ((p.length : Int) != 1) = true by simp; omega]; rfl
end Go.Proofs.Ytpapooaaccmnpaa.Ab
