/- Layer 18: what is read. -/
import Derived.Test.YtpeimfcmhedjmaaCq2
import Derived.Test.YtpeimfcmhedjmaaBd
namespace Go.Proofs.Ytpeimfcmhedjmaa.Ab
open Go
set_option linter.all false
def wfTApiGlobal (x : TApiGlobal) : Prop := x.gName.size ≤ maxLen ∧ (Lit.int .i64 x.gSize).wf = true ∧ (Lit.int .i64 x.gAt).wf = true
theorem goodTApiGlobal {n : Nat} {d : D} (g : GoodT tab n 61 d) : ∃ x : TApiGlobal, d = eTApiGlobal x ∧ wfTApiGlobal x := by
  obtain ⟨n', ds, _, rfl, hl, h⟩ := good_struct ti61 rfl g
  match ds, hl with
  | [d0, d1, d2, d3], _ =>
    obtain ⟨x1, rfl, w1⟩ := good_str ti9 rfl (h 0 _ _ rfl rfl)
    obtain ⟨x2, rfl⟩ := good_bool ti4 rfl (h 1 _ _ rfl rfl)
    obtain ⟨x3, rfl, w3⟩ := good_int ti3 rfl (h 2 _ _ rfl rfl)
    obtain ⟨x4, rfl, w4⟩ := good_int ti3 rfl (h 3 _ _ rfl rfl)
    exact ⟨⟨x1, x2, x3, x4⟩, rfl, w1, w3, w4⟩
def wfTApiVar (x : TApiVar) : Prop := x.gName.size ≤ maxLen
theorem goodTApiVar {n : Nat} {d : D} (g : GoodT tab n 43 d) : ∃ x : TApiVar, d = eTApiVar x ∧ wfTApiVar x := by
  obtain ⟨n', ds, _, rfl, hl, h⟩ := good_struct ti43 rfl g
  match ds, hl with
  | [d0, d1], _ =>
    obtain ⟨x1, rfl, w1⟩ := good_str ti9 rfl (h 0 _ _ rfl rfl)
    obtain ⟨x2, rfl⟩ := good_bool ti4 rfl (h 1 _ _ rfl rfl)
    exact ⟨⟨x1, x2⟩, rfl, w1⟩
def wfTApiExpr (_ : TApiExpr) : Prop := True
theorem goodTApiExpr_n : ∀ (n : Nat) {d : D} (g : GoodT tab n 76 d), ∃ x : TApiExpr, d = eTApiExpr x ∧ wfTApiExpr x
  | 0, d, g => by simp [GoodT] at g
  | n + 1, d, g => by
    obtain ⟨n', ds, hn, rfl, hl, h⟩ := good_struct ti76 rfl g
    obtain rfl : n' = n := by omega
    match ds, hl with
    | [d0, d1, d2, d3, d4], _ =>
      obtain ⟨x1, rfl, w1⟩ := good_int ti3 rfl (h 0 _ _ rfl rfl)
      obtain ⟨x2, rfl, w2⟩ := good_int ti3 rfl (h 1 _ _ rfl rfl)
      obtain ⟨x3, rfl, w3⟩ := good_str ti9 rfl (h 2 _ _ rfl rfl)
      obtain ⟨n4, zs4, hn4, rfl, hl4, hz4⟩ := good_slice ti71 rfl ti76 (h 3 _ _ rfl rfl)
      obtain ⟨x4, rfl, w4⟩ := good_list (f := eTApiExpr) (K := (fun y => wfTApiExpr y)) (p := fun x => GoodT tab n4 76 x) (fun x hx => by obtain ⟨x5, rfl, w5⟩ := goodTApiExpr_n _ (hx); exact ⟨x5, rfl, w5⟩) zs4 hz4
      obtain ⟨x6, rfl, w6⟩ := good_int ti3 rfl (h 4 _ _ rfl rfl)
      exact ⟨⟨x1, x2, x3, x4, x6⟩, by rw [eTApiExpr_eq]; rfl, trivial⟩
theorem goodTApiExpr {n : Nat} {d : D} (g : GoodT tab n 76 d) : ∃ x : TApiExpr, d = eTApiExpr x ∧ wfTApiExpr x := goodTApiExpr_n n g
def wfTApiStmt (_ : TApiStmt) : Prop := True
theorem goodTApiStmt_n : ∀ (n : Nat) {d : D} (g : GoodT tab n 73 d), ∃ x : TApiStmt, d = eTApiStmt x ∧ wfTApiStmt x
  | 0, d, g => by simp [GoodT] at g
  | n + 1, d, g => by
    obtain ⟨n', ds, hn, rfl, hl, h⟩ := good_struct ti73 rfl g
    obtain rfl : n' = n := by omega
    match ds, hl with
    | [d0, d1, d2, d3, d4, d5, d6], _ =>
      obtain ⟨x1, rfl, w1⟩ := good_int ti3 rfl (h 0 _ _ rfl rfl)
      obtain ⟨x2, rfl, w2⟩ := good_str ti9 rfl (h 1 _ _ rfl rfl)
      obtain ⟨x3, rfl, w3⟩ := good_str ti9 rfl (h 2 _ _ rfl rfl)
      obtain ⟨n4, zs4, hn4, rfl, hl4, hz4⟩ := good_slice ti71 rfl ti76 (h 3 _ _ rfl rfl)
      obtain ⟨x4, rfl, w4⟩ := good_list (f := eTApiExpr) (K := (fun y => wfTApiExpr y)) (p := fun x => GoodT tab n4 76 x) (fun x hx => by obtain ⟨x5, rfl, w5⟩ := goodTApiExpr (hx); exact ⟨x5, rfl, w5⟩) zs4 hz4
      obtain ⟨n6, zs6, hn6, rfl, hl6, hz6⟩ := good_slice ti39 rfl ti73 (h 4 _ _ rfl rfl)
      obtain ⟨x6, rfl, w6⟩ := good_list (f := eTApiStmt) (K := (fun y => wfTApiStmt y)) (p := fun x => GoodT tab n6 73 x) (fun x hx => by obtain ⟨x7, rfl, w7⟩ := goodTApiStmt_n _ (hx); exact ⟨x7, rfl, w7⟩) zs6 hz6
      obtain ⟨n8, zs8, hn8, rfl, hl8, hz8⟩ := good_slice ti39 rfl ti73 (h 5 _ _ rfl rfl)
      obtain ⟨x8, rfl, w8⟩ := good_list (f := eTApiStmt) (K := (fun y => wfTApiStmt y)) (p := fun x => GoodT tab n8 73 x) (fun x hx => by obtain ⟨x9, rfl, w9⟩ := goodTApiStmt_n _ (hx); exact ⟨x9, rfl, w9⟩) zs8 hz8
      obtain ⟨x10, rfl, w10⟩ := good_int ti3 rfl (h 6 _ _ rfl rfl)
      exact ⟨⟨x1, x2, x3, x4, x6, x8, x10⟩, by rw [eTApiStmt_eq]; rfl, trivial⟩
theorem goodTApiStmt {n : Nat} {d : D} (g : GoodT tab n 73 d) : ∃ x : TApiStmt, d = eTApiStmt x ∧ wfTApiStmt x := goodTApiStmt_n n g
def wfTApiFunc (x : TApiFunc) : Prop := x.gName.size ≤ maxLen ∧ (x.gParams.length ≤ maxLen ∧ ∀ y ∈ x.gParams, wfTApiVar y) ∧ (x.gLocals.length ≤ maxLen ∧ ∀ y ∈ x.gLocals, wfTApiVar y) ∧ (x.gBody.length ≤ maxLen ∧ ∀ y ∈ x.gBody, wfTApiStmt y) ∧ (Lit.int .i64 x.gAt).wf = true
theorem goodTApiFunc {n : Nat} {d : D} (g : GoodT tab n 41 d) : ∃ x : TApiFunc, d = eTApiFunc x ∧ wfTApiFunc x := by
  obtain ⟨n', ds, _, rfl, hl, h⟩ := good_struct ti41 rfl g
  match ds, hl with
  | [d0, d1, d2, d3, d4], _ =>
    obtain ⟨x1, rfl, w1⟩ := good_str ti9 rfl (h 0 _ _ rfl rfl)
    obtain ⟨n2, zs2, _, rfl, hl2, hz2⟩ := good_slice ti38 rfl ti43 (h 1 _ _ rfl rfl)
    obtain ⟨x2, rfl, w2⟩ := good_list (f := eTApiVar) (K := (fun y => wfTApiVar y)) (p := fun x => GoodT tab n2 43 x) (fun x hx => by obtain ⟨x3, rfl, w3⟩ := goodTApiVar (hx); exact ⟨x3, rfl, w3⟩) zs2 hz2
    obtain ⟨n4, zs4, _, rfl, hl4, hz4⟩ := good_slice ti38 rfl ti43 (h 2 _ _ rfl rfl)
    obtain ⟨x4, rfl, w4⟩ := good_list (f := eTApiVar) (K := (fun y => wfTApiVar y)) (p := fun x => GoodT tab n4 43 x) (fun x hx => by obtain ⟨x5, rfl, w5⟩ := goodTApiVar (hx); exact ⟨x5, rfl, w5⟩) zs4 hz4
    obtain ⟨n6, zs6, _, rfl, hl6, hz6⟩ := good_slice ti39 rfl ti73 (h 3 _ _ rfl rfl)
    obtain ⟨x6, rfl, w6⟩ := good_list (f := eTApiStmt) (K := (fun y => wfTApiStmt y)) (p := fun x => GoodT tab n6 73 x) (fun x hx => by obtain ⟨x7, rfl, w7⟩ := goodTApiStmt (hx); exact ⟨x7, rfl, w7⟩) zs6 hz6
    obtain ⟨x8, rfl, w8⟩ := good_int ti3 rfl (h 4 _ _ rfl rfl)
    exact ⟨⟨x1, x2, x4, x6, x8⟩, rfl, w1, ⟨by simpa using hl2, w2⟩, ⟨by simpa using hl4, w4⟩, ⟨by simpa using hl6, w6⟩, w8⟩
def wfTApiProgram (x : TApiProgram) : Prop := (x.gGlobals.length ≤ maxLen ∧ ∀ y ∈ x.gGlobals, wfTApiGlobal y) ∧ (x.gFuncs.length ≤ maxLen ∧ ∀ y ∈ x.gFuncs, wfTApiFunc y)
theorem goodTApiProgram {n : Nat} {d : D} (g : GoodT tab n 25 d) : ∃ x : TApiProgram, d = eTApiProgram x ∧ wfTApiProgram x := by
  obtain ⟨n', ds, _, rfl, hl, h⟩ := good_struct ti25 rfl g
  match ds, hl with
  | [d0, d1], _ =>
    obtain ⟨n1, zs1, _, rfl, hl1, hz1⟩ := good_slice ti22 rfl ti61 (h 0 _ _ rfl rfl)
    obtain ⟨x1, rfl, w1⟩ := good_list (f := eTApiGlobal) (K := (fun y => wfTApiGlobal y)) (p := fun x => GoodT tab n1 61 x) (fun x hx => by obtain ⟨x2, rfl, w2⟩ := goodTApiGlobal (hx); exact ⟨x2, rfl, w2⟩) zs1 hz1
    obtain ⟨n3, zs3, _, rfl, hl3, hz3⟩ := good_slice ti23 rfl ti41 (h 1 _ _ rfl rfl)
    obtain ⟨x3, rfl, w3⟩ := good_list (f := eTApiFunc) (K := (fun y => wfTApiFunc y)) (p := fun x => GoodT tab n3 41 x) (fun x hx => by obtain ⟨x4, rfl, w4⟩ := goodTApiFunc (hx); exact ⟨x4, rfl, w4⟩) zs3 hz3
    exact ⟨⟨x1, x3⟩, rfl, ⟨by simpa using hl1, w1⟩, ⟨by simpa using hl3, w3⟩⟩
theorem wts_mem {α : Type} {e : α → D} : ∀ {l : List α} {x : α}, x ∈ l → wt (e x) ≤ wts (l.map e)
  | y :: l, x, h => by
    simp only [List.map_cons, wts]
    rcases List.mem_cons.1 h with rfl | h
    · omega
    · have := wts_mem (e := e) h; omega
theorem wts_vl : ∀ l : List TApiVar, l.length ≤ wts (l.map eTApiVar)
  | [] => by simp
  | v :: l => by
    have := wts_vl l
    simp only [List.length_cons, List.map_cons, wts]
    have h : 1 ≤ wt (eTApiVar v) := by
      unfold eTApiVar; simp only [wt, wts, wtv]; omega
    omega
theorem wt_fb (x : TApiFunc) (h : wt (eTApiFunc x) ≤ 1048576) : Pq.FB x := by
  have h1 := wts_vl x.gParams
  have h2 := wts_vl x.gLocals
  have h3 := szSs_le x.gBody
  unfold wSs at h3
  unfold eTApiFunc at h
  simp only [wt, wts, wtv] at h
  unfold Pq.FB
  omega
theorem wt_qb (a : TApiProgram) (h : wt (eTApiProgram a) ≤ 1048576) : Pq.QB a := by
  intro x hx
  have h1 := wts_mem (e := eTApiFunc) hx
  refine wt_fb x ?_
  unfold eTApiProgram at h
  simp only [wt, wts, wtv] at h
  omega
theorem ChangeOf_true (a0 a1 : TApiProgram) (h : wt (eTApiProgram a0) + wt (eTApiProgram a1) ≤ 1048576) (k0 : wfTApiProgram a0) (k1 : wfTApiProgram a1) : l18_ChangeOf a0 a1 = some true := Pq.changeOf_law (wt_qb a0 (by omega)) (wt_qb a1 (by omega))
theorem ChangeNone_true (a0 a1 : TApiProgram) (h : wt (eTApiProgram a0) + wt (eTApiProgram a1) ≤ 1048576) (k0 : wfTApiProgram a0) (k1 : wfTApiProgram a1) : l18_ChangeNone a0 a1 = some true := Pq.changeNone_law (wt_qb a0 (by omega)) (wt_qb a1 (by omega))
end Go.Proofs.Ytpeimfcmhedjmaa.Ab
