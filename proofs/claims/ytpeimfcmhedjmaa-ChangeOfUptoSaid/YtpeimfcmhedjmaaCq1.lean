/- Layer 18: what became another one. -/
import Derived.Test.YtpeimfcmhedjmaaSn
import Derived.KernelRfl
namespace Go.Proofs.Ytpeimfcmhedjmaa.Ab.Pq
open Go
set_option linter.all false
/-- A loop that looks for the first of a list. -/
theorem find_loop {α : Type} (t : α → Bool) {l : List α} {f : Int → Option (Step Int (Unit ⊕ Int))}
    (h1 : ∀ p x q, l = p ++ x :: q → f (p.length : Int) = some (bif t x then .done (.inr ((p.length : Nat) : Int)) else .next ((p.length + 1 : Nat) : Int)))
    (h2 : f (l.length : Int) = some (.done (.inl ()))) : ∃ i : Int, Option.bind (α := Unit ⊕ Int) (loopM f (0 : Int)) (Sum.elim (fun _ => some (-1)) (fun r => some r)) = some i ∧ ((i = -1 ∧ l.find? t = none) ∨ ∃ (n : Nat) (x : α), i = n ∧ n < l.length ∧ l[n]? = some x ∧ l.find? t = some x) := by
  have key : ∀ (q p : List α), l = p ++ q → (∀ y ∈ p, t y = false) → ∃ i : Int, Option.bind (α := Unit ⊕ Int) (loopM f (p.length : Int)) (Sum.elim (fun _ => some (-1)) (fun r => some r)) = some i ∧ ((i = -1 ∧ l.find? t = none) ∨ ∃ (n : Nat) (x : α), i = n ∧ n < l.length ∧ l[n]? = some x ∧ l.find? t = some x) := by
    intro q
    induction q with
    | nil =>
      intro p e hp
      rw [List.append_nil] at e; subst e
      refine ⟨-1, by rw [loopM_done h2]; rfl, .inl ⟨rfl, List.find?_eq_none.2 fun y hy => by rw [hp y hy]; simp⟩⟩
    | cons x q ih =>
      intro p e hp
      have h := h1 p x q e
      cases ht : t x
      · rw [ht, cond_false] at h
        rw [loopM_next h]
        have := ih (p ++ [x]) (by simp [e]) (fun y hy => by
          rcases List.mem_append.1 hy with hy | hy
          · exact hp y hy
          · rw [List.mem_singleton] at hy; subst hy; exact ht)
        simpa using this
      · rw [ht, cond_true] at h
        refine ⟨(p.length : Int), by rw [loopM_done h]; rfl, .inr ⟨p.length, x, rfl, by subst e; simp, by subst e; simp, ?_⟩⟩
        subst e
        rw [List.find?_append, List.find?_eq_none.2 fun y hy => by rw [hp y hy]; simp]
        simp [ht]
  have := key l [] rfl (by simp)
  simpa using this
def fnF (l : List TApiFunc) (s : ByteArray) : Option TApiFunc := l.find? fun x => decide (x.gName = s)
def fnG (l : List TApiGlobal) (s : ByteArray) : Option TApiGlobal := l.find? fun x => decide (x.gName = s)
abbrev Pg := TApiProgram
def noF : TApiFunc := ⟨ByteArray.empty, [], [], [], 0⟩
def noG : TApiGlobal := ⟨ByteArray.empty, false, 0, 0⟩
theorem indexF_eq {l : List TApiFunc} (s : ByteArray) (hb : l.length ≤ 1048576) : ∃ i : Int, slices_IndexFunc_api_Func_api_Func l s = some i ∧ ((i = -1 ∧ fnF l s = none) ∨ ∃ (n : Nat) (x : TApiFunc), i = n ∧ n < l.length ∧ l[n]? = some x ∧ fnF l s = some x) := by
  unfold slices_IndexFunc_api_Func_api_Func
  refine find_loop (fun x : TApiFunc => decide (x.gName = s)) (fun p x q h => ?_) ?_
  · rw [lt_pre h, cond_true, idx_pre2 h rfl, Option.bind_some]
    unfold change_funcOf_1
    rw [Option.bind_some, inc_pre h (by omega)]
    cases decide (x.gName = s) <;> rfl
  · rw [lt_end, cond_false]
theorem rFunc_eq {p : Pg} (s : ByteArray) (hb : p.gFuncs.length ≤ 1048576) : ∃ i : Int, r18_Func p s = some i ∧ ((i = -1 ∧ fnF p.gFuncs s = none) ∨ ∃ (n : Nat) (x : TApiFunc), i = n ∧ n < p.gFuncs.length ∧ p.gFuncs[n]? = some x ∧ fnF p.gFuncs s = some x) := by
  unfold r18_Func
  refine find_loop (fun x : TApiFunc => decide (x.gName = s)) (fun p x q h => ?_) ?_
  · rw [lt_pre h, cond_true, idx_pre2 h rfl, Option.bind_some, inc_pre h (by omega)]
    cases decide (x.gName = s) <;> rfl
  · rw [lt_end, cond_false]
theorem indexG_eq {l : List TApiGlobal} (s : ByteArray) (hb : l.length ≤ 1048576) : ∃ i : Int, slices_IndexFunc_api_Global_api_Global l s = some i ∧ ((i = -1 ∧ fnG l s = none) ∨ ∃ (n : Nat) (x : TApiGlobal), i = n ∧ n < l.length ∧ l[n]? = some x ∧ fnG l s = some x) := by
  unfold slices_IndexFunc_api_Global_api_Global
  refine find_loop (fun x : TApiGlobal => decide (x.gName = s)) (fun p x q h => ?_) ?_
  · rw [lt_pre h, cond_true, idx_pre2 h rfl, Option.bind_some]
    unfold change_globalOf_1
    rw [Option.bind_some, inc_pre h (by omega)]
    cases decide (x.gName = s) <;> rfl
  · rw [lt_end, cond_false]
theorem rGlobal_eq {p : Pg} (s : ByteArray) (hb : p.gGlobals.length ≤ 1048576) : ∃ i : Int, r18_Global p s = some i ∧ ((i = -1 ∧ fnG p.gGlobals s = none) ∨ ∃ (n : Nat) (x : TApiGlobal), i = n ∧ n < p.gGlobals.length ∧ p.gGlobals[n]? = some x ∧ fnG p.gGlobals s = some x) := by
  unfold r18_Global
  refine find_loop (fun x : TApiGlobal => decide (x.gName = s)) (fun p x q h => ?_) ?_
  · rw [lt_pre h, cond_true, idx_pre2 h rfl, Option.bind_some, inc_pre h (by omega)]
    cases decide (x.gName = s) <;> rfl
  · rw [lt_end, cond_false]
theorem idx_some {α : Type} {l : List α} {n : Nat} {x : α} (h : l[n]? = some x) : idx l (n : Int) = some x := by rw [idx_nat]; exact h
theorem funcOf_eq {p : Pg} (s : ByteArray) (hb : p.gFuncs.length ≤ 1048576) : change_funcOf p s = some ((fnF p.gFuncs s).getD noF, (fnF p.gFuncs s).isSome) := by
  unfold change_funcOf
  obtain ⟨i, h1, h2⟩ := indexF_eq (l := p.gFuncs) s hb
  rw [h1, Option.bind_some]
  rcases h2 with ⟨rfl, h⟩ | ⟨n, x, rfl, _, h, h'⟩
  · rw [h]; rfl
  · rw [h', decide_eq_false (by omega), cond_false, idx_some h]; rfl
theorem globalOf_eq {p : Pg} (s : ByteArray) (hb : p.gGlobals.length ≤ 1048576) : change_globalOf p s = some ((fnG p.gGlobals s).getD noG, (fnG p.gGlobals s).isSome) := by
  unfold change_globalOf
  obtain ⟨i, h1, h2⟩ := indexG_eq (l := p.gGlobals) s hb
  rw [h1, Option.bind_some]
  rcases h2 with ⟨rfl, h⟩ | ⟨n, x, rfl, _, h, h'⟩
  · rw [h]; rfl
  · rw [h', decide_eq_false (by omega), cond_false, idx_some h]; rfl
/-! ### What changed -/
def FB (f : TApiFunc) : Prop := f.gParams.length ≤ 1048576 ∧ f.gLocals.length ≤ 1048576 ∧ szSs f.gBody ≤ 1048576
/-- What is asked of a program's size. -/
structure PB (p : Pg) : Prop where
  f : p.gFuncs.length ≤ 30
  g : p.gGlobals.length ≤ 30
  b : ∀ x ∈ p.gFuncs, FB x
def chF (p q : Pg) (s : ByteArray) : Bool :=
  match fnF p.gFuncs s, fnF q.gFuncs s with
  | some a, some b => !eqF a b
  | _, _ => true
def neG (a b : TApiGlobal) : Bool := (!(a.gPtr == b.gPtr)) || a.gSize != b.gSize
def chG (p q : Pg) (s : ByteArray) : Bool :=
  match fnG p.gGlobals s, fnG q.gGlobals s with
  | some a, some b => neG a b
  | _, _ => true
theorem fnF_mem {l : List TApiFunc} {s : ByteArray} {x : TApiFunc} (h : fnF l s = some x) : x ∈ l := List.mem_of_find?_eq_some h
theorem fnF_some {l : List TApiFunc} {x : TApiFunc} (h : x ∈ l) : (fnF l x.gName).isSome = true := by
  unfold fnF; rw [List.find?_isSome]; exact ⟨x, h, by simp⟩
theorem fnG_some {l : List TApiGlobal} {x : TApiGlobal} (h : x ∈ l) : (fnG l x.gName).isSome = true := by
  unfold fnG; rw [List.find?_isSome]; exact ⟨x, h, by simp⟩
def nmsF (p : Pg) : List ByteArray := p.gFuncs.map (·.gName)
def nmsG (p : Pg) : List ByteArray := p.gGlobals.map (·.gName)
theorem flatten2 {α : Type} (a b : List α) : [a, b].flatten = a ++ b := by simp
theorem concat2 {α : Type} {l : List (List α)} {p : List (List α)} {x : List α} {q : List (List α)} (h : l = p ++ x :: q) : p.flatten.length + x.length ≤ l.flatten.length := by subst h; simp
theorem concatF {a b : List TApiFunc} (ha : a.length ≤ 30) (hb : b.length ≤ 30) : slices_Concat_api_Func_api_Func_r [a, b] = some (a ++ b) := by
  have hl : [a, b].flatten.length ≤ 60 := by simp; omega
  unfold slices_Concat_api_Func_api_Func_r
  rw [← flatten2]
  refine loop_list [a, b] (fun pre => pre.flatten.length) (fun x n => ((x : Int), (n : Int))) (fun x => (x : Int)) (by simp) (fun p x q hp => ?_) ?_ ?_
  · have := concat2 hp
    simp only [lt_pre hp, cond_true]
    rw [idx_pre2 hp rfl, Option.bind_some, inc_pre hp (by simp), wrap_id (by omega) (by omega), decide_eq_false (by omega), cond_false]
    simp
  · simp only [lt_end, cond_false]
  · rw [need_bind (by unfold growPre38; rw [Bool.and_eq_true, decide_eq_true_iff, decide_eq_true_iff]; omega)]
    refine loop_list [a, b] (fun pre => pre.flatten) (fun x n => ((n : Int), x)) (fun x => x) (by simp [growF38]) (fun p x q hp => ?_) ?_ ?_
    · have := concat2 hp
      simp only [lt_pre hp, cond_true]
      rw [idx_pre2 hp rfl, Option.bind_some, inc_pre hp (by simp), app_len (by omega) (by omega), Option.bind_some]
      simp
    · simp only [lt_end, cond_false]
    · rfl
theorem concatG {a b : List TApiGlobal} (ha : a.length ≤ 30) (hb : b.length ≤ 30) : slices_Concat_api_Global_api_Global_r [a, b] = some (a ++ b) := by
  have hl : [a, b].flatten.length ≤ 60 := by simp; omega
  unfold slices_Concat_api_Global_api_Global_r
  rw [← flatten2]
  refine loop_list [a, b] (fun pre => pre.flatten.length) (fun x n => ((x : Int), (n : Int))) (fun x => (x : Int)) (by simp) (fun p x q hp => ?_) ?_ ?_
  · have := concat2 hp
    simp only [lt_pre hp, cond_true]
    rw [idx_pre2 hp rfl, Option.bind_some, inc_pre hp (by simp), wrap_id (by omega) (by omega), decide_eq_false (by omega), cond_false]
    simp
  · simp only [lt_end, cond_false]
  · rw [need_bind (by unfold growPre58; rw [Bool.and_eq_true, decide_eq_true_iff, decide_eq_true_iff]; omega)]
    refine loop_list [a, b] (fun pre => pre.flatten) (fun x n => ((n : Int), x)) (fun x => x) (by simp [growF58]) (fun p x q hp => ?_) ?_ ?_
    · have := concat2 hp
      simp only [lt_pre hp, cond_true]
      rw [idx_pre2 hp rfl, Option.bind_some, inc_pre hp (by simp), app_len (by omega) (by omega), Option.bind_some]
      simp
    · simp only [lt_end, cond_false]
    · rfl
theorem row_eq {l : List ByteArray} (h : l.length ≤ 1048576) : change_row_r l = some (insA ltB l) := by
  unfold change_row_r
  have h2 := insB_all l
  rw [need_bind (by simp [len62B]; omega), need_bind (by simp [len62B, sortB_len]; omega), compactB_of h2.1 h2.2.1]
theorem pre_len {α : Type} {l p : List α} {x : α} {q : List α} (h : l = p ++ x :: q) : p.length < l.length := by subst h; simp
def chl (c : ByteArray → Bool) (l : List ByteArray) : List ByteArray := l.filter c
theorem funcs_eq {p q : Pg} (hp : PB p) (hq : PB q) : change_funcs p q = some (insA ltB ((nmsF p ++ nmsF q).filter (chF p q))) := by
  have h1 := hp.f
  have h2 := hq.f
  unfold change_funcs
  rw [concatF h1 h2, Option.bind_some]
  refine loop_list (p.gFuncs ++ q.gFuncs) (fun pre => (pre.map (·.gName)).filter (chF p q)) (fun a n => (a, (n : Int))) (fun a => a) (by simp) (fun pre x post hpp => ?_) ?_ ?_
  · have hl := pre_len hpp
    have hfl := List.length_filter_le (chF p q) (pre.map (·.gName))
    rw [List.length_append] at hl
    rw [List.length_map] at hfl
    have hx : x ∈ p.gFuncs ∨ x ∈ q.gFuncs := List.mem_append.1 (pre_mem hpp)
    simp only [lt_pre hpp, cond_true]
    rw [idx_pre2 hpp rfl, Option.bind_some, funcOf_eq _ (by omega), Option.bind_some, funcOf_eq _ (by omega), Option.bind_some, inc_pre hpp (by simp; omega)]
    have hc : (Option.bind (α := Bool) (bif (!((fnF p.gFuncs x.gName).isSome == (fnF q.gFuncs x.gName).isSome)) then some true else ((tree_SameFunc ((fnF p.gFuncs x.gName).getD noF) ((fnF q.gFuncs x.gName).getD noF)).bind fun x128 => some (!x128))) fun y126 => some y126) = some (chF p q x.gName) := by
      unfold chF
      cases ha : fnF p.gFuncs x.gName with
      | none =>
        cases hb : fnF q.gFuncs x.gName with
        | none =>
          rcases hx with hx | hx
          · have := fnF_some hx; rw [ha] at this; cases this
          · have := fnF_some hx; rw [hb] at this; cases this
        | some b => rfl
      | some a =>
        cases hb : fnF q.gFuncs x.gName with
        | none => rfl
        | some b =>
          obtain ⟨k1, k2, k3⟩ := hp.b a (fnF_mem ha)
          simp only [Option.isSome_some, beq_self_eq_true, Bool.not_true, cond_false, Option.getD_some]
          rw [sameF_eq k1 k2 k3]; rfl
    have hc' : (bif (!((fnF p.gFuncs x.gName).isSome == (fnF q.gFuncs x.gName).isSome)) then some true else ((tree_SameFunc ((fnF p.gFuncs x.gName).getD noF) ((fnF q.gFuncs x.gName).getD noF)).bind fun x128 => some (!x128))) = some (chF p q x.gName) := by
      rw [← hc]
      generalize (bif (!((fnF p.gFuncs x.gName).isSome == (fnF q.gFuncs x.gName).isSome)) then some true else ((tree_SameFunc ((fnF p.gFuncs x.gName).getD noF) ((fnF q.gFuncs x.gName).getD noF)).bind fun x128 => some (!x128))) = m
      cases m <;> rfl
    simp only []
    rw [hc', Option.bind_some, List.map_append, List.filter_append]
    cases hch : chF p q x.gName
    · simp [hch]
    · simp only [cond_true]
      rw [app_len (by omega) (by simp; omega), Option.bind_some]
      simp [hch]
  · simp only [lt_end, cond_false]
  · have hfl := List.length_filter_le (chF p q) ((p.gFuncs ++ q.gFuncs).map (·.gName))
    rw [List.length_map, List.length_append] at hfl
    rw [row_eq (by omega), Option.bind_some, List.map_append]; rfl
theorem funcs_r : change_funcs_r = change_funcs := rfl
theorem globals_eq {p q : Pg} (hp : PB p) (hq : PB q) : change_globals p q = some (insA ltB ((nmsG p ++ nmsG q).filter (chG p q))) := by
  have h1 := hp.g
  have h2 := hq.g
  unfold change_globals
  rw [concatG h1 h2, Option.bind_some]
  refine loop_list (p.gGlobals ++ q.gGlobals) (fun pre => (pre.map (·.gName)).filter (chG p q)) (fun a n => (a, (n : Int))) (fun a => a) (by simp) (fun pre x post hpp => ?_) ?_ ?_
  · have hl := pre_len hpp
    have hfl := List.length_filter_le (chG p q) (pre.map (·.gName))
    rw [List.length_append] at hl
    rw [List.length_map] at hfl
    have hx : x ∈ p.gGlobals ∨ x ∈ q.gGlobals := List.mem_append.1 (pre_mem hpp)
    simp only [lt_pre hpp, cond_true]
    rw [idx_pre2 hpp rfl, Option.bind_some, globalOf_eq _ (by omega), Option.bind_some, globalOf_eq _ (by omega), Option.bind_some, inc_pre hpp (by simp; omega)]
    have hc' : (bif (!((fnG p.gGlobals x.gName).isSome == (fnG q.gGlobals x.gName).isSome)) then some true else (bif (!(((fnG p.gGlobals x.gName).getD noG).gPtr == ((fnG q.gGlobals x.gName).getD noG).gPtr)) then some true else some (((fnG p.gGlobals x.gName).getD noG).gSize != ((fnG q.gGlobals x.gName).getD noG).gSize))) = some (chG p q x.gName) := by
      unfold chG
      cases ha : fnG p.gGlobals x.gName with
      | none =>
        cases hb : fnG q.gGlobals x.gName with
        | none =>
          rcases hx with hx | hx
          · have := fnG_some hx; rw [ha] at this; cases this
          · have := fnG_some hx; rw [hb] at this; cases this
        | some b => rfl
      | some a =>
        cases hb : fnG q.gGlobals x.gName with
        | none => rfl
        | some b =>
          simp only [Option.isSome_some, beq_self_eq_true, Bool.not_true, cond_false, Option.getD_some, neG]
          cases (a.gPtr == b.gPtr) <;> rfl
    simp only []
    rw [hc', Option.bind_some, List.map_append, List.filter_append]
    cases hch : chG p q x.gName
    · simp [hch]
    · simp only [cond_true]
      rw [app_len (by omega) (by simp; omega), Option.bind_some]
      simp [hch]
  · simp only [lt_end, cond_false]
  · have hfl := List.length_filter_le (chG p q) ((p.gGlobals ++ q.gGlobals).map (·.gName))
    rw [List.length_map, List.length_append] at hfl
    rw [row_eq (by omega), Option.bind_some, List.map_append]; rfl
theorem globals_r : change_globals_r = change_globals := rfl
def dF (p q : Pg) : List ByteArray := insA ltB ((nmsF p ++ nmsF q).filter (chF p q))
def dG (p q : Pg) : List ByteArray := insA ltB ((nmsG p ++ nmsG q).filter (chG p q))
theorem of_eq {p q : Pg} (hp : PB p) (hq : PB q) : change_Of p q = some ⟨dF p q, dG p q⟩ := by
  unfold change_Of
  rw [funcs_eq hp hq, Option.bind_some, globals_eq hp hq]; rfl
theorem of_r {p q : Pg} (hp : PB p) (hq : PB q) : change_Of_r p q = some ⟨dF p q, dG p q⟩ := by
  unfold change_Of_r
  rw [funcs_r, globals_r, funcs_eq hp hq, Option.bind_some, globals_eq hp hq]; rfl
/-! ### The document's -/
theorem rall_eq {p : Pg} (hp : PB p) (f : Bool) : r18_all p f = some (bif f then nmsF p else nmsG p) := by
  have h1 := hp.f
  have h2 := hp.g
  unfold r18_all
  cases f
  · simp only [cond_false]
    refine loop_list p.gGlobals (fun pre => pre.map (·.gName)) (fun a n => (a, (n : Int))) (fun a => a) (by simp) (fun pre x post hpp => ?_) ?_ ?_
    · have hl := pre_len hpp
      simp only [lt_pre hpp, cond_true]
      rw [idx_pre2 hpp rfl, Option.bind_some, inc_pre hpp (by omega), app_len (by omega) (by simp; omega), Option.bind_some]
      simp
    · simp only [lt_end, cond_false]
    · rfl
  · simp only [cond_true]
    refine loop_list p.gFuncs (fun pre => pre.map (·.gName)) (fun a n => (a, (n : Int))) (fun a => a) (by simp) (fun pre x post hpp => ?_) ?_ ?_
    · have hl := pre_len hpp
      simp only [lt_pre hpp, cond_true]
      rw [idx_pre2 hpp rfl, Option.bind_some, inc_pre hpp (by omega), app_len (by omega) (by simp; omega), Option.bind_some]
      simp
    · simp only [lt_end, cond_false]
    · rfl
theorem other_eq {p q : Pg} (hp : PB p) (hq : PB q) (s : ByteArray) (f : Bool) : r18_other p q s f = some (bif f then chF p q s else chG p q s) := by
  have h1 := hp.f
  have h2 := hp.g
  have h3 := hq.f
  have h4 := hq.g
  unfold r18_other
  cases f
  · simp only [cond_false]
    obtain ⟨i, e1, e2⟩ := rGlobal_eq (p := p) s (by omega)
    obtain ⟨j, e3, e4⟩ := rGlobal_eq (p := q) s (by omega)
    rw [e1, Option.bind_some, e3, Option.bind_some]
    unfold chG
    rcases e2 with ⟨rfl, h⟩ | ⟨n, x, rfl, _, h, h'⟩
    · rw [h]; rfl
    · rw [h', decide_eq_false (by omega), cond_false]
      rcases e4 with ⟨rfl, k⟩ | ⟨m, y, rfl, _, k, k'⟩
      · rw [k]; rfl
      · rw [k', decide_eq_false (by omega), cond_false]
        simp only [idx_some h, idx_some k, Option.bind_some, neG]
        cases (x.gPtr == y.gPtr) <;> rfl
  · simp only [cond_true]
    obtain ⟨i, e1, e2⟩ := rFunc_eq (p := p) s (by omega)
    obtain ⟨j, e3, e4⟩ := rFunc_eq (p := q) s (by omega)
    rw [e1, Option.bind_some, e3, Option.bind_some]
    unfold chF
    rcases e2 with ⟨rfl, h⟩ | ⟨n, x, rfl, _, h, h'⟩
    · rw [h]; rfl
    · rw [h', decide_eq_false (by omega), cond_false]
      rcases e4 with ⟨rfl, k⟩ | ⟨m, y, rfl, _, k, k'⟩
      · rw [k]; rfl
      · rw [k', decide_eq_false (by omega), cond_false]
        obtain ⟨z1, z2, z3⟩ := hp.b x (fnF_mem h')
        rw [idx_some h, Option.bind_some, idx_some k, Option.bind_some, rsameF_eq z1 z2 z3]; rfl
theorem rof_eq {p q : Pg} (hp : PB p) (hq : PB q) (f : Bool) : r18_Of p q f = some (bif f then dF p q else dG p q) := by
  have h1 := hp.f
  have h2 := hp.g
  have h3 := hq.f
  have h4 := hq.g
  have hl1 : (nmsF p).length = p.gFuncs.length := by simp [nmsF]
  have hl2 : (nmsF q).length = q.gFuncs.length := by simp [nmsF]
  have hl3 : (nmsG p).length = p.gGlobals.length := by simp [nmsG]
  have hl4 : (nmsG q).length = q.gGlobals.length := by simp [nmsG]
  unfold r18_Of
  rw [rall_eq hp, Option.bind_some, rall_eq hq, Option.bind_some]
  have key : ∀ (L : List ByteArray) (c : ByteArray → Bool), L.length ≤ 60 → (∀ s, r18_other p q s f = some (c s)) → (Option.bind (α := List ByteArray) (loopM (fun (s39 : List ByteArray × Int) => (bif (decide (s39.2 < (L.length : Int))) then ((idx L s39.2).bind fun x58 => ((r18_other p q x58 f).bind fun x59 => (bif x59 then ((idx L s39.2).bind fun x61 => ((r07_Put s39.1 x61).bind fun x63 => some (.next (x63, (IntKind.i64.wrap (s39.2 + (1 : Int))))))) else some (.next (s39.1, (IntKind.i64.wrap (s39.2 + (1 : Int)))))))) else some (.done s39.1))) (([] : List ByteArray), (0 : Int))) fun y38 => some y38) = some (insA ltB (L.filter c)) := by
    intro L c hL hc
    refine loop_list L (fun pre => insA ltB (pre.filter c)) (fun a n => (a, (n : Int))) (fun a => a) (by simp [insA]) (fun pre x post hpp => ?_) ?_ ?_
    · have hl := pre_len hpp
      have hfl := List.length_filter_le c pre
      have hil := (insB_all (pre.filter c)).2.2
      simp only [lt_pre hpp, cond_true]
      rw [idx_pre2 hpp rfl, Option.bind_some, hc, Option.bind_some, inc_pre hpp (by omega), List.filter_append]
      cases hx : c x
      · simp [hx]
      · simp only [cond_true, Option.bind_some]
        rw [put_eq (by omega), Option.bind_some, show [x].filter c = [x] by simp [hx], insA_snoc]
    · simp only [lt_end, cond_false]
    · rfl
  cases f
  · simp only [cond_false]
    rw [app_len (by omega) (by omega), Option.bind_some]
    exact key _ _ (by simp; omega) fun s => (other_eq hp hq s false).trans rfl
  · simp only [cond_true]
    rw [app_len (by omega) (by omega), Option.bind_some]
    exact key _ _ (by simp; omega) fun s => (other_eq hp hq s true).trans rfl
theorem d_len {p q : Pg} (hp : PB p) (hq : PB q) : (dF p q).length ≤ 60 ∧ (dG p q).length ≤ 60 := by
  have h1 := hp.f
  have h2 := hp.g
  have h3 := hq.f
  have h4 := hq.g
  have k1 := (insB_all ((nmsF p ++ nmsF q).filter (chF p q))).2.2
  have k2 := List.length_filter_le (chF p q) (nmsF p ++ nmsF q)
  have k3 := (insB_all ((nmsG p ++ nmsG q).filter (chG p q))).2.2
  have k4 := List.length_filter_le (chG p q) (nmsG p ++ nmsG q)
  have e1 : (nmsF p).length = p.gFuncs.length := by simp [nmsF]
  have e2 : (nmsF q).length = q.gFuncs.length := by simp [nmsF]
  have e3 : (nmsG p).length = p.gGlobals.length := by simp [nmsG]
  have e4 : (nmsG q).length = q.gGlobals.length := by simp [nmsG]
  rw [List.length_append] at k2 k4
  exact ⟨by unfold dF; omega, by unfold dG; omega⟩
theorem few_eq (p : Pg) : l18_few p = some (decide (p.gFuncs.length ≤ 30) && decide (p.gGlobals.length ≤ 30)) := by
  unfold l18_few
  by_cases h : p.gFuncs.length ≤ 30
  · rw [decide_eq_true (by omega), cond_true, decide_eq_true h, Bool.true_and]
    congr 1
    exact decide_eq_decide.2 (by omega)
  · rw [decide_eq_false (by omega), cond_false, decide_eq_false h, Bool.false_and]
def lvP : Pg := ⟨[], [⟨ByteArray.mk #[102], [], [], [], 0⟩, ⟨ByteArray.mk #[103], [], [], [], 0⟩]⟩
def lvQ : Pg := ⟨[], [⟨ByteArray.mk #[103], [], [], [], 0⟩, ⟨ByteArray.mk #[102], [⟨ByteArray.mk #[120], false⟩], [], [], 0⟩]⟩
theorem lives18 : l18_lives = some true := by
  have hp : PB lvP := ⟨by decide, by decide, by intro x hx; simp [lvP] at hx; rcases hx with rfl | rfl <;> exact ⟨by decide, by decide, by decide⟩⟩
  have hq : PB lvQ := ⟨by decide, by decide, by intro x hx; simp [lvQ] at hx; rcases hx with rfl | rfl <;> exact ⟨by decide, by decide, by decide⟩⟩
  have e1 : dF lvP lvQ = [ByteArray.mk #[102]] := by kernel_rfl
  have e2 : dG lvP lvQ = [] := by kernel_rfl
  unfold l18_lives
  change Option.bind (change_Of lvP lvQ) _ = _
  rw [of_eq hp hq, Option.bind_some]
  simp only [e1, e2]
  rw [texts_refl (by decide)]
  rfl
/-- Sizes of what is read. -/
def QB (p : Pg) : Prop := ∀ x ∈ p.gFuncs, FB x
theorem few_cases {p q : Pg} (hp : QB p) (hq : QB q) : (Option.bind (α := Bool) ((l18_few p).bind fun x7 => (bif (!x7) then some true else ((l18_few q).bind fun x9 => some (!x9)))) fun y => some y) = some true ∨ ((Option.bind (α := Bool) ((l18_few p).bind fun x7 => (bif (!x7) then some true else ((l18_few q).bind fun x9 => some (!x9)))) fun y => some y) = some false ∧ PB p ∧ PB q) := by
  rw [few_eq, few_eq]
  by_cases h1 : p.gFuncs.length ≤ 30 <;> by_cases h2 : p.gGlobals.length ≤ 30 <;> by_cases h3 : q.gFuncs.length ≤ 30 <;> by_cases h4 : q.gGlobals.length ≤ 30 <;>
    first
    | exact .inr ⟨by simp [h1, h2, h3, h4], ⟨h1, h2, hp⟩, ⟨h3, h4, hq⟩⟩
    | exact .inl (by simp [h1, h2, h3, h4])
theorem bind_some' {α : Type} (o : Option α) : (o.bind fun y => some y) = o := by cases o <;> rfl
theorem changeOf_law {p q : Pg} (hp : QB p) (hq : QB q) : l18_ChangeOf p q = some true := by
  unfold l18_ChangeOf
  rcases few_cases hp hq with h | ⟨h, hp', hq'⟩
  · rw [bind_some'] at h
    rw [h, Option.bind_some, cond_true, lives18]; rfl
  · rw [bind_some'] at h
    have hd := d_len hp' hq'
    rw [h, Option.bind_some, cond_false, of_eq hp' hq', Option.bind_some, rof_eq hp' hq', Option.bind_some, cond_true, texts_refl (by show (dF p q).length ≤ _; omega), Option.bind_some, cond_true, rof_eq hp' hq', Option.bind_some, cond_false, texts_refl (by show (dG p q).length ≤ _; omega), Option.bind_some, cond_true, lives18]
    rfl
end Go.Proofs.Ytpeimfcmhedjmaa.Ab.Pq
