/- The texts that spreadRestsUpto_holds leans on, part 6. -/
import Derived.Test.YtnfkijcmakgkmaaGreatQr5
set_option maxRecDepth 100000
set_option maxHeartbeats 80000000
namespace Go.Proofs.YtnfkijcmakgkmaaGreat.Ab.Pq
open Go
set_option linter.all false
theorem Kea {α : Type} (t : α → Bool) {l : List α} {f : Int → Option (Step Int (Unit ⊕ Int))}
    (h1 : ∀ p x q, l = p ++ x :: q → f (p.length : Int) = some (bif t x then .done (.inr ((p.length : Nat) : Int)) else .next ((p.length + 1 : Nat) : Int)))
    (h2 : f (l.length : Int) = some (.done (.inl ()))) : ∃ i : Int, Option.bind (α := Unit ⊕ Int) (loopM f (0 : Int)) (Sum.elim (fun _ => some (-1)) (fun r => some r)) = some i ∧ ((i = -1 ∧ l.find? t = none) ∨ ∃ (n : Nat) (x : α), i = n ∧ n < l.length ∧ l[n]? = some x ∧ l.find? t = some x) := by
  have key : ∀ (q p : List α), l = p ++ q → (∀ y ∈ p, t y = false) → ∃ i : Int, Option.bind (α := Unit ⊕ Int) (loopM f (p.length : Int)) (Sum.elim (fun _ => some (-1)) (fun r => some r)) = some i ∧ ((i = -1 ∧ l.find? t = none) ∨ ∃ (n : Nat) (x : α), i = n ∧ n < l.length ∧ l[n]? = some x ∧ l.find? t = some x) := by
    intro q
    induction q with
    | nil =>
      intro p e hp
      rw [List.append_nil] at e; subst e
      refine ⟨-1, by rw [KaI h2]; rfl, .inl ⟨rfl, List.find?_eq_none.2 fun y hy => by rw [hp y hy]; simp⟩⟩
    | cons x q ih =>
      intro p e hp
      have h := h1 p x q e
      cases ht : t x
      · rw [ht, cond_false] at h
        rw [KbS h]
        have := ih (p ++ [x]) (by simp [e]) (fun y hy => by
          rcases List.mem_append.1 hy with hy | hy
          · exact hp y hy
          · rw [List.mem_singleton] at hy; subst hy; exact ht)
        simpa using this
      · rw [ht, cond_true] at h
        refine ⟨(p.length : Int), by rw [KaI h]; rfl, .inr ⟨p.length, x, rfl, by subst e; simp, by subst e; simp, ?_⟩⟩
        subst e
        rw [List.find?_append, List.find?_eq_none.2 fun y hy => by rw [hp y hy]; simp]
        simp [ht]
  have := key l [] rfl (by simp)
  simpa using this
def fnF (l : List KQ) (s : ByteArray) : Option KQ := l.find? fun x => decide (x.gName = s)
def fnG (l : List K8) (s : ByteArray) : Option K8 := l.find? fun x => decide (x.gName = s)
abbrev Pg := Kw
def noF : KQ := ⟨ByteArray.empty, [], [], [], 0⟩
def noG : K8 := ⟨ByteArray.empty, false, 0, 0⟩
theorem indexF_eq {l : List KQ} (s : ByteArray) (hb : l.length ≤ 1048576) : ∃ i : Int, KaG l s = some i ∧ ((i = -1 ∧ fnF l s = none) ∨ ∃ (n : Nat) (x : KQ), i = n ∧ n < l.length ∧ l[n]? = some x ∧ fnF l s = some x) := by
 unfold KaG
 refine Kea (fun x : KQ => decide (x.gName = s)) (fun p x q h => ?_) ?_
 ·rw [Kau h, cond_true, Kae h rfl, Option.bind_some]
  unfold KcJ
  rw [Option.bind_some, Kam h (by omega)]
  cases decide (x.gName = s) <;> rfl
 ·rw [Kav, cond_false]
theorem rFunc_eq {p : Pg} (s : ByteArray) (hb : p.gFuncs.length ≤ 1048576) : ∃ i : Int, KdL p s = some i ∧ ((i = -1 ∧ fnF p.gFuncs s = none) ∨ ∃ (n : Nat) (x : KQ), i = n ∧ n < p.gFuncs.length ∧ p.gFuncs[n]? = some x ∧ fnF p.gFuncs s = some x) := by
 unfold KdL
 refine Kea (fun x : KQ => decide (x.gName = s)) (fun p x q h => ?_) ?_
 ·rw [Kau h, cond_true, Kae h rfl, Option.bind_some, Kam h (by omega)]
  cases decide (x.gName = s) <;> rfl
 ·rw [Kav, cond_false]
theorem indexG_eq {l : List K8} (s : ByteArray) (hb : l.length ≤ 1048576) : ∃ i : Int, KaC l s = some i ∧ ((i = -1 ∧ fnG l s = none) ∨ ∃ (n : Nat) (x : K8), i = n ∧ n < l.length ∧ l[n]? = some x ∧ fnG l s = some x) := by
 unfold KaC
 refine Kea (fun x : K8 => decide (x.gName = s)) (fun p x q h => ?_) ?_
 ·rw [Kau h, cond_true, Kae h rfl, Option.bind_some]
  unfold Kck
  rw [Option.bind_some, Kam h (by omega)]
  cases decide (x.gName = s) <;> rfl
 ·rw [Kav, cond_false]
theorem Kh4 {p : Pg} (s : ByteArray) (hb : p.gGlobals.length ≤ 1048576) : ∃ i : Int, Kc6 p s = some i ∧ ((i = -1 ∧ fnG p.gGlobals s = none) ∨ ∃ (n : Nat) (x : K8), i = n ∧ n < p.gGlobals.length ∧ p.gGlobals[n]? = some x ∧ fnG p.gGlobals s = some x) := by
 unfold Kc6
 refine Kea (fun x : K8 => decide (x.gName = s)) (fun p x q h => ?_) ?_
 ·rw [Kau h, cond_true, Kae h rfl, Option.bind_some, Kam h (by omega)]
  cases decide (x.gName = s) <;> rfl
 ·rw [Kav, cond_false]
theorem KdR {α : Type} {l : List α} {n : Nat} {x : α} (h : l[n]? = some x) : idx l (n : Int) = some x := by rw [KgA]; exact h
theorem KiI {p : Pg} (s : ByteArray) (hb : p.gFuncs.length ≤ 1048576) : Kbz p s = some ((fnF p.gFuncs s).getD noF, (fnF p.gFuncs s).isSome) := by
 unfold Kbz
 obtain ⟨i, h1, h2⟩ := indexF_eq (l := p.gFuncs) s hb
 rw [h1, Option.bind_some]
 rcases h2 with ⟨rfl, h⟩ | ⟨n, x, rfl, _, h, h'⟩
 ·rw [h]; rfl
 ·rw [h', decide_eq_false (by omega), cond_false, KdR h]; rfl
theorem Khb {p : Pg} (s : ByteArray) (hb : p.gGlobals.length ≤ 1048576) : Ka8 p s = some ((fnG p.gGlobals s).getD noG, (fnG p.gGlobals s).isSome) := by
 unfold Ka8
 obtain ⟨i, h1, h2⟩ := indexG_eq (l := p.gGlobals) s hb
 rw [h1, Option.bind_some]
 rcases h2 with ⟨rfl, h⟩ | ⟨n, x, rfl, _, h, h'⟩
 ·rw [h]; rfl
 ·rw [h', decide_eq_false (by omega), cond_false, KdR h]; rfl
def FB (f : KQ) : Prop := f.gParams.length ≤ 1048576 ∧ f.gLocals.length ≤ 1048576 ∧ szSs f.gBody ≤ 1048576
structure PB (p : Pg) : Prop where
 f : p.gFuncs.length ≤ 262144
 g : p.gGlobals.length ≤ 262144
 b : ∀ x ∈ p.gFuncs, FB x
def chF (p q : Pg) (s : ByteArray) : Bool :=
 match fnF p.gFuncs s, fnF q.gFuncs s with
 | some a, some b => !eqF a b
 | _, _ => true
def neG (a b : K8) : Bool := (!(a.gPtr == b.gPtr)) || a.gSize != b.gSize
def chG (p q : Pg) (s : ByteArray) : Bool :=
 match fnG p.gGlobals s, fnG q.gGlobals s with
 | some a, some b => neG a b
 | _, _ => true
theorem fnF_mem {l : List KQ} {s : ByteArray} {x : KQ} (h : fnF l s = some x) : x ∈ l := List.mem_of_find?_eq_some h
theorem fnF_some {l : List KQ} {x : KQ} (h : x ∈ l) : (fnF l x.gName).isSome = true := by
 unfold fnF; rw [List.find?_isSome]; exact ⟨x, h, by simp⟩
theorem fnG_some {l : List K8} {x : K8} (h : x ∈ l) : (fnG l x.gName).isSome = true := by
 unfold fnG; rw [List.find?_isSome]; exact ⟨x, h, by simp⟩
def nmsF (p : Pg) : List ByteArray := p.gFuncs.map (·.gName)
def nmsG (p : Pg) : List ByteArray := p.gGlobals.map (·.gName)
theorem flatten2 {α : Type} (a b : List α) : [a, b].flatten = a ++ b := by simp
theorem KgK {α : Type} {l : List (List α)} {p : List (List α)} {x : List α} {q : List (List α)} (h : l = p ++ x :: q) : p.flatten.length + x.length ≤ l.flatten.length := by subst h; simp
theorem concatF {a b : List KQ} (ha : a.length ≤ 262144) (hb : b.length ≤ 262144) : Kar [a, b] = some (a ++ b) := by
 have hl : [a, b].flatten.length ≤ 524288 := by simp; omega
 unfold Kar
 rw [← flatten2]
 refine Kax [a, b] (fun pre => pre.flatten.length) (fun x n => ((x : Int), (n : Int))) (fun x => (x : Int)) (by simp) (fun p x q hp => ?_) ?_ ?_
 ·have := KgK hp
  simp only [Kau hp, cond_true]
  rw [Kae hp rfl, Option.bind_some, Kam hp (by simp), wrap_id (by omega) (by omega), decide_eq_false (by omega), cond_false]
  simp
 ·simp only [Kav, cond_false]
 ·rw [Kcs (by unfold Ke3; rw [Bool.and_eq_true, decide_eq_true_iff, decide_eq_true_iff]; omega)]
  refine Kax [a, b] (fun pre => pre.flatten) (fun x n => ((n : Int), x)) (fun x => x) (by simp [growF53]) (fun p x q hp => ?_) ?_ ?_
  ·have := KgK hp
   simp only [Kau hp, cond_true]
   rw [Kae hp rfl, Option.bind_some, Kam hp (by simp), Kaw (by omega) (by omega), Option.bind_some]
   simp
  ·simp only [Kav, cond_false]
  ·rfl
theorem concatG {a b : List K8} (ha : a.length ≤ 262144) (hb : b.length ≤ 262144) : Kat [a, b] = some (a ++ b) := by
 have hl : [a, b].flatten.length ≤ 524288 := by simp; omega
 unfold Kat
 rw [← flatten2]
 refine Kax [a, b] (fun pre => pre.flatten.length) (fun x n => ((x : Int), (n : Int))) (fun x => (x : Int)) (by simp) (fun p x q hp => ?_) ?_ ?_
 ·have := KgK hp
  simp only [Kau hp, cond_true]
  rw [Kae hp rfl, Option.bind_some, Kam hp (by simp), wrap_id (by omega) (by omega), decide_eq_false (by omega), cond_false]
  simp
 ·simp only [Kav, cond_false]
 ·rw [Kcs (by unfold Ke4; rw [Bool.and_eq_true, decide_eq_true_iff, decide_eq_true_iff]; omega)]
  refine Kax [a, b] (fun pre => pre.flatten) (fun x n => ((n : Int), x)) (fun x => x) (by simp [growF86]) (fun p x q hp => ?_) ?_ ?_
  ·have := KgK hp
   simp only [Kau hp, cond_true]
   rw [Kae hp rfl, Option.bind_some, Kam hp (by simp), Kaw (by omega) (by omega), Option.bind_some]
   simp
  ·simp only [Kav, cond_false]
  ·rfl
theorem row_eq {l : List ByteArray} (h : l.length ≤ 1048576) : Kbv l = some (insA ltB l) := by
 unfold Kbv
 have h2 := Kbl l
 rw [Kcs (by simp [Kcz]; omega), Kcs (by simp [Kcz, KiH]; omega), Kg2 h2.1 h2.2.1]
theorem Kc8 {α : Type} {l p : List α} {x : α} {q : List α} (h : l = p ++ x :: q) : p.length < l.length := by subst h; simp
theorem funcs_eq {p q : Pg} (hp : PB p) (hq : PB q) : Kcn p q = some (insA ltB ((nmsF p ++ nmsF q).filter (chF p q))) := by
  have h1 := hp.f
  have h2 := hq.f
  unfold Kcn
  rw [concatF h1 h2, Option.bind_some]
  refine Kax (p.gFuncs ++ q.gFuncs) (fun pre => (pre.map (·.gName)).filter (chF p q)) (fun a n => (a, (n : Int))) (fun a => a) (by simp) (fun pre x post hpp => ?_) ?_ ?_
  · have hl := Kc8 hpp
    have hfl := List.length_filter_le (chF p q) (pre.map (·.gName))
    rw [List.length_append] at hl
    rw [List.length_map] at hfl
    have hx : x ∈ p.gFuncs ∨ x ∈ q.gFuncs := List.mem_append.1 (KbY hpp)
    simp only [Kau hpp, cond_true]
    rw [Kae hpp rfl, Option.bind_some, KiI _ (by omega), Option.bind_some, KiI _ (by omega), Option.bind_some, Kam hpp (by simp; omega)]
    have hc : (Option.bind (α := Bool) (bif (!((fnF p.gFuncs x.gName).isSome == (fnF q.gFuncs x.gName).isSome)) then some true else ((Kbg ((fnF p.gFuncs x.gName).getD noF) ((fnF q.gFuncs x.gName).getD noF)).bind fun x128 => some (!x128))) fun y126 => some y126) = some (chF p q x.gName) := by
      unfold chF
      cases ha : fnF p.gFuncs x.gName with
      | none =>
        cases hb : fnF q.gFuncs x.gName with
        | none =>
          rcases hx with hx | hx
          · have := fnF_some hx; rw [ha] at this; cases this
          · have := fnF_some hx; rw [hb] at this; cases this
        | some b => rfl
      | some a =>
        cases hb : fnF q.gFuncs x.gName with
        | none => rfl
        | some b =>
          obtain ⟨k1, k2, k3⟩ := hp.b a (fnF_mem ha)
          simp only [Option.isSome_some, beq_self_eq_true, Bool.not_true, cond_false, Option.getD_some]
          rw [sameF_eq k1 k2 k3]; rfl
    have hc' : (bif (!((fnF p.gFuncs x.gName).isSome == (fnF q.gFuncs x.gName).isSome)) then some true else ((Kbg ((fnF p.gFuncs x.gName).getD noF) ((fnF q.gFuncs x.gName).getD noF)).bind fun x128 => some (!x128))) = some (chF p q x.gName) := by
      rw [← hc]
      generalize (bif (!((fnF p.gFuncs x.gName).isSome == (fnF q.gFuncs x.gName).isSome)) then some true else ((Kbg ((fnF p.gFuncs x.gName).getD noF) ((fnF q.gFuncs x.gName).getD noF)).bind fun x128 => some (!x128))) = m
      cases m <;> rfl
    simp only []
    rw [hc', Option.bind_some, List.map_append, List.filter_append]
    cases hch : chF p q x.gName
    · simp [hch]
    · simp only [cond_true]
      rw [Kaw (by omega) (by simp; omega), Option.bind_some]
      simp [hch]
  · simp only [Kav, cond_false]
  · have hfl := List.length_filter_le (chF p q) ((p.gFuncs ++ q.gFuncs).map (·.gName))
    rw [List.length_map, List.length_append] at hfl
    rw [row_eq (by omega), Option.bind_some, List.map_append]; rfl
theorem funcs_r : Kc4 = Kcn := rfl
theorem Kh5 {p q : Pg} (hp : PB p) (hq : PB q) : KbZ p q = some (insA ltB ((nmsG p ++ nmsG q).filter (chG p q))) := by
  have h1 := hp.g
  have h2 := hq.g
  unfold KbZ
  rw [concatG h1 h2, Option.bind_some]
  refine Kax (p.gGlobals ++ q.gGlobals) (fun pre => (pre.map (·.gName)).filter (chG p q)) (fun a n => (a, (n : Int))) (fun a => a) (by simp) (fun pre x post hpp => ?_) ?_ ?_
  · have hl := Kc8 hpp
    have hfl := List.length_filter_le (chG p q) (pre.map (·.gName))
    rw [List.length_append] at hl
    rw [List.length_map] at hfl
    have hx : x ∈ p.gGlobals ∨ x ∈ q.gGlobals := List.mem_append.1 (KbY hpp)
    simp only [Kau hpp, cond_true]
    rw [Kae hpp rfl, Option.bind_some, Khb _ (by omega), Option.bind_some, Khb _ (by omega), Option.bind_some, Kam hpp (by simp; omega)]
    have hc' : (bif (!((fnG p.gGlobals x.gName).isSome == (fnG q.gGlobals x.gName).isSome)) then some true else (bif (!(((fnG p.gGlobals x.gName).getD noG).gPtr == ((fnG q.gGlobals x.gName).getD noG).gPtr)) then some true else some (((fnG p.gGlobals x.gName).getD noG).gSize != ((fnG q.gGlobals x.gName).getD noG).gSize))) = some (chG p q x.gName) := by
      unfold chG
      cases ha : fnG p.gGlobals x.gName with
      | none =>
        cases hb : fnG q.gGlobals x.gName with
        | none =>
          rcases hx with hx | hx
          · have := fnG_some hx; rw [ha] at this; cases this
          · have := fnG_some hx; rw [hb] at this; cases this
        | some b => rfl
      | some a =>
        cases hb : fnG q.gGlobals x.gName with
        | none => rfl
        | some b =>
          simp only [Option.isSome_some, beq_self_eq_true, Bool.not_true, cond_false, Option.getD_some, neG]
          cases (a.gPtr == b.gPtr) <;> rfl
    simp only []
    rw [hc', Option.bind_some, List.map_append, List.filter_append]
    cases hch : chG p q x.gName
    · simp [hch]
    · simp only [cond_true]
      rw [Kaw (by omega) (by simp; omega), Option.bind_some]
      simp [hch]
  · simp only [Kav, cond_false]
  · have hfl := List.length_filter_le (chG p q) ((p.gGlobals ++ q.gGlobals).map (·.gName))
    rw [List.length_map, List.length_append] at hfl
    rw [row_eq (by omega), Option.bind_some, List.map_append]; rfl
theorem globals_r : Kcw = KbZ := rfl
def dF (p q : Pg) : List ByteArray := insA ltB ((nmsF p ++ nmsF q).filter (chF p q))
def dG (p q : Pg) : List ByteArray := insA ltB ((nmsG p ++ nmsG q).filter (chG p q))
theorem of_eq {p q : Pg} (hp : PB p) (hq : PB q) : Kdq p q = some ⟨dF p q, dG p q⟩ := by
 unfold Kdq
 rw [funcs_eq hp hq, Option.bind_some, Kh5 hp hq]; rfl
theorem of_r {p q : Pg} (hp : PB p) (hq : PB q) : Kde p q = some ⟨dF p q, dG p q⟩ := by
 unfold Kde
 rw [funcs_r, globals_r, funcs_eq hp hq, Option.bind_some, Kh5 hp hq]; rfl
theorem rall_eq {p : Pg} (hp : PB p) (f : Bool) : Kes p f = some (bif f then nmsF p else nmsG p) := by
 have h1 := hp.f
 have h2 := hp.g
 unfold Kes
 cases f
 ·simp only [cond_false]
  refine Kax p.gGlobals (fun pre => pre.map (·.gName)) (fun a n => (a, (n : Int))) (fun a => a) (by simp) (fun pre x post hpp => ?_) ?_ ?_
  ·have hl := Kc8 hpp
   simp only [Kau hpp, cond_true]
   rw [Kae hpp rfl, Option.bind_some, Kam hpp (by omega), Kaw (by omega) (by simp; omega), Option.bind_some]
   simp
  ·simp only [Kav, cond_false]
  ·rfl
 ·simp only [cond_true]
  refine Kax p.gFuncs (fun pre => pre.map (·.gName)) (fun a n => (a, (n : Int))) (fun a => a) (by simp) (fun pre x post hpp => ?_) ?_ ?_
  ·have hl := Kc8 hpp
   simp only [Kau hpp, cond_true]
   rw [Kae hpp rfl, Option.bind_some, Kam hpp (by omega), Kaw (by omega) (by simp; omega), Option.bind_some]
   simp
  ·simp only [Kav, cond_false]
  ·rfl
theorem other_eq {p q : Pg} (hp : PB p) (hq : PB q) (s : ByteArray) (f : Bool) : KcU p q s f = some (bif f then chF p q s else chG p q s) := by
 have h1 := hp.f
 have h2 := hp.g
 have h3 := hq.f
 have h4 := hq.g
 unfold KcU
 cases f
 ·simp only [cond_false]
  obtain ⟨i, e1, e2⟩ := Kh4 (p := p) s (by omega)
  obtain ⟨j, e3, e4⟩ := Kh4 (p := q) s (by omega)
  rw [e1, Option.bind_some, e3, Option.bind_some]
  unfold chG
  rcases e2 with ⟨rfl, h⟩ | ⟨n, x, rfl, _, h, h'⟩
  ·rw [h]; rfl
  ·rw [h', decide_eq_false (by omega), cond_false]
   rcases e4 with ⟨rfl, k⟩ | ⟨m, y, rfl, _, k, k'⟩
   ·rw [k]; rfl
   ·rw [k', decide_eq_false (by omega), cond_false]
    simp only [KdR h, KdR k, Option.bind_some, neG]
    cases (x.gPtr == y.gPtr) <;> rfl
 ·simp only [cond_true]
  obtain ⟨i, e1, e2⟩ := rFunc_eq (p := p) s (by omega)
  obtain ⟨j, e3, e4⟩ := rFunc_eq (p := q) s (by omega)
  rw [e1, Option.bind_some, e3, Option.bind_some]
  unfold chF
  rcases e2 with ⟨rfl, h⟩ | ⟨n, x, rfl, _, h, h'⟩
  ·rw [h]; rfl
  ·rw [h', decide_eq_false (by omega), cond_false]
   rcases e4 with ⟨rfl, k⟩ | ⟨m, y, rfl, _, k, k'⟩
   ·rw [k]; rfl
   ·rw [k', decide_eq_false (by omega), cond_false]
    obtain ⟨z1, z2, z3⟩ := hp.b x (fnF_mem h')
    rw [KdR h, Option.bind_some, KdR k, Option.bind_some, rsameF_eq z1 z2 z3]; rfl
theorem rof_eq {p q : Pg} (hp : PB p) (hq : PB q) (f : Bool) : KeT p q f = some (bif f then dF p q else dG p q) := by
 have h1 := hp.f
 have h2 := hp.g
 have h3 := hq.f
 have h4 := hq.g
 have hl1 : (nmsF p).length = p.gFuncs.length := by simp [nmsF]
 have hl2 : (nmsF q).length = q.gFuncs.length := by simp [nmsF]
 have hl3 : (nmsG p).length = p.gGlobals.length := by simp [nmsG]
 have hl4 : (nmsG q).length = q.gGlobals.length := by simp [nmsG]
 unfold KeT
 rw [rall_eq hp, Option.bind_some, rall_eq hq, Option.bind_some]
 have key : ∀ (L : List ByteArray) (c : ByteArray → Bool), L.length ≤ 524288 → (∀ s, KcU p q s f = some (c s)) → (Option.bind (α := List ByteArray) (loopM (fun (s39 : List ByteArray × Int) => (bif (decide (s39.2 < (L.length : Int))) then ((idx L s39.2).bind fun x58 => ((KcU p q x58 f).bind fun x59 => (bif x59 then ((idx L s39.2).bind fun x61 => ((KdN s39.1 x61).bind fun x63 => some (.next (x63, (IntKind.i64.wrap (s39.2 + (1 : Int))))))) else some (.next (s39.1, (IntKind.i64.wrap (s39.2 + (1 : Int)))))))) else some (.done s39.1))) (([] : List ByteArray), (0 : Int))) fun y38 => some y38) = some (insA ltB (L.filter c)) := by
  intro L c hL hc
  refine Kax L (fun pre => insA ltB (pre.filter c)) (fun a n => (a, (n : Int))) (fun a => a) (by simp [insA]) (fun pre x post hpp => ?_) ?_ ?_
  ·have hl := Kc8 hpp
   have hfl := List.length_filter_le c pre
   have hil := (Kbl (pre.filter c)).2.2
   simp only [Kau hpp, cond_true]
   rw [Kae hpp rfl, Option.bind_some, hc, Option.bind_some, Kam hpp (by omega), List.filter_append]
   cases hx : c x
   ·simp [hx]
   ·simp only [cond_true, Option.bind_some]
    rw [put_eq (by omega), Option.bind_some, show [x].filter c = [x] by simp [hx], KdZ]
  ·simp only [Kav, cond_false]
  ·rfl
 cases f
 ·simp only [cond_false]
  rw [Kaw (by omega) (by omega), Option.bind_some]
  exact key _ _ (by simp; omega) fun s => (other_eq hp hq s false).trans rfl
 ·simp only [cond_true]
  rw [Kaw (by omega) (by omega), Option.bind_some]
  exact key _ _ (by simp; omega) fun s => (other_eq hp hq s true).trans rfl
theorem d_len {p q : Pg} (hp : PB p) (hq : PB q) : (dF p q).length ≤ 524288 ∧ (dG p q).length ≤ 524288 := by
 have h1 := hp.f
 have h2 := hp.g
 have h3 := hq.f
 have h4 := hq.g
 have k1 := (Kbl ((nmsF p ++ nmsF q).filter (chF p q))).2.2
 have k2 := List.length_filter_le (chF p q) (nmsF p ++ nmsF q)
 have k3 := (Kbl ((nmsG p ++ nmsG q).filter (chG p q))).2.2
 have k4 := List.length_filter_le (chG p q) (nmsG p ++ nmsG q)
 have e1 : (nmsF p).length = p.gFuncs.length := by simp [nmsF]
 have e2 : (nmsF q).length = q.gFuncs.length := by simp [nmsF]
 have e3 : (nmsG p).length = p.gGlobals.length := by simp [nmsG]
 have e4 : (nmsG q).length = q.gGlobals.length := by simp [nmsG]
 rw [List.length_append] at k2 k4
 exact ⟨by unfold dF; omega, by unfold dG; omega⟩
end Go.Proofs.YtnfkijcmakgkmaaGreat.Ab.Pq
namespace Go.Proofs.YtnfkijcmakgkmaaGreat.Ab.Pq
open Go
set_option linter.all false
theorem decc {α : Type} [DecidableEq α] (a b : α) : decide (a = b) = decide (b = a) := decide_eq_decide.2 eq_comm
theorem KiJ {l m : List ByteArray} (h : ∀ x, x ∈ l ↔ x ∈ m) : insA ltB l = insA ltB m := by
 have h1 := Kbl l
 have h2 := Kbl m
 exact KcD (fun a b h k => Kdj (List.le_antisymm h k)) h1.1 h2.1 fun x => (h1.2.1 x).trans ((h x).trans (h2.2.1 x).symm)
def hasS (s : ByteArray) (l : List ByteArray) : Bool := l.any fun x => decide (s = x)
theorem Kfg (s : ByteArray) {l : List ByteArray} (hl : l.length ≤ 4000000) : KaB l s = some (hasS s l) := by
 unfold KaB Kbh
 obtain ⟨i, h1, h2⟩ := Kea (fun x => decide (s = x)) (l := l) (f := fun (s15 : Int) => (bif (decide (s15 < (l.length : Int))) then ((idx l s15).bind fun x25 => (bif (decide (s = x25)) then some (.done (.inr s15)) else some (.next (IntKind.i64.wrap (s15 + (1 : Int)))))) else some (.done (.inl ())))) (fun p x q h => by
  rw [Kau h, cond_true, Kae h rfl, Option.bind_some, Kam h (by omega)]
  cases decide (s = x) <;> rfl) (by rw [Kav, cond_false])
 rw [h1, Option.bind_some]
 unfold hasS
 rcases h2 with ⟨rfl, h⟩ | ⟨n, x, rfl, _, h, h'⟩
 ·have : l.any (fun x => decide (s = x)) = false := by
   rw [List.find?_eq_none] at h
   rw [List.any_eq_false]; exact fun x hx => h x hx
  rw [this]; rfl
 ·have : l.any (fun x => decide (s = x)) = true := List.any_eq_true.2 ⟨x, List.mem_of_find?_eq_some h', List.find?_some (p := fun x => decide (s = x)) h'⟩
  rw [this, decide_eq_true (by omega)]
theorem find_loop2 {α β : Type} (t : α → Bool) {l : List α} {m : β} {f : Int × β → Option (Step (Int × β) (β ⊕ (Int × β)))}
    (h1 : ∀ p x q, l = p ++ x :: q → f ((p.length : Int), m) = some (bif t x then .done (.inr (((p.length : Nat) : Int), m)) else .next (((p.length + 1 : Nat) : Int), m)))
    (h2 : f ((l.length : Int), m) = some (.done (.inl m))) : ∃ i : Int, Option.bind (α := β ⊕ (Int × β)) (loopM f ((0 : Int), m)) (Sum.elim (fun y => some ((-1 : Int), y)) (fun r => some r)) = some (i, m) ∧ ((i = -1 ∧ l.find? t = none) ∨ ∃ (n : Nat) (x : α), i = n ∧ n < l.length ∧ l[n]? = some x ∧ l.find? t = some x) := by
  have key : ∀ (q p : List α), l = p ++ q → (∀ y ∈ p, t y = false) → ∃ i : Int, Option.bind (α := β ⊕ (Int × β)) (loopM f ((p.length : Int), m)) (Sum.elim (fun y => some ((-1 : Int), y)) (fun r => some r)) = some (i, m) ∧ ((i = -1 ∧ l.find? t = none) ∨ ∃ (n : Nat) (x : α), i = n ∧ n < l.length ∧ l[n]? = some x ∧ l.find? t = some x) := by
    intro q
    induction q with
    | nil =>
      intro p e hp
      rw [List.append_nil] at e; subst e
      refine ⟨-1, by rw [KaI h2]; rfl, .inl ⟨rfl, List.find?_eq_none.2 fun y hy => by rw [hp y hy]; simp⟩⟩
    | cons x q ih =>
      intro p e hp
      have h := h1 p x q e
      cases ht : t x
      · rw [ht, cond_false] at h
        rw [KbS h]
        have := ih (p ++ [x]) (by simp [e]) (fun y hy => by
          rcases List.mem_append.1 hy with hy | hy
          · exact hp y hy
          · rw [List.mem_singleton] at hy; subst hy; exact ht)
        simpa using this
      · rw [ht, cond_true] at h
        refine ⟨(p.length : Int), by rw [KaI h]; rfl, .inr ⟨p.length, x, rfl, by subst e; simp, by subst e; simp, ?_⟩⟩
        subst e
        rw [List.find?_append, List.find?_eq_none.2 fun y hy => by rw [hp y hy]; simp]
        simp [ht]
  have := key l [] rfl (by simp)
  simpa using this
theorem Kjg {l m : List ByteArray} (hl : l.length ≤ 4000000) (hm : m.length ≤ 4000000) : KaF l m = some (l.any fun g => hasS g m, m) := by
 unfold KaF KaT
 obtain ⟨i, h1, h2⟩ := find_loop2 (m := m) (fun x => hasS x m) (l := l) (f := fun (s18 : Int × List ByteArray) => (bif (decide (s18.1 < (l.length : Int))) then ((idx l s18.1).bind fun x30 => ((Kb4 x30 s18.2).bind fun x31 => (bif x31 then some (.done (.inr (s18.1, s18.2))) else some (.next ((IntKind.i64.wrap (s18.1 + (1 : Int))), s18.2))))) else some (.done (.inl s18.2)))) (fun p x q h => by
  rw [Kau h, cond_true, Kae h rfl, Option.bind_some, Kam h (by omega)]
  unfold Kb4
  rw [Kfg _ hm]
  simp only [Option.bind_some]
  cases hasS x m <;> rfl) (by rw [Kav, cond_false])
 rw [h1, Option.bind_some]
 rcases h2 with ⟨rfl, h⟩ | ⟨n, x, rfl, _, h, h'⟩
 ·have : l.any (fun g => hasS g m) = false := by
   rw [List.find?_eq_none] at h
   rw [List.any_eq_false]; exact fun x hx => h x hx
  rw [this]; rfl
 ·have : l.any (fun g => hasS g m) = true := List.any_eq_true.2 ⟨x, List.mem_of_find?_eq_some h', List.find?_some (p := fun g => hasS g m) h'⟩
  rw [this, decide_eq_true (by omega)]
def tch (d : List ByteArray) (f : KQ) : Bool := d.any fun g => hasS g (insA ltB (Kb2 false f.gBody))
def tou (p q : Pg) : List ByteArray := insA ltB (dF p q ++ ((p.gFuncs ++ q.gFuncs).filter (tch (dG p q))).map (·.gName))
theorem Kh6 {p q : Pg} (hp : PB p) (hq : PB q) : Kb1 p q = some (tou p q) ∧ (tou p q).length ≤ 1048576 := by
 have h1 := hp.f
 have h2 := hq.f
 have hd := d_len hp hq
 have hfl := List.length_filter_le (tch (dG p q)) (p.gFuncs ++ q.gFuncs)
 rw [List.length_append] at hfl
 have hil := (Kbl (dF p q ++ ((p.gFuncs ++ q.gFuncs).filter (tch (dG p q))).map (·.gName))).2.2
 rw [List.length_append, List.length_map] at hil
 refine ⟨?_, by unfold tou; omega⟩
 unfold Kb1
 rw [of_r hp hq, Option.bind_some, concatF h1 h2, Option.bind_some]
 refine Kax (p.gFuncs ++ q.gFuncs) (fun pre => dF p q ++ (pre.filter (tch (dG p q))).map (·.gName)) (fun a n => ((n : Int), a)) (fun a => a) (by simp) (fun pre x post hpp => ?_) ?_ ?_
 ·have hl := Kc8 hpp
  have hfl := List.length_filter_le (tch (dG p q)) pre
  rw [List.length_append] at hl
  have hx : FB x := by
   rcases List.mem_append.1 (KbY hpp) with hx | hx
   ·exact hp.b x hx
   ·exact hq.b x hx
  have hn := Kha false x.gBody
  have hni := (Kbl (Kb2 false x.gBody)).2.2
  have hx3 := hx.2.2
  simp only [Kau hpp, cond_true]
  rw [Kae hpp rfl, Option.bind_some, names_eq hx.2.2, Option.bind_some, Kjg (by omega) (by omega), Option.bind_some, Kam hpp (by simp; omega), List.filter_append, List.map_append]
  rw [show (dG p q).any (fun g => hasS g (insA ltB (Kb2 false x.gBody))) = tch (dG p q) x from rfl]
  cases ht : tch (dG p q) x
  ·simp [ht]
  ·simp only [cond_true]
   rw [Kaw (by omega) (by simp; omega), Option.bind_some]
   simp [ht]
 ·simp only [Kav, cond_false]
 ·rw [row_eq (by rw [List.length_append, List.length_map]; omega), Option.bind_some]; rfl
end Go.Proofs.YtnfkijcmakgkmaaGreat.Ab.Pq
namespace Go.Proofs.YtnfkijcmakgkmaaGreat.Ab
open Go Go.RowKit Go.Shelf Go.Proofs Go.Proofs.YtnfkijcmakgkmaaGreat.Ab.Pq
set_option linter.all false
theorem keKey (a b : Ka) : (decide (a.gName = b.gName) && (a.gNode == b.gNode && true)) = decide (b = a) := by
 rw [Bool.eq_iff_iff, decide_eq_true_iff]
 obtain ⟨a0, a1⟩ := a
 obtain ⟨b0, b1⟩ := b
 simp only [Bool.and_eq_true, decide_eq_true_eq, beq_iff_eq, and_true, Ka.mk.injEq]
 constructor <;> intro h <;> simp_all
theorem mkK : KeyOK Tryz.prog 41 (fun a : Ka => Value.agg (kc2 a).toArray) := struct_key (g := kc2) htab eqt41 rfl rfl (fun _ => rfl) (fun _ => rfl) (fun a b => (show eqL tab _ _ _ = some (decide (a.gName = b.gName) && (a.gNode == b.gNode && true)) from rfl).trans (congrArg some (keKey a b)))
abbrev Ties := List (Ka × (List Ka × Z3))
def tieM (es : Ties) : List (Value × D) := es.map fun p => (Value.agg (kc2 p.1).toArray, (fun q : List Ka × Z3 => D.v (SL q.2)) p.2)
def tieR (es : Ties) : List (Nat × Blk) := es.map fun p => (0, Blk.row 2 (p.2.1.map Kf) (SL p.2.2))
def tieH (b : Nat) (es : Ties) : List (Nat × Blk) := (b, .mp (tieM es)) :: tieR es
def tieL (es : Ties) : List (Ka × List Ka) := es.map fun p => (p.1, p.2.1)
abbrev zr0 : List Ka × Z3 := ([], (none, 0, 0))
theorem Kep {β : Type} : ∀ {l : List (Ka × β)} {k : Ka}, (mget l k = none ∧ (∀ u, mput l k u = l ++ [(k, u)]) ∧ ∀ p ∈ l, p.1 ≠ k) ∨ ∃ l1 l2 v, mget l k = some v ∧ l = l1 ++ (k, v) :: l2 ∧ (∀ u, mput l k u = l1 ++ (k, u) :: l2) ∧ ∀ p ∈ l1, p.1 ≠ k
  | [], k => .inl ⟨rfl, fun _ => rfl, by simp⟩
  | (a, b) :: l, k => by
    by_cases q : a = k
    · subst q
      exact .inr ⟨[], l, b, by simp [mget], rfl, fun u => by simp [mput], by simp⟩
    · rcases Kep (l := l) (k := k) with ⟨h1, h2, h3⟩ | ⟨l1, l2, v, h1, h2, h3, h4⟩
      · exact .inl ⟨by simp [mget, q, h1], fun u => by simp [mput, q, h2], by intro p hp; rcases List.mem_cons.1 hp with rfl | hp; exact q; exact h3 p hp⟩
      · exact .inr ⟨(a, b) :: l1, l2, v, by simp [mget, q, h1], by simp [h2], fun u => by simp [mput, q, h3], by intro p hp; rcases List.mem_cons.1 hp with rfl | hp; exact q; exact h4 p hp⟩
theorem mgetL (es : Ties) (k : Ka) : mgetD (tieL es) k [] = (mgetD es k zr0).1 := by
  unfold mgetD tieL
  induction es with
  | nil => rfl
  | cons p es ih =>
    obtain ⟨a, v⟩ := p
    simp only [List.map_cons, mget]
    by_cases q : a = k
    · simp [q]
    · simp only [q, if_false]; exact ih
theorem mputL (es : Ties) (k : Ka) (v : List Ka × Z3) : tieL (mput es k v) = mput (tieL es) k v.1 := by
  unfold tieL
  induction es with
  | nil => rfl
  | cons p es ih =>
    obtain ⟨a, u⟩ := p
    simp only [List.map_cons, mput]
    by_cases q : a = k
    · simp [q]
    · simp only [q, if_false, List.map_cons]; rw [ih]
theorem run_lkp {H : Hp} {w : World} {b : Nat} {es : Ties} (hb : BlkOK H w (b, .mp (tieM es))) (k : Ka) :
  (Instr.lookup 66 (.map (some b)) (.agg #[.string k.gName, .int .i64 k.gNode]) false).run Tryz.prog w = .ok (SL (mgetD es k zr0).2) w := by
 obtain ⟨dd, h1, h2⟩ := run_underlying (P := Tryz.prog) (w := w) (ti_ok htab (t := 66) rfl)
 have hd : tdOf dd = .map 41 27 := h2
 have := td_map hd; subst this
 obtain ⟨me, ck, g1, g2, g3⟩ := hb
 have hfk := mkK.find w k me.toList (es.map (·.1)) (Kge (f := fun a : Ka => Value.agg (kc2 a).toArray) (e := fun q : List Ka × Z3 => D.v (SL q.2)) g2)
 have hz : (Tryz.prog.info? 27).bind (·.zero) = some (.slice none 0 0) := by kernel_rfl
 unfold Instr.lookup mgetD
 rcases Kgf (f := fun a : Ka => Value.agg (kc2 a).toArray) (e := fun q : List Ka × Z3 => D.v (SL q.2)) k 0 g2 with ⟨q1, q2, _⟩ | ⟨j', b', m, q1, q2, q3, _⟩
 ·rw [q2] at hfk
  simp only [run_bind, h1, Result.andThen, MapKept.run_getObj_map g1, run_pure, mkK.check, show (Value.agg #[.string k.gName, .int .i64 k.gNode]) = Value.agg (kc2 k).toArray from rfl, hfk, run_zv hz]
  rw [q1]; simp
 ·rw [q2] at hfk
  simp only [run_bind, h1, Result.andThen, MapKept.run_getObj_map g1, run_pure, mkK.check, show (Value.agg #[.string k.gName, .int .i64 k.gNode]) = Value.agg (kc2 k).toArray from rfl, hfk]
  rw [q1, K4 q3]; simp
theorem run_upd {H : Hp} {w : World} {b : Nat} {es : Ties} (hb : BlkOK H w (b, .mp (tieM es))) (k : Ka) (v : List Ka × Z3) :
  ∃ me ck, (Instr.mapUpdate 66 (.map (some b)) (.agg #[.string k.gName, .int .i64 k.gNode]) (SL v.2)).run Tryz.prog w = .ok () { w with heap := w.heap.setIfInBounds b (.map me ck) } ∧ MapR H (tieM (mput es k v)) me.toList := by
 obtain ⟨dd, h1, h2⟩ := run_underlying (P := Tryz.prog) (w := w) (ti_ok htab (t := 66) rfl)
 have hd : tdOf dd = .map 41 27 := h2
 have := td_map hd; subst this
 obtain ⟨me, ck, g1, g2, g3⟩ := hb
 have hfk := mkK.find w k me.toList (es.map (·.1)) (Kge (f := fun a : Ka => Value.agg (kc2 a).toArray) (e := fun q : List Ka × Z3 => D.v (SL q.2)) g2)
 have hyv : Rep H ((fun q : List Ka × Z3 => D.v (SL q.2)) v) (SL v.2) := rep_v rfl
 unfold Instr.mapUpdate
 rcases Kgf (f := fun a : Ka => Value.agg (kc2 a).toArray) (e := fun q : List Ka × Z3 => D.v (SL q.2)) k 0 g2 with ⟨q1, q2, q3⟩ | ⟨j', b', m, q1, q2, q3, q4, q5, q6⟩
 ·refine ⟨me.push ⟨Value.agg (kc2 k).toArray, SL v.2, ck⟩, ck + 1, ?_, by rw [Array.toList_push]; exact q3 v _ ck hyv⟩
  rw [q2] at hfk
  simp only [run_bind, h1, Result.andThen, MapKept.run_getObj_map g1, run_pure, mkK.check, show (Value.agg #[.string k.gName, .int .i64 k.gNode]) = Value.agg (kc2 k).toArray from rfl, hfk, MapKept.run_setObj_map _ g1]
 ·refine ⟨me.modify j' fun x => { x with key := Value.agg (kc2 k).toArray, val := SL v.2 }, ck, ?_, by rw [Array.toList_modify]; exact q6 v _ hyv⟩
  rw [q2] at hfk
  have hm : me[j']? = some m := by rw [← Array.getElem?_toList]; exact q4
  rw [Nat.zero_add] at hfk
  simp only [run_bind, h1, Result.andThen, MapKept.run_getObj_map g1, run_pure, mkK.check, show (Value.agg #[.string k.gName, .int .i64 k.gNode]) = Value.agg (kc2 k).toArray from rfl, hfk, hm, Option.map_some, Option.getD_some, q5, mkK.stays, MapKept.run_setObj_map _ g1]
theorem blk_bel {H : Hp} {w w' : World} (hA : Ag H w) (hb : Below w.heap.size w w') {p : Nat × Blk} (h : BlkOK H w p) : BlkOK H w' p :=
 BlkOK.later (KaR hA hb) h (by simp)
theorem Ke7 {H : Hp} {w w' : World} {h : List (Nat × Blk)} (hA : Ag H w) (hB : ∀ p ∈ h, BlkOK H w p) (nd : (Ks h []).Nodup) (hb : Below w.heap.size w w') : Core ⟨H, w, Ks h []⟩ H h [] w' :=
 ⟨fun a v e => by rw [hb.cell (p := a) (hA.lt e)]; exact hA a v e, Hp.le_refl H, fun _ _ x => .inl x, fun b hl _ => hb.block b hl, hb.size, fun p hp => blk_bel hA hb (hB p hp), by simp, nd, fun b hx => .inl hx, ⟨hb.os, hb.tape, hb.output, Nat.le_refl _⟩⟩
theorem core_empty {C : Ctx} {H : Hp} {h : List (Nat × Blk)} {W : World} (c : Core C H h [] W) : Core C H ((0, .row 2 ([].map Kf) (SL (none, 0, 0))) :: h) [] W := by
 refine ⟨c.ag, c.le, c.new, c.same, c.size, ?_, by simp, ?_, ?_, c.env⟩
 ·intro p hp
  rcases List.mem_cons.1 hp with rfl | hp
  ·exact .inl ⟨none, rfl, rfl⟩
  ·exact c.blks p hp
 ·have := c.nd; simpa [Ks, KN, K2] using this
 ·have := c.own; simpa [Ks, KN, K2] using this
theorem tie_split {C : Ctx} {H : Hp} {W : World} {b : Nat} {es : Ties} {ex : List (Nat × Blk)} (x : Ka) (c : Core C H (tieH b es ++ ex) [] W) : ∃ rest : List (Nat × Blk), (∀ p ∈ ex, p ∈ rest) ∧
  Core C H ((0, .row 2 ((mgetD es x zr0).1.map Kf) (SL (mgetD es x zr0).2)) :: (b, .mp (tieM es)) :: rest) [] W ∧
  ∀ (xs' : List Ka) (z' : Z3) (C' : Ctx) (W' : World), Core C' H ((0, .row 2 (xs'.map Kf) (SL z')) :: (b, .mp (tieM (mput es x (xs', z')))) :: rest) [] W' → Core C' H (tieH b (mput es x (xs', z')) ++ ex) [] W' := by
 rcases Kep (l := es) (k := x) with ⟨h1, h2, _⟩ | ⟨l1, l2, v, h1, h2, h3, _⟩
 ·refine ⟨tieR es ++ ex, fun p hp => List.mem_append_right _ hp, ?_, fun xs' z' C' W' c' => ?_⟩
  ·have : mgetD es x zr0 = zr0 := by unfold mgetD; rw [h1]; rfl
   rw [this]; exact core_empty c
  ·rw [h2] at c' ⊢
   refine c'.perm ?_ (List.Perm.refl _)
   unfold tieH
   refine (List.Perm.swap _ _ _).trans (List.Perm.cons _ ?_)
   simp only [tieR, List.map_append, List.map_cons, List.map_nil]
   rw [← List.cons_append]
   exact List.Perm.append_right _ (List.perm_append_singleton _ _).symm
 ·refine ⟨(tieR l1 ++ tieR l2) ++ ex, fun p hp => List.mem_append_right _ hp, ?_, fun xs' z' C' W' c' => ?_⟩
  ·have : mgetD es x zr0 = v := by unfold mgetD; rw [h1]; rfl
   rw [this]
   refine c.perm ?_ (List.Perm.refl _)
   unfold tieH
   refine List.Perm.trans ?_ (List.Perm.swap _ _ _)
   refine List.Perm.cons _ ?_
   rw [h2]
   simp only [tieR, List.map_append, List.map_cons]
   rw [← List.cons_append]
   exact List.Perm.append_right _ List.perm_middle
  ·rw [h3] at c' ⊢
   refine c'.perm ?_ (List.Perm.refl _)
   unfold tieH
   refine (List.Perm.swap _ _ _).trans (List.Perm.cons _ ?_)
   simp only [tieR, List.map_append, List.map_cons]
   rw [← List.cons_append]
   exact List.Perm.append_right _ List.perm_middle.symm
theorem Ka0 {H : Hp} {W : World} {b : Nat} {T : TypeId} {x : Ka} (h : BlkOK H W (b, .cells ((kc2 x).map .v) T)) : W.cell? ⟨b, 0, none⟩ = some (.string x.gName) ∧ W.cell? ⟨b, 1, none⟩ = some (.int .i64 x.gNode) := by
 obtain ⟨us, h1, h2, _⟩ := h
 have := Kcb h2; subst this
 simp [World.cell?, h1, kc2]
def tieF (m : List (Ka × List Ka)) (x y : Ka) : List (Ka × List Ka) := if y ∈ mgetD m x [] then m else mput m x (insT ltK y (mgetD m x []))
theorem tie_one {C : Ctx} {H : Hp} {W W3 W4 : World} {b : Nat} {rest : List (Nat × Blk)} {es : Ties} {x y : Ka} {xs xs' : List Ka} {z z' : Z3} {me : Array MapEntry} {ck : Nat} (hrest : Core C H ((0, .row 2 (xs.map Kf) (SL z)) :: (b, .mp (tieM es)) :: rest) [] W)
  (hW3 : W3 = W.alloc (.cells (kc2 y).toArray 41)) (c4 : Core ⟨H, W3, Ks [(0, Blk.row 2 (xs.map Kf) (SL z)), (0, Blk.row 2 ([y].map Kf) (SL (some ⟨W.heap.size, 0, none⟩, 1, 1)))] []⟩ H [(0, .row 2 (xs'.map Kf) (SL z'))] [] W4) :
  Core C H ((0, .row 2 (xs'.map Kf) (SL z')) :: (b, .mp (tieM es)) :: rest) [] W4 ∧ (MapR H (tieM (mput es x (xs', z'))) me.toList → Core C H ((0, .row 2 (xs'.map Kf) (SL z')) :: (b, .mp (tieM (mput es x (xs', z')))) :: rest) [] { W4 with heap := W4.heap.setIfInBounds b (.map me ck) }) := by
 subst hW3
 have c3 := Core.newRow hrest (xs := [y].map Kf) (us := kc2 y) (rest := []) (kk := 2) (m := 1) (T := 41) (KcA [y]) (by simp) (by simp [kc2]) (by simp)
 simp only [List.append_nil, List.length_map, List.length_cons, List.length_nil] at c3
 have c3' : Core C H ([(0, .row 2 (xs.map Kf) (SL z)), (0, .row 2 ([y].map Kf) (SL (some ⟨W.heap.size, 0, none⟩, 1, 1)))] ++ ((b, .mp (tieM es)) :: rest)) ([] ++ []) (W.alloc (.cells (kc2 y).toArray 41)) :=
  c3.perm (List.Perm.swap _ _ _) (List.Perm.refl _)
 have c5 := Core.call c3' c4
 refine ⟨c5, fun hm => ?_⟩
 exact Core.setMap (j := 1) (es' := tieM (mput es x (xs', z'))) (me := me) (ck := ck) c5 rfl hm
theorem tie_pre {C : Ctx} {H : Hp} {W : World} {b : Nat} {rest : List (Nat × Blk)} {es : Ties} {y : Ka} {xs : List Ka} {z : Z3} {i : Nat} (hrest : Core C H ((0, .row 2 (xs.map Kf) (SL z)) :: (b, .mp (tieM es)) :: rest) [] W) (hi : i ≤ xs.length) (hl : xs.length < 4398046511104) :
    Calls Tryz.prog 52 #[SL z, .int .i64 i, SL (some ⟨W.heap.size, 0, none⟩, 1, 1)] (W.alloc (.cells (kc2 y).toArray 41)) fun e w' => ∃ z' : Z3, e = .returned (SL z') ∧ Core ⟨H, W.alloc (.cells (kc2 y).toArray 41), Ks [(0, Blk.row 2 (xs.map Kf) (SL z)), (0, Blk.row 2 ([y].map Kf) (SL (some ⟨W.heap.size, 0, none⟩, 1, 1)))] []⟩ H [(0, .row 2 ((insAt xs i y).map Kf) (SL z'))] [] w' := by
  have c3 := Core.newRow hrest (xs := [y].map Kf) (us := kc2 y) (rest := []) (kk := 2) (m := 1) (T := 41) (KcA [y]) (by simp) (by simp [kc2]) (by simp)
  simp only [List.append_nil, List.length_map, List.length_cons, List.length_nil] at c3
  have c3' : Core C H ([(0, .row 2 (xs.map Kf) (SL z)), (0, .row 2 ([y].map Kf) (SL (some ⟨W.heap.size, 0, none⟩, 1, 1)))] ++ ((b, .mp (tieM es)) :: rest)) ([] ++ []) (W.alloc (.cells (kc2 y).toArray 41)) :=
    c3.perm (List.Perm.swap _ _ _) (List.Perm.refl _)
  exact KeK y i hi hl c3'.ag (c3'.blks (0, .row 2 (xs.map Kf) (SL z)) (by simp)) (c3'.blks (0, .row 2 ([y].map Kf) (SL (some ⟨W.heap.size, 0, none⟩, 1, 1))) (by simp)) (by
        have := (Kbd [(0, Blk.row 2 (xs.map Kf) (SL z)), (0, Blk.row 2 ([y].map Kf) (SL (some ⟨W.heap.size, 0, none⟩, 1, 1)))] ((b, .mp (tieM es)) :: rest) [] []).nodup_iff.1 c3'.nd
        exact (List.nodup_append.1 this).1)
theorem tie_ins {C : Ctx} {H : Hp} {W : World} {b : Nat} {rest : List (Nat × Blk)} {es : Ties} {x y : Ka} {xs : List Ka} {z : Z3} {i : Nat} (hrest : Core C H ((0, .row 2 (xs.map Kf) (SL z)) :: (b, .mp (tieM es)) :: rest) [] W) (hi : i ≤ xs.length) (hl : xs.length < 4398046511104) :
  Calls Tryz.prog 52 #[SL z, .int .i64 i, .slice (some ⟨W.heap.size, 0, none⟩) 1 1] (W.alloc (.cells #[Value.string y.gName, Value.int IntKind.i64 y.gNode] 41)).drew fun e w' => ∃ (z' : Z3) (w5 : World), e = .returned (SL z') ∧ Core C H ((0, .row 2 ((insAt xs i y).map Kf) (SL z')) :: (b, .mp (tieM es)) :: rest) [] w' ∧
   (Instr.mapUpdate 66 (.map (some b)) (.agg #[.string x.gName, .int .i64 x.gNode]) (SL z')).run Tryz.prog w' = .ok () w5 ∧
   Core C H ((0, .row 2 ((insAt xs i y).map Kf) (SL z')) :: (b, .mp (tieM (mput es x (insAt xs i y, z')))) :: rest) [] w5 := by
 refine (tie_pre (y := y) (Core.drew hrest) hi hl).mono ?_
 rintro e w' ⟨z', he, c4⟩
 obtain ⟨c6, _⟩ := tie_one (x := x) (me := #[]) (ck := 0) (Core.drew hrest) rfl c4
 obtain ⟨me, ck, hup, hmr⟩ := run_upd (c6.blks (b, .mp (tieM es)) (by simp)) x (insAt xs i y, z')
 obtain ⟨_, hset⟩ := tie_one (x := x) (me := me) (ck := ck) (Core.drew hrest) rfl c4
 exact ⟨z', _, he, c6, hup, hset hmr⟩
theorem KiK (H : Hp) (w : World) (hA : Ag H w) (b : Nat) (es : Ties) (x y : Ka) (hb : ∀ p ∈ tieH b es, BlkOK H w p) (nd : (Ks (tieH b es) []).Nodup) (hy : clK y = y) (hr : RowC (mgetD es x zr0).1) (hl : (mgetD es x zr0).1.length < 4398046511104) :
  Calls Tryz.prog 31 #[.map (some b), encK x, encK y] w fun e w' => ∃ es', e = .returned (.tuple #[]) ∧ Core ⟨H, w, Ks (tieH b es) []⟩ H (tieH b es') [] w' ∧ tieL es' = tieF (tieL es) x y := by
 have mixed : Tryz.prog.follows .mixedOrders = true := by kernel_rfl
 obtain ⟨W1, hW1⟩ : ∃ W1, W1 = (w.alloc (Obj.cells #[Value.string x.gName, Value.int IntKind.i64 x.gNode] 41)).alloc (Obj.cells #[Value.string y.gName, Value.int IntKind.i64 y.gNode] 41) := ⟨_, rfl⟩
 have hs1 : W1.heap.size = w.heap.size + 2 := by rw [hW1]; simp
 have c1 : Core ⟨H, w, Ks (tieH b es) []⟩ H (tieH b es ++ [(w.heap.size, .cells ((kc2 x).map .v) 41), (w.heap.size + 1, .cells ((kc2 y).map .v) 41)]) [] W1 := by
  rw [hW1]
  have q := Core.alloc (Core.alloc (Ke7 hA hb nd (Below.refl _ w)) (ds := (kc2 x).map .v) (us := kc2 x) 41 (KbR H (kc2 x) rfl)) (ds := (kc2 y).map .v) (us := kc2 y) 41 (KbR H (kc2 y) rfl)
  simp only [List.append_assoc, List.singleton_append, World.size_alloc] at q
  exact q
 have hlk := run_lkp (c1.blks (b, .mp (tieM es)) (by simp [tieH])) x
 obtain ⟨rest, hex, c1s, hback⟩ := tie_split x c1
 obtain ⟨i, hi, h3, h4, hbs⟩ := Khw y c1s.ag (c1s.blks _ (List.mem_cons_self ..)) hy hr hl
 have box : ∀ (W : World) (p : Nat × Blk) (hs : List (Nat × Blk)) (C' : Ctx), p ∈ rest → Core C' H (hs ++ rest) [] W → BlkOK H W p := fun W p hs C' hp c => c.blks p (List.mem_append_right _ hp)
 obtain ⟨hx0, hx1⟩ := Ka0 (box W1 _ [_, _] _ (hex (w.heap.size, .cells ((kc2 x).map .v) 41) (by simp)) c1s)
 obtain ⟨hy0, hy1⟩ := Ka0 (box W1 _ [_, _] _ (hex (w.heap.size + 1, .cells ((kc2 y).map .v) 41) (by simp)) c1s)
 unfold encK
 simp only [encK] at hbs
 go_enter Tryz.func31, Tryz.ntmps31
 go_wp2
 rw [← hW1, hlk]
 clear hW1
 by_cases hm : y ∈ (mgetD es x zr0).1
 ·rw [decide_eq_true hm] at hbs
  go_wp2_with fail
  refine hbs.mono ?_
  rintro e W2 ⟨rfl, hb2⟩
  go_wp2
  go_end0
  have c2 : Core ⟨H, w, Ks (tieH b es) []⟩ H (tieH b es ++ [(w.heap.size, .cells ((kc2 x).map .v) 41), (w.heap.size + 1, .cells ((kc2 y).map .v) 41)]) [] W2 := Core.call (h1 := []) (k1 := []) c1 (KaR c1.ag hb2)
  refine ⟨es, rfl, c2.drop (List.sublist_append_left _ _) (List.Sublist.refl _), ?_⟩
  unfold tieF
  rw [mgetL, if_pos hm]
 ·rw [decide_eq_false hm] at hbs
  go_wp2_with fail
  refine hbs.mono ?_
  rintro e W2 ⟨rfl, hb2⟩
  have c2s : Core ⟨H, w, Ks (tieH b es) []⟩ H ((0, .row 2 ((mgetD es x zr0).1.map Kf) (SL (mgetD es x zr0).2)) :: (b, .mp (tieM es)) :: rest) [] W2 := Core.call (h1 := []) (k1 := []) c1s (KaR c1s.ag hb2)
  have hins := tie_ins (x := x) (y := y) c2s hi hl
  have hlt1 : w.heap.size < W2.heap.size := by have := hb2.size; omega
  have hlt2 : w.heap.size + 1 < W2.heap.size := by have := hb2.size; omega
  have hne1 : ¬ (w.heap.size = W2.heap.size) := by omega
  have hne2 : ¬ (W2.heap.size = w.heap.size) := by omega
  obtain ⟨hx0', hx1'⟩ := Ka0 (box W2 _ [_, _] _ (hex (w.heap.size, .cells ((kc2 x).map .v) 41) (by simp)) c2s)
  obtain ⟨hy0', hy1'⟩ := Ka0 (box W2 _ [_, _] _ (hex (w.heap.size + 1, .cells ((kc2 y).map .v) 41) (by simp)) c2s)
  clear hlk hx0 hx1 hy0 hy1
  go_wp2
  go_region_with_o (
   go_at_call 52
   refine hins.mono ?_
   rintro e W4 ⟨z', W5, rfl, c4, hup, c5⟩
   obtain ⟨hx0'', hx1''⟩ := Ka0 (box W4 _ [_, _] _ (hex (w.heap.size, .cells ((kc2 x).map .v) 41) (by simp)) c4))
  all_goals
   go_end0
   refine ⟨_, rfl, (hback _ _ _ _ c5).drop (List.sublist_append_left _ _) (List.Sublist.refl _), ?_⟩
   unfold tieF
   rw [mputL, mgetL, if_neg hm, ins_eq hi h3 h4 hm]
end Go.Proofs.YtnfkijcmakgkmaaGreat.Ab
namespace Go.Proofs.YtnfkijcmakgkmaaGreat.Ab
open Go Go.RowKit Go.Shelf Go.Proofs Go.Proofs.YtnfkijcmakgkmaaGreat.Ab.Pq
set_option linter.all false
theorem KeX {W : World} {b : Nat} {zs : List Ka} {rest : List Value} {T : TypeId} (h : W.heap[b]? = some (.cells (zs.flatMap kc2 ++ rest).toArray T (0, 0))) {j : Nat} {x : Ka} (hj : zs[j]? = some x) :
    W.cell? ⟨b, j * 2, none⟩ = some (.string x.gName) ∧ W.cell? ⟨b, j * 2 + 1, none⟩ = some (.int .i64 x.gNode) := by
  have key : ∀ (zs : List Ka) (j : Nat), zs[j]? = some x → (zs.flatMap kc2)[j * 2]? = some (.string x.gName) ∧ (zs.flatMap kc2)[j * 2 + 1]? = some (.int .i64 x.gNode) := by
    intro zs
    induction zs with
    | nil => intro j hj; simp at hj
    | cons z zs ih =>
      intro j hj
      cases j with
      | zero => simp at hj; subst hj; simp [kc2]
      | succ j =>
        have := ih j (by simpa using hj)
        rw [show (j + 1) * 2 = j * 2 + 1 + 1 by omega]
        simpa [kc2] using this
  obtain ⟨k1, k2⟩ := key zs j hj
  have l1 := (List.getElem?_eq_some_iff.1 k1).1
  have l2 := (List.getElem?_eq_some_iff.1 k2).1
  constructor
  · simp only [World.cell?, h, Option.isSome_none, Bool.false_eq_true, if_false, List.getElem?_toArray]
    rw [List.getElem?_append_left l1]; exact k1
  · simp only [World.cell?, h, Option.isSome_none, Bool.false_eq_true, if_false, List.getElem?_toArray]
    rw [List.getElem?_append_left l2]; exact k2
theorem KiZ {P : Program} {w : World} {t e ty : TypeId} {z : Value} {b o n cap : Nat} {A : List Value} {T : TypeId} (ht : P.underlying t = some (.slice e)) (hz : (Go.zeroValue e).run P w = .ok z w) (hb : w.heap[b]? = some (.cells A.toArray T (0, 0))) (h1 : ∀ v ∈ z.cells.toList, one v = true) (h0 : 0 < z.cells.size) (hfit : o + n * z.cells.size ≤ A.length) :
    ∃ w' Z, (Builtin.clear_ #[t] ty #[.slice (some ⟨b, o, none⟩) n cap]).run P w = .ok (.tuple #[]) w' ∧ Env w w' ∧ w'.heap.size = w.heap.size ∧ (∀ j, j ≠ b → w'.heap[j]? = w.heap[j]?) ∧ Z.length = n * z.cells.size ∧
      w'.heap[b]? = some (.cells (A.take o ++ (Z ++ A.drop (o + n * z.cells.size))).toArray T (0, 0)) := by
  by_cases hn : n = 0
  · subst hn
    refine ⟨w, [], ?_, Env.refl w, rfl, fun _ _ => rfl, by simp, by simpa using hb⟩
    unfold Builtin.clear_
    simp only [List.getElem?_toArray, List.getElem?_cons_zero]
    rw [Kl (_root_.Go.run_underlying ht w)]
    rfl
  · have hZl : (Builtin.zeroCells z.cells n).toList.length = n * z.cells.size := by simp [Builtin.zeroCells]
    obtain ⟨w', s1, s2, s3, s4, s5⟩ := KbG (P := P) (b := b) (off := o) (T := T) (Builtin.zeroCells z.cells n).toList 0 w A hb (by omega) (fun v hv => by
      simp only [Builtin.zeroCells, Array.toList_map, List.mem_map] at hv
      obtain ⟨i, _, rfl⟩ := hv
      have hlt : i % z.cells.size < z.cells.size := Nat.mod_lt _ h0
      rw [getElem!_pos z.cells _ hlt]
      exact h1 _ (by simp))
    refine ⟨w', (Builtin.zeroCells z.cells n).toList, ?_, s2, s3, s4, hZl, ?_⟩
    · unfold Builtin.clear_
      simp only [List.getElem?_toArray, List.getElem?_cons_zero]
      rw [Kl (_root_.Go.run_underlying ht w)]
      cases n with
      | zero => exact absurd rfl hn
      | succ n =>
        simp only []
        rw [Kl hz]
        rw [Kl s1]
        rfl
    · rw [hZl] at s5; simpa using s5
theorem kc2_set (zs : List Ka) (i : Nat) (x : Ka) (hi : i < zs.length) : (zs.set i x).flatMap kc2 = (zs.flatMap kc2).take (i * 2) ++ (kc2 x ++ (zs.flatMap kc2).drop (i * 2 + 2)) := by
 rw [show i * 2 + 2 = (i + 1) * 2 by omega, KeH, Khq, List.set_eq_take_append_cons_drop, if_pos hi]
 simp
theorem set2 {α : Type} : ∀ (L : List α) (a : Nat) (u v : α), a + 1 < L.length → (L.set a u).set (a + 1) v = L.take a ++ (u :: v :: L.drop (a + 2))
  | [], a, u, v, h => by simp at h
  | y :: L, 0, u, v, h => by
    cases L with
    | nil => simp at h
    | cons z L => simp
  | y :: L, a + 1, u, v, h => by
    simp only [List.set_cons_succ, List.take_succ_cons, List.cons_append]
    rw [set2 L a u v (by simpa using h)]
    rfl
theorem set_at {W : World} {b : Nat} {zs : List Ka} {rest : List Value} {T : TypeId} (h : W.heap[b]? = some (.cells (zs.flatMap kc2 ++ rest).toArray T (0, 0))) {i : Nat} (hi : i < zs.length) (x : Ka) :
  ((W.setCell ⟨b, i * 2, none⟩ (.string x.gName)).setCell ⟨b, i * 2 + 1, none⟩ (.int .i64 x.gNode)).heap[b]? = some (.cells ((zs.set i x).flatMap kc2 ++ rest).toArray T (0, 0)) := by
 have hX := KaK zs
 obtain ⟨hlt, hk⟩ := Array.getElem?_eq_some_iff.1 h
 have e1 : (W.setCell ⟨b, i * 2, none⟩ (.string x.gName)).heap[b]? = some (.cells ((zs.flatMap kc2 ++ rest).set (i * 2) (.string x.gName)).toArray T (0, 0)) := by
  show (W.heap.modify b _)[b]? = _
  rw [Array.getElem?_eq_getElem (by rw [Array.size_modify]; exact hlt), Array.getElem_modify_self, hk]
  simp
 obtain ⟨hlt2, hk2⟩ := Array.getElem?_eq_some_iff.1 e1
 have e2 : ((W.setCell ⟨b, i * 2, none⟩ (.string x.gName)).setCell ⟨b, i * 2 + 1, none⟩ (.int .i64 x.gNode)).heap[b]? = some (.cells (((zs.flatMap kc2 ++ rest).set (i * 2) (.string x.gName)).set (i * 2 + 1) (.int .i64 x.gNode)).toArray T (0, 0)) := by
  show ((W.setCell ⟨b, i * 2, none⟩ (.string x.gName)).heap.modify b _)[b]? = _
  rw [Array.getElem?_eq_getElem (by rw [Array.size_modify]; exact hlt2), Array.getElem_modify_self, hk2]
  simp
 rw [e2, kc2_set zs i x hi]
 rw [set2 _ _ _ _ (by rw [List.length_append]; omega), List.take_append_of_le_length (by omega), List.drop_append_of_le_length (by omega)]
 simp [kc2]
theorem KbL (j : Nat) (h : j < 4398046511104) : IntKind.i64.wrap ((j : Int) + 1) = (j : Int) + 1 := by rw [IntKind.wrap_i64]; omega
theorem KcX {L k : Nat} (hk : k < L) : L - (intOf (Value.int .i64 ((k : Int) + 1))).toNat < L - (intOf (Value.int .i64 (k : Int))).toNat := meas_lt hk
theorem Kjt (g : FuncId) (cb : Array Value) (p : Ka → Bool) (Good : World → Prop) (hgood : ∀ W W', Good W → Below W.heap.size W W' → Good W') (eg : ∀ args w, (callFunc g args).run Tryz.prog w = .ok (.enter g args) w)
  (hdel : ∀ W x, Good W → Calls Tryz.prog g (#[.agg #[.string x.gName, .int .i64 x.gNode]] ++ cb) W fun e w' => e = .returned (.bool (p x)) ∧ Below W.heap.size W w')
  (w : World) (hG : Good w) (b c : Nat) (xs : List Ka) (rest : List Value) (T : TypeId) (h : w.heap[b]? = some (.cells (xs.flatMap kc2 ++ rest).toArray T (0, 0))) (hl : xs.length < 4398046511104) :
  Calls Tryz.prog 39 #[.slice (some ⟨b, 0, none⟩) xs.length c, .func (.func g) #[] cb] w fun e w' => Below w.heap.size w w' ∧
   ((e = .returned (.int .i64 (-1)) ∧ ∀ x ∈ xs, p x = false) ∨ ∃ i : Nat, ∃ x, e = .returned (.int .i64 i) ∧ xs[i]? = some x ∧ p x = true ∧ ∀ y ∈ xs.take i, p y = false) := by
 go_enter Tryz.func39, Tryz.ntmps39
 go_wp2
 go_loopw [8] (fun s8 wr => ∃ k : Nat, s8 = .int .i64 k ∧ k ≤ xs.length ∧ Below w.heap.size w wr ∧ Good wr ∧ ∀ y ∈ xs.take k, p y = false) (fun s8 _ => xs.length - (intOf s8).toNat)
 case atStart => exact ⟨0, rfl, Nat.zero_le _, Below.refl _ _, hG, by simp⟩
 case round =>
  obtain ⟨k, rfl, hk, hb, hgd, hp⟩ := hrel
  by_cases hlt : k < xs.length
  ·have hbl : b < w.heap.size := (Array.getElem?_eq_some_iff.1 h).1
   obtain ⟨c0, c1⟩ := KeX ((hb.block b hbl).trans h) (List.getElem?_eq_getElem hlt)
   have hkk := List.getElem?_eq_getElem hlt
   generalize xs[k] = x at c0 c1 hkk
   have hw1 := KfQ k (by omega)
   have hd := hdel wr x hgd
   have htk := KcR hkk
   go_wp2_with fail
   refine hd.mono ?_
   rintro e W2 ⟨rfl, hb2⟩
   cases hpx : p x
   ·go_wp2
    go_roundw
    case rel =>
     refine ⟨k + 1, by simp [hw1], hlt, hb.trans (hb2.mono hb.size), hgood _ _ hgd hb2, fun y hy => ?_⟩
     rw [htk] at hy
     rcases List.mem_append.1 hy with hy | hy
     ·exact hp y hy
     ·simp at hy; subst hy; exact hpx
    case measure => exact KcX hlt
   ·go_wp2
    go_ret
    exact ⟨hb.trans (hb2.mono hb.size), .inr ⟨k, x, rfl, hkk, hpx, hp⟩⟩
  ·obtain rfl : k = xs.length := Nat.le_antisymm hk (Nat.le_of_not_lt hlt)
   go_wp2
   go_ret
   exact ⟨hb, .inl ⟨rfl, by simpa using hp⟩⟩
theorem df_set {zs xs : List Ka} {p : Ka → Bool} {i j : Nat} {x : Ka} (hij : i < j) (hzl : zs.length = xs.length) (htk : zs.take i = (xs.take j).filter fun x => !p x) (hdr : zs.drop j = xs.drop j) (hx : xs[j]? = some x) (hp : p x = false) :
  (zs.set i x).take (i + 1) = (xs.take (j + 1)).filter (fun x => !p x) ∧ (zs.set i x).drop (j + 1) = xs.drop (j + 1) := by
 have hj := (List.getElem?_eq_some_iff.1 hx).1
 constructor
 ·rw [KcR hx, List.filter_append, ← htk, KcR (x := x) (by rw [List.getElem?_set_self (by omega)]), List.take_set_of_le (by omega)]
  simp [hp]
 ·rw [List.drop_set_of_lt (by omega)]
  have := congrArg (List.drop 1) hdr
  simpa using this
theorem df_skip {zs xs : List Ka} {p : Ka → Bool} {i j : Nat} {x : Ka} (htk : zs.take i = (xs.take j).filter fun x => !p x) (hdr : zs.drop j = xs.drop j) (hx : xs[j]? = some x) (hp : p x = true) :
  zs.take i = (xs.take (j + 1)).filter (fun x => !p x) ∧ zs.drop (j + 1) = xs.drop (j + 1) := by
 constructor
 ·rw [KcR hx, List.filter_append, ← htk]; simp [hp]
 ·have := congrArg (List.drop 1) hdr
  simpa using this
theorem lt_of2 {a : Nat} {w w1 : World} (h : a < w.heap.size) (k : w1.heap.size = w.heap.size + 1) : a < w1.heap.size := by omega
theorem lt_self2 {w w1 : World} (k : w1.heap.size = w.heap.size + 1) : w.heap.size < w1.heap.size := by omega
theorem df_step {w wr W1 W2 : World} {b : Nat} (henv : Env w wr) (hsz : w.heap.size ≤ wr.heap.size) (hoth : ∀ q, q < w.heap.size → q ≠ b → wr.heap[q]? = w.heap[q]?) (h1 : Below wr.heap.size wr W1) (h2 : Below W1.heap.size W1 W2) : Env w W2 ∧ w.heap.size ≤ W2.heap.size ∧ (∀ q, q < w.heap.size → q ≠ b → W2.heap[q]? = w.heap[q]?) ∧ Below wr.heap.size wr W2 := by
 have h3 : Below wr.heap.size wr W2 := h1.trans (h2.mono h1.size)
 exact ⟨henv.trans ⟨h3.os, h3.tape, h3.output, Nat.le_refl _⟩, Nat.le_trans hsz h3.size, fun q hq hne => (h3.block q (Nat.lt_of_lt_of_le hq hsz)).trans (hoth q hq hne), h3⟩
theorem Kjh (g : FuncId) (cb : Array Value) (p : Ka → Bool) (Good : World → Prop) (b : Nat) (hgood : ∀ W W', Good W → Env W W' → W.heap.size ≤ W'.heap.size → (∀ j, j < W.heap.size → j ≠ b → W'.heap[j]? = W.heap[j]?) → Good W') (eg : ∀ args w, (callFunc g args).run Tryz.prog w = .ok (.enter g args) w)
  (hdel : ∀ W x, Good W → Calls Tryz.prog g (#[.agg #[.string x.gName, .int .i64 x.gNode]] ++ cb) W fun e w' => e = .returned (.bool (p x)) ∧ Below W.heap.size W w')
  (w : World) (hG : Good w) (c : Nat) (xs : List Ka) (rest : List Value) (T : TypeId) (h : w.heap[b]? = some (.cells (xs.flatMap kc2 ++ rest).toArray T (0, 0))) (hl : xs.length < 4398046511104) (hc : xs.length ≤ c) :
  Calls Tryz.prog 18 #[.slice (some ⟨b, 0, none⟩) xs.length c, .func (.func g) #[] cb] w fun e w' => Env w w' ∧ w.heap.size ≤ w'.heap.size ∧ (∀ j, j < w.heap.size → j ≠ b → w'.heap[j]? = w.heap[j]?) ∧
   ∃ rest', e = .returned (.slice (some ⟨b, 0, none⟩) (xs.filter fun x => !p x).length c) ∧ w'.heap[b]? = some (.cells ((xs.filter fun x => !p x).flatMap kc2 ++ rest').toArray T (0, 0)) ∧ ((xs.filter fun x => !p x).flatMap kc2 ++ rest').length = (xs.flatMap kc2 ++ rest).length := by
 have hbl : b < w.heap.size := (Array.getElem?_eq_some_iff.1 h).1
 have hgb : ∀ W W', Good W → Below W.heap.size W W' → Good W' := fun W W' hg hb => hgood W W' hg ⟨hb.os, hb.tape, hb.output, Nat.le_refl _⟩ hb.size (fun j hj _ => hb.block j hj)
 have hix := Kjt g cb p Good hgb eg hdel w hG b c xs rest T h hl
 go_enter Tryz.func18, Tryz.ntmps18
 go_wp2_with fail
 refine hix.mono ?_
 rintro e w1 ⟨hb1, ⟨rfl, hno⟩ | ⟨i0, x0, rfl, hi0, hx0, hpre⟩⟩
 ·have hf : xs.filter (fun x => !p x) = xs := List.filter_eq_self.2 (fun x hx => by simp [hno x hx])
  go_wp2
  go_ret
  rw [hf]
  exact ⟨⟨hb1.os, hb1.tape, hb1.output, Nat.le_refl _⟩, hb1.size, fun j hj _ => hb1.block j hj, rest, rfl, (hb1.block b hbl).trans h, rfl⟩
 ·have hi0l := (List.getElem?_eq_some_iff.1 hi0).1
  have hne : ¬ ((i0 : Int) = -1) := by omega
  have hi42 : i0 < 4398046511104 := by omega
  have hi1 : i0 + 1 ≤ xs.length := hi0l
  have hinit : xs.take i0 = (xs.take (i0 + 1)).filter (fun x => !p x) := by
   rw [KcR hi0, List.filter_append, List.filter_eq_self.2 (fun x hx => by simp [hpre x hx])]
   simp [hx0]
  have hw0 := KbL i0 hi42
  have hne' : ((i0 : Int) == -1) = false := by simp
  go_wp2
  clear hw0
  go_loopw [5, 6] (fun s5 s6 wr => ∃ (i j : Nat) (zs : List Ka), s5 = .int .i64 i ∧ s6 = .int .i64 j ∧ i < j ∧ j ≤ xs.length ∧ zs.length = xs.length ∧ zs.take i = (xs.take j).filter (fun x => !p x) ∧ zs.drop j = xs.drop j ∧
    wr.heap[b]? = some (Obj.cells (zs.flatMap kc2 ++ rest).toArray T (0, 0)) ∧ Env w wr ∧ w.heap.size ≤ wr.heap.size ∧ (∀ q, q < w.heap.size → q ≠ b → wr.heap[q]? = w.heap[q]?) ∧ Good wr) (fun _ s6 _ => xs.length - (intOf s6).toNat)
  case atStart =>
   exact ⟨i0, i0 + 1, xs, rfl, rfl, Nat.lt_succ_self _, hi1, rfl, hinit, rfl, (hb1.block b hbl).trans h, ⟨hb1.os, hb1.tape, hb1.output, Nat.le_refl _⟩, hb1.size, fun q hq _ => hb1.block q hq, hgb _ _ hG hb1⟩
  case round =>
   obtain ⟨i, j, zs, rfl, rfl, hij, hj, hzl, htk, hdr, hbz, henv, hsz, hoth, hgd⟩ := hrel
   by_cases hlt : j < xs.length
   ·have hxj : zs[j]? = xs[j]? := by
     have := congrArg (fun l => l[0]?) hdr
     simpa using this
    have hkk := List.getElem?_eq_getElem hlt
    obtain ⟨c0, c1⟩ := KeX hbz (hxj.trans hkk)
    generalize xs[j] = x at c0 c1 hkk
    have hj42 : j < 4398046511104 := by omega
    have hk42 : i < 4398046511104 := by omega
    have hil : i < xs.length := by omega
    have hblr : b < wr.heap.size := by omega
    obtain ⟨W1, hW1⟩ : ∃ W1, W1 = wr.alloc (Obj.cells #[.string x.gName, .int .i64 x.gNode] 41) := ⟨_, rfl⟩
    have hbW1 : Below wr.heap.size wr W1 := by rw [hW1]; exact (Below.refl _ wr).alloc (Nat.le_refl _) _
    have hd := hdel W1 x (hgb _ _ hgd hbW1)
    have hnx : W1.heap[wr.heap.size]? = some (Obj.cells #[.string x.gName, .int .i64 x.gNode] 41 (0, 0)) := by rw [hW1, Kaq, if_pos rfl]
    have hsW1 : W1.heap.size = wr.heap.size + 1 := by rw [hW1]; simp
    have hw1 := KbL j hj42
    have hw2 := KbL i hk42
    go_wp2_with fail
    rw [← hW1]
    refine hd.mono ?_
    rintro e W2 ⟨rfl, hb2⟩
    have hbz2 : W2.heap[b]? = some (Obj.cells (zs.flatMap kc2 ++ rest).toArray T (0, 0)) := (hb2.block b (lt_of2 hblr hsW1)).trans ((hbW1.block b hblr).trans hbz)
    have hnx2 : W2.heap[wr.heap.size]? = some (Obj.cells #[.string x.gName, .int .i64 x.gNode] 41 (0, 0)) := (hb2.block _ (lt_self2 hsW1)).trans hnx
    have d0 : W2.cell? ⟨wr.heap.size, 0, none⟩ = some (.string x.gName) := by simp [World.cell?, hnx2]
    have d1 : W2.cell? ⟨wr.heap.size, 1, none⟩ = some (.int .i64 x.gNode) := by simp [World.cell?, hnx2]
    have hzi : i < zs.length := by rw [hzl]; exact hil
    obtain ⟨g0, g1⟩ := KeX hbz2 (List.getElem?_eq_getElem hzi)
    have f0 : W2.frozen? ⟨b, i * 2, none⟩ = false := by simp [World.frozen?, hbz2]
    have f1 : W2.frozen? ⟨b, i * 2 + 1, none⟩ = false := by simp [World.frozen?, hbz2]
    have st := df_step henv hsz hoth hbW1 hb2
    clear hbW1 hd hnx hnx2 hW1
    cases hpx : p x
    ·go_wp2
     go_roundw
     case rel =>
      obtain ⟨s1, s2, s3, s4⟩ := st
      obtain ⟨t1, t2⟩ := df_set hij hzl htk hdr hkk hpx
      have hse := set_at hbz2 hzi x
      have hot : ∀ q, q ≠ b → ((W2.setCell ⟨b, i * 2, none⟩ (.string x.gName)).setCell ⟨b, i * 2 + 1, none⟩ (.int .i64 x.gNode)).heap[q]? = W2.heap[q]? := fun q hq =>
       (Below.heap_setCell _ ⟨b, i * 2 + 1, none⟩ _ q hq).trans (Below.heap_setCell _ ⟨b, i * 2, none⟩ _ q hq)
      have hsz3 : ((W2.setCell ⟨b, i * 2, none⟩ (.string x.gName)).setCell ⟨b, i * 2 + 1, none⟩ (.int .i64 x.gNode)).heap.size = W2.heap.size := by simp [World.setCell]
      exact ⟨i + 1, j + 1, zs.set i x, rfl, rfl, Nat.succ_lt_succ hij, hlt, by rw [List.length_set]; exact hzl, t1, t2, hse, s1.trans ⟨rfl, rfl, rfl, Nat.le_refl _⟩, Nat.le_trans s2 (Nat.le_of_eq hsz3.symm), fun q hq hne => (hot q hne).trans (s3 q hq hne),
       hgood _ _ (hgb _ _ hgd s4) ⟨rfl, rfl, rfl, Nat.le_refl _⟩ (Nat.le_of_eq hsz3.symm) (fun q _ hne => hot q hne)⟩
     case measure => exact KcX hlt
    ·go_wp2
     go_roundw
     case rel =>
      obtain ⟨s1, s2, s3, s4⟩ := st
      obtain ⟨t1, t2⟩ := df_skip htk hdr hkk hpx
      exact ⟨i, j + 1, zs, rfl, rfl, Nat.lt_succ_of_lt hij, hlt, hzl, t1, t2, hbz2, s1, s2, s3, hgb _ _ hgd s4⟩
     case measure => exact KcX hlt
   ·obtain rfl : j = xs.length := Nat.le_antisymm hj (Nat.le_of_not_lt hlt)
    rw [List.take_length] at htk
    have hfl : (xs.filter fun x => !p x).length = i := by rw [← htk, List.length_take]; omega
    have t1 : Tryz.prog.underlying 27 = some (.slice 41) := by kernel_rfl
    have hzv : (Go.zeroValue 41).run Tryz.prog wr = .ok (.agg #[.string ⟨#[]⟩, .int .i64 0]) wr := run_zv (by kernel_rfl)
    have hX := KaK zs
    obtain ⟨wc, Z, r1, r2, r3, r4, r5, r6⟩ := KiZ (P := Tryz.prog) (ty := 0) (t := 27) (o := i * 2) (n := xs.length - i) (cap := c - i) t1 hzv hbz (by intro v hv; simp [Value.cells] at hv; rcases hv with rfl | rfl <;> rfl) (by decide) (by
     show i * 2 + (xs.length - i) * 2 ≤ _
     rw [List.length_append, hX, hzl]; omega)
    have hci : ¬ (c = i) := by omega
    have hil : i ≤ xs.length := by omega
    have hic : i ≤ c := by omega
    have hi0' : (0 : Int) ≤ (i : Int) := by omega
    have fin : Env w wc ∧ w.heap.size ≤ wc.heap.size ∧ (∀ q, q < w.heap.size → q ≠ b → wc.heap[q]? = w.heap[q]?) ∧ ∃ rest', wc.heap[b]? = some (Obj.cells ((xs.filter fun x => !p x).flatMap kc2 ++ rest').toArray T (0, 0)) ∧ ((xs.filter fun x => !p x).flatMap kc2 ++ rest').length = (xs.flatMap kc2 ++ rest).length := by
     refine ⟨henv.trans r2, Nat.le_trans hsz (Nat.le_of_eq r3.symm), fun q hq hne => (r4 q hne).trans (hoth q hq hne), Z ++ List.drop (i * 2 + (xs.length - i) * 2) (zs.flatMap kc2 ++ rest), ?_, ?_⟩
     ·refine r6.trans ?_
      rw [List.take_append_of_le_length (by rw [hX, hzl]; omega), KeH, htk]
      rfl
     ·have r5' : Z.length = (xs.length - i) * 2 := r5
      have hX2 := KaK xs
      rw [List.length_append, KaK, hfl, List.length_append, r5', List.length_drop, List.length_append, List.length_append, hX, hX2, hzl]; omega
    clear r2 r3 r4 r5 r6 henv hsz hoth hgd
    go_wp2
    go_ret
    obtain ⟨f1, f2, f3, rest', f4, f5⟩ := fin
    exact ⟨f1, f2, f3, rest', by rw [hfl]; rfl, f4, f5⟩
theorem delete_nil (fv : Value) (a : Option Addr) (w : World) : Calls Tryz.prog 18 #[.slice a 0 0, fv] w fun e w' => e = .returned (.slice a 0 0) ∧ w' = w := by
 have hix : Calls Tryz.prog 39 #[.slice a 0 0, fv] w fun e w' => e = .returned (.int .i64 (-1)) ∧ w' = w := by
  go_enter Tryz.func39, Tryz.ntmps39
  go_wp2
  go_loopw [8] (fun s8 wr => s8 = .int .i64 0 ∧ wr = w) (fun s8 _ => 0)
  case atStart => exact ⟨rfl, rfl⟩
  case round =>
   obtain ⟨rfl, rfl⟩ := hrel
   go_wp2
   go_ret
   exact ⟨rfl, rfl⟩
 go_enter Tryz.func18, Tryz.ntmps18
 go_wp2_with fail
 refine hix.mono ?_
 rintro e w1 ⟨rfl, rfl⟩
 go_wp2
 go_ret
 exact ⟨rfl, rfl⟩
theorem delete_row (g : FuncId) (cb : Array Value) (p : Ka → Bool) (Good : World → Prop) {H : Hp} {w : World} {xs : List Ka} {z : Z3} (hA : Ag H w) (hrow : BlkOK H w (0, .row 2 (xs.map Kf) (SL z)))
  (hgood : ∀ W W', Good W → Env W W' → W.heap.size ≤ W'.heap.size → (∀ j, j < W.heap.size → j ∉ Ks [(0, Blk.row 2 (xs.map Kf) (SL z))] [] → W'.heap[j]? = W.heap[j]?) → Good W') (eg : ∀ args w, (callFunc g args).run Tryz.prog w = .ok (.enter g args) w)
  (hdel : ∀ W x, Good W → Calls Tryz.prog g (#[.agg #[.string x.gName, .int .i64 x.gNode]] ++ cb) W fun e w' => e = .returned (.bool (p x)) ∧ Below W.heap.size W w') (hG : Good w) (hl : xs.length < 4398046511104) :
  Calls Tryz.prog 18 #[SL z, .func (.func g) #[] cb] w fun e w' => ∃ z' : Z3, e = .returned (SL z') ∧ Core ⟨H, w, Ks [(0, Blk.row 2 (xs.map Kf) (SL z))] []⟩ H [(0, .row 2 ((xs.filter fun x => !p x).map Kf) (SL z'))] [] w' := by
 rcases Kc3 hrow with ⟨e1, e2, rfl⟩ | ⟨b, c, rest, T, rfl, c0, c1, c2, c3, c4, c5⟩
 ·obtain ⟨z1, z2, z3⟩ := z
  simp only at e1 e2; subst e1; subst e2
  refine (delete_nil _ z1 w).mono ?_
  rintro e w' ⟨rfl, rfl⟩
  exact ⟨(z1, 0, 0), rfl, Khp hA hrow (by cases z1 <;> simp [Ks, KN, K2])⟩
 ·rw [c5] at hgood ⊢
  refine (Kjh g cb p Good b (fun W W' h1 h2 h3 h4 => hgood W W' h1 h2 h3 (fun j hj hne => h4 j hj (by simpa using hne))) eg hdel w hG c xs rest T c2 hl c0).mono ?_
  rintro e w' ⟨f1, f2, f3, rest', rfl, f5, f6⟩
  have hle : (xs.filter fun x => !p x).length ≤ xs.length := List.length_filter_le _ _
  exact ⟨(some ⟨b, 0, none⟩, (xs.filter fun x => !p x).length, c), rfl, Khr hA f1 f2 (fun j hj hne => f3 j hj (by simpa using hne)) (by intro j hj; simp at hj; subst hj; exact c4) (by intro j hj; simp at hj; subst hj; exact ⟨_, _, c2⟩) f5 (.inl (by simp)) (Nat.le_trans hle c0) c1 (by rw [f6]; exact c3)⟩
end Go.Proofs.YtnfkijcmakgkmaaGreat.Ab
namespace Go.Proofs.YtnfkijcmakgkmaaGreat.Ab
open Go Go.RowKit Go.Shelf Go.Proofs Go.Proofs.YtnfkijcmakgkmaaGreat.Ab.Pq
set_option linter.all false
def mdel {β : Type} : List (Ka × β) → Ka → List (Ka × β)
 | [], _ => []
 | (a, b) :: l, k => if a = k then l else (a, b) :: mdel l k
theorem mdel_sub {β : Type} : ∀ (l : List (Ka × β)) (k : Ka), (mdel l k).Sublist l
  | [], _ => List.Sublist.refl _
  | (a, b) :: l, k => by
    unfold mdel
    split
    · exact List.sublist_cons_self _ _
    · exact (mdel_sub l k).cons_cons _
def cutF (m : List (Ka × List Ka)) (x y : Ka) : List (Ka × List Ka) :=
 let l := (rowK (mgetD m x [])).filter fun q => !decide (q = clK y)
 if l = [] then mdel m x else mput m x l
end Go.Proofs.YtnfkijcmakgkmaaGreat.Ab
namespace Go.Proofs.YtnfkijcmakgkmaaGreat.Ab
open Go Go.RowKit Go.Shelf Go.Proofs Go.Proofs.YtnfkijcmakgkmaaGreat.Ab.Pq
set_option linter.all false
theorem slk_first {P : Program} {n₀ : Nat} {w : World} {v : Value} {l : List Ka} (h : SlK n₀ w v l) : (Builtin.firstCells 2 l.length v).run P w = .ok (l.flatMap kc2).toArray w := by
  obtain ⟨a, cap, rfl, hc⟩ := h
  cases l with
  | nil =>
    cases a with
    | none => rfl
    | some a => simp only [Builtin.firstCells, List.length_nil, Nat.zero_mul]; rfl
  | cons x xs =>
    obtain ⟨b, off, rfl, _⟩ := hc 0 x rfl
    have hl := KaK (x :: xs)
    have hr : RowAt w b off ((x :: xs).flatMap kc2) := fun j u e => by
      have hj := (List.getElem?_eq_some_iff.1 e).1
      have hq : j / 2 < (x :: xs).length := by omega
      obtain ⟨b', off', e1, _, e3, e4⟩ := hc (j / 2) (x :: xs)[j / 2] (List.getElem?_eq_getElem hq)
      simp only [Option.some.injEq, Addr.mk.injEq] at e1
      obtain ⟨rfl, rfl, _⟩ := e1
      have key : ∀ (zs : List Ka) (j : Nat) (y : Ka), zs[j / 2]? = some y → (zs.flatMap kc2)[j]? = (if j % 2 = 0 then some (.string y.gName) else some (.int .i64 y.gNode)) := by
        intro zs
        induction zs with
        | nil => intro j y hy; simp at hy
        | cons z zs ih =>
          intro j y hy
          match j, hy with
          | 0, hy => simp at hy; subst hy; simp [kc2]
          | 1, hy => simp at hy; subst hy; simp [kc2]
          | j + 2, hy =>
            have := ih j y (by rw [show (j + 2) / 2 = j / 2 + 1 by omega] at hy; simpa using hy)
            simp only [List.flatMap_cons, kc2, List.cons_append, List.nil_append, List.getElem?_cons_succ]
            rw [show (j + 2) % 2 = j % 2 by omega]; exact this
      have hk := key _ j _ (List.getElem?_eq_getElem hq)
      rw [e] at hk
      by_cases hm : j % 2 = 0
      · rw [if_pos hm] at hk
        rw [hk, show off + j = off + j / 2 * 2 by omega]; exact e3
      · rw [if_neg hm] at hk
        rw [hk, show off + j = off + j / 2 * 2 + 1 by omega]; exact e4
    have := KaN (P := P) ((x :: xs).length * 2) hr (by omega)
    rw [← hl, List.take_length] at this
    simp only [Builtin.firstCells]
    rw [← hl]; exact this
theorem eq_nil (ad : Option Addr) (n m : Nat) (w : World) : (binOp .eql 27 (.slice ad n m) (.slice none 0 0)).run Tryz.prog w = .ok (.bool ad.isNone) w := by
 obtain ⟨d0, u0, u1⟩ := run_underlying (P := Tryz.prog) (w := w) (ti_ok htab (t := 27) rfl)
 have e0 : d0 = .slice 41 := KbP (u1.trans rfl)
 subst e0
 show (do pure (.bool (← Op.equal 27 (.slice ad n m) (.slice none 0 0))) : Sem Value).run Tryz.prog w = _
 have h2 : (Op.equal 27 (.slice ad n m) (.slice none 0 0)).run Tryz.prog w = .ok ad.isNone w := by
  show (Op.equalIn (9999 + 1) 27 _ _).run Tryz.prog w = _
  rw [Op.equalIn, Kl u0]
  cases ad <;> rfl
 rw [Kl h2]; rfl
theorem Kju (H : Hp) (w : World) (hA : Ag H w) (l : List Ka) (v : Value) (hv : SlK w.heap.size w v l) (hl : l.length < 4398046511104) :
    Calls Tryz.prog 19 #[v] w fun e w' => ∃ z : Z3, e = .returned (SL z) ∧ Core ⟨H, w, []⟩ H [(0, .row 2 (l.map Kf) (SL z))] [] w' := by
  obtain ⟨W1, hW1⟩ : ∃ W1, W1 = w.alloc (Obj.cells #[] 41) := ⟨_, rfl⟩
  have hb1 : Below w.heap.size w W1 := by rw [hW1]; exact (Below.refl _ w).alloc (Nat.le_refl _) _
  have hA1 : Ag H W1 := fun a u e => by rw [hb1.cell (p := a) (hA.lt e)]; exact hA a u e
  obtain ⟨a, cap, rfl, hc⟩ := hv
  have hst : ∀ w', (∀ b, b < W1.heap.size → w'.heap[b]? = W1.heap[b]?) → SlK w.heap.size w' (.slice a l.length cap) l := fun w' hw' => by
    refine ⟨a, cap, rfl, fun j x hj => ?_⟩
    obtain ⟨b, off, g1, g2, g3, g4⟩ := hc j x hj
    have q : ∀ o, w'.cell? ⟨b, o, none⟩ = w.cell? ⟨b, o, none⟩ := fun o => by
      simp only [World.cell?]
      rw [hw' b (Nat.lt_of_lt_of_le g2 hb1.size), hb1.block b g2]
    exact ⟨b, off, g1, g2, (q _).trans g3, (q _).trans g4⟩
  have happ : ∀ ty, ∃ (z' : Z3) (w' : World), (Builtin.append_ #[27, 27] ty #[SL (some ⟨w.heap.size, 0, none⟩, 0, 0), .slice a l.length cap]).run Tryz.prog W1 = .ok (SL z') w' ∧ Core ⟨H, W1, Ks [(0, .row 2 ([].map Kf) (SL (some ⟨w.heap.size, 0, none⟩, 0, 0)))] []⟩ H [(0, .row 2 ([].map Kf ++ l.map Kf) (SL z'))] [] w' := fun ty =>
    KeE (bb := 24) (kk := 2) htab hA1 (.inl ⟨_, rfl, rfl⟩) (by simp [Ks, KN, K2]) (by rw [List.length_map]; rfl) (fun w' hw' => ⟨l.flatMap kc2, by rw [List.length_map]; exact KaK l, KcA l, by rw [List.length_map]; exact slk_first (hst w' hw')⟩) rfl rfl rfl rfl rfl rfl rfl rfl (by omega) (by simp only [List.length_map, List.length_nil]; omega)
  obtain ⟨z', w', hrun, hcore⟩ := happ 27
  have hrun' : ∀ ty, (Builtin.append_ #[27, 27] ty #[.slice (some ⟨w.heap.size, 0, none⟩) 0 0, .slice a l.length cap]).run Tryz.prog W1 = .ok (SL z') w' := fun ty => hrun
  go_enter Tryz.func19, Tryz.ntmps19
  cases a with
  | none =>
    have hnil : l = [] := by
      cases l with
      | nil => rfl
      | cons x xs => obtain ⟨b, off, e, _⟩ := hc 0 x rfl; cases e
    subst hnil
    have hq := eq_nil none 0 cap w
    simp only [List.length_nil, Option.isNone_none] at hq ⊢
    go_wp2
    go_ret
    refine ⟨(none, 0, 0), rfl, hA, Hp.le_refl H, fun _ _ x => .inl x, fun _ _ _ => rfl, Nat.le_refl _, ?_, by simp, by simp [Ks, KN, K2], by simp [Ks, KN, K2], Env.refl w⟩
    intro p hp
    simp at hp; subst hp
    exact .inl ⟨none, rfl, rfl⟩
  | some a =>
    obtain ⟨ab, ao, sq⟩ := a
    have hq := eq_nil (some ⟨ab, ao, sq⟩) l.length cap w
    simp only [Option.isNone_some] at hq
    go_wp2_with (at_builtin; rw [← hW1]; refine Lib.wpList_append_run _ rfl _ _ _ _ rfl _ _ rfl rfl _ _ (hrun' _) ?_)
    go_ret
    refine ⟨z', rfl, ?_⟩
    have c0 := Core.call (h1 := []) (k1 := []) (h2 := []) (k2 := []) (KaR hA hb1) (hcore.wid (M' := Ks [] []) (by simp [Ks, KN, K2]))
    simpa using c0
end Go.Proofs.YtnfkijcmakgkmaaGreat.Ab
namespace Go.Proofs.YtnfkijcmakgkmaaGreat.Ab
open Go Go.RowKit Go.Shelf Go.Proofs Go.Proofs.YtnfkijcmakgkmaaGreat.Ab.Pq
set_option linter.all false
abbrev Tm := List (Ka × List Ka)
def univ (m : Tm) (l : List Ka) : List Ka := l.map clK ++ m.flatMap (·.2)
def AllP (m : Tm) (l out : List Ka) : Prop := RowC out ∧ (∀ k ∈ l.map clK, k ∈ out) ∧ (∀ x ∈ out, ∀ y ∈ mgetD m x [], y ∈ out) ∧ ∀ S : Ka → Prop, (∀ k ∈ l.map clK, S k) → (∀ x, S x → ∀ y ∈ mgetD m x [], S y) → ∀ k ∈ out, S k
def AJ (m : Tm) (l out todo : List Ka) (op : Ka → Prop) : Prop := RowC out ∧ (∀ k ∈ l.map clK, k ∈ out) ∧ (∀ k ∈ todo, k ∈ out) ∧ (∀ x ∈ out, x ∈ todo ∨ op x ∨ ∀ y ∈ mgetD m x [], y ∈ out) ∧ (∀ S : Ka → Prop, (∀ k ∈ l.map clK, S k) → (∀ x, S x → ∀ y ∈ mgetD m x [], S y) → ∀ k ∈ out, S k) ∧ ∀ k ∈ out, k ∈ univ m l
theorem mget_mem {m : Tm} {x y : Ka} (h : y ∈ mgetD m x []) : y ∈ m.flatMap (·.2) := by
  unfold mgetD at h
  induction m with
  | nil => simp [mget] at h
  | cons p m ih =>
    obtain ⟨a, v⟩ := p
    simp only [mget] at h
    by_cases q : a = x
    · rw [if_pos q] at h; exact List.mem_flatMap.2 ⟨(a, v), by simp, by simpa using h⟩
    · rw [if_neg q] at h
      rw [List.flatMap_cons]; exact List.mem_append_right _ (ih h)
theorem KbQ {α : Type} [DecidableEq α] : ∀ {l U : List α}, l.Nodup → (∀ x ∈ l, x ∈ U) → l.length ≤ U.length
  | [], U, _, _ => Nat.zero_le _
  | x :: l, U, hn, hs => by
    rw [List.nodup_cons] at hn
    have := KbQ (l := l) (U := U.erase x) hn.2 (fun y hy => (List.mem_erase_of_ne (fun e => hn.1 (by rw [← e]; exact hy))).2 (hs y (by simp [hy])))
    have h2 := List.length_erase_of_mem (hs x (by simp))
    have h3 : 0 < U.length := List.length_pos_of_mem (hs x (by simp))
    simp only [List.length_cons]; omega
theorem Ka1 {l : List Ka} (h : Rise leK l) : l.Nodup := List.Pairwise.imp (fun h => h.2) h
theorem AJ.le {m : Tm} {l out todo : List Ka} {op : Ka → Prop} (h : AJ m l out todo op) : out.length ≤ (univ m l).length := KbQ (Ka1 h.1.1) h.2.2.2.2.2
theorem AJ.put {m : Tm} {l out todo : List Ka} {x y : Ka} (h : AJ m l out todo (· = x)) (hx : x ∈ out) (hy : y ∈ mgetD m x []) (hc : clK y = y) : AJ m l (insT ltK y out) (todo ++ [y]) (· = x) := by
 obtain ⟨h1, h2, h3, h4, h5, h6⟩ := h
 have hm : ∀ k, k ∈ insT ltK y out ↔ k = y ∨ k ∈ out := Kcj ltK y out
 refine ⟨Khu h1 hc, fun k hk => (hm k).2 (.inr (h2 k hk)), fun k hk => ?_, fun k hk => ?_, fun S s1 s2 k hk => ?_, fun k hk => ?_⟩
 ·rcases List.mem_append.1 hk with hk | hk
  ·exact (hm k).2 (.inr (h3 k hk))
  ·simp at hk; exact (hm k).2 (.inl hk)
 ·rcases (hm k).1 hk with rfl | hk
  ·exact .inl (by simp)
  ·rcases h4 k hk with q | q | q
   ·exact .inl (by simp [q])
   ·exact .inr (.inl q)
   ·exact .inr (.inr fun z hz => (hm z).2 (.inr (q z hz)))
 ·rcases (hm k).1 hk with rfl | hk
  ·exact s2 x (h5 S s1 s2 x hx) _ hy
  ·exact h5 S s1 s2 k hk
 ·rcases (hm k).1 hk with rfl | hk
  ·exact List.mem_append_right _ (mget_mem hy)
  ·exact h6 k hk
theorem AJ.shut {m : Tm} {l out todo : List Ka} {x : Ka} (h : AJ m l out todo (· = x)) (hp : ∀ y ∈ mgetD m x [], y ∈ out) : AJ m l out todo (fun _ => False) := by
 obtain ⟨h1, h2, h3, h4, h5, h6⟩ := h
 refine ⟨h1, h2, h3, fun k hk => ?_, h5, h6⟩
 rcases h4 k hk with q | q | q
 ·exact .inl q
 ·subst q; exact .inr (.inr hp)
 ·exact .inr (.inr q)
theorem AJ.pop {m : Tm} {l out todo : List Ka} {x : Ka} (h : AJ m l out (todo ++ [x]) (fun _ => False)) : AJ m l out todo (· = x) ∧ x ∈ out := by
 obtain ⟨h1, h2, h3, h4, h5, h6⟩ := h
 refine ⟨⟨h1, h2, fun k hk => h3 k (by simp [hk]), fun k hk => ?_, h5, h6⟩, h3 x (by simp)⟩
 rcases h4 k hk with q | q | q
 ·rcases List.mem_append.1 q with q | q
  ·exact .inl q
  ·simp at q; exact .inr (.inl q)
 ·exact q.elim
 ·exact .inr (.inr q)
theorem AJ.done {m : Tm} {l out : List Ka} (h : AJ m l out [] (fun _ => False)) : AllP m l out := by
 obtain ⟨h1, h2, h3, h4, h5, h6⟩ := h
 refine ⟨h1, h2, fun x hx => ?_, h5⟩
 rcases h4 x hx with q | q | q
 ·cases q
 ·exact q.elim
 ·exact q
theorem AJ.first (m : Tm) (l : List Ka) : AJ m l (rowK l) (rowK l) (fun _ => False) :=
 ⟨KeJ l, fun k hk => ((Kbu l).2.1 k).2 hk, fun k hk => hk, fun k hk => .inl hk, fun S s1 _ k hk => s1 k (((Kbu l).2.1 k).1 hk), fun k hk => List.mem_append_left _ (((Kbu l).2.1 k).1 hk)⟩
theorem ins_core {C : Ctx} {H : Hp} {W : World} {rest : List (Nat × Blk)} {y : Ka} {xs : List Ka} {z : Z3} {i : Nat} (hrest : Core C H ((0, .row 2 (xs.map Kf) (SL z)) :: rest) [] W) (hi : i ≤ xs.length) (hl : xs.length < 4398046511104) :
  Calls Tryz.prog 52 #[SL z, .int .i64 i, .slice (some ⟨W.heap.size, 0, none⟩) 1 1] (W.alloc (.cells #[Value.string y.gName, Value.int IntKind.i64 y.gNode] 41)) fun e w' => ∃ z' : Z3, e = .returned (SL z') ∧ Core C H ((0, .row 2 ((insAt xs i y).map Kf) (SL z')) :: rest) [] w' := by
 have c3 := Core.newRow hrest (xs := [y].map Kf) (us := kc2 y) (rest := []) (kk := 2) (m := 1) (T := 41) (KcA [y]) (by simp) (by simp [kc2]) (by simp)
 simp only [List.append_nil, List.length_map, List.length_cons, List.length_nil] at c3
 have c3' : Core C H ([(0, .row 2 (xs.map Kf) (SL z)), (0, .row 2 ([y].map Kf) (SL (some ⟨W.heap.size, 0, none⟩, 1, 1)))] ++ rest) ([] ++ []) (W.alloc (.cells (kc2 y).toArray 41)) :=
  c3.perm (List.Perm.swap _ _ _) (List.Perm.refl _)
 refine (KeK y i hi hl c3'.ag (c3'.blks (0, .row 2 (xs.map Kf) (SL z)) (by simp)) (c3'.blks (0, .row 2 ([y].map Kf) (SL (some ⟨W.heap.size, 0, none⟩, 1, 1))) (by simp)) (by
   have := (Kbd [(0, Blk.row 2 (xs.map Kf) (SL z)), (0, Blk.row 2 ([y].map Kf) (SL (some ⟨W.heap.size, 0, none⟩, 1, 1)))] rest [] []).nodup_iff.1 c3'.nd
   exact (List.nodup_append.1 this).1)).mono ?_
 rintro e w' ⟨z', he, hc⟩
 exact ⟨z', he, Core.call c3' hc⟩
theorem app_core {C : Ctx} {H : Hp} {W : World} {rest : List (Nat × Blk)} (y : Ka) {xs : List Ka} {z : Z3} (hrest : Core C H ((0, .row 2 (xs.map Kf) (SL z)) :: rest) [] W) (hl : xs.length < 4398046511104) :
  ∃ (z' : Z3) (w' : World), (∀ ty, (Builtin.append_ #[27, 27] ty #[SL z, .slice (some ⟨W.heap.size, 0, none⟩) 1 1]).run Tryz.prog (W.alloc (.cells #[Value.string y.gName, Value.int IntKind.i64 y.gNode] 41)) = .ok (SL z') w') ∧ Core C H ((0, .row 2 ((xs ++ [y]).map Kf) (SL z')) :: rest) [] w' := by
 have c3 := Core.newRow hrest (xs := [y].map Kf) (us := kc2 y) (rest := []) (kk := 2) (m := 1) (T := 41) (KcA [y]) (by simp) (by simp [kc2]) (by simp)
 simp only [List.append_nil, List.length_map, List.length_cons, List.length_nil] at c3
 have c4 : Core C H ([(0, .row 2 (xs.map Kf) (SL z))] ++ rest) ([] ++ []) (W.alloc (.cells (kc2 y).toArray 41)) := c3.drop (List.sublist_cons_self _ _) (List.Sublist.refl _)
 have hnw : (W.alloc (.cells (kc2 y).toArray 41)).heap[W.heap.size]? = some (.cells (kc2 y).toArray 41 (0, 0)) := by rw [Kaq, if_pos rfl]
 have app : ∀ ty, ∃ (z' : Z3) (w' : World), (Builtin.append_ #[27, 27] ty #[SL z, SL (some ⟨W.heap.size, 0, none⟩, 1, 1)]).run Tryz.prog (W.alloc (.cells (kc2 y).toArray 41)) = .ok (SL z') w' ∧ Core ⟨H, W.alloc (.cells (kc2 y).toArray 41), Ks [(0, .row 2 (xs.map Kf) (SL z))] []⟩ H [(0, .row 2 (xs.map Kf ++ [y].map Kf) (SL z'))] [] w' := fun ty =>
   KeE (bb := 24) (kk := 2) htab c4.ag (c4.blks _ (List.mem_cons_self ..)) (fun b hb => KeY (h := [(0, .row 2 (xs.map Kf) (SL z))]) (k := []) (by simpa using c4.blks _ (List.mem_cons_self ..)) (by simp) b hb) rfl
    (fun w' hw' => ⟨kc2 y, rfl, KcA [y], by
     have hr : RowAt w' W.heap.size 0 (kc2 y) := fun j u e => by
      have := KbM ((hw' W.heap.size (by simp)).trans hnw) j u e
      simpa using this
     have := KaN (P := Tryz.prog) 2 hr (by simp [kc2])
     rw [List.take_of_length_le (by simp [kc2])] at this
     simp only [Builtin.firstCells]
     exact this⟩) rfl rfl rfl rfl rfl rfl rfl rfl (by omega) (by simp only [List.length_map, List.length_cons, List.length_nil]; omega)
 obtain ⟨z', w', hrun, hcore⟩ := app 0
 refine ⟨z', w', fun ty => hrun, ?_⟩
 rw [List.map_append]
 exact Core.call c4 hcore
theorem row_cut {C : Ctx} {H : Hp} {W : World} {rest : List (Nat × Blk)} {xs : List Ka} {x : Ka} {z : Z3} (c : Core C H ((0, .row 2 ((xs ++ [x]).map Kf) (SL z)) :: rest) [] W) : ∃ b m, z = (some ⟨b, 0, none⟩, xs.length + 1, m) ∧ xs.length + 1 ≤ m ∧ W.cell? ⟨b, xs.length * 2, none⟩ = some (.string x.gName) ∧ W.cell? ⟨b, xs.length * 2 + 1, none⟩ = some (.int .i64 x.gNode) ∧
  Core C H ((0, .row 2 (xs.map Kf) (SL (some ⟨b, 0, none⟩, xs.length, m))) :: rest) [] W := by
 rcases Kc3 (c.blks _ (List.mem_cons_self ..)) with ⟨_, _, e⟩ | ⟨b, m, rs, T, rfl, h0, hm, h1, h3, h4, h5⟩
 ·simp at e
 ·have hlen : (xs ++ [x]).length = xs.length + 1 := by simp
  rw [hlen] at h0
  obtain ⟨k1, k2⟩ := KeX h1 (j := xs.length) (x := x) (by simp)
  refine ⟨b, m, by rw [hlen], h0, k1, k2, c.ag, c.le, c.new, c.same, c.size, fun p hp => ?_, by simp, ?_, ?_, c.env⟩
  ·rcases List.mem_cons.1 hp with rfl | hp
   ·refine .inr ⟨b, m, xs.flatMap kc2, kc2 x ++ rs, T, by simp [SL], by rw [List.length_map]; omega, hm, ?_, KcA xs, ?_, h4⟩
    ·rw [h1]; congr 3; simp
    ·simp only [List.flatMap_append, List.length_append] at h3 ⊢; simpa [Nat.add_assoc] using h3
   ·exact c.blks p (by simp [hp])
  ·have := c.nd; simpa [Ks, KN, K2, hm] using this
  ·have := c.own; simpa [Ks, KN, K2, hm] using this
end Go.Proofs.YtnfkijcmakgkmaaGreat.Ab
namespace Go.Proofs.YtnfkijcmakgkmaaGreat.Ab
open Go Go.RowKit Go.Shelf Go.Proofs Go.Proofs.YtnfkijcmakgkmaaGreat.Ab.Pq
set_option linter.all false
def lenOfS : Value → Nat | .slice _ n _ => n | _ => 0
structure AllAt (H : Hp) (w : World) (b : Nat) (es : Ties) (l out todo : List Ka) (zo zt : Z3) (op : Ka → Prop) (W : World) : Prop where
 core : Core ⟨H, w, []⟩ H ((0, .row 2 (out.map Kf) (SL zo)) :: (0, .row 2 (todo.map Kf) (SL zt)) :: []) [] W
 aj : AJ (tieL es) l out todo op
 tn : todo.Nodup
theorem AllAt.lens {H : Hp} {w : World} {b : Nat} {es : Ties} {l out todo : List Ka} {zo zt : Z3} {op : Ka → Prop} {W : World} (h : AllAt H w b es l out todo zo zt op W) : zo.2.1 = out.length ∧ zt.2.1 = todo.length := by
 obtain ⟨a1, m1, e1⟩ := Ker (h.core.blks (0, .row 2 (out.map Kf) (SL zo)) (by simp))
 obtain ⟨a2, m2, e2⟩ := Ker (h.core.blks (0, .row 2 (todo.map Kf) (SL zt)) (by simp))
 simp only [SL, Value.slice.injEq, List.length_map] at e1 e2
 exact ⟨e1.2.1, e2.2.1⟩
theorem jump_weak {l : Nat} {J : Act → World → Prop} {μ : Act → World → Nat} {a0 : Act} {w0 : World} {Q : Exit → Act → World → Prop} : ∀ e a w, Exit.jump l (fun a' w' => J a' w' ∧ μ a' w' < μ a0 w0) Q e a w → Exit.jump l J Q e a w
 | .goto _, _, _, h => ⟨h.1, h.2.1⟩
 | .normal, _, _, h => h
 | .exit _, _, _, h => h
 | .ret, _, _, h => h
 | .panic _, _, _, h => h
 | .outgrown, _, _, h => h
theorem scope_loop {P : Program} {c rest : Code} {Q : Exit → Act → World → Prop} {a : Act} {w : World} (l : Nat) (J : Act → World → Prop) (μ : Act → World → Nat) (hf : findLabel c l = some (Code.skip.seq rest))
  (first : (∀ a w, J a w → rest.wp P (Exit.jump l J Q) a w) → c.wp P (Exit.jump l J Q) a w) (pass : ∀ a w, J a w → rest.wp P (Exit.jump l (fun a' w' => J a' w' ∧ μ a' w' < μ a w) Q) a w) : (Code.scope c).wp P Q a w :=
 wp_scope_jumps l J μ hf (first fun a w h => wp_mono (pass a w h) jump_weak) (fun a w h => wp_seq (wp_skip (pass a w h)))
def allJ (H : Hp) (w : World) (b : Nat) (es : Ties) (l : List Ka) (va : Option Addr) (vn vm : Nat) (a' : Act) (w' : World) : Prop := ∃ (out todo : List Ka) (zo zt : Z3) (u7 u8 u9 u10 u11 u12 u13 u14 u15 u16 u17 u18 u19 u20 u21 u22 u23 u24 u25 u26 u27 u28 u29 u30 u31 u32 u33 u34 u35 u36 u37 u38 u39 u40 u41 u42 u43 u44 u45 u46 u47 u48 u49 u50 u51 u52 u53 u54 u55 u56 : Value), a' = { tmps := #[.map (some b), .slice va vn vm, undef, undef, .slice none 0 0, SL zo, SL zt, u7, u8, u9, u10, u11, u12, u13, u14, u15, u16, u17, u18, u19, u20, u21, u22, u23, u24, u25, u26, u27, u28, u29, u30, u31, u32, u33, u34, u35, u36, u37, u38, u39, u40, u41, u42, u43, u44, u45, u46, u47, u48, u49, u50, u51, u52, u53, u54, u55, u56], defers := [] } ∧ AllAt H w b es l out todo zo zt (fun _ => False) w'
def allMu (N : Nat) (a' : Act) (_ : World) : Nat := lenOfS (a'.tmps.getD 6 undef) + 2 * (N - lenOfS (a'.tmps.getD 5 undef))
theorem row_in {es : Ties} {x : Ka} {row : List Ka} {zx : Z3} (h : mgetD es x zr0 = (row, zx)) (hr : row ≠ []) {b : Nat} : (0, Blk.row 2 (row.map Kf) (SL zx)) ∈ tieH b es := by
 rcases Kep (l := es) (k := x) with ⟨h1, _, _⟩ | ⟨l1, l2, v, h1, h2, _, _⟩
 ·unfold mgetD at h; rw [h1] at h; exact absurd (by cases h; rfl) hr
 ·have : v = (row, zx) := by unfold mgetD at h; rw [h1] at h; exact h
  subst this
  refine List.mem_cons_of_mem _ (List.mem_map.2 ⟨(x, (row, zx)), by rw [h2]; simp, rfl⟩)
theorem row_lenT {C : Ctx} {H : Hp} {W : World} {b : Nat} {es : Ties} {x : Ka} {row : List Ka} {zx : Z3} (h : mgetD es x zr0 = (row, zx)) (hs : ∀ p ∈ tieH b es, BlkOK H W p) : zx.2.1 = row.length := by
 by_cases hr : row = []
 ·subst hr
  rcases Kep (l := es) (k := x) with ⟨h1, _, _⟩ | ⟨l1, l2, v, h1, h2, _, _⟩
  ·unfold mgetD at h; rw [h1] at h; cases h; rfl
  ·have : v = ([], zx) := by unfold mgetD at h; rw [h1] at h; exact h
   subst this
   obtain ⟨a2, m2, e2⟩ := Ker (hs (0, Blk.row 2 (([] : List Ka).map Kf) (SL zx)) (List.mem_cons_of_mem _ (List.mem_map.2 ⟨(x, ([], zx)), by rw [h2]; simp, rfl⟩)))
   simp only [SL, Value.slice.injEq, List.length_map] at e2
   exact e2.2.1
 ·obtain ⟨a2, m2, e2⟩ := Ker (hs _ (row_in h hr))
  simp only [SL, Value.slice.injEq, List.length_map] at e2
  exact e2.2.1
theorem all_calls (H : Hp) (w : World) (hA : Ag H w) (b : Nat) (es : Ties) (l : List Ka) (v : Value) (hv : SlK w.heap.size w v l) (hb : ∀ p ∈ tieH b es, BlkOK H w p) (hr : ∀ x, RowC (mgetD (tieL es) x [])) (hN : (univ (tieL es) l).length < 4398046511104) :
  Calls Tryz.prog 48 #[.map (some b), v] w fun e w' => ∃ (out : List Ka) (z : Z3), e = .returned (SL z) ∧ Core ⟨H, w, []⟩ H ((0, .row 2 (out.map Kf) (SL z)) :: []) [] w' ∧ AllP (tieL es) l out := by
 have hll : l.length < 4398046511104 := by
  have : l.length ≤ (univ (tieL es) l).length := by unfold univ; rw [List.length_append, List.length_map]; omega
  omega
 have c0 := Core.here hA
 have hrow := KiE H w hA l v hv hll
 obtain ⟨va, vn, vm, rfl⟩ : ∃ a n m, v = .slice a n m := by obtain ⟨a, cap, e1, _⟩ := hv; exact ⟨_, _, _, e1⟩
 go_enter Tryz.func48, Tryz.ntmps48
 go_wp2_with fail
 refine scope_loop 0 (allJ H w b es l va vn vm) (allMu (univ (tieL es) l).length) rfl ?_ ?_
 ·intro pass
  go_wp2_with fail
  refine hrow.mono ?_
  rintro e W1 ⟨zo, rfl, hc1⟩
  have c1 : Core ⟨H, w, []⟩ H ((0, .row 2 ((rowK l).map Kf) (SL zo)) :: []) [] W1 := Core.call (h1 := []) (k1 := []) c0 hc1
  have hcl := Kju H W1 c1.ag (rowK l) (SL zo) (slk_row c1.ag (c1.blks _ (List.mem_cons_self ..))) (by have := (Kbu l).2.2; omega)
  go_wp2_with fail
  refine hcl.mono ?_
  rintro e W2 ⟨zt, rfl, hc2⟩
  have c2 : Core ⟨H, w, []⟩ H ((0, .row 2 ((rowK l).map Kf) (SL zt)) :: (0, .row 2 ((rowK l).map Kf) (SL zo)) :: []) [] W2 := Core.call (h1 := []) (k1 := []) c1 hc2
  have hat : AllAt H w b es l (rowK l) (rowK l) zo zt (fun _ => False) W2 := ⟨c2.perm (List.Perm.swap _ _ _) (List.Perm.refl _), AJ.first _ _, Ka1 (Kbu l).1⟩
  clear hrow hcl
  go_wp2_with fail
  refine wp_label ?_
  rename_i K hK
  exact hK _ _ (pass _ _ ⟨rowK l, rowK l, zo, zt, _, _, _, _, _, _, _, _, _, _, _, _, _, _, _, _, _, _, _, _, _, _, _, _, _, _, _, _, _, _, _, _, _, _, _, _, _, _, _, _, _, _, _, _, _, _, _, _, _, _, rfl, hat⟩)
 ·clear hrow
  rintro a' W ⟨out, todo, zo, zt, u7, u8, u9, u10, u11, u12, u13, u14, u15, u16, u17, u18, u19, u20, u21, u22, u23, u24, u25, u26, u27, u28, u29, u30, u31, u32, u33, u34, u35, u36, u37, u38, u39, u40, u41, u42, u43, u44, u45, u46, u47, u48, u49, u50, u51, u52, u53, u54, u55, u56, rfl, hat⟩
  obtain ⟨hzo, hzt⟩ := hat.lens
  obtain ⟨hc, haj, htn⟩ := hat
  rcases List.eq_nil_or_concat todo with rfl | ⟨ts, x, hts⟩
  ·have hz0 : ((zt.2.1 : Int) == 0) = true := by rw [hzt]; rfl
   have hz1 : (zt.2.1 : Int) = 0 := by rw [hzt]; rfl
   clear hzt
   go_wp2
   simp only [Exit.jump]
   go_ret
   refine ⟨out, zo, rfl, ?_, haj.done⟩
   exact hc.drop ((List.sublist_cons_self _ _).cons_cons _) (List.Sublist.refl _)
  ·rw [List.concat_eq_append] at hts
   subst hts
   have hN2 := haj.le
   have hct : Core ⟨H, w, []⟩ H ((0, .row 2 ((ts ++ [x]).map Kf) (SL zt)) :: (0, .row 2 (out.map Kf) (SL zo)) :: []) [] W := hc.perm (List.Perm.swap _ _ _) (List.Perm.refl _)
   obtain ⟨tb, tm, rfl, htm, k1, k2, ct⟩ := row_cut hct
   have hts : (ts ++ [x]).length ≤ out.length := KbQ htn (fun k hk => haj.2.2.1 k hk)
   obtain ⟨haj, hxo⟩ := haj.pop
   have htn' : ts.Nodup := (List.nodup_append.1 htn).1
   have hts2 : ts.length < 4398046511104 := by simp at hts; omega
   have hq0 : ((((ts.length + 1 : Nat) : Int)) == 0) = false := by rw [beq_eq_false_iff_ne]; omega
   have hq1 : IntKind.i64.wrap (((ts.length + 1 : Nat) : Int) - 1) = (ts.length : Int) := by rw [IntKind.wrap_i64]; omega
   have hq2 : ts.length < ts.length + 1 := Nat.lt_succ_self _
   have hq3 : ts.length ≤ tm := by omega
   have hq4 : ¬ (((ts.length + 1 : Nat) : Int) = 0) := by omega
   have hwW := hc.size
   obtain ⟨W1, hW1⟩ : ∃ W1, W1 = W.alloc (Obj.cells #[.string x.gName, .int .i64 x.gNode] 41) := ⟨_, rfl⟩
   have c1 : Core ⟨H, w, []⟩ H (((0, .row 2 (ts.map Kf) (SL (some ⟨tb, 0, none⟩, ts.length, tm))) :: (0, .row 2 (out.map Kf) (SL zo)) :: []) ++ [(W.heap.size, .cells ((kc2 x).map .v) 41)]) [] W1 := by
    rw [hW1]; exact Core.alloc ct (ds := (kc2 x).map .v) (us := kc2 x) 41 (KbR H (kc2 x) rfl)
   obtain ⟨x0, x1⟩ := Ka0 (c1.blks (W.heap.size, .cells ((kc2 x).map .v) 41) (by simp))
   have c2 : Core ⟨H, w, []⟩ H ((0, .row 2 (out.map Kf) (SL zo)) :: (0, .row 2 (ts.map Kf) (SL (some ⟨tb, 0, none⟩, ts.length, tm))) :: []) [] W1 :=
    (c1.drop (List.sublist_append_left _ _) (List.Sublist.refl _)).perm (List.Perm.swap _ _ _) (List.Perm.refl _)
   have hlk := run_lkp (BlkOK.later c2 (hb (b, .mp (tieM es)) (by simp [tieH])) (by simp)) x
   obtain ⟨⟨row, zx⟩, hrz⟩ : ∃ q, mgetD es x zr0 = q := ⟨_, rfl⟩
   rw [hrz] at hlk
   have hrow : mgetD (tieL es) x [] = row := by rw [mgetL, hrz]
   have hrc := hr x
   rw [hrow] at hrc
   have hzl := row_lenT (C := ⟨H, w, []⟩) hrz (fun p hp => BlkOK.later c2 (hb p hp) (by simp))
   have hzl' : (zx.2.1 : Int) = (row.length : Int) := by rw [hzl]
   have hrlen : row.length < 4398046511104 := by
    have : row.length ≤ (univ (tieL es) l).length := KbQ (Ka1 hrc.1) (fun y hy => List.mem_append_right _ (mget_mem (x := x) (by rw [hrow]; exact hy)))
    omega
   clear hct ct hc
   obtain ⟨zx1, zx2, hzlS⟩ : ∃ a m, SL zx = .slice a row.length m := ⟨zx.1, zx.2.2, by unfold SL; rw [hzl]⟩
   rw [hzlS] at hlk
   dsimp only [SL]
   go_wp2_with fail
   rw [← hW1]
   clear hW1
   go_wp2_with fail
   rw [hlk]
   go_wp2_with fail
   have hmu0 : allMu (univ (tieL es) l).length { tmps := #[.map (some b), .slice va vn vm, undef, undef, .slice none 0 0, SL zo, SL (some ⟨tb, 0, none⟩, ts.length + 1, tm), u7, u8, u9, u10, u11, u12, u13, u14, u15, u16, u17, u18, u19, u20, u21, u22, u23, u24, u25, u26, u27, u28, u29, u30, u31, u32, u33, u34, u35, u36, u37, u38, u39, u40, u41, u42, u43, u44, u45, u46, u47, u48, u49, u50, u51, u52, u53, u54, u55, u56], defers := [] } W = ts.length + 1 + 2 * ((univ (tieL es) l).length - out.length) := by
    show (ts.length + 1) + 2 * (_ - zo.2.1) = _
    rw [hzo]
   go_loopw [5, 6, 35] (fun s5 s6 s35 wr => ∃ (out' ts' : List Ka) (zo' zt' : Z3) (i : Nat), s5 = SL zo' ∧ s6 = SL zt' ∧ s35 = .int .i64 i ∧ i ≤ row.length ∧ AllAt H w b es l out' ts' zo' zt' (· = x) wr ∧ x ∈ out' ∧ (∀ y ∈ row.take i, y ∈ out') ∧ ts'.length + 2 * ((univ (tieL es) l).length - out'.length) ≤ ts.length + 2 * ((univ (tieL es) l).length - out.length)) (fun _ _ s35 _ => row.length - (intOf s35).toNat)
   case atStart => exact ⟨out, ts, zo, (some ⟨tb, 0, none⟩, ts.length, tm), 0, by unfold SL; rw [hzo], rfl, rfl, Nat.zero_le _, ⟨c2, haj, htn'⟩, hxo, by simp, Nat.le_refl _⟩
   case round =>
    obtain ⟨out', ts', zo', zt', i, rfl, rfl, rfl, hi, ⟨c3, aj3, tn3⟩, hx3, hp3, hmu⟩ := hrel
    by_cases hlt : i < row.length
    ·have hne : row ≠ [] := fun e => by rw [e] at hlt; simp at hlt
     have hrb := BlkOK.later c3 (hb _ (row_in hrz hne (b := b))) (by simp)
     rcases Kc3 hrb with ⟨_, _, e⟩ | ⟨rb, rm, rs, T, hzx, g0, gm, g1, g3, g4, g5⟩
     ·exact absurd e hne
     rw [hzx] at hzlS
     simp only [SL, Value.slice.injEq] at hzlS
     obtain ⟨q1, _, q2⟩ := hzlS
     subst q1; subst q2
     have hkk := List.getElem?_eq_getElem hlt
     obtain ⟨y0, y1⟩ := KeX g1 hkk
     have hym : row[i] ∈ row := List.getElem_mem _
     have htk := KcR hkk
     generalize row[i] = y at hkk y0 y1 hym htk
     have hyc : clK y = y := hrc.2 y hym
     have hym' : y ∈ mgetD (tieL es) x [] := by rw [hrow]; exact hym
     have hi42 : i < 4398046511104 := by omega
     have hN3 := aj3.le
     have hol : out'.length < 4398046511104 := by omega
     obtain ⟨V1, hV1⟩ : ∃ V1, V1 = wr.alloc (Obj.cells #[.string y.gName, .int .i64 y.gNode] 41) := ⟨_, rfl⟩
     have d1 : Core ⟨H, w, []⟩ H (((0, .row 2 (out'.map Kf) (SL zo')) :: (0, .row 2 (ts'.map Kf) (SL zt')) :: []) ++ [(wr.heap.size, .cells ((kc2 y).map .v) 41)]) [] V1 := by
      rw [hV1]; exact Core.alloc c3 (ds := (kc2 y).map .v) (us := kc2 y) 41 (KbR H (kc2 y) rfl)
     obtain ⟨v0, v1⟩ := Ka0 (d1.blks (wr.heap.size, .cells ((kc2 y).map .v) 41) (by simp))
     obtain ⟨q, hq, q3, q4, hbs⟩ := Khw y d1.ag (d1.blks _ (List.mem_cons_self ..)) hyc aj3.1 hol
     simp only [encK] at hbs
     have hw1 := KbL i hi42
     clear g1 g3 g4 g5 hrb
     by_cases hm : y ∈ out'
     ·rw [decide_eq_true hm] at hbs
      dsimp only [SL] at hbs ⊢
      go_wp2_with fail
      rw [← hV1]
      clear hV1
      refine hbs.mono ?_
      rintro e V2 ⟨rfl, hb2⟩
      have d2 : Core ⟨H, w, []⟩ H (((0, .row 2 (out'.map Kf) (SL zo')) :: (0, .row 2 (ts'.map Kf) (SL zt')) :: []) ++ [(wr.heap.size, .cells ((kc2 y).map .v) 41)]) [] V2 := Core.call (h1 := []) (k1 := []) d1 (KaR d1.ag hb2)
      dsimp only
      go_wp2
      refine ⟨⟨out', ts', zo', zt', i + 1, rfl, rfl, rfl, hlt, ⟨d2.drop (List.sublist_append_left _ _) (List.Sublist.refl _), aj3, tn3⟩, hx3, fun k hk => ?_, hmu⟩, KcX hlt⟩
      rw [htk] at hk
      rcases List.mem_append.1 hk with hk | hk
      ·exact hp3 k hk
      ·simp at hk; subst hk; exact hm
     ·rw [decide_eq_false hm] at hbs
      dsimp only [SL] at hbs ⊢
      go_wp2_with fail
      rw [← hV1]
      clear hV1
      refine hbs.mono ?_
      rintro e V2 ⟨rfl, hb2⟩
      have d2 : Core ⟨H, w, []⟩ H (((0, .row 2 (out'.map Kf) (SL zo')) :: (0, .row 2 (ts'.map Kf) (SL zt')) :: []) ++ [(wr.heap.size, .cells ((kc2 y).map .v) 41)]) [] V2 := Core.call (h1 := []) (k1 := []) d1 (KaR d1.ag hb2)
      obtain ⟨v2, v3⟩ := Ka0 (d2.blks (wr.heap.size, .cells ((kc2 y).map .v) 41) (by simp))
      have hins := ins_core (y := y) d2 hq hol
      dsimp only [SL] at hins
      clear hbs v0 v1 hw1
      dsimp only
      go_wp2_with fail
      refine hins.mono ?_
      rintro e V3 ⟨zo2, rfl, d3⟩
      obtain ⟨v4, v5⟩ := Ka0 (d3.blks (wr.heap.size, .cells ((kc2 y).map .v) 41) (by simp))
      have htl : ts'.length < 4398046511104 := Nat.lt_of_le_of_lt (KbQ tn3 (fun k hk => aj3.2.2.1 k hk)) hol
      obtain ⟨zt2, V4, hrun, d4⟩ := app_core y (d3.perm (List.Perm.swap _ _ _) (List.Perm.refl _)) htl
      have hrun' : ∀ ty, (Builtin.append_ #[27, 27] ty #[.slice zt'.1 zt'.2.1 zt'.2.2, .slice (some ⟨V3.heap.size, 0, none⟩) 1 1]).run Tryz.prog (V3.alloc (.cells #[Value.string y.gName, Value.int IntKind.i64 y.gNode] 41)) = .ok (.slice zt2.1 zt2.2.1 zt2.2.2) V4 := hrun
      have hw1 := KbL i hi42
      clear hins hrun v2 v3
      dsimp only
      go_wp2_with (at_builtin; refine Lib.wpList_append_run _ rfl _ _ _ _ rfl _ _ rfl rfl _ _ (hrun' _) ?_)
      have haj4 := aj3.put hx3 hym' hyc
      rw [← ins_eq hq q3 q4 hm] at haj4
      have hN4 := haj4.le
      have hil4 : (insAt out' q y).length = out'.length + 1 := by simp [insAt]; omega
      have hmem : ∀ k, k ∈ insAt out' q y ↔ k = y ∨ k ∈ out' := fun k => by rw [ins_eq hq q3 q4 hm]; exact Kcj ltK y out' k
      clear hw1
      refine ⟨⟨insAt out' q y, ts' ++ [y], zo2, zt2, i + 1, rfl, rfl, rfl, hlt, ⟨(d4.drop (h' := (0, .row 2 ((ts' ++ [y]).map Kf) (SL zt2)) :: (0, .row 2 ((insAt out' q y).map Kf) (SL zo2)) :: []) (((List.sublist_append_left _ _).cons_cons _).cons_cons _) (List.Sublist.refl _)).perm (List.Perm.swap _ _ _) (List.Perm.refl _), haj4, ?_⟩, (hmem x).2 (.inr hx3), fun k hk => ?_, ?_⟩, KcX hlt⟩
      ·refine List.nodup_append.2 ⟨tn3, by simp, fun k hk k2 hk2 e => ?_⟩
       simp at hk2; subst hk2; subst e
       exact hm (aj3.2.2.1 _ hk)
      ·rw [htk] at hk
       rcases List.mem_append.1 hk with hk | hk
       ·exact (hmem k).2 (.inr (hp3 k hk))
       ·simp at hk; exact (hmem k).2 (.inl hk)
      ·rw [hil4] at hN4 ⊢
       simp only [List.length_append, List.length_cons, List.length_nil]
       omega
    ·obtain rfl : i = row.length := Nat.le_antisymm hi (Nat.le_of_not_lt hlt)
     have hat2 : AllAt H w b es l out' ts' zo' zt' (fun _ => False) wr := ⟨c3, aj3.shut (fun y hy => hp3 y (by rw [hrow] at hy; simpa using hy)), tn3⟩
     obtain ⟨g1, g2⟩ := hat2.lens
     clear hmu0
     dsimp only [SL]
     go_wp2
     refine wp_goto ?_
     refine ⟨rfl, ⟨out', ts', zo', zt', _, _, _, _, _, _, _, _, _, _, _, _, _, _, _, _, _, _, _, _, _, _, _, _, _, _, _, _, _, _, _, _, _, _, _, _, _, _, _, _, _, _, _, _, _, _, _, _, _, _, rfl, hat2⟩, ?_⟩
     show zt'.2.1 + 2 * ((univ (tieL es) l).length - zo'.2.1) < (ts.length + 1) + 2 * ((univ (tieL es) l).length - zo.2.1)
     rw [g1, g2, hzo]
     omega
end Go.Proofs.YtnfkijcmakgkmaaGreat.Ab
namespace Go.Proofs.YtnfkijcmakgkmaaGreat.Ab
open Go Go.RowKit Go.Shelf Go.Proofs Go.Proofs.YtnfkijcmakgkmaaGreat.Ab.Pq
set_option linter.all false
theorem KiL {β : Type} : ∀ {m : List (Ka × β)} {k : Ka}, (∀ p ∈ m, p.1 ≠ k) → mget m k = none
  | [], _, _ => rfl
  | (a, b) :: m, k, h => by
    unfold mget
    rw [if_neg (h (a, b) (by simp))]
    exact KiL fun p hp => h p (by simp [hp])
theorem Kgq {β : Type} (d v : β) : ∀ (m : List (Ka × β)) (k k' : Ka), mgetD (mput m k v) k' d = if k' = k then v else mgetD m k' d
  | [], k, k' => by
    unfold mgetD mput
    by_cases q : k' = k
    · subst q; simp [mget]
    · rw [if_neg q]; simp [mget, show ¬ k = k' from fun e => q e.symm]
  | (a, b) :: m, k, k' => by
    have ih := Kgq d v m k k'
    unfold mgetD at ih ⊢
    unfold mput
    by_cases q : a = k
    · subst q
      rw [if_pos rfl]
      by_cases q2 : k' = a
      · subst q2; simp [mget]
      · rw [if_neg q2]; simp [mget, show ¬ a = k' from fun e => q2 e.symm]
    · rw [if_neg q]
      by_cases q3 : a = k'
      · subst q3
        rw [if_neg q]; simp [mget]
      · simp only [mget, if_neg q3]; exact ih
theorem Kgr {β : Type} (v : β) : ∀ (m : List (Ka × β)) (k : Ka), (m.map (·.1)).Nodup → ((mput m k v).map (·.1)).Nodup ∧ ∀ x ∈ (mput m k v).map (·.1), x = k ∨ x ∈ m.map (·.1)
  | [], k, _ => by simp [mput]
  | (a, b) :: m, k, h => by
    simp only [List.map_cons, List.nodup_cons] at h
    obtain ⟨i1, i2⟩ := Kgr v m k h.2
    unfold mput
    by_cases q : a = k
    · rw [if_pos q]
      subst q
      exact ⟨by simp only [List.map_cons, List.nodup_cons]; exact h, fun x hx => .inr (by simpa using hx)⟩
    · rw [if_neg q]
      refine ⟨?_, fun x hx => ?_⟩
      · simp only [List.map_cons, List.nodup_cons]
        refine ⟨fun hx => ?_, i1⟩
        rcases i2 _ hx with e | e
        · exact q e
        · exact h.1 e
      · simp only [List.map_cons, List.mem_cons] at hx ⊢
        rcases hx with rfl | hx
        · exact .inr (.inl rfl)
        · rcases i2 x hx with e | e
          · exact .inl e
          · exact .inr (.inr e)
theorem KiM {β : Type} (m : List (Ka × β)) (k : Ka) (h : (m.map (·.1)).Nodup) : ((mdel m k).map (·.1)).Nodup :=
 ((mdel_sub m k).map _).nodup h
theorem Keb {β : Type} (d : β) : ∀ (m : List (Ka × β)) (k k' : Ka), (m.map (·.1)).Nodup → mgetD (mdel m k) k' d = if k' = k then d else mgetD m k' d
  | [], k, k', _ => by unfold mgetD; simp [mdel, mget]
  | (a, b) :: m, k, k', h => by
    simp only [List.map_cons, List.nodup_cons] at h
    have ih := Keb d m k k' h.2
    unfold mdel
    by_cases q : a = k
    · subst q
      rw [if_pos rfl]
      by_cases q2 : k' = a
      · subst q2
        rw [if_pos rfl]
        unfold mgetD
        rw [KiL (fun p hp e => h.1 (by rw [← e]; exact List.mem_map.2 ⟨p, hp, rfl⟩))]; rfl
      · rw [if_neg q2]
        unfold mgetD
        simp [mget, show ¬ a = k' from fun e => q2 e.symm]
    · rw [if_neg q]
      unfold mgetD at ih ⊢
      by_cases q3 : a = k'
      · subst q3
        rw [if_neg q]; simp [mget]
      · simp only [mget, if_neg q3]; exact ih
def GoodM (B : Nat) (m : Tm) : Prop := (m.map (·.1)).Nodup ∧ ∀ k, RowC (mgetD m k []) ∧ (mgetD m k []).length ≤ B
theorem rowK_same {l : List Ka} (h : RowC l) : rowK l = l :=
 KcD leK_an (Kbu l).1 h.1 (fun x => ((Kbu l).2.1 x).trans ⟨fun hx => by obtain ⟨y, hy, rfl⟩ := List.mem_map.1 hx; rw [h.2 y hy]; exact hy, fun hx => List.mem_map.2 ⟨x, hx, h.2 x hx⟩⟩)
theorem Kjv {l : List Ka} (h : RowC l) (p : Ka → Bool) : RowC (l.filter p) :=
 ⟨List.Pairwise.sublist List.filter_sublist h.1, fun x hx => h.2 x (List.mem_filter.1 hx).1⟩
theorem cutF_get {B : Nat} {m : Tm} (h : GoodM B m) (x y k : Ka) : mgetD (cutF m x y) k [] = if k = x then (mgetD m x []).filter (fun q => !decide (q = clK y)) else mgetD m k [] := by
 unfold cutF
 rw [rowK_same (h.2 x).1]
 dsimp only
 split
 ·rename_i hn
  rw [Keb _ _ _ _ h.1]
  split
  ·exact hn.symm
  ·rfl
 ·rw [Kgq]
theorem KiN {B : Nat} {m : Tm} (h : GoodM B m) (x y : Ka) : GoodM B (cutF m x y) := by
 refine ⟨?_, fun k => ?_⟩
 ·unfold cutF
  dsimp only
  split
  ·exact KiM m x h.1
  ·exact (Kgr _ m x h.1).1
 ·rw [cutF_get h]
  split
  ·exact ⟨Kjv (h.2 x).1 _, Nat.le_trans (List.length_filter_le _ _) (h.2 x).2⟩
  ·exact h.2 k
theorem cutF_mem {B : Nat} {m : Tm} (h : GoodM B m) (x y k z : Ka) : z ∈ mgetD (cutF m x y) k [] ↔ z ∈ mgetD m k [] ∧ ¬ (k = x ∧ z = clK y) := by
 rw [cutF_get h]
 split
 ·rename_i q
  subst q
  simp
 ·rename_i q
  simp [q]
def cutM (m : Tm) (l : List Ka) (x : Ka) : Tm := l.foldl (fun m y => cutF m y x) m
theorem Kgs {B : Nat} (x : Ka) : ∀ (l : List Ka) {m : Tm}, GoodM B m → GoodM B (cutM m l x)
 | [], _, h => h
 | y :: l, m, h => Kgs x l (KiN h y x)
theorem KhF {B : Nat} (x k z : Ka) : ∀ (l : List Ka) {m : Tm}, GoodM B m → (z ∈ mgetD (cutM m l x) k [] ↔ z ∈ mgetD m k [] ∧ ¬ (k ∈ l ∧ z = clK x))
  | [], _, h => by simp [cutM]
  | y :: l, m, h => by
    have := KhF x k z l (KiN h y x)
    rw [cutF_mem h] at this
    show z ∈ mgetD (cutM (cutF m y x) l x) k [] ↔ _
    rw [this]
    simp only [List.mem_cons]
    grind
theorem del_good {B : Nat} {m : Tm} (h : GoodM B m) (x : Ka) : GoodM B (mdel m x) := by
 refine ⟨KiM m x h.1, fun k => ?_⟩
 rw [Keb _ _ _ _ h.1]
 split
 ·exact ⟨⟨List.Pairwise.nil, by simp⟩, Nat.zero_le _⟩
 ·exact h.2 k
def dropM (m1 m2 : Tm) (x : Ka) : Tm := cutM m2 (mgetD m1 x []) x
def drop1 (m1 m2 : Tm) (x : Ka) : Tm := mdel (cutM m1 (mgetD (dropM m1 m2 x) x []) x) x
def drop2 (m1 m2 : Tm) (x : Ka) : Tm := mdel (dropM m1 m2 x) x
end Go.Proofs.YtnfkijcmakgkmaaGreat.Ab
namespace Go.Proofs.YtnfkijcmakgkmaaGreat.Ab
open Go
set_option linter.all false
noncomputable def Kc9 (a0 : Ka) (m0 : List ByteArray) (m1 : List ByteArray) : Option (Bool) :=
 (bif (decide (a0.gNode < (0 : Int))) then ((KaB m0 a0.gName).bind fun x5 => some (!x5)) else ((KaB m1 a0.gName).bind fun x7 => some (!x7)))
theorem KgT (a0 : Ka) (m0 : List ByteArray) (m1 : List ByteArray) (o0 : Nat) (T0 : TypeId) (c0_0 : Cap) (o1 : Nat) (T1 : TypeId) (c1_0 : Cap) (r : Bool) (h0 : Kc9 a0 m0 m1 = some r) : CallsD Tryz.prog 20 [Kf a0, .ptr o0 0, .ptr o1 0] [(o0, Blk.cells [.lst 1 (m0.map eStr) c0_0] T0), (o1, Blk.cells [.lst 1 (m1.map eStr) c1_0] T1)] [] (fun d h k => d = .v (.bool r) ∧ h = [(o0, Blk.cells [.lst 1 (m0.map eStr) c0_0] T0), (o1, Blk.cells [.lst 1 (m1.map eStr) c1_0] T1)] ∧ k = []) := by
 have hm := KI h0
 unfold Kc9 at hm
 clear h0
 refine K3 htab Tryz.func20 rfl rfl rfl rfl rfl (fun C => ?_)
 refine Kh ?_
 refine p_box rfl rfl rfl rfl rfl rfl rfl (fun b1 => ?_)
 refine pu ?_
 refine Ke ?_
 refine Km ?_
 refine Kh ?_
 refine pu ?_
 refine pL 2 ?_
 refine pu ?_
 refine Ke ?_
 refine KC rfl (fun hc4 => ?_) (fun hc4 => ?_)
 ·replace hm := yes_t hc4 hm
  refine Kh ?_
  refine pL 0 ?_
  refine pu ?_
  refine pL 2 ?_
  obtain ⟨x5, q5, hm⟩ := Kc hm
  refine Kaj (Kbm m0 a0.gName x5 q5) rfl rfl rfl rfl rfl (WkL.cons (Wk.no) (WkL.cons (Wk.refl _) Wl)) ?_
  rintro _ rfl
  refine pu ?_
  refine pu ?_
  refine Ke ?_
  refine KE ?_
  refine KS ?_
  have er6 := Kj hm; subst er6
  refine rP (t' := [(4, .v (.bool (!x5)))]) [0,0] [] 2 (wC wN) (lT lN) ?_
  exact ⟨rfl, rfl, rfl⟩
 ·replace hm := yes_f hc4 hm
  refine KB ?_
  refine Kb ?_
  refine Kh ?_
  refine pL 1 ?_
  refine pu ?_
  refine pL 2 ?_
  obtain ⟨x7, q7, hm⟩ := Kc hm
  refine Kaj (Kbm m1 a0.gName x7 q7) rfl rfl rfl rfl rfl (WkL.cons (Wk.no) (WkL.cons (Wk.refl _) Wl)) ?_
  rintro _ rfl
  refine pu ?_
  refine pu ?_
  refine Ke ?_
  refine KE ?_
  have er8 := Kj hm; subst er8
  refine rP (t' := [(4, .v (.bool (!x7)))]) [0,0] [] 2 (wC wN) (lT lN) ?_
  exact ⟨rfl, rfl, rfl⟩
end Go.Proofs.YtnfkijcmakgkmaaGreat.Ab
namespace Go.Proofs.YtnfkijcmakgkmaaGreat.Ab
open Go
set_option linter.all false
theorem loop_any {β τ : Type} {l : List β} {f : Int → Option (Step Int (Unit ⊕ τ))} (t : β → Bool) (r : Nat → τ)
    (h1 : ∀ p x q, l = p ++ x :: q → f (p.length : Int) = some (bif t x then .done (.inr (r p.length)) else .next ((p.length + 1 : Nat) : Int)))
    (h2 : f (l.length : Int) = some (.done (.inl ()))) : (l.any t = false ∧ loopM f (0 : Int) = some (.inl ())) ∨ (l.any t = true ∧ ∃ j, j < l.length ∧ loopM f (0 : Int) = some (.inr (r j))) := by
  have key : ∀ (q p : List β), l = p ++ q → (q.any t = false ∧ loopM f (p.length : Int) = some (.inl ())) ∨ (q.any t = true ∧ ∃ j, j < l.length ∧ loopM f (p.length : Int) = some (.inr (r j))) := by
    intro q
    induction q with
    | nil =>
      intro p e
      rw [List.append_nil] at e; subst e
      exact .inl ⟨rfl, KaI h2⟩
    | cons x q ih =>
      intro p e
      have h := h1 p x q e
      cases ht : t x
      · rw [ht, cond_false] at h
        have := ih (p ++ [x]) (by simp [e])
        rw [KbS h]
        simp only [List.length_append, List.length_cons, List.length_nil, Nat.zero_add, List.any_cons, ht, Bool.false_or] at this ⊢
        exact this
      · rw [ht, cond_true] at h
        refine .inr ⟨by simp [ht], p.length, by subst e; simp, KaI h⟩
  exact key l [] rfl
theorem any_list {β τ ρ : Type} {f : Int → Option (Step Int (Unit ⊕ τ))} {k : Unit ⊕ τ → Option ρ} {R : Option ρ} (l : List β) (t : β → Bool) (r : Nat → τ)
  (h1 : ∀ p x q, l = p ++ x :: q → f (p.length : Int) = some (bif t x then .done (.inr (r p.length)) else .next ((p.length + 1 : Nat) : Int)))
  (h2 : f (l.length : Int) = some (.done (.inl ()))) (k0 : l.any t = false → k (.inl ()) = R) (k1 : ∀ j, j < l.length → l.any t = true → k (.inr (r j)) = R) : Option.bind (loopM f (0 : Int)) k = R := by
 rcases loop_any t r h1 h2 with ⟨a, b⟩ | ⟨a, j, hj, b⟩
 ·rw [b]; exact k0 a
 ·rw [b]; exact k1 j hj a
end Go.Proofs.YtnfkijcmakgkmaaGreat.Ab
namespace Go.Proofs.YtnfkijcmakgkmaaGreat.Ab
open Go Go.Proofs.YtnfkijcmakgkmaaGreat.Ab.Pq
set_option linter.all false
abbrev Pr := KX
def dP (p q : Pr) : Bool := (decide (p.gX.gName = q.gX.gName) && (p.gX.gNode == q.gX.gNode && true)) && ((decide (p.gY.gName = q.gY.gName) && (p.gY.gNode == q.gY.gNode && true)) && true)
theorem dK_iff {a b : Ka} : (decide (a.gName = b.gName) && (a.gNode == b.gNode && true)) = true ↔ a = b := by
 obtain ⟨a0, a1⟩ := a
 obtain ⟨b0, b1⟩ := b
 simp
theorem dK_dec (a b : Ka) : (decide (a.gName = b.gName) && (a.gNode == b.gNode && true)) = decide (a = b) := by
 rw [Bool.eq_iff_iff, dK_iff, decide_eq_true_iff]
theorem dP_iff {p q : Pr} : dP p q = true ↔ p = q := by
 obtain ⟨a, b⟩ := p
 obtain ⟨c, d⟩ := q
 unfold dP
 rw [dK_dec, dK_dec]
 simp
theorem Kec (x : Ka) : Kcf x = some (clK x) := by
 obtain ⟨a, b⟩ := x
 unfold Kcf clK
 by_cases h : b < 0
 ·rw [decide_eq_true h, cond_true]; congr 2; simp only; omega
 ·rw [decide_eq_false h, cond_false]; congr 2; simp only; omega
theorem less_eq (x y : Ka) : KeU x y = some (ltK x y) := by
 unfold KeU ltK
 by_cases h : x.gName = y.gName
 ·simp only [h, decide_true, Bool.not_true, cond_false, KdK, Bool.false_or, Bool.true_and]
 ·simp only [h, decide_false, Bool.not_false, cond_true, Bool.false_and, Bool.or_false]
theorem loop_tw {β : Type} {f : List β × Int → Option (Step (List β × Int) (List β))} (l : List β) (P : β → Bool)
    (h1 : ∀ p x q, l = p ++ x :: q → P x = true → f (p, (p.length : Int)) = some (.next (p ++ [x], ((p.length + 1 : Nat) : Int))))
    (h2 : ∀ p x q, l = p ++ x :: q → P x = false → f (p, (p.length : Int)) = some (.done p)) (h3 : f (l, (l.length : Int)) = some (.done l)) : loopM f ([], (0 : Int)) = some (l.takeWhile P) := by
  have key : ∀ q p : List β, l = p ++ q → loopM f (p, (p.length : Int)) = some (p ++ q.takeWhile P) := by
    intro q
    induction q with
    | nil => intro p e; rw [List.append_nil] at e; subst e; rw [KaI h3]; simp
    | cons x q ih =>
      intro p e
      cases hp : P x with
      | true =>
        rw [KbS (h1 p x q e hp)]
        have := ih (p ++ [x]) (by simp [e])
        simp only [List.length_append, List.length_cons, List.length_nil, Nat.zero_add] at this
        rw [this]; simp [List.takeWhile_cons, hp]
      | false => rw [KaI (h2 p x q e hp)]; simp [List.takeWhile_cons, hp]
  simpa using key l [] rfl
theorem loop_from {σ τ α β ρ : Type} {f : σ → Option (Step σ τ)} {s0 : σ} {k : τ → Option ρ} {r : Option ρ} {l p0 q0 : List β} (hl : l = p0 ++ q0) (g : List β → α) (st : α → Nat → σ) (fin : α → τ) (h0 : st (g []) p0.length = s0)
  (h1 : ∀ pre x post, q0 = pre ++ x :: post → f (st (g pre) (p0 ++ pre).length) = some (.next (st (g (pre ++ [x])) ((p0 ++ pre).length + 1))))
  (h2 : f (st (g q0) l.length) = some (.done (fin (g q0)))) (hk : k (fin (g q0)) = r) : Option.bind (loopM f s0) k = r := by
 refine Kax q0 g (fun a n => st a (p0.length + n)) fin (by simpa using h0) (fun pre x post e => ?_) ?_ hk
 ·have := h1 pre x post e
  rw [List.length_append, Nat.add_assoc] at this; exact this
 ·have := h2
  rw [hl, List.length_append] at this; exact this
def putR (k : Ka) (l : List Ka) : List Ka := (l.takeWhile fun x => ltK x k) ++ [k] ++ (l.drop (l.takeWhile fun x => ltK x k).length).filter fun x => !decide (x = k)
theorem putR_eq (k : Ka) : ∀ l, Rise leK l → putR k l = insT ltK k l
  | [], _ => rfl
  | x :: l, h => by
    have hr := List.pairwise_cons.1 h
    have ih := putR_eq k l hr.2
    unfold putR at ih ⊢
    unfold insT
    cases hx : ltK x k with
    | true =>
      have hne : ¬ k = x := fun e => by subst e; rw [Kc2] at hx; cases hx
      have hnl : ¬ ltK k x = true := fun e => by have := Kd0 hx e; rw [Kc2] at this; cases this
      rw [if_neg hne, if_neg hnl, ← ih]
      simp [List.takeWhile_cons, hx]
    | false =>
      have gt : ∀ y ∈ l, ltK x y = true := fun y hy => (leK_lt x y).2 (hr.1 y hy)
      have keep : ∀ (z : Ka), (∀ y ∈ l, ltK z y = true) → l.filter (fun y => !decide (y = z)) = l := fun z hz => List.filter_eq_self.2 fun y hy => by
        rw [Bool.not_eq_true', decide_eq_false_iff_not]
        intro e; subst e
        have := hz _ hy; rw [Kc2] at this; cases this
      by_cases hk : k = x
      · subst hk
        rw [if_pos rfl]
        simp [List.takeWhile_cons, hx, keep k gt]
      · have hkx : ltK k x = true := by
          rcases ltK_tot k x with q | q | q
          · exact q
          · exact absurd q hk
          · rw [hx] at q; cases q
        rw [if_neg hk, if_pos hkx]
        have := keep k (fun y hy => Kd0 hkx (gt y hy))
        simp [List.takeWhile_cons, hx, List.filter_cons, show ¬ x = k from fun e => hk e.symm, this]
theorem tw_pre (P : Ka → Bool) : ∀ l : List Ka, l = l.takeWhile P ++ l.drop (l.takeWhile P).length
  | [] => rfl
  | x :: l => by
    have := tw_pre P l
    cases h : P x with
    | true => simp only [List.takeWhile_cons, h, if_true, List.cons_append, List.length_cons, List.drop_succ_cons]; rw [← this]
    | false => simp [List.takeWhile_cons, h]
theorem rput_eq {l : List Ka} (hr : Rise leK l) (k : Ka) (hb : l.length ≤ 4194303) : Kft l k = some (insT ltK (clK k) l) := by
 rw [← putR_eq _ _ hr]
 unfold Kft
 rw [Kec, Option.bind_some]
 have hpl : ∀ {p : List Ka} {x q}, l = p ++ x :: q → p.length < l.length := fun e => by rw [e]; simp
 refine (congrArg (fun o => Option.bind o _) (loop_tw l (fun x => ltK x (clK k)) ?_ ?_ ?_)).trans ?_
 ·intro p x q e hp
  rw [Kau e, cond_true, Kae e rfl, Option.bind_some, less_eq, Option.bind_some, Option.bind_some, hp, cond_true, Option.bind_some, Kaw (by omega) (by have := hpl e; simp; omega), Option.bind_some, Kam e (by omega)]
 ·intro p x q e hp
  rw [Kau e, cond_true, Kae e rfl, Option.bind_some, less_eq, Option.bind_some, Option.bind_some, hp, cond_false]
 ·rw [Kav, cond_false, Option.bind_some, cond_false]
 ·rw [Option.bind_some]
  generalize hT : l.takeWhile (fun x => ltK x (clK k)) = T
  have hs : l = T ++ l.drop T.length := by rw [← hT]; exact tw_pre _ l
  have hTl : T.length ≤ l.length := by rw [hs]; simp
  have hd : (l.drop T.length).length ≤ l.length := by simp
  rw [Kaw (by omega) (by simp; omega), Option.bind_some]
  refine loop_from hs (fun pre => T ++ [clK k] ++ pre.filter fun x => !decide (x = clK k)) (fun a n => (a, (n : Int))) (fun a => a) (by simp) (fun pre x post e => ?_) ?_ ?_
  ·have hl2 : l = (T ++ pre) ++ x :: post := by rw [List.append_assoc, ← e]; exact hs
   have h1 := List.length_filter_le (fun x => !decide (x = clK k)) pre
   have h2 := hpl hl2
   simp only [List.length_append] at h2
   show (bif decide (((T ++ pre).length : Int) < (l.length : Int)) then _ else _) = _
   rw [Kau hl2, cond_true, Kae hl2 rfl, Option.bind_some, Kam hl2 (by omega), dK_dec]
   by_cases q : x = clK k
   ·rw [decide_eq_true q, Bool.not_true, cond_false]
    simp [List.filter_append, q]
   ·rw [decide_eq_false q, Bool.not_false, cond_true, Option.bind_some, Kaw (by omega) (by simp; omega), Option.bind_some]
    simp [List.filter_append, q]
  ·rw [Kav, cond_false]
  ·unfold putR; rw [hT]
def hasK (l : List Ka) (k : Ka) : Bool := l.any fun x => decide (clK x = clK k)
theorem rhas_eq (l : List Ka) (k : Ka) (hb : l.length ≤ 4611686018427387904) : KgF l k = some (hasK l k) := by
 unfold KgF
 refine any_list l (fun x => decide (clK x = clK k)) (fun _ => true) (fun p x q e => ?_) ?_ (fun h => ?_) (fun j _ h => ?_)
 ·rw [Kau e, cond_true, Kae e rfl, Option.bind_some, Kec, Option.bind_some, Kec, Option.bind_some, Kam e hb, dK_dec]
  cases decide (clK x = clK k) <;> rfl
 ·rw [Kav, cond_false]
 ·show some false = _
  unfold hasK; rw [h]
 ·show some true = _
  unfold hasK; rw [h]
theorem KhG {l : List Ka} (hl : ∀ x ∈ l, clK x = x) (k : Ka) : hasK l k = true ↔ clK k ∈ l := by
 unfold hasK
 rw [List.any_eq_true]
 constructor
 ·rintro ⟨x, hx, e⟩
  rw [decide_eq_true_iff, hl x hx] at e
  rw [← e]; exact hx
 ·intro h
  exact ⟨_, h, by rw [decide_eq_true_iff, Kfq]⟩
def addP (ps : List Pr) (x y : Ka) : List Pr := (ps.filter fun p => !dP p ⟨x, y⟩) ++ [⟨x, y⟩]
theorem radd_eq (ps : List Pr) (x y : Ka) (hb : ps.length ≤ 2097152) : KgG ps x y = some (addP ps (clK x) (clK y)) := by
 unfold KgG
 rw [Kec, Option.bind_some, Kec, Option.bind_some]
 refine Kax ps (fun pre => pre.filter fun p => !dP p ⟨clK x, clK y⟩) (fun a n => (a, (n : Int))) (fun a => a) rfl (fun pre p post e => ?_) ?_ ?_
 ·have h1 := List.length_filter_le (fun p => !dP p ⟨clK x, clK y⟩) pre
  have h2 : pre.length < ps.length := by rw [e]; simp
  rw [Kau e, cond_true, Kae e rfl, Option.bind_some, Kam e (by omega)]
  show (bif (!dP p ⟨clK x, clK y⟩) then _ else _) = _
  cases h : dP p ⟨clK x, clK y⟩
  ·rw [Bool.not_false, cond_true, Option.bind_some, Kaw (by omega) (by simp; omega), Option.bind_some]
   simp [List.filter_append, h]
  ·rw [Bool.not_true, cond_false]
   simp [List.filter_append, h]
 ·rw [Kav, cond_false]
 ·have h1 := List.length_filter_le (fun p => !dP p ⟨clK x, clK y⟩) ps
  rw [Kaw (by omega) (by simp; omega), Option.bind_some]
  rfl
theorem KhH {ps : List Pr} {x y : Ka} (p : Pr) : p ∈ addP ps x y ↔ p = ⟨x, y⟩ ∨ p ∈ ps := by
 unfold addP
 rw [List.mem_append, List.mem_filter, List.mem_singleton, Bool.not_eq_true']
 constructor
 ·rintro (h | h)
  ·exact .inr h.1
  ·exact .inl h
 ·rintro (h | h)
  ·exact .inr h
  ·by_cases q : dP p ⟨x, y⟩ = true
   ·exact .inr (dP_iff.1 q)
   ·exact .inl ⟨h, by simpa using q⟩
theorem addP_len (ps : List Pr) (x y : Ka) : (addP ps x y).length ≤ ps.length + 1 := by
 unfold addP
 rw [List.length_append]
 have := List.length_filter_le (fun p => !dP p ⟨x, y⟩) ps
 simp; omega
def dropP (ps : List Pr) (x : Ka) : List Pr := ps.filter fun p => !decide (p.gX = x) && !decide (p.gY = x)
end Go.Proofs.YtnfkijcmakgkmaaGreat.Ab
namespace Go.Proofs.YtnfkijcmakgkmaaGreat.Ab
open Go Go.Proofs.YtnfkijcmakgkmaaGreat.Ab.Pq
set_option linter.all false
def AllR (R : Ka → Ka → Prop) (l out : List Ka) : Prop := RowC out ∧ (∀ k ∈ l.map clK, k ∈ out) ∧ (∀ x ∈ out, ∀ y, R x y → y ∈ out) ∧ ∀ S : Ka → Prop, (∀ k ∈ l.map clK, S k) → (∀ x, S x → ∀ y, R x y → S y) → ∀ k ∈ out, S k
theorem AllR.unique {R : Ka → Ka → Prop} {l o1 o2 : List Ka} (h1 : AllR R l o1) (h2 : AllR R l o2) : o1 = o2 :=
 KcD leK_an h1.1.1 h2.1.1 fun x => ⟨h1.2.2.2 (· ∈ o2) h2.2.1 h2.2.2.1 x, h2.2.2.2 (· ∈ o1) h1.2.1 h1.2.2.1 x⟩
theorem AllR.congr {R R' : Ka → Ka → Prop} {l o : List Ka} (h : AllR R l o) (e : ∀ x y, R x y ↔ R' x y) : AllR R' l o :=
 ⟨h.1, h.2.1, fun x hx y hy => h.2.2.1 x hx y ((e x y).2 hy), fun S s1 s2 => h.2.2.2 S s1 fun x hx y hy => s2 x hx y ((e x y).1 hy)⟩
theorem AllP.toR {m : Tm} {l out : List Ka} (h : AllP m l out) : AllR (fun x y => y ∈ mgetD m x []) l out := h
def upR (ps : List Pr) (up : Bool) (x y : Ka) : Prop := if up = true then (⟨x, y⟩ : Pr) ∈ ps else (⟨y, x⟩ : Pr) ∈ ps
def fromP (up : Bool) (p : Pr) : Ka := bif up then p.gX else p.gY
def toP (up : Bool) (p : Pr) : Ka := bif up then p.gY else p.gX
theorem Kev {ps : List Pr} {up : Bool} {x y : Ka} : upR ps up x y ↔ ∃ p ∈ ps, fromP up p = x ∧ toP up p = y := by
 unfold upR fromP toP
 cases up
 ·simp only [Bool.false_eq_true, if_false, cond_false]
  exact ⟨fun h => ⟨_, h, rfl, rfl⟩, fun ⟨p, h, e1, e2⟩ => by subst e1; subst e2; exact h⟩
 ·simp only [if_true, cond_true]
  exact ⟨fun h => ⟨_, h, rfl, rfl⟩, fun ⟨p, h, e1, e2⟩ => by subst e1; subst e2; exact h⟩
def stA (up : Bool) (out : List Ka) (p : Pr) : List Ka := if hasK out (fromP up p) = true then insT ltK (clK (toP up p)) out else out
def rdA (up : Bool) (ps : List Pr) (out : List Ka) : List Ka := ps.foldl (stA up) out
def allA (up : Bool) (ps : List Pr) : Nat → List Ka → List Ka
 | 0, out => out
 | n + 1, out => if (rdA up ps out).length = out.length then rdA up ps out else allA up ps n (rdA up ps out)
def CP (ps : List Pr) : Prop := ∀ p ∈ ps, clK p.gX = p.gX ∧ clK p.gY = p.gY
theorem CP.to {ps : List Pr} (h : CP ps) (up : Bool) {p : Pr} (hp : p ∈ ps) : clK (toP up p) = toP up p ∧ clK (fromP up p) = fromP up p := by
 obtain ⟨a, b⟩ := h p hp
 cases up <;> exact ⟨by assumption, by assumption⟩
theorem stA_row {up : Bool} {out : List Ka} {p : Pr} (h : RowC out) : RowC (stA up out p) := by
 unfold stA
 split
 ·exact Khu h (Kfq _)
 ·exact h
theorem stA_sub {up : Bool} {out : List Ka} {p : Pr} : ∀ k ∈ out, k ∈ stA up out p := by
 intro k hk
 unfold stA
 split
 ·exact (Kcj ltK _ _ _).2 (.inr hk)
 ·exact hk
theorem stA_new {up : Bool} {out : List Ka} {p : Pr} (h : RowC out) (hp : clK (toP up p) = toP up p ∧ clK (fromP up p) = fromP up p) {k : Ka} (hk : k ∈ stA up out p) : k ∈ out ∨ (k = toP up p ∧ fromP up p ∈ out) := by
 unfold stA at hk
 split at hk
 ·rename_i hh
  rw [KhG h.2, hp.2] at hh
  rcases (Kcj ltK _ _ _).1 hk with e | e
  ·rw [hp.1] at e; exact .inr ⟨e, hh⟩
  ·exact .inl e
 ·exact .inl hk
theorem stA_got {up : Bool} {out : List Ka} {p : Pr} (h : RowC out) (hp : clK (toP up p) = toP up p ∧ clK (fromP up p) = fromP up p) (hf : fromP up p ∈ out) : toP up p ∈ stA up out p := by
 unfold stA
 rw [if_pos ((KhG h.2 _).2 (by rw [hp.2]; exact hf))]
 exact (Kcj ltK _ _ _).2 (.inl hp.1.symm)
theorem rdA_all {up : Bool} : ∀ {ps : List Pr} {out : List Ka}, CP ps → RowC out → RowC (rdA up ps out) ∧ (∀ k ∈ out, k ∈ rdA up ps out) ∧ (∀ p ∈ ps, fromP up p ∈ out → toP up p ∈ rdA up ps out) ∧
    (∀ S : Ka → Prop, (∀ k ∈ out, S k) → (∀ p ∈ ps, S (fromP up p) → S (toP up p)) → ∀ k ∈ rdA up ps out, S k) ∧ ∀ k ∈ rdA up ps out, k ∈ out ∨ ∃ p ∈ ps, k = toP up p
  | [], out, _, h => ⟨h, fun k hk => hk, by simp, fun S s _ => s, fun k hk => .inl hk⟩
  | p :: ps, out, hc, h => by
    have hp := hc.to up (List.mem_cons_self ..)
    obtain ⟨i1, i2, i3, i4, i5⟩ := rdA_all (up := up) (ps := ps) (out := stA up out p) (fun q hq => hc q (List.mem_cons_of_mem _ hq)) (stA_row h)
    refine ⟨i1, fun k hk => i2 k (stA_sub k hk), fun q hq hf => ?_, fun S s1 s2 => ?_, fun k hk => ?_⟩
    · rcases List.mem_cons.1 hq with rfl | hq
      · exact i2 _ (stA_got h hp hf)
      · exact i3 q hq (stA_sub _ hf)
    · refine i4 S (fun k hk => ?_) fun q hq => s2 q (List.mem_cons_of_mem _ hq)
      rcases stA_new h hp hk with e | ⟨e, f⟩
      · exact s1 k e
      · subst e; exact s2 p (List.mem_cons_self ..) (s1 _ f)
    · rcases i5 k hk with e | ⟨q, hq, e⟩
      · rcases stA_new h hp e with e | ⟨e, _⟩
        · exact .inl e
        · exact .inr ⟨p, List.mem_cons_self .., e⟩
      · exact .inr ⟨q, List.mem_cons_of_mem _ hq, e⟩
theorem Khc {α : Type} [DecidableEq α] {l m : List α} (hl : l.Nodup) (hm : m.Nodup) (hs : ∀ x ∈ l, x ∈ m) (he : m.length ≤ l.length) : ∀ x ∈ m, x ∈ l := by
 intro x hx
 refine Decidable.byContradiction fun hn => ?_
 have := KbQ (l := x :: l) (U := m) (List.nodup_cons.2 ⟨hn, hl⟩) (fun y hy => by
  rcases List.mem_cons.1 hy with rfl | hy
  ·exact hx
  ·exact hs y hy)
 simp at this; omega
theorem KhI {up : Bool} {ps : List Pr} (hc : CP ps) (b : List Ka) : ∀ (n : Nat) (out : List Ka), RowC out → (∀ k ∈ out, k ∈ b ∨ ∃ p ∈ ps, k = toP up p) → b.length + ps.length ≤ out.length + n →
    RowC (allA up ps n out) ∧ (∀ k ∈ out, k ∈ allA up ps n out) ∧ (∀ p ∈ ps, fromP up p ∈ allA up ps n out → toP up p ∈ allA up ps n out) ∧
    (∀ S : Ka → Prop, (∀ k ∈ out, S k) → (∀ p ∈ ps, S (fromP up p) → S (toP up p)) → ∀ k ∈ allA up ps n out, S k)
  | 0, out, h, hb, hn => by
    refine ⟨h, fun k hk => hk, fun p hp _ => ?_, fun S s _ => s⟩
    change toP up p ∈ out
    refine Decidable.byContradiction fun hx => ?_
    have hq : ∀ k ∈ toP up p :: out, k ∈ b ++ ps.map (toP up) := by
      intro k hk
      rcases List.mem_cons.1 hk with rfl | hk
      · exact List.mem_append_right _ (List.mem_map.2 ⟨p, hp, rfl⟩)
      · rcases hb k hk with e | ⟨q, hq, e⟩
        · exact List.mem_append_left _ e
        · exact List.mem_append_right _ (List.mem_map.2 ⟨q, hq, e.symm⟩)
    have := KbQ (List.nodup_cons.2 ⟨hx, Ka1 h.1⟩) hq
    simp at this; omega
  | n + 1, out, h, hb, hn => by
    obtain ⟨i1, i2, i3, i4, i5⟩ := rdA_all (up := up) (ps := ps) (out := out) hc h
    unfold allA
    split
    · rename_i he
      have hs := Khc (Ka1 h.1) (Ka1 i1.1) i2 (by omega)
      exact ⟨i1, i2, fun p hp hf => i3 p hp (hs _ hf), i4⟩
    · rename_i he
      have hlt : out.length < (rdA up ps out).length := by
        have := KbQ (Ka1 h.1) i2
        omega
      obtain ⟨j1, j2, j3, j4⟩ := KhI hc b n (rdA up ps out) i1 (fun k hk => by
        rcases i5 k hk with e | e
        · exact hb k e
        · exact .inr e) (by omega)
      exact ⟨j1, fun k hk => j2 k (i2 k hk), j3, fun S s1 s2 => j4 S (i4 S s1 s2) s2⟩
theorem Kgt {ps : List Pr} (hc : CP ps) (l : List Ka) (up : Bool) : AllR (upR ps up) l (allA up ps ps.length (rowK l)) := by
 have hrow := Kbu l
 obtain ⟨j1, j2, j3, j4⟩ := KhI (up := up) hc (rowK l) ps.length (rowK l) (KeJ l) (fun k hk => .inl hk) (Nat.le_refl _)
 refine ⟨j1, fun k hk => j2 k ((hrow.2.1 k).2 hk), fun x hx y hy => ?_, fun S s1 s2 => j4 S (fun k hk => s1 k ((hrow.2.1 k).1 hk)) fun p hp hf => s2 _ hf _ (Kev.2 ⟨p, hp, rfl, rfl⟩)⟩
 obtain ⟨p, hp, rfl, rfl⟩ := Kev.1 hy
 exact j3 p hp hx
structure WR (B : Nat) (ps : List Pr) (m1 m2 : Tm) : Prop where
 g1 : GoodM B m1
 g2 : GoodM B m2
 cp : CP ps
 on : ∀ x y, y ∈ mgetD m1 x [] ↔ (⟨x, y⟩ : Pr) ∈ ps
 of : ∀ x y, x ∈ mgetD m2 y [] ↔ (⟨x, y⟩ : Pr) ∈ ps
theorem WR.nil (B : Nat) : WR B [] [] [] := by
 have g : GoodM B [] := ⟨List.nodup_nil, fun k => ⟨⟨List.Pairwise.nil, by simp [mgetD, mget]⟩, Nat.zero_le _⟩⟩
 exact ⟨g, g, by simp [CP], by simp [mgetD, mget], by simp [mgetD, mget]⟩
theorem tieF_get (m : Tm) (x y k : Ka) : mgetD (tieF m x y) k [] = if k = x ∧ y ∉ mgetD m x [] then insT ltK y (mgetD m x []) else mgetD m k [] := by
 unfold tieF
 by_cases h : y ∈ mgetD m x []
 ·rw [if_pos h, if_neg (fun q => q.2 h)]
 ·rw [if_neg h, Kgq]
  by_cases q : k = x
  ·rw [if_pos q, if_pos ⟨q, h⟩]
  ·rw [if_neg q, if_neg (fun e => q e.1)]
theorem tieF_mem (m : Tm) (x y k z : Ka) : z ∈ mgetD (tieF m x y) k [] ↔ z ∈ mgetD m k [] ∨ (k = x ∧ z = y) := by
 rw [tieF_get]
 split
 ·rename_i h
  obtain ⟨rfl, h⟩ := h
  rw [Kcj]
  constructor
  ·rintro (e | e)
   ·exact .inr ⟨rfl, e⟩
   ·exact .inl e
  ·rintro (e | ⟨_, e⟩)
   ·exact .inr e
   ·exact .inl e
 ·rename_i h
  constructor
  ·exact .inl
  ·rintro (e | ⟨rfl, rfl⟩)
   ·exact e
   ·exact Decidable.byContradiction fun q => h ⟨rfl, q⟩
theorem KiO {B : Nat} {m : Tm} (h : GoodM B m) {x y : Ka} (hy : clK y = y) : GoodM (B + 1) (tieF m x y) := by
 refine ⟨?_, fun k => ?_⟩
 ·unfold tieF
  split
  ·exact h.1
  ·exact (Kgr _ m x h.1).1
 ·rw [tieF_get]
  split
  ·exact ⟨Khu (h.2 x).1 hy, by have := Khs ltK y (mgetD m x []); have := (h.2 x).2; omega⟩
  ·exact ⟨(h.2 k).1, Nat.le_succ_of_le (h.2 k).2⟩
theorem GoodM.mono {B B' : Nat} {m : Tm} (h : GoodM B m) (hb : B ≤ B') : GoodM B' m := ⟨h.1, fun k => ⟨(h.2 k).1, Nat.le_trans (h.2 k).2 hb⟩⟩
theorem WR.mono {B B' : Nat} {ps : List Pr} {m1 m2 : Tm} (h : WR B ps m1 m2) (hb : B ≤ B') : WR B' ps m1 m2 := ⟨h.g1.mono hb, h.g2.mono hb, h.cp, h.on, h.of⟩
theorem WR.add {B : Nat} {ps : List Pr} {m1 m2 : Tm} (h : WR B ps m1 m2) {x y : Ka} (hx : clK x = x) (hy : clK y = y) : WR (B + 1) (addP ps x y) (tieF m1 x y) (tieF m2 y x) := by
 refine ⟨KiO h.g1 hy, KiO h.g2 hx, fun p hp => ?_, fun a b => ?_, fun a b => ?_⟩
 ·rcases (KhH p).1 hp with rfl | hp
  ·exact ⟨hx, hy⟩
  ·exact h.cp p hp
 ·rw [tieF_mem, KhH, h.on, KX.mk.injEq]
  exact Or.comm
 ·rw [tieF_mem, KhH, h.of, KX.mk.injEq]
  constructor
  ·rintro (e | ⟨e, f⟩)
   ·exact .inr e
   ·exact .inl ⟨f, e⟩
  ·rintro (⟨e, f⟩ | e)
   ·exact .inr ⟨f, e⟩
   ·exact .inl e
theorem WR.drop {B : Nat} {ps : List Pr} {m1 m2 : Tm} (h : WR B ps m1 m2) {x : Ka} (hx : clK x = x) : WR B (dropP ps x) (drop1 m1 m2 x) (drop2 m1 m2 x) := by
 have gq : GoodM B (dropM m1 m2 x) := Kgs _ _ h.g2
 have hq : ∀ k z, z ∈ mgetD (dropM m1 m2 x) k [] ↔ (⟨z, k⟩ : Pr) ∈ ps ∧ ¬ z = x := by
  intro k z
  unfold dropM
  rw [KhF _ _ _ _ h.g2, h.of, hx, h.on]
  constructor
  ·rintro ⟨a, b⟩
   exact ⟨a, fun e => b ⟨by rw [← e]; exact a, e⟩⟩
  ·rintro ⟨a, b⟩
   exact ⟨a, fun e => b e.2⟩
 have g1 : GoodM B (cutM m1 (mgetD (dropM m1 m2 x) x []) x) := Kgs _ _ h.g1
 refine ⟨del_good g1 x, del_good gq x, fun p hp => h.cp p (List.mem_filter.1 hp).1, fun a b => ?_, fun a b => ?_⟩
 ·unfold drop1 dropP
  rw [Keb _ _ _ _ g1.1, List.mem_filter]
  split
  ·rename_i e; subst e; simp
  ·rename_i e
   rw [KhF _ _ _ _ h.g1, h.on, hq, hx]
   constructor
   ·rintro ⟨f, g⟩
    refine ⟨f, ?_⟩
    rw [Bool.and_eq_true, Bool.not_eq_true', Bool.not_eq_true', decide_eq_false_iff_not, decide_eq_false_iff_not]
    exact ⟨e, fun r => g ⟨⟨by rw [← r]; exact f, e⟩, r⟩⟩
   ·rintro ⟨f, g⟩
    rw [Bool.and_eq_true, Bool.not_eq_true', Bool.not_eq_true', decide_eq_false_iff_not, decide_eq_false_iff_not] at g
    exact ⟨f, fun r => g.2 r.2⟩
 ·unfold drop2 dropP
  rw [Keb _ _ _ _ gq.1, List.mem_filter]
  split
  ·rename_i e; subst e; simp
  ·rename_i e
   rw [hq]
   constructor
   ·rintro ⟨f, g⟩
    refine ⟨f, ?_⟩
    rw [Bool.and_eq_true, Bool.not_eq_true', Bool.not_eq_true', decide_eq_false_iff_not, decide_eq_false_iff_not]
    exact ⟨g, e⟩
   ·rintro ⟨f, g⟩
    rw [Bool.and_eq_true, Bool.not_eq_true', Bool.not_eq_true', decide_eq_false_iff_not, decide_eq_false_iff_not] at g
    exact ⟨f, g.1⟩
theorem Kh7 : ∀ {m : Tm}, (m.map (·.1)).Nodup → (∀ p ∈ m, p.2.Nodup) → (m.flatMap fun p => p.2.map fun y => (p.1, y)).Nodup
  | [], _, _ => by simp
  | p :: m, hk, hr => by
    simp only [List.map_cons, List.nodup_cons] at hk
    rw [List.flatMap_cons, List.nodup_append]
    refine ⟨?_, Kh7 hk.2 fun q hq => hr q (List.mem_cons_of_mem _ hq), ?_⟩
    · have := hr p (List.mem_cons_self ..)
      refine List.Pairwise.map _ (fun a b h => ?_) this
      intro e; exact h (Prod.mk.inj e).2
    · intro a ha b hb e
      subst e
      obtain ⟨y, _, rfl⟩ := List.mem_map.1 ha
      obtain ⟨q, hq, h2⟩ := List.mem_flatMap.1 hb
      obtain ⟨z, _, e⟩ := List.mem_map.1 h2
      exact hk.1 (List.mem_map.2 ⟨q, hq, (Prod.mk.inj e).1⟩)
theorem KhJ : ∀ {m : Tm}, (m.map (·.1)).Nodup → ∀ p ∈ m, mgetD m p.1 [] = p.2
  | [], _, p, hp => by simp at hp
  | (a, b) :: m, hk, p, hp => by
    simp only [List.map_cons, List.nodup_cons] at hk
    unfold mgetD mget
    rcases List.mem_cons.1 hp with rfl | hp
    · rw [if_pos rfl]; rfl
    · rw [if_neg (fun e => hk.1 (List.mem_map.2 ⟨p, hp, e.symm⟩))]
      exact KhJ hk.2 p hp
theorem flat_le {B : Nat} {m : Tm} (g : GoodM B m) (U : List (Ka × Ka)) (hU : ∀ x y, y ∈ mgetD m x [] → (x, y) ∈ U) : (m.flatMap (·.2)).length ≤ U.length := by
 have h1 := KbQ (U := U) (Kh7 g.1 fun p hp => by rw [← KhJ g.1 p hp]; exact Ka1 (g.2 p.1).1.1) (fun q hq => by
  obtain ⟨p, hp, h2⟩ := List.mem_flatMap.1 hq
  obtain ⟨y, hy, rfl⟩ := List.mem_map.1 h2
  exact hU _ _ (by rw [KhJ g.1 p hp]; exact hy))
 have h2 : ∀ m : Tm, (m.flatMap fun p => p.2.map fun y => (p.1, y)).length = (m.flatMap (·.2)).length := by
  intro m
  induction m with
  | nil => rfl
  | cons p m ih => simp only [List.flatMap_cons, List.length_append, List.length_map, ih]
 rw [h2] at h1; exact h1
theorem WR.univ2 {B : Nat} {ps : List Pr} {m1 m2 : Tm} (h : WR B ps m1 m2) (l : List Ka) : (univ m2 l).length ≤ l.length + ps.length := by
 have := flat_le h.g2 (ps.map fun p => (p.gY, p.gX)) (fun y x hx => List.mem_map.2 ⟨⟨x, y⟩, (h.of x y).1 hx, rfl⟩)
 unfold univ; simp only [List.length_append, List.length_map] at this ⊢; omega
theorem WR.up {B : Nat} {ps : List Pr} {m1 m2 : Tm} (h : WR B ps m1 m2) {l out : List Ka} (a : AllP m1 l out) : AllR (upR ps true) l out := AllR.congr a.toR fun x y => by unfold upR; rw [if_pos rfl]; exact h.on x y
theorem WR.down {B : Nat} {ps : List Pr} {m1 m2 : Tm} (h : WR B ps m1 m2) {l out : List Ka} (a : AllP m2 l out) : AllR (upR ps false) l out := AllR.congr a.toR fun x y => by unfold upR; rw [if_neg (by simp)]; exact h.of y x
end Go.Proofs.YtnfkijcmakgkmaaGreat.Ab
namespace Go.Proofs.YtnfkijcmakgkmaaGreat.Ab.Pq
open Go
set_option linter.all false
def kp (F G : List ByteArray) (k : Ka) : Bool := if k.gNode < 0 then hasS k.gName G else hasS k.gName F
theorem begin1_eq (k : Ka) {F G : List ByteArray} (hF : F.length ≤ 4000000) (hG : G.length ≤ 4000000) : Kc9 k G F = some (!(kp F G k)) := by
 unfold Kc9 kp
 by_cases h : k.gNode < 0
 ·rw [decide_eq_true h, cond_true, if_pos h, Kfg _ hG]; rfl
 ·rw [decide_eq_false h, cond_false, if_neg h, Kfg _ hF]; rfl
abbrev OR (R1 R2 : Ka → Ka → Prop) (x y : Ka) : Prop := R1 x y ∨ R2 x y
structure OfI (R1 R2 : Ka → Ka → Prop) (b out : List Ka) : Prop where
 row : RowC out
 sub : ∀ k ∈ b, k ∈ out
 min : ∀ S : Ka → Prop, (∀ k ∈ b, S k) → (∀ x, S x → ∀ y, OR R1 R2 x y → S y) → ∀ k ∈ out, S k
theorem RowC.cl {l : List Ka} (h : RowC l) : l.map clK = l := by
 have : ∀ m : List Ka, (∀ x ∈ m, clK x = x) → m.map clK = m := fun m hm => by
  induction m with
  | nil => rfl
  | cons x m ih => rw [List.map_cons, hm x (List.mem_cons_self ..), ih fun y hy => hm y (List.mem_cons_of_mem _ hy)]
 exact this l h.2
theorem OfI.start (R1 R2 : Ka → Ka → Prop) {b : List Ka} (h : RowC b) : OfI R1 R2 b b := ⟨h, fun _ k => k, fun _ s _ k hk => s k hk⟩
theorem OfI.step1 {R1 R2 : Ka → Ka → Prop} {b out o1 : List Ka} (h : OfI R1 R2 b out) (a : AllR R1 out o1) : OfI R1 R2 b o1 ∧ ∀ k ∈ out, k ∈ o1 := by
 have hs : ∀ k ∈ out, k ∈ o1 := fun k hk => a.2.1 k (by rw [h.row.cl]; exact hk)
 refine ⟨⟨a.1, fun k hk => hs k (h.sub k hk), fun S s1 s2 => a.2.2.2 S (fun k hk => ?_) (fun x hx y hy => s2 x hx y (.inl hy))⟩, hs⟩
 rw [h.row.cl] at hk
 exact h.min S s1 s2 k hk
theorem OfI.step2 {R1 R2 : Ka → Ka → Prop} {b out o1 : List Ka} (h : OfI R1 R2 b out) (a : AllR R2 out o1) : OfI R1 R2 b o1 ∧ ∀ k ∈ out, k ∈ o1 := by
 have hs : ∀ k ∈ out, k ∈ o1 := fun k hk => a.2.1 k (by rw [h.row.cl]; exact hk)
 refine ⟨⟨a.1, fun k hk => hs k (h.sub k hk), fun S s1 s2 => a.2.2.2 S (fun k hk => ?_) (fun x hx y hy => s2 x hx y (.inr hy))⟩, hs⟩
 rw [h.row.cl] at hk
 exact h.min S s1 s2 k hk
theorem Kji {l m : List Ka} (hl : RowC l) (hm : RowC m) (hs : ∀ k ∈ l, k ∈ m) (hn : m.length ≤ l.length) : l = m :=
 KcD leK_an hl.1 hm.1 fun x => ⟨fun h => hs x h, fun h => Khc (Ka1 hl.1) (Ka1 hm.1) hs hn x h⟩
theorem OfI.done {R1 R2 : Ka → Ka → Prop} {b out o1 o2 : List Ka} (hb : RowC b) (h : OfI R1 R2 b out) (a1 : AllR R1 out o1) (a2 : AllR R2 o1 o2) (hn : o2.length = out.length) : o2 = out ∧ AllR (OR R1 R2) b o2 := by
 obtain ⟨h1, s1⟩ := h.step1 a1
 obtain ⟨h2, s2⟩ := h1.step2 a2
 have e : out = o2 := Kji h.row h2.row (fun k hk => s2 k (s1 k hk)) (by omega)
 refine ⟨e.symm, h2.row, fun k hk => h2.sub k (by rw [hb.cl] at hk; exact hk), fun x hx y hy => ?_, fun S t1 t2 => h2.min S (fun k hk => t1 k (by rw [hb.cl]; exact hk)) t2⟩
 rcases hy with hy | hy
 ·rw [← e] at hx
  exact s2 y (a1.2.2.1 x (s1 x hx) y hy)
 ·exact a2.2.2.1 x hx y hy
theorem OfI.len {ps qs : List Pr} {b out : List Ka} (h : OfI (upR ps false) (upR qs false) b out) : out.length ≤ b.length + (ps.length + qs.length) := by
 have := KbQ (U := b ++ (ps.map (toP false) ++ qs.map (toP false))) (Ka1 h.row.1) fun k hk => by
  refine h.min (· ∈ b ++ (ps.map (toP false) ++ qs.map (toP false))) (fun k hk => List.mem_append_left _ hk) (fun x _ y hy => ?_) k hk
  rcases hy with hy | hy
  ·obtain ⟨p, hp, _, rfl⟩ := Kev.1 hy
   exact List.mem_append_right _ (List.mem_append_left _ (List.mem_map.2 ⟨p, hp, rfl⟩))
  ·obtain ⟨p, hp, _, rfl⟩ := Kev.1 hy
   exact List.mem_append_right _ (List.mem_append_right _ (List.mem_map.2 ⟨p, hp, rfl⟩))
 simpa using this
theorem row_mono {l m : List Ka} (hl : RowC l) (hs : ∀ k ∈ l, k ∈ m) : l.length ≤ m.length := KbQ (Ka1 hl.1) hs
end Go.Proofs.YtnfkijcmakgkmaaGreat.Ab.Pq
namespace Go.Proofs.YtnfkijcmakgkmaaGreat.Ab
open Go Go.RowKit Go.Shelf Go.Proofs Go.Proofs.YtnfkijcmakgkmaaGreat.Ab.Pq
set_option linter.all false
structure YW where
 p : Nat
 b1 : Nat
 b2 : Nat
 T : TypeId
 e1 : Ties
 e2 : Ties
def webH (z : YW) : List (Nat × Blk) := (z.p, .cells [.v (.map (some z.b1)), .v (.map (some z.b2))] z.T) :: (tieH z.b1 z.e1 ++ tieH z.b2 z.e2)
theorem mk_map (T : TypeId) (w : World) : (Instr.makeMap T none).run Tryz.prog w = .ok (.map (some w.heap.size)) (w.alloc (.map #[] 0)) := rfl
theorem New_calls (H : Hp) (w : World) (hA : Ag H w) : Calls Tryz.prog 13 #[] w fun e w' => ∃ z : YW, e = .returned (.pointer (some ⟨z.p, 0, none⟩)) ∧ Core ⟨H, w, []⟩ H (webH z) [] w' ∧ z.e1 = [] ∧ z.e2 = [] := by
 have c1 := Core.allocMap (Core.here hA)
 have c2 := Core.allocMap c1
 have c3 := Core.alloc c2 (ds := [.v (.map (some w.heap.size)), .v (.map (some (w.heap.size + 1)))]) (us := [.map (some w.heap.size), .map (some (w.heap.size + 1))]) 68 (KbR H [.map (some w.heap.size), .map (some (w.heap.size + 1))] rfl)
 go_enter Tryz.func13, Tryz.ntmps13
 go_wp2_with fail
 rw [mk_map]
 go_wp2_with fail
 rw [mk_map]
 go_wp2
 go_ret
 refine ⟨⟨w.heap.size + 1 + 1, w.heap.size, w.heap.size + 1, 68, [], []⟩, rfl, ?_, rfl, rfl⟩
 simp only [World.size_alloc] at c3
 refine Core.perm c3 ?_ (List.Perm.refl _)
 show ([(w.heap.size + 1, Blk.mp []), (w.heap.size, Blk.mp [])] ++ [_]).Perm (_ :: [(w.heap.size, Blk.mp []), (w.heap.size + 1, Blk.mp [])])
 exact (List.perm_append_singleton _ _).trans (List.Perm.cons _ (List.Perm.swap _ _ _))
theorem web_box {H : Hp} {W : World} {z : YW} (h : ∀ p ∈ webH z, BlkOK H W p) : W.cell? ⟨z.p, 0, none⟩ = some (.map (some z.b1)) ∧ W.cell? ⟨z.p, 1, none⟩ = some (.map (some z.b2)) := by
 obtain ⟨us, h1, h2, _⟩ := h (z.p, .cells [.v (.map (some z.b1)), .v (.map (some z.b2))] z.T) (by simp [webH])
 have := Kcb (us := [.map (some z.b1), .map (some z.b2)]) h2; subst this
 simp [World.cell?, h1]
theorem web_t2 {H : Hp} {W : World} {z : YW} (h : ∀ p ∈ webH z, BlkOK H W p) : ∀ p ∈ tieH z.b2 z.e2, BlkOK H W p := fun p hp => h p (List.mem_cons_of_mem _ (List.mem_append_right _ hp))
theorem Kjw (H : Hp) (w : World) (hA : Ag H w) (z : YW) (hs : ∀ p ∈ webH z, BlkOK H w p) (l : List Ka) (v : Value) (hv : SlK w.heap.size w v l) (hr : ∀ x, RowC (mgetD (tieL z.e2) x [])) (hN : (univ (tieL z.e2) l).length < 4398046511104) :
  Calls Tryz.prog 27 #[.pointer (some ⟨z.p, 0, none⟩), v] w fun e w' => ∃ (out : List Ka) (y : Z3), e = .returned (SL y) ∧ Core ⟨H, w, []⟩ H [(0, .row 2 (out.map Kf) (SL y))] [] w' ∧ AllP (tieL z.e2) l out := by
 have hal := all_calls H w hA z.b2 z.e2 l v hv (web_t2 hs) hr hN
 obtain ⟨m0, m1⟩ := web_box hs
 obtain ⟨va, vn, vm, rfl⟩ : ∃ a n m, v = .slice a n m := by obtain ⟨a, cap, e1, _⟩ := hv; exact ⟨_, _, _, e1⟩
 go_enter Tryz.func27, Tryz.ntmps27
 go_wp2_with fail
 refine hal.mono ?_
 rintro e w1 ⟨out, y, rfl, hc, hp⟩
 go_wp2
 go_ret
 exact ⟨out, y, rfl, hc, hp⟩
end Go.Proofs.YtnfkijcmakgkmaaGreat.Ab
namespace Go.Proofs.YtnfkijcmakgkmaaGreat.Ab
open Go Go.RowKit Go.Shelf Go.Proofs Go.Proofs.YtnfkijcmakgkmaaGreat.Ab.Pq
set_option linter.all false
theorem Kgu (W : World) (b o : Nat) (v : Value) (c : Array Value) (T : TypeId) (h : W.heap[b]? = some (.cells c T (0, 0))) (i : Nat) : (W.setCell ⟨b, o, none⟩ v).heap[i]? = if i = b then some (.cells (c.setIfInBounds o v) T (0, 0)) else W.heap[i]? := by
 by_cases q : i = b
 ·subst q
  rw [if_pos rfl]
  simp only [World.setCell, Array.getElem?_modify, if_pos rfl, h, Option.map_some]
  rfl
 ·rw [if_neg q]
  simp only [World.setCell, Array.getElem?_modify]
  rw [if_neg (fun e => q e.symm)]
theorem Kgv (W : World) (p : Addr) (v : Value) : (W.setCell p v).heap.size = W.heap.size := by simp
theorem key_fro {H : Hp} {W : World} {b : Nat} {T : TypeId} {x : Ka} (h : BlkOK H W (b, .cells ((kc2 x).map .v) T)) : W.frozen? ⟨b, 0, none⟩ = false ∧ W.frozen? ⟨b, 1, none⟩ = false := by
 obtain ⟨us, h1, h2, _⟩ := h
 have := Kcb h2; subst this
 simp [World.frozen?, h1]
theorem KiP {C : Ctx} {H : Hp} {h : List (Nat × Blk)} {W : World} (c : Core C H h [] W) {j b : Nat} {x y : Ka} {T : TypeId} (hj : h[j]? = some (b, .cells ((kc2 x).map .v) T)) :
  Core C H (h.set j (b, .cells ((kc2 y).map .v) T)) [] ((W.setCell ⟨b, 0, none⟩ (.string y.gName)).setCell ⟨b, 1, none⟩ (.int .i64 y.gNode)) := by
 obtain ⟨us, h1, h2, _⟩ := c.blks _ (List.mem_of_getElem? hj)
 have := Kcb h2; subst this
 have e1 := Kgu W b 0 (.string y.gName) _ T h1
 have hb1 : (W.setCell ⟨b, 0, none⟩ (.string y.gName)).heap[b]? = some (.cells #[.string y.gName, .int .i64 x.gNode] T (0, 0)) := by rw [e1, if_pos rfl]; rfl
 have e2 := Kgu _ b 1 (.int .i64 y.gNode) _ T hb1
 refine Core.write c hj ⟨rfl, rfl, rfl, Nat.le_refl _⟩ (by rw [Kgv, Kgv]) (fun i hi => ?_) (us' := kc2 y) ?_ (KbR H (kc2 y) rfl)
 ·rw [e2, if_neg hi, e1, if_neg hi]
 ·rw [e2, if_pos rfl]; rfl
def keepQ (A : Act) (R : World → Prop) : Exit → Act → World → Prop
 | .normal, a', w' => a' = A ∧ R w'
 | _, _, _ => False
theorem KgL {P : Program} {c : Code} {Q : Exit → Act → World → Prop} {a A : Act} {w : World} (R : World → Prop) (h : c.wp P (keepQ A R) a w) (k : ∀ w', R w' → Q .normal A w') : c.wp P Q a w :=
 wp_mono h (by
  intro e a' w' hq
  cases e with
  | normal => obtain ⟨rfl, hr⟩ := hq; exact k w' hr
  | _ => exact hq.elim)
theorem web_pm1 (z : YW) (ex : List (Nat × Blk)) : (webH z ++ ex).Perm (tieH z.b1 z.e1 ++ ((z.p, .cells [.v (.map (some z.b1)), .v (.map (some z.b2))] z.T) :: tieH z.b2 z.e2 ++ ex)) := by
 unfold webH
 simp only [List.cons_append, List.append_assoc]
 exact List.perm_middle.symm
theorem web_pm2 (z : YW) (ex : List (Nat × Blk)) : (webH z ++ ex).Perm (tieH z.b2 z.e2 ++ ((z.p, .cells [.v (.map (some z.b1)), .v (.map (some z.b2))] z.T) :: tieH z.b1 z.e1 ++ ex)) := by
 unfold webH
 simp only [List.cons_append, List.append_assoc]
 refine List.Perm.trans ?_ List.perm_middle.symm
 refine List.Perm.cons _ ?_
 rw [← List.append_assoc, ← List.append_assoc]
 exact List.Perm.append_right _ List.perm_append_comm
theorem web_turn1 {C : Ctx} {H : Hp} {z : YW} {ex : List (Nat × Blk)} {W W' : World} {e' : Ties} (c : Core C H (webH z ++ ex) [] W) (c' : Core ⟨H, W, Ks (tieH z.b1 z.e1) []⟩ H (tieH z.b1 e') [] W') : Core C H (webH ⟨z.p, z.b1, z.b2, z.T, e', z.e2⟩ ++ ex) [] W' := by
 have q := Core.call (k1 := []) (k2 := []) (c.perm (web_pm1 z ex) (List.Perm.refl _)) c'
 exact q.perm (web_pm1 ⟨z.p, z.b1, z.b2, z.T, e', z.e2⟩ ex).symm (List.Perm.refl _)
theorem web_turn2 {C : Ctx} {H : Hp} {z : YW} {ex : List (Nat × Blk)} {W W' : World} {e' : Ties} (c : Core C H (webH z ++ ex) [] W) (c' : Core ⟨H, W, Ks (tieH z.b2 z.e2) []⟩ H (tieH z.b2 e') [] W') : Core C H (webH ⟨z.p, z.b1, z.b2, z.T, z.e1, e'⟩ ++ ex) [] W' := by
 have q := Core.call (k1 := []) (k2 := []) (c.perm (web_pm2 z ex) (List.Perm.refl _)) c'
 exact q.perm (web_pm2 ⟨z.p, z.b1, z.b2, z.T, z.e1, e'⟩ ex).symm (List.Perm.refl _)
theorem web_nd1 {C : Ctx} {H : Hp} {z : YW} {ex : List (Nat × Blk)} {W : World} (c : Core C H (webH z ++ ex) [] W) : (Ks (tieH z.b1 z.e1) []).Nodup :=
 (c.perm (web_pm1 z ex) (List.Perm.refl _)).drop (List.sublist_append_left _ _) (List.Sublist.refl _) |>.nd
theorem web_nd2 {C : Ctx} {H : Hp} {z : YW} {ex : List (Nat × Blk)} {W : World} (c : Core C H (webH z ++ ex) [] W) : (Ks (tieH z.b2 z.e2) []).Nodup :=
 (c.perm (web_pm2 z ex) (List.Perm.refl _)).drop (List.sublist_append_left _ _) (List.Sublist.refl _) |>.nd
theorem clK_idem (x : Ka) : clK (clK x) = clK x := by
 unfold clK; simp
theorem Add_calls (H : Hp) (w : World) (hA : Ag H w) (z : YW) (hs : ∀ p ∈ webH z, BlkOK H w p) (nd : (Ks (webH z) []).Nodup) (x y : Ka)
    (hr1 : RowC (mgetD z.e1 (clK x) zr0).1) (hl1 : (mgetD z.e1 (clK x) zr0).1.length < 4398046511104) (hr2 : RowC (mgetD z.e2 (clK y) zr0).1) (hl2 : (mgetD z.e2 (clK y) zr0).1.length < 4398046511104) :
    Calls Tryz.prog 14 #[.pointer (some ⟨z.p, 0, none⟩), encK x, encK y] w fun e w' => ∃ e1 e2, e = .returned (.tuple #[]) ∧ Core ⟨H, w, Ks (webH z) []⟩ H (webH ⟨z.p, z.b1, z.b2, z.T, e1, e2⟩) [] w' ∧ tieL e1 = tieF (tieL z.e1) (clK x) (clK y) ∧ tieL e2 = tieF (tieL z.e2) (clK y) (clK x) := by
  have mixed : Tryz.prog.follows .mixedOrders = true := by kernel_rfl
  obtain ⟨W1, hW1⟩ : ∃ W1, W1 = (w.alloc (Obj.cells #[Value.string x.gName, Value.int IntKind.i64 x.gNode] 41)).alloc (Obj.cells #[Value.string y.gName, Value.int IntKind.i64 y.gNode] 41) := ⟨_, rfl⟩
  have hs1 : W1.heap.size = w.heap.size + 2 := by rw [hW1]; simp
  have c1 : Core ⟨H, w, Ks (webH z) []⟩ H (webH z ++ [(w.heap.size, .cells ((kc2 x).map .v) 41), (w.heap.size + 1, .cells ((kc2 y).map .v) 41)]) [] W1 := by
    rw [hW1]
    have q := Core.alloc (Core.alloc (Ke7 hA hs nd (Below.refl _ w)) (ds := (kc2 x).map .v) (us := kc2 x) 41 (KbR H (kc2 x) rfl)) (ds := (kc2 y).map .v) (us := kc2 y) 41 (KbR H (kc2 y) rfl)
    simp only [List.append_assoc, List.singleton_append, World.size_alloc] at q
    exact q
  obtain ⟨x0, x1⟩ := Ka0 (c1.blks (w.heap.size, .cells ((kc2 x).map .v) 41) (by simp))
  obtain ⟨y0, y1⟩ := Ka0 (c1.blks (w.heap.size + 1, .cells ((kc2 y).map .v) 41) (by simp))
  have hclx : Calls Tryz.prog 30 #[encK x] W1.drew fun e W2 => e = .returned (encK (clK x)) ∧ Core ⟨H, w, Ks (webH z) []⟩ H (webH z ++ [(w.heap.size, .cells ((kc2 x).map .v) 41), (w.heap.size + 1, .cells ((kc2 y).map .v) 41)]) [] W2 :=
    (Kfd x W1.drew).mono fun e W2 ⟨he, hb⟩ => ⟨he, Core.call (h1 := []) (k1 := []) (Core.drew c1) (KaR (Core.drew c1).ag hb)⟩
  have hcly : ∀ W2, Core ⟨H, w, Ks (webH z) []⟩ H (webH z ++ [(w.heap.size, .cells ((kc2 x).map .v) 41), (w.heap.size + 1, .cells ((kc2 y).map .v) 41)]) [] W2 → Calls Tryz.prog 30 #[encK y] W2 fun e W3 => e = .returned (encK (clK y)) ∧ Core ⟨H, w, Ks (webH z) []⟩ H (webH z ++ [(w.heap.size, .cells ((kc2 x).map .v) 41), (w.heap.size + 1, .cells ((kc2 y).map .v) 41)]) [] W3 :=
    fun W2 c2 => (Kfd y W2).mono fun e W3 ⟨he, hb⟩ => ⟨he, Core.call (h1 := []) (k1 := []) c2 (KaR c2.ag hb)⟩
  simp only [encK] at hclx hcly ⊢
  have hne1 : ¬ (w.heap.size = w.heap.size + 1) := by omega
  have hne2 : ¬ (w.heap.size + 1 = w.heap.size) := by omega
  go_enter Tryz.func14, Tryz.ntmps14
  go_wp2
  rw [← hW1]
  clear hW1
  apply KgL (R := fun w' => Core ⟨H, w, Ks (webH z) []⟩ H (webH z ++ [(w.heap.size, .cells ((kc2 (clK x)).map .v) 41), (w.heap.size + 1, .cells ((kc2 (clK y)).map .v) 41)]) [] w')
  case h =>
    go_region_with_o (first
      | (go_at_call 30
         refine hclx.mono ?_
         rintro e W2 ⟨rfl, c2⟩
         obtain ⟨x2, x3⟩ := Ka0 (c2.blks (w.heap.size, .cells ((kc2 x).map .v) 41) (by simp))
         obtain ⟨y2, y3⟩ := Ka0 (c2.blks (w.heap.size + 1, .cells ((kc2 y).map .v) 41) (by simp)))
      | (go_at_call 30
         refine (hcly _ (by assumption)).mono ?_
         rintro e W3 ⟨rfl, c3⟩
         obtain ⟨x4, x5⟩ := Ka0 (c3.blks (w.heap.size, .cells ((kc2 x).map .v) 41) (by simp))
         obtain ⟨y4, y5⟩ := Ka0 (c3.blks (w.heap.size + 1, .cells ((kc2 y).map .v) 41) (by simp))
         obtain ⟨x6, x7⟩ := key_fro (c3.blks (w.heap.size, .cells ((kc2 x).map .v) 41) (by simp))
         obtain ⟨y6, y7⟩ := key_fro (c3.blks (w.heap.size + 1, .cells ((kc2 y).map .v) 41) (by simp))))
    all_goals
      refine ⟨rfl, ?_⟩
      have d1 := KiP (y := clK x) c3 (j := (webH z).length) (b := w.heap.size) (by rw [List.getElem?_append_right (Nat.le_refl _), Nat.sub_self]; rfl)
      have d2 := KiP (y := clK y) d1 (j := (webH z).length + 1) (b := w.heap.size + 1) (x := y) (T := 41) (by
        rw [List.getElem?_set_ne (by omega), List.getElem?_append_right (by omega), Nat.add_sub_cancel_left]; rfl)
      have he : ∀ (p q p' q' : Nat × Blk), (((webH z ++ [p, q]).set (webH z).length p').set ((webH z).length + 1) q') = webH z ++ [p', q'] := by
        intro p q p' q'
        rw [List.set_append_right _ _ (Nat.le_refl _), Nat.sub_self, List.set_append_right _ _ (by omega), Nat.add_sub_cancel_left]; rfl
      rw [he] at d2
      exact d2
  clear hclx hcly x0 x1 y0 y1 c1 hs1
  intro W2 c2
  obtain ⟨x2, x3⟩ := Ka0 (c2.blks (w.heap.size, .cells ((kc2 (clK x)).map .v) 41) (by simp))
  obtain ⟨y2, y3⟩ := Ka0 (c2.blks (w.heap.size + 1, .cells ((kc2 (clK y)).map .v) 41) (by simp))
  obtain ⟨m0, m1⟩ := web_box (z := z) (fun p hp => c2.blks p (List.mem_append_left _ hp))
  have ht1 : Calls Tryz.prog 31 #[.map (some z.b1), encK (clK x), encK (clK y)] W2.drew fun e w' => ∃ e1, e = .returned (.tuple #[]) ∧ Core ⟨H, w, Ks (webH z) []⟩ H (webH ⟨z.p, z.b1, z.b2, z.T, e1, z.e2⟩ ++ [(w.heap.size, .cells ((kc2 (clK x)).map .v) 41), (w.heap.size + 1, .cells ((kc2 (clK y)).map .v) 41)]) [] w' ∧ tieL e1 = tieF (tieL z.e1) (clK x) (clK y) :=
    (KiK H W2.drew (Core.drew c2).ag z.b1 z.e1 (clK x) (clK y) (fun p hp => (Core.drew c2).blks p (List.mem_append_left _ (List.mem_cons_of_mem _ (List.mem_append_left _ hp)))) (web_nd1 c2) (clK_idem y) hr1 hl1).mono fun e w' ⟨e1, he, hc, hl⟩ => ⟨e1, he, web_turn1 (Core.drew c2) hc, hl⟩
  simp only [encK] at ht1
  go_wp2
  apply KgL (R := fun w' => ∃ e1, Core ⟨H, w, Ks (webH z) []⟩ H (webH ⟨z.p, z.b1, z.b2, z.T, e1, z.e2⟩ ++ [(w.heap.size, .cells ((kc2 (clK x)).map .v) 41), (w.heap.size + 1, .cells ((kc2 (clK y)).map .v) 41)]) [] w' ∧ tieL e1 = tieF (tieL z.e1) (clK x) (clK y))
  case h =>
    go_region_with_o (
      go_at_call 31
      refine ht1.mono ?_
      rintro e W3 ⟨e1, rfl, c3, he1⟩)
    all_goals
      exact ⟨rfl, e1, c3, he1⟩
  clear ht1 x2 x3 y2 y3 m0 m1 c2
  rintro W3 ⟨e1, c3, he1⟩
  obtain ⟨x2, x3⟩ := Ka0 (c3.blks (w.heap.size, .cells ((kc2 (clK x)).map .v) 41) (by simp))
  obtain ⟨y2, y3⟩ := Ka0 (c3.blks (w.heap.size + 1, .cells ((kc2 (clK y)).map .v) 41) (by simp))
  obtain ⟨m0, m1⟩ := web_box (z := ⟨z.p, z.b1, z.b2, z.T, e1, z.e2⟩) (fun p hp => c3.blks p (List.mem_append_left _ hp))
  have ht1 : Calls Tryz.prog 31 #[.map (some z.b2), encK (clK y), encK (clK x)] W3.drew fun e w' => ∃ e2, e = .returned (.tuple #[]) ∧ Core ⟨H, w, Ks (webH z) []⟩ H (webH ⟨z.p, z.b1, z.b2, z.T, e1, e2⟩ ++ [(w.heap.size, .cells ((kc2 (clK x)).map .v) 41), (w.heap.size + 1, .cells ((kc2 (clK y)).map .v) 41)]) [] w' ∧ tieL e2 = tieF (tieL z.e2) (clK y) (clK x) :=
    (KiK H W3.drew (Core.drew c3).ag z.b2 z.e2 (clK y) (clK x) (fun p hp => (Core.drew c3).blks p (List.mem_append_left _ (List.mem_cons_of_mem _ (List.mem_append_right _ hp)))) (web_nd2 (z := ⟨z.p, z.b1, z.b2, z.T, e1, z.e2⟩) c3) (clK_idem x) hr2 hl2).mono fun e w' ⟨e2, he, hc, hl⟩ => ⟨e2, he, web_turn2 (z := ⟨z.p, z.b1, z.b2, z.T, e1, z.e2⟩) (Core.drew c3) hc, hl⟩
  simp only [encK] at ht1
  go_wp2
  apply KgL (R := fun w' => ∃ e2, Core ⟨H, w, Ks (webH z) []⟩ H (webH ⟨z.p, z.b1, z.b2, z.T, e1, e2⟩ ++ [(w.heap.size, .cells ((kc2 (clK x)).map .v) 41), (w.heap.size + 1, .cells ((kc2 (clK y)).map .v) 41)]) [] w' ∧ tieL e2 = tieF (tieL z.e2) (clK y) (clK x))
  case h =>
    go_region_with_o (
      go_at_call 31
      refine ht1.mono ?_
      rintro e W4 ⟨e2, rfl, c4, he2⟩)
    all_goals
      exact ⟨rfl, e2, c4, he2⟩
  rintro W4 ⟨e2, c4, he2⟩
  go_end0
  exact ⟨e1, e2, rfl, c4.drop (List.sublist_append_left _ _) (List.Sublist.refl _), he1, he2⟩
end Go.Proofs.YtnfkijcmakgkmaaGreat.Ab
namespace Go.Proofs.YtnfkijcmakgkmaaGreat.Ab
open Go Go.RowKit Go.Shelf Go.Proofs Go.Proofs.YtnfkijcmakgkmaaGreat.Ab.Pq
set_option linter.all false
abbrev KL (H : Hp) (l : List Ka) (v : Value) : Prop := Rep H (.lst 2 (l.map Kf) .no) v
abbrev PL (H : Hp) (l : List KX) (v : Value) : Prop := Rep H (.lst 4 (l.map KZ) .no) v
theorem rep_no {H : Hp} {k : Nat} {xs : List D} {c : Cap} {v : Value} (h : Rep H (.lst k xs c) v) : Rep H (.lst k xs .no) v := by
 obtain ⟨h1, h2⟩ := h
 refine ⟨?_, by cases v <;> simpa [D.shape] using h2⟩
 simp only [RepC] at h1 ⊢
 obtain ⟨y, g1, _, g3⟩ := h1
 exact ⟨y, g1, trivial, g3⟩
theorem rep_sl {H : Hp} {k : Nat} {xs : List D} {c : Cap} {v : Value} (h : Rep H (.lst k xs c) v) : ∃ a m, v = .slice a xs.length m := by
 obtain ⟨_, h⟩ := KaH h
 rcases h with ⟨e, a, m, rfl, _⟩ | ⟨b, off, m, rfl, _, _⟩
 ·exact ⟨a, m, by rw [e]; rfl⟩
 ·exact ⟨_, m, rfl⟩
theorem Kbb {α : Type} {f : α → D} {H : Hp} {k : Nat} {xs : List α} {c : Cap} {v : Value} (h : Rep H (.lst k (xs.map f) c) v) : ∃ a m, v = .slice a xs.length m := by
 obtain ⟨a, m, e⟩ := rep_sl h
 exact ⟨a, m, by rw [e, List.length_map]⟩
theorem rep_key (H : Hp) (x : Ka) : Rep H (Kf x) (encK x) := rep_va H (us := kc2 x) rfl
theorem core_tell {C : Ctx} {H : Hp} {h : List (Nat × Blk)} {W : World} {r : Nat} {l : List Ka} {z : Z3} (c : Core C H ((r, .row 2 (l.map Kf) (SL z)) :: h) [] W) : ∃ H', H.le H' ∧ Core C H' h [] W ∧ KL H' l (SL z) := by
 obtain ⟨H', hle, c'⟩ := KfM c.ag (c.blks _ (List.mem_cons_self ..))
 have hto := rep_no (Kfn (c'.blks _ (List.mem_singleton.2 rfl)))
 have q := Core.call (h1 := [(r, .row 2 (l.map Kf) (SL z))]) (h2 := h) (k1 := []) (k2 := []) c c'
 exact ⟨H', hle, q.drop (List.sublist_cons_self _ _) (List.nil_sublist _), hto⟩
theorem doc_calls {f : FuncId} {ds : List D} {us : Array Value} {kk : Nat} {xs : List D} (c : CallsD Tryz.prog f ds [] [] (fun d h k => ∃ y0, d = .lst kk xs (.cur y0) ∧ h = [] ∧ k = [(kk, y0)])) {C : Ctx} {H : Hp} {h : List (Nat × Blk)} {W : World} (cW : Core C H h [] W) (hv : RepsV H ds us.toList) :
  Calls Tryz.prog f us W fun e w' => ∃ H' v, e = .returned v ∧ H.le H' ∧ Core C H' h [] w' ∧ Rep H' (.lst kk xs .no) v := by
 refine (c.2 H W us.toList hv cW.ag (by simp) (by simp) (by simp [Ks])).mono fun e w' ⟨v, H', d, h', k', he, hr, hc, y0, e1, e2, e3⟩ => ?_
 subst e1; subst e2; subst e3
 exact ⟨H', v, he, hc.le, (Core.call (h1 := []) (k1 := []) (k2 := []) cW hc).drop (List.Sublist.refl _) (List.nil_sublist _), rep_no hr⟩
end Go.Proofs.YtnfkijcmakgkmaaGreat.Ab
namespace Go.Proofs.YtnfkijcmakgkmaaGreat.Ab
open Go Go.RowKit Go.Shelf Go.Proofs Go.Proofs.YtnfkijcmakgkmaaGreat.Ab.Pq
set_option linter.all false
theorem web_add {C : Ctx} {H : Hp} {z : YW} {W : World} {B : Nat} {ps : List Pr} (c : Core C H (webH z) [] W) (r : WR B ps (tieL z.e1) (tieL z.e2)) (hB : B < 4398046511104) (x y : Ka) :
  Calls Tryz.prog 14 #[.pointer (some ⟨z.p, 0, none⟩), encK x, encK y] W fun e w' => ∃ z' : YW, e = .returned (.tuple #[]) ∧ z'.p = z.p ∧ Core C H (webH z') [] w' ∧ WR (B + 1) (addP ps (clK x) (clK y)) (tieL z'.e1) (tieL z'.e2) := by
 have q1 := r.g1.2 (clK x)
 have q2 := r.g2.2 (clK y)
 rw [mgetL] at q1 q2
 refine (Add_calls H W c.ag z c.blks c.nd x y q1.1 (Nat.lt_of_le_of_lt q1.2 hB) q2.1 (Nat.lt_of_le_of_lt q2.2 hB)).mono ?_
 rintro e w' ⟨e1, e2, he, hc, h1, h2⟩
 refine ⟨⟨z.p, z.b1, z.b2, z.T, e1, e2⟩, he, rfl, ?_, ?_⟩
 ·have := Core.call (h2 := []) (k1 := []) (k2 := []) (by rw [List.append_nil]; exact c) hc
  simpa using this
 ·rw [h1, h2]; exact r.add (Kfq x) (Kfq y)
theorem doc_add {C : Ctx} {H : Hp} {h : List (Nat × Blk)} {W : World} (c : Core C H h [] W) {ps : List Pr} {v : Value} (hv : PL H ps v) (hl : ps.length ≤ 2097152) (x y : Ka) :
  Calls Tryz.prog 15 #[v, encK x, encK y] W fun e w' => ∃ H' v', e = .returned v' ∧ H.le H' ∧ Core C H' h [] w' ∧ PL H' (addP ps (clK x) (clK y)) v' :=
 doc_calls (r29_Add_ok ps x y _ (radd_eq ps x y hl)) c (by simp only [RepsV]; exact ⟨_, _, rfl, hv, _, _, rfl, rep_key H x, _, _, rfl, rep_key H y, rfl⟩)
end Go.Proofs.YtnfkijcmakgkmaaGreat.Ab
namespace Go.Proofs.YtnfkijcmakgkmaaGreat.Ab
open Go Go.RowKit Go.Shelf Go.Proofs Go.Proofs.YtnfkijcmakgkmaaGreat.Ab.Pq
set_option linter.all false
theorem pl_nil (H : Hp) : PL H [] (.slice none 0 0) := by
 refine ⟨?_, rfl⟩
 simp only [RepC]
 exact ⟨_, rfl, trivial, .inl ⟨rfl, none, 0, rfl, fun _ => rfl⟩⟩
end Go.Proofs.YtnfkijcmakgkmaaGreat.Ab
namespace Go.Proofs.YtnfkijcmakgkmaaGreat.Ab
open Go Go.RowKit Go.Shelf Go.Proofs Go.Proofs.YtnfkijcmakgkmaaGreat.Ab.Pq
set_option linter.all false
theorem kl_cells {H : Hp} {W : World} (hA : Ag H W) {l : List Ka} {a : Option Addr} {n m : Nat} (h : KL H l (.slice a n m)) {i : Nat} {x : Ka} (hx : l[i]? = some x) :
  ∃ b off, a = some ⟨b, off, none⟩ ∧ W.cell? ⟨b, off + i * 2, none⟩ = some (.string x.gName) ∧ W.cell? ⟨b, off + i * 2 + 1, none⟩ = some (.int .i64 x.gNode) := by
 obtain ⟨a', cap, e1, e2⟩ := KfR hA h
 simp only [Value.slice.injEq] at e1
 obtain ⟨rfl, _, _⟩ := e1
 obtain ⟨b, off, e, _, g3, g4⟩ := e2 i x hx
 exact ⟨b, off, e, g3, g4⟩
end Go.Proofs.YtnfkijcmakgkmaaGreat.Ab
namespace Go.Proofs.YtnfkijcmakgkmaaGreat.Ab
open Go Go.RowKit Go.Shelf Go.Proofs Go.Proofs.YtnfkijcmakgkmaaGreat.Ab.Pq
set_option linter.all false
theorem KL.mono {H H' : Hp} {l : List Ka} {v : Value} (h : H.le H') (k : KL H l v) : KL H' l v := Rep.mono h k
theorem PL.mono {H H' : Hp} {l : List KX} {v : Value} (k : PL H l v) (h : H.le H') : PL H' l v := Rep.mono h k
theorem AllR.len {ps : List Pr} {up : Bool} (hc : CP ps) {l out : List Ka} (h : AllR (upR ps up) l out) : out.length ≤ l.length + ps.length := by
 rw [h.unique (Kgt hc l up)]
 have := KhI (up := up) hc (rowK l) ps.length (rowK l) (KeJ l) (fun k hk => .inl hk) (Nat.le_refl _)
 have h2 := KbQ (U := l.map clK ++ ps.map (toP up)) (Ka1 (Kgt hc l up).1.1) (fun k hk => by
  refine (Kgt hc l up).2.2.2 (· ∈ l.map clK ++ ps.map (toP up)) (fun k hk => List.mem_append_left _ hk) (fun x _ y hy => ?_) k hk
  obtain ⟨p, hp, _, rfl⟩ := Kev.1 hy
  exact List.mem_append_right _ (List.mem_map.2 ⟨p, hp, rfl⟩))
 simpa using h2
end Go.Proofs.YtnfkijcmakgkmaaGreat.Ab
namespace Go.Proofs.YtnfkijcmakgkmaaGreat
open Go Go.RowKit
set_option linter.all false
abbrev Hp := Addr → Option Value
def Hp.le (H H' : Hp) : Prop := ∀ a v, H a = some v → H' a = some v
theorem Hp.le_refl (H : Hp) : H.le H := fun _ _ h => h
theorem Hp.le_trans {H H' H'' : Hp} (h : H.le H') (k : H'.le H'') : H.le H'' := fun a v x => k a v (h a v x)
def Ag (H : Hp) (w : World) : Prop := ∀ a v, H a = some v → w.cell? a = some v
theorem cell_lt {w : World} {a : Addr} {v : Value} (h : w.cell? a = some v) : a.block < w.heap.size := by
 unfold World.cell? at h
 rcases Nat.lt_or_ge a.block w.heap.size with hl | hl
 ·exact hl
 ·rw [Array.getElem?_eq_none hl] at h; cases h
theorem Ag.lt {H : Hp} {w : World} (h : Ag H w) {a : Addr} {v : Value} (ha : H a = some v) : a.block < w.heap.size := cell_lt (h a v ha)
theorem Ag.below {H : Hp} {w w' : World} (h : Ag H w) (hb : Below w.heap.size w w') : Ag H w' := fun a v ha => by rw [hb.cell (p := a) (h.lt ha)]; exact h a v ha
theorem Ag.drew {H : Hp} {w : World} (h : Ag H w) : Ag H w.drew := h
theorem Ag.alloc {H : Hp} {w : World} (h : Ag H w) (o : Obj) : Ag H (w.alloc o) := h.below ((Below.refl _ _).alloc (Nat.le_refl _) o)
structure Grow (H : Hp) (w : World) (H' : Hp) (w' : World) : Prop where
 le : H.le H'
 new : ∀ a v, H' a = some v → H a = some v ∨ w.heap.size ≤ a.block
 ag : Ag H' w'
 below : Below w.heap.size w w'
theorem Grow.refl {H : Hp} {w : World} (h : Ag H w) : Grow H w H w := ⟨Hp.le_refl H, fun _ _ h => .inl h, h, Below.refl _ _⟩
theorem Grow.trans {H H1 H2 : Hp} {w w1 w2 : World} (h : Grow H w H1 w1) (k : Grow H1 w1 H2 w2) : Grow H w H2 w2 :=
 ⟨Hp.le_trans h.le k.le, fun a v x => by
  rcases k.new a v x with y | y
  ·exact h.new a v y
  ·exact .inr (Nat.le_trans h.below.size y), k.ag, h.below.trans (k.below.mono h.below.size)⟩
theorem Grow.of_below {H : Hp} {w w' : World} (h : Ag H w) (hb : Below w.heap.size w w') : Grow H w H w' := ⟨Hp.le_refl H, fun _ _ h => .inl h, h.below hb, hb⟩
theorem Grow.drew {H H' : Hp} {w w' : World} (h : Grow H w H' w') : Grow H w H' w'.drew := ⟨h.le, h.new, h.ag, h.below.drew⟩
theorem Grow.cell {H H' : Hp} {w w' : World} (h : Grow H w H' w') : (∀ b o, b < w.heap.size → w'.cell? ⟨b, o, none⟩ = w.cell? ⟨b, o, none⟩) ∧ (∀ b o, b < w.heap.size → w'.frozen? ⟨b, o, none⟩ = w.frozen? ⟨b, o, none⟩) :=
 ⟨fun b o hb => h.below.cell (p := ⟨b, o, none⟩) hb, fun b o hb => h.below.frozen (p := ⟨b, o, none⟩) hb⟩
def E : Hp := fun _ => none
theorem hp_alloc (w : World) (o : Obj) (k : Nat) : (w.alloc o).heap[k]? = if k = w.heap.size then some o else w.heap[k]? := by
 show (w.heap.push o)[k]? = _
 rw [Array.getElem?_push]
def setO (off : Nat) (v : Value) : Obj → Obj
 | .cells c e fr => .cells (c.setIfInBounds off v) e fr
 | o => o
theorem hp_setCell (w : World) (b o : Nat) (v : Value) (k : Nat) : (w.setCell ⟨b, o, none⟩ v).heap[k]? = if b = k then (w.heap[k]?).map (setO o v) else w.heap[k]? := by
 simp only [World.setCell, Array.getElem?_modify]
 by_cases h : b = k
 ·rw [if_pos h, if_pos h]
  cases w.heap[k]? with
  | none => rfl
  | some x => cases x <;> rfl
 ·rw [if_neg h, if_neg h]
def IsPtr (v : Value) (b : Nat) : Prop := v = .pointer (some ⟨b, 0, none⟩)
theorem IsPtr.inj {v : Value} {b b' : Nat} (h : IsPtr v b) (h' : IsPtr v b') : b = b' := by
 unfold IsPtr at *; rw [h] at h'; simpa using h'
structure Blk (H : Hp) (w : World) (n : Nat) (b : Nat) (c : Array Value) (T : TypeId) : Prop where
 ge : n ≤ b
 at_ : w.heap[b]? = some (.cells c T (0, 0))
 out : ∀ o, H ⟨b, o, none⟩ = none
theorem Blk.lt {H : Hp} {w : World} {n b : Nat} {c : Array Value} {T : TypeId} (h : Blk H w n b c T) : b < w.heap.size := (Array.getElem?_eq_some_iff.1 h.at_).1
theorem Blk.grow {H H' : Hp} {w w' : World} {n b : Nat} {c : Array Value} {T : TypeId} (h : Blk H w n b c T) (hg : Grow H w H' w') : Blk H' w' n b c T :=
  ⟨h.ge, by rw [hg.below.block b h.lt]; exact h.at_, fun o => by
    cases e : H' ⟨b, o, none⟩ with
    | none => rfl
    | some v =>
      rcases hg.new _ v e with x | x
      · rw [h.out] at x; cases x
      · have := h.lt; exact absurd x (by show ¬ w.heap.size ≤ b; omega)⟩
theorem Blk.new {H : Hp} {w : World} (hA : Ag H w) {n : Nat} (hn : n ≤ w.heap.size) (c : Array Value) (T : TypeId) : Blk H (w.alloc (.cells c T)) n w.heap.size c T :=
 ⟨hn, by show (w.heap.push _)[w.heap.size]? = _; simp, fun o => by
  cases e : H ⟨w.heap.size, o, none⟩ with
  | none => rfl
  | some v => exact absurd (hA.lt e) (Nat.lt_irrefl _)⟩
theorem Blk.alloc {H : Hp} {w : World} {n b : Nat} {c : Array Value} {T : TypeId} (h : Blk H w n b c T) (o : Obj) : Blk H (w.alloc o) n b c T :=
 ⟨h.ge, by rw [hp_alloc, if_neg (by have := h.lt; omega)]; exact h.at_, h.out⟩
theorem Blk.drew {H : Hp} {w : World} {n b : Nat} {c : Array Value} {T : TypeId} (h : Blk H w n b c T) : Blk H w.drew n b c T := ⟨h.ge, h.at_, h.out⟩
theorem Blk.set {H : Hp} {w : World} {n b : Nat} {c : Array Value} {T : TypeId} (h : Blk H w n b c T) (o : Nat) (v : Value) : Blk H (w.setCell ⟨b, o, none⟩ v) n b (c.setIfInBounds o v) T :=
 ⟨h.ge, by rw [hp_setCell, if_pos rfl, h.at_]; rfl, h.out⟩
theorem Blk.below {H : Hp} {w w' : World} {n b : Nat} {c : Array Value} {T : TypeId} (h : Blk H w n b c T) (hb : Below w.heap.size w w') : Blk H w' n b c T :=
 ⟨h.ge, by rw [hb.block b h.lt]; exact h.at_, h.out⟩
theorem Blk.cell {H : Hp} {w : World} {n b : Nat} {c : Array Value} {T : TypeId} (h : Blk H w n b c T) (o : Nat) : w.cell? ⟨b, o, none⟩ = c[o]? := by
 simp [World.cell?, h.at_]
theorem Blk.frozen {H : Hp} {w : World} {n b : Nat} {c : Array Value} {T : TypeId} (h : Blk H w n b c T) (o : Nat) : w.frozen? ⟨b, o, none⟩ = false := by
 simp [World.frozen?, h.at_]
structure St where
 r : Hp → World → Value → Prop
 st : ∀ H w H' w', Grow H w H' w' → ∀ v, r H w v → r H' w' v
def St.hp (p : Hp → Value → Prop) (hp : ∀ H H', Hp.le H H' → ∀ v, p H v → p H' v) : St := ⟨fun H _ v => p H v, fun H _ H' _ hg v h => hp H H' hg.le v h⟩
section
variable {P : Program} {ops : Array Oper} {Q : Exit → Act → World → Prop} {H0 : Hp} {w0 : World} {R : Nat → St} {pre : List (List Nat)} {ev al : List Nat} {l2 : List Oper} {vals : Nat → Value} {i : Nat} {o : Oper} {rest : List Oper} {a : Act}
end
end Go.Proofs.YtnfkijcmakgkmaaGreat
namespace Go.Proofs.YtnfkijcmakgkmaaGreat.Ab
open Go Go.RowKit Go.Shelf Go.Proofs Go.Proofs.YtnfkijcmakgkmaaGreat.Ab.Pq
set_option linter.all false
theorem Ke8 {H H' : Hp} {w w' : World} (c : Core ⟨H, w, []⟩ H' [] [] w') : Grow H w H' w' :=
 ⟨c.le, fun a v e => (c.new a v e).imp id (fun q => q.elim id (by simp)), c.ag, Ken c⟩
theorem core_grow {H H' : Hp} {w w' : World} (g : Grow H w H' w') : Core ⟨H, w, []⟩ H' [] [] w' :=
 ⟨g.ag, g.le, fun a v e => (g.new a v e).imp id .inl, fun b hb _ => g.below.block b hb, g.below.size, by simp, by simp, by simp [Ks], by simp [Ks], ⟨g.below.os, g.below.tape, g.below.output, Nat.le_refl _⟩⟩
theorem g_told {f : FuncId} {ds : List D} {us : Array Value} {d : D} (c : CallsD Tryz.prog f ds [] [] (fun d' h k => d' = d ∧ h = [] ∧ k = [])) {H : Hp} {w : World} (hA : Ag H w) (hv : RepsV H ds us.toList) :
  Calls Tryz.prog f us w fun e w' => ∃ v, e = .returned v ∧ ∃ H', Grow H w H' w' ∧ Rep H' d v :=
 (c.2 H w us.toList hv hA (by simp) (by simp) (by simp [Ks])).mono fun e w' ⟨v, H', d', h', k', he, hr, hc, e1, e2, e3⟩ => by
  subst e1; subst e2; subst e3
  exact ⟨v, he, H', Ke8 hc, hr⟩
abbrev SS (H : Hp) (l : List ByteArray) (v : Value) : Prop := Rep H (.lst 1 (l.map eStr) .no) v
theorem rep_l2 {H : Hp} {k1 k2 : Nat} {xs1 xs2 : List D} {c1 c2 : Cap} {v : Value} (h : Rep H (.agg [.lst k1 xs1 c1, .lst k2 xs2 c2]) v) :
  ∃ a1 m1 a2 m2, v = .agg #[.slice a1 xs1.length m1, .slice a2 xs2.length m2] ∧ Rep H (.lst k1 xs1 c1) (.slice a1 xs1.length m1) ∧ Rep H (.lst k2 xs2 c2) (.slice a2 xs2.length m2) := by
 obtain ⟨us, rfl, hr⟩ := KaW h
 simp only [Reps] at hr
 obtain ⟨u1, _, rfl, ⟨h1, o1, _⟩, u2, _, rfl, ⟨h2, o2, _⟩, rfl⟩ := hr
 have r1 := Kap h1 o1 (by cases u1 <;> simp [one] at o1 <;> rfl)
 have r2 := Kap h2 o2 (by cases u2 <;> simp [one] at o2 <;> rfl)
 obtain ⟨a1, m1, e1⟩ := rep_sl r1
 obtain ⟨a2, m2, e2⟩ := rep_sl r2
 subst e1; subst e2
 exact ⟨a1, m1, a2, m2, rfl, r1, r2⟩
theorem rep_curC {H : Hp} {k : Nat} {xs : List D} {a : Option Addr} {n m : Nat} (h : Rep H (.lst k xs .no) (.slice a n m)) : RepC H (.lst k xs (.cur (.slice a n m))) [.slice a n m] := by
 obtain ⟨h1, _⟩ := h
 simp only [RepC, Value.cells] at h1 ⊢
 obtain ⟨y, e, _, g⟩ := h1
 simp only [List.cons.injEq, and_true] at e
 subst e
 exact ⟨_, rfl, rfl, g⟩
theorem reps_cur {H : Hp} {k : Nat} {xs : List D} {y : Value} {us : List Value} (h : Reps H [.lst k xs (.cur y)] us) : us = [y] := by
 simp only [Reps, RepC] at h
 obtain ⟨u, _, rfl, ⟨⟨y', e, hc, _⟩, _⟩, rfl⟩ := h
 simp only [List.cons.injEq, and_true] at e
 subst e
 simp only [CapOK] at hc
 rw [hc]
theorem Kjj {H : Hp} {W : World} (hA : Ag H W) {F G : List ByteArray} (hF : F.length ≤ 4000000) (hG : G.length ≤ 4000000) {vF vG : Value} (kF : SS H F vF) (kG : SS H G vG) {b7 b8 : Nat} {T7 T8 : TypeId}
  (h8 : W.heap[b8]? = some (.cells #[vG] T8 (0, 0))) (h7 : W.heap[b7]? = some (.cells #[vF] T7 (0, 0))) (hne : b8 ≠ b7) (o8 : ∀ o, H ⟨b8, o, none⟩ = none) (o7 : ∀ o, H ⟨b7, o, none⟩ = none) (x : Ka) :
  Calls Tryz.prog 20 #[.agg #[.string x.gName, .int .i64 x.gNode], .pointer (some ⟨b8, 0, none⟩), .pointer (some ⟨b7, 0, none⟩)] W fun e w' => e = .returned (.bool (!(kp F G x))) ∧ Below W.heap.size W w' := by
 obtain ⟨a7, m7, rfl⟩ := Kbb kF
 obtain ⟨a8, m8, rfl⟩ := Kbb kG
 have c7 := rep_curC kF
 have c8 := rep_curC kG
 refine ((KgT x G F b8 T8 (.cur (.slice a8 G.length m8)) b7 T7 (.cur (.slice a7 F.length m7)) _ (begin1_eq x hF hG)).2 H W [.agg #[.string x.gName, .int .i64 x.gNode], .pointer (some ⟨b8, 0, none⟩), .pointer (some ⟨b7, 0, none⟩)] ?_ hA ?_ (by simp) (by simp [Ks, KN, hne])).mono ?_
 ·simp only [RepsV]
  exact ⟨_, _, rfl, rep_va H (us := kc2 x) rfl, _, _, rfl, ⟨by simp [RepC, Value.cells], rfl⟩, _, _, rfl, ⟨by simp [RepC, Value.cells], rfl⟩, rfl⟩
 ·intro p hp
  simp only [List.mem_cons, List.not_mem_nil, or_false] at hp
  rcases hp with rfl | rfl
  ·exact ⟨[.slice a8 G.length m8], h8, by simp only [Reps]; exact ⟨_, _, rfl, ⟨c8, rfl, rfl⟩, rfl⟩, o8⟩
  ·exact ⟨[.slice a7 F.length m7], h7, by simp only [Reps]; exact ⟨_, _, rfl, ⟨c7, rfl, rfl⟩, rfl⟩, o7⟩
 ·rintro e w' ⟨v, H', d, h', k', rfl, hv, hc, rfl, rfl, rfl⟩
  refine ⟨by rw [K4 hv], hc.env.1, hc.env.2.1, hc.env.2.2.1, hc.size, fun j hj => ?_⟩
  by_cases q8 : j = b8
  ·subst q8
   obtain ⟨us, g1, g2, _⟩ := hc.blks _ (List.mem_cons_self ..)
   rw [reps_cur g2] at g1
   exact g1.trans h8.symm
  ·by_cases q7 : j = b7
   ·subst q7
    obtain ⟨us, g1, g2, _⟩ := hc.blks _ (List.mem_cons_of_mem _ (List.mem_cons_self ..))
    rw [reps_cur g2] at g1
    exact g1.trans h7.symm
   ·exact hc.same j hj (by simp [Ks, KN, q7, q8])
theorem reps_l1 {H : Hp} {l : List ByteArray} {c : Cap} {us : List Value} (h : Reps H [.lst 1 (l.map eStr) c] us) : ∃ v, us = [v] ∧ SS H l v := by
 simp only [Reps] at h
 obtain ⟨u, _, rfl, ⟨h1, h2, _⟩, rfl⟩ := h
 exact ⟨u, rfl, rep_no (Kap h1 h2 (by cases u <;> simp [one] at h2 <;> rfl))⟩
theorem row_out {H : Hp} {w : World} {k : Nat} {xs : List D} {y : Value} (hrow : BlkOK H w (0, .row k xs y)) {a : Addr} {v : Value} (e : H a = some v) (ha : w.cell? a = some v) : a.block ∉ Ks [(0, Blk.row k xs y)] [] := by
  have hcl : Ks [(0, Blk.row k xs y)] [] = K2 y := by simp [Ks, KN]
  rw [hcl]
  rcases hrow with ⟨a0, rfl, _⟩ | ⟨b, m, us, rest, T, rfl, _, hm, _, _, _, ho⟩
  · cases a0 <;> simp [K2]
  · simp only [K2, if_pos hm, List.mem_singleton]
    intro q
    obtain ⟨ab, ao, an⟩ := a
    simp only at q
    subst q
    cases an with
    | none => rw [ho ao] at e; cases e
    | some n =>
      simp only [World.cell?] at ha
      split at ha <;> simp at ha
def delKK (l : List Ka) (G F : List ByteArray) : List Ka := l.filter (kp F G)
def lenKK (l : List Ka) (G F : List ByteArray) : Bool := decide (l.length < 4398046511104 ∧ G.length ≤ 4000000 ∧ F.length ≤ 4000000)
theorem delKK_ok (l : List Ka) (G F : List ByteArray) (o0 : Nat) (T0 : TypeId) (c0 : Cap) (o1 : Nat) (T1 : TypeId) (c1 : Cap) (z : Z3) (h : lenKK l G F = true) :
  CallsD Tryz.prog 18 [.v (SL z), .fn (.func 20) [] [.ptr o0 0, .ptr o1 0]] [(o0, Blk.cells [.lst 1 (G.map eStr) c0] T0), (o1, Blk.cells [.lst 1 (F.map eStr) c1] T1), (0, Blk.row 2 (l.map Kf) (SL z))] []
   (fun d h k => ∃ y0, d = .v (SL y0) ∧ h = [(o0, Blk.cells [.lst 1 (G.map eStr) c0] T0), (o1, Blk.cells [.lst 1 (F.map eStr) c1] T1), (0, Blk.row 2 ((delKK l G F).map Kf) (SL y0))] ∧ k = []) := by
 unfold lenKK at h
 rw [decide_eq_true_iff] at h
 obtain ⟨hl, hG, hF⟩ := h
 refine ⟨⟨_, Tryz.func18, rfl, rfl⟩, fun H w vs hv hA hb _ hnd => ?_⟩
 simp only [RepsV] at hv
 obtain ⟨u1, _, rfl, g1, u2, _, rfl, g2, rfl⟩ := hv
 obtain rfl := K4 g1
 obtain ⟨vs1, ws1, rfl, q1, q2⟩ := KfK g2
 simp only [RepsV] at q1 q2
 subst q1
 obtain ⟨p0, _, rfl, ⟨p1, p2⟩, p3, _, rfl, ⟨p4, p5⟩, rfl⟩ := q2
 obtain rfl : p0 = .pointer (some ⟨o0, 0, none⟩) := by cases p0 <;> simp [D.shape] at p2 <;> simpa [RepC, Value.cells] using p1
 obtain rfl : p3 = .pointer (some ⟨o1, 0, none⟩) := by cases p3 <;> simp [D.shape] at p5 <;> simpa [RepC, Value.cells] using p4
 have hb0 := hb _ (List.mem_cons_self ..)
 have hb1 := hb _ (List.mem_cons_of_mem _ (List.mem_cons_self ..))
 have hb2 := hb _ (List.mem_cons_of_mem _ (List.mem_cons_of_mem _ (List.mem_cons_self ..)))
 obtain ⟨us0, k0, r0, e0⟩ := hb0
 obtain ⟨us1, k1, r1, e1⟩ := hb1
 obtain ⟨vG, rfl, sG⟩ := reps_l1 r0
 obtain ⟨vF, rfl, sF⟩ := reps_l1 r1
 have hcl : Ks [(o0, Blk.cells [.lst 1 (G.map eStr) c0] T0), (o1, Blk.cells [.lst 1 (F.map eStr) c1] T1), (0, Blk.row 2 (l.map Kf) (SL z))] [] = o0 :: o1 :: Ks [(0, Blk.row 2 (l.map Kf) (SL z))] [] := by simp [Ks, KN]
 rw [hcl] at hnd
 have n01 : o0 ≠ o1 := fun q => by subst q; simp at hnd
 have n0 : o0 ∉ Ks [(0, Blk.row 2 (l.map Kf) (SL z))] [] := fun q => by simp [q] at hnd
 have n1 : o1 ∉ Ks [(0, Blk.row 2 (l.map Kf) (SL z))] [] := fun q => by simp [q] at hnd
 have cs := Ke7 hA hb (by rw [hcl]; exact hnd) (Below.refl _ w)
 have hdl := delete_row 20 #[.pointer (some ⟨o0, 0, none⟩), .pointer (some ⟨o1, 0, none⟩)] (fun x => !(kp F G x)) (fun W => Ag H W ∧ W.heap[o0]? = some (.cells #[vG] T0 (0, 0)) ∧ W.heap[o1]? = some (.cells #[vF] T1 (0, 0))) hA hb2
  (fun W W' ⟨a1, a2, a3⟩ h2 h3 h4 => ⟨fun a v e => by
    have hc := a1 a v e
    have hlt := cell_lt hc
    have := h4 a.block hlt (row_out hb2 e (hA a v e))
    simp only [World.cell?] at hc ⊢
    rw [this]; exact hc, (h4 _ (Array.getElem?_eq_some_iff.1 a2).1 n0).trans a2, (h4 _ (Array.getElem?_eq_some_iff.1 a3).1 n1).trans a3⟩)
  (enters_of Tryz.func20 (by kernel_rfl) rfl) (fun W x ⟨a1, a2, a3⟩ => Kjj a1 hF hG sF sG a2 a3 n01 e0 e1 x) ⟨hA, k0, k1⟩ hl
 refine hdl.mono ?_
 rintro e w' ⟨z', rfl, hc⟩
 have hp : ([(o0, Blk.cells [.lst 1 (G.map eStr) c0] T0), (o1, Blk.cells [.lst 1 (F.map eStr) c1] T1), (0, Blk.row 2 (l.map Kf) (SL z))] : List (Nat × Blk)).Perm ([(0, Blk.row 2 (l.map Kf) (SL z))] ++ [(o0, Blk.cells [.lst 1 (G.map eStr) c0] T0), (o1, Blk.cells [.lst 1 (F.map eStr) c1] T1)]) :=
  (List.perm_append_comm (l₁ := [(o0, Blk.cells [.lst 1 (G.map eStr) c0] T0), (o1, Blk.cells [.lst 1 (F.map eStr) c1] T1)]) (l₂ := [(0, Blk.row 2 (l.map Kf) (SL z))]))
 have hfin := Core.call (k1 := []) (k2 := []) (cs.perm hp (List.Perm.refl _)) hc
 have hdk : (l.filter fun x => !!(kp F G x)) = delKK l G F := by unfold delKK; congr 1; funext x; simp
 rw [hdk] at hfin
 have hq : ([(0, Blk.row 2 ((delKK l G F).map Kf) (SL z'))] ++ [(o0, Blk.cells [.lst 1 (G.map eStr) c0] T0), (o1, Blk.cells [.lst 1 (F.map eStr) c1] T1)]).Perm [(o0, Blk.cells [.lst 1 (G.map eStr) c0] T0), (o1, Blk.cells [.lst 1 (F.map eStr) c1] T1), (0, Blk.row 2 ((delKK l G F).map Kf) (SL z'))] :=
  (List.perm_append_comm (l₁ := [(0, Blk.row 2 ((delKK l G F).map Kf) (SL z'))]) (l₂ := [(o0, Blk.cells [.lst 1 (G.map eStr) c0] T0), (o1, Blk.cells [.lst 1 (F.map eStr) c1] T1)]))
 exact ⟨_, H, .v (SL z'), _, [], rfl, rep_v rfl, hfin.perm hq (List.Perm.refl _), z', rfl, rfl, rfl⟩
end Go.Proofs.YtnfkijcmakgkmaaGreat.Ab
namespace Go.Proofs.YtnfkijcmakgkmaaGreat.Ab
open Go
set_option linter.all false
def Ka2 (a0 : List Ka) : Option (List Ka) := app 24 a0 []
theorem Kda (a0 : List Ka) (r : List Ka) (h0 : Ka2 a0 = some r) : CallsD Tryz.prog 19 [.lst 2 (a0.map Kf) .no] [] [] (fun d h k => ∃ y0, d = .v (SL y0) ∧ h = [(0, Blk.row 2 (r.map Kf) (SL y0))] ∧ k = []) := by
 obtain ⟨hr, hb⟩ := app_ok h0
 simp only [List.append_nil] at hr
 subst hr
 have q : app 24 ([] : List Ka) r = some r := app_of (by simp only [List.length_nil, Nat.zero_add]; simpa using hb)
 refine K3 htab Tryz.func19 rfl rfl rfl rfl rfl (fun C => ?_)
 refine Km ?_
 refine Kt ?_
 refine Kfk htab rfl rfl rfl rfl ?_
 refine Kv ?_
 refine Kb ?_
 refine Km ?_
 refine Km ?_
 refine Kt ?_
 refine Kfk htab rfl rfl rfl rfl ?_
 refine p_isnil htab rfl rfl rfl rfl rfl rfl rfl (fun b hn => ?_)
 refine Kv ?_
 refine Kb ?_
 refine KC rfl (fun hc => ?_) (fun hc => ?_)
 ·have hnil := hn hc
  simp only [List.map_eq_nil_iff] at hnil
  subst hnil
  refine Km ?_
  refine Kt ?_
  refine Kfk htab rfl rfl rfl rfl ?_
  refine Kv ?_
  refine Kb ?_
  refine KE ?_
  refine KS ?_
  refine retX.rowN (i := 2) 2 rfl (fun y => ?_)
  refine retX.of (s' := ⟨[(2, .v (SL y))], [(0, Blk.row 2 (([] : List Ka).map Kf) (SL y))], []⟩) (WkS.perm (WkS.cons rfl (Wk.refl _) (WkS.nil)) (List.Perm.refl _) (List.Perm.refl _)) (retD_mk (hh := [_]) (.inl rfl) (Ke0 (KfJ rfl) (resL_nil)) (List.Sublist.refl _) (List.Sublist.refl _) ?_)
  exact ⟨y, rfl, rfl, rfl⟩
 ·refine KB ?_
  refine Kb ?_
  refine Km ?_
  refine Kt ?_
  refine p_lit0 htab rfl rfl rfl rfl rfl rfl rfl rfl ?_
  refine Kfk htab rfl rfl rfl rfl ?_
  refine p_app0R htab rfl rfl rfl rfl rfl rfl rfl rfl rfl rfl rfl rfl rfl rfl rfl (by simpa using hb) rfl (fun v => ?_)
  refine Kfk htab rfl rfl rfl rfl ?_
  refine Kv ?_
  refine Kb ?_
  refine KE ?_
  refine retX.of (s' := ⟨[(2, .v (SL v))], [(0, Blk.row 2 (r.map Kf) (SL v))], []⟩) (WkS.perm (WkS.cons rfl (Wk.refl _) (WkS.nil)) (List.Perm.refl _) (List.Perm.refl _)) (retD_mk (hh := [_]) (.inl rfl) (Ke0 (KfJ rfl) (resL_nil)) (List.Sublist.refl _) (List.Sublist.refl _) ?_)
  exact ⟨v, rfl, rfl, rfl⟩
noncomputable def Kb5 (a0 : Kw) (a1 : Kw) (a2 : List Ka) : Option (List Ka) :=
 ((Kb1 a0 a1).bind fun x4 => ((Kdq a0 a1).bind fun x7 => ((Ka2 a2).bind fun x17 => ((need (lenKK x17 x7.gGlobals x4)).bind fun x19 => ((need (len42 (delKK x17 x7.gGlobals x4))).bind fun x21 => some (Pq.rowK (delKK x17 x7.gGlobals x4)))))))
theorem Ke9 (a0 : Kw) (a1 : Kw) (a2 : List Ka) (r : List Ka) (h0 : Kb5 a0 a1 a2 = some r) : CallsD Tryz.prog 7 [Ku a0, Ku a1, .lst 2 (a2.map Kf) .no] [] [] (fun d h k => ∃ y0, d = .lst 2 (r.map Kf) (.cur y0) ∧ h = [] ∧ k = [(2, y0)]) := by
 have hm := KI h0
 unfold Kb5 at hm
 clear h0
 refine K3 htab Tryz.func7 rfl rfl rfl rfl rfl (fun C => ?_)
 refine Kh ?_
 refine p_box rfl rfl rfl rfl rfl rfl rfl (fun b1 => ?_)
 refine p_box rfl rfl rfl rfl rfl rfl rfl (fun b2 => ?_)
 refine pu ?_
 refine Ke ?_
 refine Km ?_
 obtain ⟨x4, q4, hm⟩ := Kc hm
 obtain ⟨x7, q7, hm⟩ := Kc hm
 refine wpD_fills 10 [(7, [.lst 1 [] .full], 47), (8, [.lst 1 [] .full], 47)] [(7, 9, [.lst 1 (x4.map eStr) .no])] [[],[],[0,1],[],[],[0,1,2,3,4],[0,1,2,3,4,5],[],[],[0,1,2,3,4,5,7,8]] [0,1,2,3,4,5,6,7,8,9] [[],[],[0,1],[],[],[0,1,2,3,4],[0,1,2,3,4,5],[],[],[0,1,2,3,4,5,7,8],[0,1,2,3,4,5,6,7,8,9]] (by kernel_rfl) (by kernel_rfl) (by kernel_rfl) (by rfl) (by rfl) (by kernel_rfl) ?_
 iterate 7 apply Exists.intro
 iterate 3 refine ⟨.any, ?_⟩
 intro bs
 refine zf_eM rfl rfl (Kai (d := Ku a0) 0 htab rfl rfl rfl rfl rfl) rfl rfl rfl rfl rfl rfl rfl ?_
 refine zf_eM rfl rfl (Kai (d := Ku a1) 1 htab rfl rfl rfl rfl rfl) rfl rfl rfl rfl rfl rfl rfl ?_
 refine zf_call rfl rfl (Kgl a0 a1 x4 q4) rfl rfl Wl rfl rfl rfl rfl rfl rfl rfl ?_
 refine zf_eM rfl rfl (Kai (d := Ku a0) 0 htab rfl rfl rfl rfl rfl) rfl rfl rfl rfl rfl rfl rfl ?_
 refine zf_eM rfl rfl (Kai (d := Ku a1) 1 htab rfl rfl rfl rfl rfl) rfl rfl rfl rfl rfl rfl rfl ?_
 refine zf_call rfl rfl (KiW a0 a1 x7 q7) rfl rfl Wl rfl rfl rfl rfl rfl rfl rfl ?_
 refine zf_e rfl rfl (Kfm htab rfl) rfl rfl rfl rfl rfl rfl rfl ?_
 refine zf_alloc rfl htab rfl rfl rfl rfl rfl rfl rfl rfl rfl rfl (by simp [dOf, eI64]) (by simp) ?_
 refine zf_alloc rfl htab rfl rfl rfl rfl rfl rfl rfl rfl rfl rfl (by simp [dOf, eI64]) (by simp) ?_
 refine zf_fill (e := 7) (zs := [.lst 1 [] .full]) (T' := 47) (ds' := [.lst 1 (x4.map eStr) .no]) htab rfl rfl rfl rfl rfl rfl rfl rfl rfl (by simp) (by simp) rfl rfl rfl rfl rfl rfl rfl rfl rfl ?_
 refine zf_nil (h' := [(b1, Blk.cells [.lst 4 (a0.gGlobals.map KJ) .no, .lst 5 (a0.gFuncs.map KA) .no] 25), (b2, Blk.cells [.lst 4 (a1.gGlobals.map KJ) .no, .lst 5 (a1.gFuncs.map KA) .no] 25), (bs 7, Blk.cells [.lst 1 (x4.map eStr) .no] 47), (bs 8, Blk.cells [.lst 1 [] .full] 47)]) rfl rfl rfl (fun e he => by simp [isAl] at he; rcases he with rfl | rfl <;> rfl) ?_
 obtain ⟨b8, hb8⟩ : ∃ b, bs 7 = b := ⟨_, rfl⟩
 obtain ⟨b9, hb9⟩ : ∃ b, bs 8 = b := ⟨_, rfl⟩
 simp only [hb8, hb9]
 clear hb8 hb9
 refine pS3 (ds' := [.lst 1 (x7.gGlobals.map eStr) .no]) ?_
 refine KP ?_
 refine pu ?_
 obtain ⟨x17, q17, hm⟩ := Kc hm
 refine pG (Kda a2 x17 q17) Wl Pf Pf ?_
 rintro _ _ _ ⟨w16, rfl, rfl, rfl⟩
 refine pu ?_
 obtain ⟨x19, q19, hm⟩ := Kc hm
 refine pG (delKK_ok x17 x7.gGlobals x4 b9 47 .no b8 47 .no w16 (Kdn q19)) Wl ((KF (j := 4) rfl).trans (List.Perm.cons _ ((KF (j := 3) rfl).trans (List.Perm.cons _ ((KF (j := 0) rfl).trans (List.Perm.cons _ Pf)))))) Pf ?_
 rintro _ _ _ ⟨w18, rfl, rfl, rfl⟩
 refine pu ?_
 refine KP ?_
 refine pu ?_
 refine o_norm (WkS.frz 2 rfl rfl) ?_
 refine o_norm (WkS.tld 9 2 rfl rfl) ?_
 refine o_norm (WkS.tld 20 2 rfl rfl) ?_
 refine o_norm (WkS.tld 21 2 rfl rfl) ?_
 refine o_norm (WkS.drop 2 rfl) ?_
 obtain ⟨x21, q21, hm⟩ := Kc hm
 refine Kby (Row_ok (delKK x17 x7.gGlobals x4) (Kdn q21)) rfl rfl rfl rfl rfl (WkL.cons (Wk.no) Wl) Pf Pf ?_
 rintro _ _ _ ⟨w20, rfl, rfl, rfl⟩
 refine pu ?_
 refine Ke ?_
 refine KE ?_
 have er22 := Kj hm; subst er22
 refine retX.wk (WkS.frz 0 rfl rfl) ?_
 refine retX.wk (WkS.tld 6 0 rfl rfl) ?_
 refine retX.wk (WkS.tld 22 0 rfl rfl) ?_
 refine retX.wk (WkS.drop 0 rfl) ?_
 refine rP (t' := [(6, .lst 2 ((Pq.rowK (delKK x17 x7.gGlobals x4)).map Kf) (.cur (SL w20)))]) [] [0] 0 (wC wN) (lT lN) ?_
 exact ⟨(SL w20), rfl, rfl, rfl⟩
theorem KhK (a0 : Kw) (a1 : Kw) (a2 : List Ka) (r : List Ka) (h0 : Kb5 a0 a1 a2 = some r) : CallsD Tryz.prog 7 [Ku a0, Ku a1, .lst 2 (a2.map Kf) .no] [] [] (fun d h k => d = .lst 2 (r.map Kf) .no ∧ h = [] ∧ k = []) :=
 (Ke9 a0 a1 a2 r h0).drop fun d h k ⟨y0, e, _, _⟩ => by subst e; exact Wk.no
noncomputable def Kfa : Option (Bool) :=
 ((Kb5 (⟨[], ([(⟨(ByteArray.mk #[102]), [], [], [], (0 : Int)⟩ : KQ)] : List KQ)⟩ : Kw) (⟨[], []⟩ : Kw) ([(⟨(ByteArray.mk #[102]), (0 : Int)⟩ : Ka), (⟨(ByteArray.mk #[103]), (0 : Int)⟩ : Ka)] : List Ka)).bind fun x3 => (bif ((x3.length : Int) == (1 : Int)) then ((idx x3 (0 : Int)).bind fun x5 => some (decide (x5.gName = (ByteArray.mk #[102])) && (x5.gNode == (0 : Int) && true))) else some false))
theorem Kjk  (r : Bool) (h0 : Kfa = some r) : CallsD Tryz.prog 11 [] [] [] (fun d h k => d = .v (.bool r) ∧ h = [] ∧ k = []) := by
 have hm := KI h0
 unfold Kfa at hm
 clear h0
 refine K3 htab Tryz.func11 rfl rfl rfl rfl rfl (fun C => ?_)
 refine Kh ?_
 refine pu ?_
 refine KP ?_
 refine Kb8 (r := [.v (.string (ByteArray.mk #[102])), .lst 1 [] .full, .lst 1 [] .full, .lst 1 [] .full, .v (.int .i64 (0 : Int))]) htab rfl rfl rfl rfl rfl rfl rfl rfl rfl ?_
 refine p_lit htab rfl rfl rfl rfl rfl rfl rfl rfl rfl rfl rfl rfl rfl rfl ?_
 refine p_eq (i := 4) (d' := .lst 5 (([(⟨(ByteArray.mk #[102]), [], [], [], (0 : Int)⟩ : KQ)] : List KQ).map KA) .full) rfl (Wk.lst0 (.cons (WkC.agg (rC (WkR.cons (WkC.nil) rfl (WkR.cons (WkC.nil) rfl (WkR.cons (WkC.nil) rfl (rC WkR.nil)))))) (.nil))) ?_
 refine Kb8 (r := [.lst 1 [] .full, .lst 5 (([(⟨(ByteArray.mk #[102]), [], [], [], (0 : Int)⟩ : KQ)] : List KQ).map KA) .full]) htab rfl rfl rfl rfl rfl rfl rfl rfl rfl ?_
 refine Kay htab rfl rfl rfl rfl rfl rfl rfl (fun b1 => ?_)
 refine pS0 (ds' := [.lst 1 [] .full, .lst 5 (([(⟨(ByteArray.mk #[102]), [], [], [], (0 : Int)⟩ : KQ)] : List KQ).map KA) .full]) ?_
 refine KP ?_
 refine KaD (d := .agg [.lst 1 [] .full, .lst 5 (([(⟨(ByteArray.mk #[102]), [], [], [], (0 : Int)⟩ : KQ)] : List KQ).map KA) .full]) 0 htab rfl rfl rfl rfl rfl rfl rfl rfl ?_
 refine Kb8 (r := [.lst 1 [] .full, .lst 1 [] .full]) htab rfl rfl rfl rfl rfl rfl rfl rfl rfl ?_
 refine Kb8 (r := [.v (.string (ByteArray.mk #[102])), .v (.int .i64 (0 : Int))]) htab rfl rfl rfl rfl rfl rfl rfl rfl rfl ?_
 refine Kb8 (r := [.v (.string (ByteArray.mk #[103])), .v (.int .i64 (0 : Int))]) htab rfl rfl rfl rfl rfl rfl rfl rfl rfl ?_
 refine p_lit htab rfl rfl rfl rfl rfl rfl rfl rfl rfl rfl rfl rfl rfl rfl ?_
 refine p_eq (i := 10) (d' := .lst 2 (([(⟨(ByteArray.mk #[102]), (0 : Int)⟩ : Ka), (⟨(ByteArray.mk #[103]), (0 : Int)⟩ : Ka)] : List Ka).map Kf) .full) rfl (Wk.lst0 (.cons (WkC.refl _) (.cons (WkC.refl _) (.nil)))) ?_
 obtain ⟨x3, q3, hm⟩ := Kc hm
 refine Kby (Ke9 (⟨[], ([(⟨(ByteArray.mk #[102]), [], [], [], (0 : Int)⟩ : KQ)] : List KQ)⟩ : Kw) (⟨[], []⟩ : Kw) ([(⟨(ByteArray.mk #[102]), (0 : Int)⟩ : Ka), (⟨(ByteArray.mk #[103]), (0 : Int)⟩ : Ka)] : List Ka) x3 q3) rfl rfl rfl rfl rfl (WkL.cons (Wk.agg (WkR.cons (WkC.nil) rfl (rO WkR.nil))) (WkL.cons (Wk.agg (WkR.cons (WkC.nil) rfl (WkR.cons (WkC.nil) rfl WkR.nil))) (WkL.cons (Wk.no) Wl))) Pf Pf ?_
 rintro _ _ _ ⟨w2, rfl, rfl, rfl⟩
 refine pu ?_
 refine KP ?_
 refine pu ?_
 refine Kag htab rfl rfl rfl rfl rfl rfl rfl (by first | exact KY | rfl) ?_
 refine pu ?_
 refine pu ?_
 refine KaE (i := 15) rfl (fun hg4 => ?_) (fun hg4 => ?_)
 ·replace hm := yes_t hg4 hm
  refine pu ?_
  obtain ⟨x5, q5, hm⟩ := Kc hm
  refine Kad htab rfl rfl rfl rfl rfl rfl rfl rfl rfl rfl (Kd q5) (Kk q5) ?_
  refine KW (d := Kf x5) htab rfl rfl rfl rfl rfl rfl rfl rfl ?_
  refine Kb8 (r := [.v (.string (ByteArray.mk #[102])), .v (.int .i64 (0 : Int))]) htab rfl rfl rfl rfl rfl rfl rfl rfl rfl ?_
  refine p_eqS htab rfl rfl rfl rfl rfl eqt41 rfl rfl rfl rfl rfl ?_
  refine Kab rfl rfl rfl rfl rfl rfl ?_
  refine pu ?_
  refine Ke ?_
  refine KE ?_
  have er6 := Kj hm; subst er6
  refine rP (t' := [(0, .v (.bool (decide (x5.gName = (ByteArray.mk #[102])) && (x5.gNode == (0 : Int) && true))))]) [] [] 0 (wC wN) (lT lN) ?_
  exact ⟨rfl, rfl, rfl⟩
 ·replace hm := yes_f hg4 hm
  iterate 5 refine pK ?_
  refine K9 rfl rfl rfl rfl rfl rfl ?_
  refine pu ?_
  refine Ke ?_
  refine KE ?_
  have er7 := Kj hm; subst er7
  refine rP (t' := [(0, .v (.bool false))]) [] [] 0 (wC wN) (lT lN) ?_
  exact ⟨rfl, rfl, rfl⟩
end Go.Proofs.YtnfkijcmakgkmaaGreat.Ab
namespace Go.Proofs.YtnfkijcmakgkmaaGreat.Ab
open Go Go.RowKit Go.Shelf Go.Proofs Go.Proofs.YtnfkijcmakgkmaaGreat.Ab.Pq
set_option linter.all false
def bgK (p q : Kw) (known : List Ka) : List Ka := rowK (known.filter (kp (tou p q) (dG p q)))
theorem begin_eq {p q : Kw} (bp : PB p) (bq : PB q) {known : List Ka} (hl : known.length ≤ 4000000) : Kb5 p q known = some (bgK p q known) := by
 have ht := Kh6 bp bq
 have hd := d_len bp bq
 have hf := List.length_filter_le (kp (tou p q) (dG p q)) known
 unfold Kb5
 rw [ht.1, Option.bind_some, of_eq bp bq, Option.bind_some]
 have hc : Ka2 known = some known := by
  unfold Ka2
  first
   | rfl
   | (rw [Kaw (by omega) (by simp; omega), List.append_nil])
 rw [hc, Option.bind_some, Kcs (by unfold lenKK; rw [decide_eq_true_iff]; exact ⟨by omega, by show (dG p q).length ≤ _; omega, by omega⟩), Kcs (by unfold len42 delKK; rw [decide_eq_true_iff]; show (List.filter (kp (tou p q) (dG p q)) known).length < _; omega)]
 rfl
theorem KgM (p q : Kw) (known : List Ka) : RowC (bgK p q known) := KeJ _
theorem bgK_len (p q : Kw) (known : List Ka) : (bgK p q known).length ≤ known.length := Nat.le_trans (Kbu _).2.2 (List.length_filter_le _ _)
def lvP : Kw := ⟨[], [⟨ByteArray.mk #[102], [], [], [], 0⟩]⟩
def lvQ : Kw := ⟨[], []⟩
theorem lives32 : Kfa = some true := by
 have hp : PB lvP := ⟨by decide, by decide, by intro x hx; simp [lvP] at hx; subst hx; exact ⟨by decide, by decide, by decide⟩⟩
 have hq : PB lvQ := ⟨by decide, by decide, by intro x hx; simp [lvQ] at hx⟩
 have e1 : bgK lvP lvQ [⟨ByteArray.mk #[102], 0⟩, ⟨ByteArray.mk #[103], 0⟩] = [⟨ByteArray.mk #[102], 0⟩] := by kernel_rfl
 unfold Kfa
 change Option.bind (Kb5 lvP lvQ [⟨ByteArray.mk #[102], 0⟩, ⟨ByteArray.mk #[103], 0⟩]) _ = _
 rw [begin_eq hp hq (by decide), e1, Option.bind_some]
 rfl
end Go.Proofs.YtnfkijcmakgkmaaGreat.Ab
namespace Go.Proofs.YtnfkijcmakgkmaaGreat.Ab
open Go Go.RowKit Go.Shelf Go.Proofs Go.Proofs.YtnfkijcmakgkmaaGreat.Ab.Pq
set_option linter.all false
def pc4 (x : Pr) : List Value := [.string x.gX.gName, .int .i64 x.gX.gNode, .string x.gY.gName, .int .i64 x.gY.gNode]
theorem ePr_eq (x : Pr) : KZ x = .agg ((pc4 x).map .v) := rfl
theorem KdS {H : Hp} {W : World} (hA : Ag H W) {l : List Pr} {c : Cap} {a : Option Addr} {n m : Nat} (h : Rep H (.lst 4 (l.map KZ) c) (.slice a n m)) {i : Nat} {x : Pr} (hx : l[i]? = some x) :
  ∃ b off, a = some ⟨b, off, none⟩ ∧ W.cell? ⟨b, off + i * 4, none⟩ = some (.string x.gX.gName) ∧ W.cell? ⟨b, off + i * 4 + 1, none⟩ = some (.int .i64 x.gX.gNode) ∧ W.cell? ⟨b, off + i * 4 + 2, none⟩ = some (.string x.gY.gName) ∧ W.cell? ⟨b, off + i * 4 + 3, none⟩ = some (.int .i64 x.gY.gNode) := by
 obtain ⟨_, h⟩ := KaH h
 rcases h with ⟨e, _⟩ | ⟨b, off, m', e, hm, hE⟩
 ·rw [List.map_eq_nil_iff] at e; subst e; simp at hx
 ·simp only [Value.slice.injEq] at e
  obtain ⟨rfl, -, rfl⟩ := e
  obtain ⟨us, h1, h2, h3, _⟩ := els_get hE (i := i) (x := KZ x) (by simp [hx])
  have : us = pc4 x := by
   have q : Reps H ((pc4 x).map .v) us := by rw [ePr_eq] at h2; simpa only [RepC] using h2
   exact Kcb q
  subst this
  exact ⟨b, off, rfl, by simpa using hA _ _ (h3 0 _ rfl), hA _ _ (h3 1 _ rfl), hA _ _ (h3 2 _ rfl), hA _ _ (h3 3 _ rfl)⟩
structure LayAt (C : Ctx) (H : Hp) (p : Nat) (v : Value) (n : Nat) (W : World) : Prop where
 ex : ∃ (H' : Hp) (z : YW) (ps : List Pr), H.le H' ∧ z.p = p ∧ Core C H' (webH z) [] W ∧ PL H' ps v ∧ WR n ps (tieL z.e1) (tieL z.e2) ∧ ps.length ≤ n
theorem KiQ (H : Hp) (w : World) (hA : Ag H w) {l : List Pr} {v : Value} (hv : PL H l v) (hl : l.length ≤ 1048576) :
  Calls Tryz.prog 5 #[v] w fun e w' => ∃ p v', e = .returned (.tuple #[.pointer (some ⟨p, 0, none⟩), v']) ∧ LayAt ⟨H, w, []⟩ H p v' l.length w' := by
 have mixed : Tryz.prog.follows .mixedOrders = true := by kernel_rfl
 have hnew := New_calls H w hA
 obtain ⟨va, vm, rfl⟩ := Kbb hv
 go_enter Tryz.func5, Tryz.ntmps5
 go_wp2_with fail
 refine hnew.mono ?_
 rintro e W0 ⟨z, rfl, c0, hz1, hz2⟩
 clear hnew
 go_wp2_with fail
 go_loopw [5, 6] (fun s5 s6 wr => ∃ i : Nat, s6 = .int .i64 i ∧ i ≤ l.length ∧ LayAt ⟨H, w, []⟩ H z.p s5 i wr) (fun _ s6 _ => l.length - (intOf s6).toNat)
 case atStart => exact ⟨0, rfl, Nat.zero_le _, ⟨H, z, [], Hp.le_refl H, rfl, c0, pl_nil H, by rw [hz1, hz2]; exact WR.nil 0, Nat.le_refl _⟩⟩
 case round =>
  obtain ⟨i, rfl, hi, ⟨H1, z1, ps, hle, hzp, c1, hp, hr, hpl⟩⟩ := hrel
  by_cases hlt : i < l.length
  ·have hkk := List.getElem?_eq_getElem hlt
   obtain ⟨b, off, rfl, k1, k2, k3, k4⟩ := KdS c1.ag (hv.mono hle) hkk
   generalize l[i] = x at hkk k1 k2 k3 k4
   have hw1 := KbL i (by omega)
   have hadd := web_add (Core.drew c1) hr (by omega) x.gX x.gY
   rw [hzp] at hadd
   simp only [encK] at hadd
   go_wp2_with fail
   apply KgL (R := fun w' => ∃ z2 : YW, z2.p = z.p ∧ Core ⟨H, w, []⟩ H1 (webH z2) [] w' ∧ WR (i + 1) (addP ps (clK x.gX) (clK x.gY)) (tieL z2.e1) (tieL z2.e2))
   case h =>
    go_region_with_o (
     go_at_call 14
     refine hadd.mono ?_
     rintro e W4 ⟨z2, rfl, g1, g2, g3⟩)
    all_goals exact ⟨rfl, z2, g1, g2, g3⟩
   clear hadd
   rintro W4 ⟨z2, g1, g2, g3⟩
   have hpv := hp
   obtain ⟨ua, um, rfl⟩ := Kbb hpv
   obtain ⟨_, _, e1, k1, k2, k3, k4⟩ := KdS g2.ag (hv.mono hle) hkk
   cases e1
   have hdoc := doc_add (Core.drew g2) hp (by omega) x.gX x.gY
   simp only [encK] at hdoc
   go_wp2_with fail
   go_region_with_o (
    go_at_call 15
    refine hdoc.mono ?_
    rintro e W5 ⟨H3, v', rfl, f1, f2, f3⟩)
   all_goals
    clear hdoc
    go_wp2
    exact ⟨⟨i + 1, rfl, hlt, ⟨H3, z2, _, Hp.le_trans hle f1, g1, f2, f3, g3, Nat.le_trans (addP_len _ _ _) (Nat.succ_le_succ hpl)⟩⟩, KcX hlt⟩
  ·obtain rfl : i = l.length := Nat.le_antisymm hi (Nat.le_of_not_lt hlt)
   go_wp2
   go_ret2
   exact ⟨z.p, _, rfl, ⟨H1, z1, ps, hle, hzp, c1, hp, hr, hpl⟩⟩
end Go.Proofs.YtnfkijcmakgkmaaGreat.Ab
namespace Go.Proofs.YtnfkijcmakgkmaaGreat.Ab
open Go Go.RowKit Go.Shelf Go.Proofs Go.Proofs.YtnfkijcmakgkmaaGreat.Ab.Pq
set_option linter.all false
theorem g_begin {H : Hp} {w : World} (hA : Ag H w) {p q : Kw} {known : List Ka} {pv qv kv : Value} (rp : Rep H (Ku p) pv) (rq : Rep H (Ku q) qv) (hk : KL H known kv) (bp : PB p) (bq : PB q) (hl : known.length ≤ 4000000) :
  Calls Tryz.prog 7 #[pv, qv, kv] w fun e w' => ∃ v, e = .returned v ∧ ∃ H', Grow H w H' w' ∧ KL H' (bgK p q known) v :=
 g_told (us := #[pv, qv, kv]) (KhK p q known _ (begin_eq bp bq hl)) hA (by simp only [RepsV]; exact ⟨_, _, rfl, rp, _, _, rfl, rq, _, _, rfl, hk, rfl⟩)
theorem g_below {H : Hp} {w : World} (hA : Ag H w) {z : YW} (hs : ∀ p ∈ webH z, BlkOK H w p) {B : Nat} {ps : List Pr} (r : WR B ps (tieL z.e1) (tieL z.e2)) {l : List Ka} {v : Value} (hv : KL H l v) (hl : l.length + ps.length < 4398046511104) :
  Calls Tryz.prog 27 #[.pointer (some ⟨z.p, 0, none⟩), v] w fun e w' => ∃ u, e = .returned u ∧ ∃ H', Grow H w H' w' ∧ ∃ out, KL H' out u ∧ AllR (upR ps false) l out := by
 refine (Kjw H w hA z hs l v (KfR hA hv) (fun x => (r.g2.2 x).1) (Nat.lt_of_le_of_lt (r.univ2 l) hl)).mono ?_
 rintro e w' ⟨out, y, rfl, hc, hp⟩
 obtain ⟨H', hle, c', hk⟩ := core_tell hc
 exact ⟨_, rfl, H', Ke8 c', out, hk, r.down hp⟩
theorem blk_grow {H H' : Hp} {w w' : World} {h : List (Nat × Blk)} (hs : ∀ p ∈ h, BlkOK H w p) (nd : (Ks h []).Nodup) (hA : Ag H w) (g : Grow H w H' w') : ∀ p ∈ h, BlkOK H' w' p :=
 (Core.call (h1 := []) (k1 := []) (h2 := h) (k2 := []) (Ke7 hA hs nd (Below.refl _ w)) (core_grow g)).blks
def slenV : Value → Nat
 | .slice _ n _ => n
 | _ => 0
def OfS (R1 R2 : Ka → Ka → Prop) (out : List Ka) : Nat → List Ka → Prop
 | 0, o => o = out
 | 1, o => AllR R1 out o
 | 2, o => ∃ o1, AllR R1 out o1 ∧ AllR R2 o1 o
 | _ + 3, _ => False
theorem of_meas {N a b : Nat} (h : a < b) (hb : b ≤ N) : N - b < N - a := by omega
theorem Of_calls (H0 : Hp) (w : World) (hA : Ag H0 w) {p q : Kw} {known : List Ka} {pv qv kv : Value} (rp : Rep H0 (Ku p) pv) (rq : Rep H0 (Ku q) qv) (hk : KL H0 known kv) (bp : PB p) (bq : PB q) (hl : known.length ≤ 1048576)
    {y z : YW} (hs : ∀ p ∈ webH y ++ webH z, BlkOK H0 w p) (nd : (Ks (webH y ++ webH z) []).Nodup) {B : Nat} {ps qs : List Pr} (ry : WR B ps (tieL y.e1) (tieL y.e2)) (rz : WR B qs (tieL z.e1) (tieL z.e2)) (np : ps.length ≤ 1048576) (nq : qs.length ≤ 1048576) :
    Calls Tryz.prog 9 #[pv, qv, .pointer (some ⟨y.p, 0, none⟩), .pointer (some ⟨z.p, 0, none⟩), kv] w fun e w' => ∃ v, e = .returned v ∧ ∃ H', Grow H0 w H' w' ∧ ∃ out, KL H' out v ∧ AllR (OR (upR ps false) (upR qs false)) (bgK p q known) out := by
  have mixed : Tryz.prog.follows .mixedOrders = true := by kernel_rfl
  obtain ⟨a1, m1, a2, m2, rfl, _, _⟩ := rep_l2 rp
  obtain ⟨a3, m3, a4, m4, rfl, _, _⟩ := rep_l2 rq
  obtain ⟨va, vm, rfl⟩ := Kbb hk
  generalize (List.map KJ p.gGlobals).length = n1 at rp ⊢
  generalize (List.map KA p.gFuncs).length = n2 at rp ⊢
  generalize (List.map KJ q.gGlobals).length = n3 at rq ⊢
  generalize (List.map KA q.gFuncs).length = n4 at rq ⊢
  obtain ⟨W2, hW2⟩ : ∃ W2, W2 = (w.alloc (.cells #[.slice a1 n1 m1, .slice a2 n2 m2] 25)).alloc (.cells #[.slice a3 n3 m3, .slice a4 n4 m4] 25) := ⟨_, rfl⟩
  have hb2 : Below w.heap.size w W2 := by rw [hW2]; exact ((Below.refl _ w).alloc (Nat.le_refl _) _).alloc (by simp) _
  have g0 : Grow H0 w H0 W2 := Grow.of_below hA hb2
  have hp1 : W2.heap[w.heap.size]? = some (.cells #[.slice a1 n1 m1, .slice a2 n2 m2] 25 (0, 0)) := by rw [hW2, Kaq, if_neg (by simp), Kaq, if_pos rfl]
  have hp2 : W2.heap[w.heap.size + 1]? = some (.cells #[.slice a3 n3 m3, .slice a4 n4 m4] 25 (0, 0)) := by rw [hW2, Kaq, if_pos (by simp)]
  have x0 : W2.cell? ⟨w.heap.size, 0, none⟩ = some (.slice a1 n1 m1) := by simp [World.cell?, hp1]
  have x1 : W2.cell? ⟨w.heap.size, 1, none⟩ = some (.slice a2 n2 m2) := by simp [World.cell?, hp1]
  have x2 : W2.cell? ⟨w.heap.size + 1, 0, none⟩ = some (.slice a3 n3 m3) := by simp [World.cell?, hp2]
  have x3 : W2.cell? ⟨w.heap.size + 1, 1, none⟩ = some (.slice a4 n4 m4) := by simp [World.cell?, hp2]
  clear hp1 hp2
  have hbeg := g_begin g0.ag rp rq hk bp bq (by omega)
  go_enter Tryz.func9, Tryz.ntmps9
  go_wp2_with fail
  rw [← hW2]
  clear hW2
  refine wp_scope_straight ?_
  go_wp2_with fail
  refine hbeg.mono ?_
  rintro e W3 ⟨v3, rfl, H3, g3, k3⟩
  clear hbeg x0 x1 x2 x3
  have hrow := KgM p q known
  have hbl := bgK_len p q known
  generalize hbb : bgK p q known = b at k3 hrow hbl ⊢
  replace g3 := g0.trans g3
  clear g0
  go_wp2_with fail
  refine wp_label ?_
  go_wp2_with fail
  go_loopw [11] (fun s11 wr => ∃ (H' : Hp) (out : List Ka), Grow H0 w H' wr ∧ KL H' out s11 ∧ OfI (upR ps false) (upR qs false) b out) (fun s11 _ => (b.length + (ps.length + qs.length)) - slenV s11)
  case atStart => exact ⟨H3, b, g3, k3, OfI.start _ _ hrow⟩
  case round =>
    obtain ⟨H4, out, g4, k4, ho⟩ := hrel
    have hlen := ho.len
    obtain ⟨ua, um, rfl⟩ := Kbb k4
    go_wp2_with fail
    obtain ⟨W5, hW5⟩ : ∃ W5, W5 = wr.alloc (.cells #[.pointer (some ⟨y.p, 0, none⟩), .pointer (some ⟨z.p, 0, none⟩)] 30) := ⟨_, rfl⟩
    have hb5 : Below wr.heap.size wr W5 := by rw [hW5]; exact (Below.refl _ _).alloc (Nat.le_refl _) _
    have g5 := g4.trans (Grow.of_below g4.ag hb5)
    have hx5 : W5.heap[wr.heap.size]? = some (.cells #[.pointer (some ⟨y.p, 0, none⟩), .pointer (some ⟨z.p, 0, none⟩)] 30 (0, 0)) := by rw [hW5, Kaq, if_pos rfl]
    rw [← hW5]
    clear hW5 hb5
    generalize wr.heap.size = bl at hx5 ⊢
    go_loopw [11, 25] (fun s11 s25 w4 => ∃ (i : Nat) (H' : Hp) (o : List Ka), s25 = .int .i64 i ∧ Grow H0 w H' w4 ∧ KL H' o s11 ∧ w4.heap[bl]? = some (.cells #[.pointer (some ⟨y.p, 0, none⟩), .pointer (some ⟨z.p, 0, none⟩)] 30 (0, 0)) ∧ OfS (upR ps false) (upR qs false) out i o) (fun _ s25 _ => 2 - (intOf s25).toNat)
    case atStart => exact ⟨0, H4, out, rfl, g5, k4, hx5, rfl⟩
    case round =>
      obtain ⟨i, H6, o, rfl, g6, k6, hx6, hS⟩ := hrel
      have hs6 := blk_grow hs nd hA g6
      have q0 : wr.cell? ⟨bl, 0, none⟩ = some (.pointer (some ⟨y.p, 0, none⟩)) := by simp [World.cell?, hx6]
      have q1 : wr.cell? ⟨bl, 1, none⟩ = some (.pointer (some ⟨z.p, 0, none⟩)) := by simp [World.cell?, hx6]
      obtain ⟨uc, ud, rfl⟩ := Kbb k6
      match i, hS with
      | 0, hS =>
        have hS' : o = out := hS
        subst hS'
        have hbel := g_below g6.ag (fun p hp => hs6 p (List.mem_append_left _ hp)) ry k6 (by omega)
        go_wp2_with fail
        refine hbel.mono ?_
        rintro e W7 ⟨v7, rfl, H7, g7, o7, k7, a7⟩
        go_wp2
        exact ⟨⟨1, H7, o7, rfl, g6.trans g7, k7, (g7.below.block _ (Array.getElem?_eq_some_iff.1 hx6).1).trans hx6, a7⟩, by decide⟩
      | 1, hS =>
        have hbel := g_below g6.ag (fun p hp => hs6 p (List.mem_append_right _ hp)) rz k6 (by
          have := (ho.step1 hS).1.len
          omega)
        go_wp2_with fail
        refine hbel.mono ?_
        rintro e W7 ⟨v7, rfl, H7, g7, o7, k7, a7⟩
        go_wp2
        exact ⟨⟨2, H7, o7, rfl, g6.trans g7, k7, (g7.below.block _ (Array.getElem?_eq_some_iff.1 hx6).1).trans hx6, o, hS, a7⟩, by decide⟩
      | 2, ⟨o1, hS1, hS2⟩ =>
        by_cases hne : o.length = out.length
        · have hd := ho.done hrow hS1 hS2 hne
          have hq : ((o.length : Int) == (out.length : Int)) = true := by rw [hne]; exact beq_self_eq_true _
          go_wp2
          simp only [Exit.noGoto]
          go_ret
          exact ⟨_, rfl, H6, g6, o, k6, by rw [hbb]; exact hd.2⟩
        · have hq : ((o.length : Int) == (out.length : Int)) = false := by rw [beq_eq_false_iff_ne]; omega
          obtain ⟨h1, s1⟩ := ho.step1 hS1
          obtain ⟨h2, s2⟩ := h1.step2 hS2
          have hm := row_mono ho.row (fun k hk => s2 k (s1 k hk))
          have hl2 := h2.len
          go_wp2
          exact ⟨⟨H6, o, g6, k6, h2⟩, of_meas (by show out.length < o.length; omega) hl2⟩
      | (n + 3), hS => exact hS.elim
end Go.Proofs.YtnfkijcmakgkmaaGreat.Ab
namespace Go.Proofs.YtnfkijcmakgkmaaGreat.Ab
open Go
set_option linter.all false
theorem rall_g : ∀ (n : Nat) (e : Kn), dpE e ≤ n → szE e ≤ 1048576 → KbN n e = some (allE e)
  | 0, e, h, _ => by rw [Kfw] at h; omega
  | n + 1, e, h, hb => by
    show Kct (KbN n) e = _
    unfold Kct
    have hs := Kfv e
    have hl := Kdk e.gKids
    refine Kax e.gKids (fun pre => e :: allEs pre) (fun a n => (a, (n : Nat))) (fun a => a) (by simp [szEs, dpEs, allEs]) (fun pre x post hp => ?_) ?_ ?_
    · have hk := kids_mem (KbY hp)
      have hsp := KfV hp
      simp only [Kau hp, cond_true]
      rw [Kam hp (by omega)]
      rw [show idx e.gKids (pre.length : Int) = some x by rw [hp]; exact Kfo _ _ _, Option.bind_some, rall_g n x (by omega) (by omega), Option.bind_some]
      rw [Kaw (by omega) (by rw [List.length_cons, Kcg, KhD]; omega), Option.bind_some, KcW]
      simp only [allEs, List.append_nil, List.cons_append]
    · simp only [Kav, cond_false]
    · rw [allE_eq]
theorem rall_eq {e : Kn} (hb : szE e ≤ 1048576) : KgE e = some (allE e) := r11_All_of e (dpE e) (rall_g _ e (Nat.le_refl _) hb)
theorem stmts_g : ∀ (n : Nat) (l : List Kg), hSs l ≤ n → szSs l ≤ 1048576 → Kbc n l = some (flSs l)
  | 0, l, h, _ => by have := KdP l; omega
  | n + 1, l, h, hb => by
    show KbV (Kbc n) l = _
    unfold KbV
    have hl := KeW l
    refine Kax l (fun pre => flSs pre) (fun a n => (a, (n : Nat))) (fun a => a) (by simp [flSs]) (fun pre x post hp => ?_) ?_ ?_
    · have hx := KbY hp
      have hk := fuel h hx
      have hsp := szSs_pre hp
      have hsx := szS_eq x
      have f1 := KcH pre
      have f2 := KcH x.gKids
      have f3 := KcH x.gElse
      simp only [Kau hp, cond_true]
      rw [Kam hp (by omega)]
      rw [show idx l (pre.length : Int) = some x by rw [hp]; exact Kfo _ _ _, Option.bind_some, Kaw (by omega) (by simp; omega), Option.bind_some, Option.bind_some, stmts_g n _ hk.1 (by omega), Option.bind_some, Kaw (by omega) (by simp; omega), Option.bind_some, Option.bind_some, stmts_g n _ hk.2 (by omega), Option.bind_some, Kaw (by omega) (by simp; omega), Option.bind_some]
      rw [Kff]
      simp only [flSs, List.append_nil, flS_eq x, List.append_assoc, List.cons_append, List.nil_append]
    · simp only [Kav, cond_false]
    · rfl
theorem stmts_eq {l : List Kg} (hb : szSs l ≤ 1048576) : Kd3 l = some (flSs l) := Ki8 l (hSs l) (stmts_g _ l (Nat.le_refl _) hb)
theorem exOf_pre {l pre : List Kg} {x : Kg} {post : List Kg} (h : l = pre ++ x :: post) : (exOf pre).length + szEs x.gExps ≤ (exOf l).length := by
 subst h; simp only [exOf, List.flatMap_append, List.flatMap_cons, List.length_append, Kcg]; omega
theorem exprs_eq {l : List Kg} (hb : szSs l ≤ 1048576) : Kd4 l = some (exOf (flSs l)) := by
 unfold Kd4
 rw [stmts_eq hb, Option.bind_some]
 have hf := KcH l
 generalize flSs l = m at hf ⊢
 refine Kax m (fun pre => exOf pre) (fun a n => (a, (n : Nat))) (fun a => a) (by simp [exOf]) (fun pre x post hp => ?_) ?_ ?_
 ·have hx := KbY hp
  have hp2 := exOf_pre hp
  have hl := Kdk x.gExps
  simp only [Kau hp, cond_true]
  rw [Kam hp (by omega)]
  have hi : idx m (pre.length : Int) = some x := by rw [hp]; exact Kfo _ _ _
  rw [hi]
  refine Kax x.gExps (fun q => exOf pre ++ allEs q) (fun a n => (a, (n : Nat))) (fun a => a) (by simp [allEs]) (fun q y post2 hq => ?_) ?_ ?_
  ·have hy := KfV hq
   simp only [Option.bind_some, Kau hq, cond_true]
   rw [Kam hq (by omega)]
   rw [show idx x.gExps (q.length : Int) = some y by rw [hq]; exact Kfo _ _ _, Option.bind_some, rall_eq (by omega), Option.bind_some, Kaw (by omega) (by simp [Kcg, KhD]; omega), Option.bind_some]
   rw [KcW]
   simp only [allEs, List.append_nil, List.append_assoc]
  ·simp only [Option.bind_some, Kav, cond_false]
  ·simp only [Kg9]; simp [exOf]
 ·simp only [Kav, cond_false]
 ·rfl
end Go.Proofs.YtnfkijcmakgkmaaGreat.Ab
namespace Go.Proofs.YtnfkijcmakgkmaaGreat.Ab
open Go
set_option linter.all false
theorem rputB_eq {l : List ByteArray} {w : ByteArray} (hb : l.length ≤ 1048576) : Keu l w = some (insT ltB w l) := by
 unfold Keu
 refine Kax l (fun pre => pre.foldl (insS ltB w) ([], false)) (fun a n => (a.1, a.2, (n : Int))) (fun a => a) (by simp) (fun pre x post hp => ?_) ?_ ?_
 ·have hlp := congrArg List.length hp
  simp only [List.length_append, List.length_cons] at hlp
  have hz := KeI ltB w pre ([], false)
  rw [List.foldl_append, List.foldl_cons, List.foldl_nil]
  generalize pre.foldl (insS ltB w) ([], false) = s at hz ⊢
  obtain ⟨acc, put⟩ := s
  simp only [List.length_nil] at hz
  simp only [Kau hp, cond_true, Kae hp rfl, Option.bind_some]
  rw [Kam hp (by omega)]
  cases put
  ·cases h1 : ltB w x
   ·simp only [Bool.not_false, cond_true, cond_false, Option.bind_some]
    rw [Kaw (by omega) (by simp; omega)]
    by_cases h2 : w = x
    ·subst h2; simp [insS, KdK]
    ·simp [insS, h1, h2]
   ·simp only [Bool.not_false, cond_true, cond_false, Option.bind_some]
    rw [Kaw (by omega) (by simp; omega), Option.bind_some, Option.bind_some]
    simp only []
    by_cases h2 : w = x
    ·subst h2; rw [KdK] at h1; cases h1
    ·rw [decide_eq_false h2, cond_false, Option.bind_some, Kaw (by omega) (by simp; omega), Option.bind_some]
     simp [insS, h1, h2]
  ·simp only [Bool.not_true, cond_false]
   rw [Kaw (by omega) (by simp; omega)]
   by_cases h2 : w = x
   ·simp [insS, h2]
   ·simp [insS, h2]
 ·simp only [Kav, cond_false]
 ·have hz := KeI ltB w l ([], false)
  have h := insS_no ltB KdK w l []
  generalize l.foldl (insS ltB w) ([], false) = s at hz h ⊢
  obtain ⟨acc, put⟩ := s
  simp only [List.length_nil] at hz
  cases put
  ·simp only [Bool.not_false, cond_true]
   rw [Kaw (by omega) (by simp; omega), Option.bind_some]
   simpa using h
  ·simp only [Bool.not_true, cond_false]
   simpa using h
theorem rnames_eq {l : List Kg} {c : Bool} (hb : szSs l ≤ 1048576) : Kd5 l c = some (insA ltB (Kb2 c l)) := by
 unfold Kd5
 rw [stmts_eq hb, Option.bind_some]
 have hf := KcH l
 refine Kax (flSs l) (fun pre => insA ltB (fm (nmS c) pre)) (fun a n => (a, (n : Nat))) (fun a => a) (by simp [fm, insA]) (fun p x q hp => ?_) ?_ ?_
 ·have hl := fm_pre (Kfx c) hp
  have hi := (Kbl (fm (nmS c) p)).2.2
  simp only [Kau hp, cond_true, Kae hp rfl, Option.bind_some]
  rw [Kam hp (by omega), show (bif c then some x.gFunc else some x.gName) = some (bif c then x.gFunc else x.gName) by cases c <;> rfl, Option.bind_some, fm_snoc]
  rw [show nmS c x = one1 (bif c then x.gFunc else x.gName) from rfl]
  unfold one1
  by_cases h : (bif c then x.gFunc else x.gName) = ByteArray.mk #[]
  ·rw [decide_eq_true h, if_pos h, List.append_nil]; rfl
  ·rw [decide_eq_false h, if_neg h, KdZ, Bool.not_false, cond_true, rputB_eq (by omega)]; rfl
 ·simp only [Kav, cond_false]
 ·rw [exprs_eq hb, Option.bind_some]
  cases c
  ·refine Kax (exOf (flSs l)) (fun pre => insA ltB (fm (nmS false) (flSs l) ++ fm (nmX false) pre)) (fun a n => (a, (n : Nat))) (fun a => a) (by simp [fm]) (fun p x q hp => ?_) ?_ ?_
   ·have hl := fm_pre (KdQ false) hp
    have hl2 := KdB (Kfx false) (flSs l)
    have hi := (Kbl (fm (nmS false) (flSs l) ++ fm (nmX false) p)).2.2
    rw [List.length_append] at hi
    simp only [Kau hp, cond_true, Kae hp rfl, Option.bind_some]
    rw [Kam hp (by omega), fm_snoc]
    simp only [Bool.not_false, cond_true, Option.bind_some]
    rw [show nmX false x = one1 x.gName from rfl]
    unfold one1
    by_cases h : x.gName = ByteArray.mk #[]
    ·rw [decide_eq_true h, if_pos h, List.append_nil]; rfl
    ·rw [decide_eq_false h, if_neg h, ← List.append_assoc, KdZ, Bool.not_false, cond_true, rputB_eq (by omega)]; rfl
   ·simp only [Kav, cond_false]; rfl
   ·rfl
  ·have : fm (nmX true) (exOf (flSs l)) = [] := by simp [fm, nmX]
   unfold Kb2
   rw [this, List.append_nil]
   by_cases hz : (exOf (flSs l)).length = 0
   ·rw [KaI (t := insA ltB (fm (nmS true) (flSs l))) (by simp [hz]), Option.bind_some]
   ·rw [KaI (t := insA ltB (fm (nmS true) (flSs l))) (by
     rw [show decide ((0 : Int) < ((exOf (flSs l)).length : Int)) = true by rw [decide_eq_true_iff]; omega]; rfl), Option.bind_some]
end Go.Proofs.YtnfkijcmakgkmaaGreat.Ab
namespace Go.Proofs.YtnfkijcmakgkmaaGreat.Ab.Pq
open Go
set_option linter.all false
theorem in_eq {l : List ByteArray} {x : ByteArray} (hb : l.length ≤ 4000000) : Kd6 l x = some (hasS x l) := by
 unfold Kd6
 have hh : (l.any fun y => decide (y = x)) = hasS x l := by
  unfold hasS; congr 1; funext y; exact decc y x
 refine any_list l (fun y => decide (y = x)) (fun _ => true) (fun p y q e => ?_) (by rw [Kav, cond_false]) (fun h => ?_) (fun j _ h => ?_)
 ·rw [Kau e, cond_true, Kae e rfl, Option.bind_some, Kam e (by omega)]
  cases decide (y = x) <;> rfl
 ·rw [hh] at h; rw [h]; rfl
 ·rw [hh] at h; rw [h]; rfl
theorem ins_idem (l : List ByteArray) : insA ltB (insA ltB l) = insA ltB l := KiJ fun x => (Kbl l).2.1 x
def tcs (d : List ByteArray) (x : KQ) : List ByteArray := (d.filter fun g => hasS g (insA ltB (Kb2 false x.gBody))).map fun _ => x.gName
theorem KiR {α : Type} : ∀ {l m : List α}, l.Nodup → (∀ x ∈ l, x ∈ m) → l.length ≤ m.length
  | [], m, _, _ => by simp
  | x :: l, m, h, k => by
    obtain ⟨p, q, rfl⟩ := List.append_of_mem (k x (by simp))
    rw [List.nodup_cons] at h
    have := KiR (l := l) (m := p ++ q) h.2 fun y hy => by
      have hm := k y (List.mem_cons_of_mem _ hy)
      rw [List.mem_append, List.mem_cons] at hm
      rw [List.mem_append]
      rcases hm with hm | rfl | hm
      · exact .inl hm
      · exact absurd hy h.1
      · exact .inr hm
    simp only [List.length_append, List.length_cons] at this ⊢
    omega
theorem Kjx {l : List ByteArray} (h : Rise leS l) : l.Nodup := by
 unfold Rise at h
 exact h.imp fun h => h.2
theorem ins_lenB (l m : List ByteArray) (h : ∀ x ∈ l, x ∈ m) : (insA ltB l).length ≤ m.length :=
 KiR (Kjx (Kbl l).1) fun x hx => h x (((Kbl l).2.1 x).1 hx)
theorem tcs_mem {d : List ByteArray} {x : KQ} {y : ByteArray} (h : y ∈ tcs d x) : y = x.gName := by
 unfold tcs at h
 obtain ⟨z, _, e⟩ := List.mem_map.1 h
 exact e.symm
theorem Kjy {p q : Pg} (hp : PB p) (hq : PB q) : Kdf p q = some (tou p q) := by
 have h1 := hp.f
 have h2 := hq.f
 have hd := d_len hp hq
 unfold Kdf
 rw [rof_eq hp hq, Option.bind_some, cond_true, rof_eq hp hq, Option.bind_some, cond_false, Kaw (by omega) (by simp; omega), Option.bind_some, List.nil_append, Kaw (by omega) (by omega), Option.bind_some]
 have hL : (p.gFuncs ++ q.gFuncs).length ≤ 524288 := by rw [List.length_append]; omega
 have hLb : ∀ x ∈ p.gFuncs ++ q.gFuncs, FB x := fun x hx => by
  rcases List.mem_append.1 hx with hx | hx
  ·exact hp.b x hx
  ·exact hq.b x hx
 have hfin : insA ltB (dF p q ++ (p.gFuncs ++ q.gFuncs).flatMap (tcs (dG p q))) = tou p q := by
  unfold tou
  refine KiJ fun x => ?_
  simp only [List.mem_append, List.mem_flatMap, List.mem_map, tcs, tch, List.mem_filter, List.any_eq_true]
  constructor
  ·rintro (h | ⟨f, hf, g, ⟨hg, hn⟩, rfl⟩)
   ·exact .inl h
   ·exact .inr ⟨f, ⟨hf, g, hg, hn⟩, rfl⟩
  ·rintro (h | ⟨f, ⟨hf, g, hg, hn⟩, rfl⟩)
   ·exact .inl h
   ·exact .inr ⟨f, hf, g, ⟨hg, hn⟩, rfl⟩
 have hd0 : insA ltB (dF p q) = dF p q := by unfold dF; exact ins_idem _
 generalize hLL : p.gFuncs ++ q.gFuncs = L at hL hLb hfin ⊢
 generalize hDD : dG p q = G at hd hfin ⊢
 generalize hFF : dF p q = F at hd hd0 hfin ⊢
 refine Kax L (fun pre => insA ltB (F ++ pre.flatMap (tcs G))) (fun a n => (a, (n : Int))) (fun a => a) (by simpa using hd0) (fun pre x post hpp => ?_) ?_ ?_
 ·have hl := Kc8 hpp
  have hx := hLb x (KbY hpp)
  have hn := Kha false x.gBody
  have hni := (Kbl (Kb2 false x.gBody)).2.2
  have hx3 := hx.2.2
  simp only [Kau hpp, cond_true]
  rw [Kae hpp rfl, Option.bind_some, rnames_eq hx.2.2, Option.bind_some]
  refine Kax G (fun pre2 => insA ltB (F ++ pre.flatMap (tcs G) ++ tcs pre2 x)) (fun a n => (a, (n : Int))) (fun a => a) (by simp [tcs]) (fun pre2 g post2 hpp2 => ?_) ?_ ?_
  ·have hl2 := Kc8 hpp2
   have hi := ins_lenB (F ++ pre.flatMap (tcs G) ++ tcs pre2 x) (F ++ L.map (·.gName)) (fun y hy => by
    rcases List.mem_append.1 hy with hy | hy
    ·rcases List.mem_append.1 hy with hy | hy
     ·exact List.mem_append_left _ hy
     ·obtain ⟨f, hf, hz⟩ := List.mem_flatMap.1 hy
      exact List.mem_append_right _ (List.mem_map.2 ⟨f, by rw [hpp]; simp [hf], (tcs_mem hz).symm⟩)
    ·exact List.mem_append_right _ (List.mem_map.2 ⟨x, by rw [hpp]; simp, (tcs_mem hy).symm⟩))
   rw [List.length_append, List.length_map] at hi
   simp only [Kau hpp2, cond_true]
   rw [Kae hpp2 rfl, Option.bind_some, in_eq (by omega), Option.bind_some, Kam hpp2 (by omega)]
   cases hc : hasS g (insA ltB (Kb2 false x.gBody))
   ·simp only [cond_false]
    rw [show tcs (pre2 ++ [g]) x = tcs pre2 x by simp [tcs, hc]]
   ·simp only [cond_true, Option.bind_some]
    rw [put_eq (by omega), Option.bind_some, show tcs (pre2 ++ [g]) x = tcs pre2 x ++ [x.gName] by simp [tcs, hc], ← List.append_assoc, KdZ]
  ·simp only [Kav, cond_false]
  ·rw [Kam hpp (by omega), List.flatMap_append]
   simp
 ·simp only [Kav, cond_false]
 ·rw [hfin]
end Go.Proofs.YtnfkijcmakgkmaaGreat.Ab.Pq
namespace Go.Proofs.YtnfkijcmakgkmaaGreat.Ab.Pq
open Go
set_option linter.all false
theorem rbegin_eq {p q : Pg} (hp : PB p) (hq : PB q) (known : List Ka) (hk : known.length ≤ 4000000) : Kd7 p q known = some (rowK (known.filter (kp (tou p q) (dG p q)))) := by
 have hd := d_len hp hq
 have ht := (Kh6 hp hq).2
 unfold Kd7
 rw [Kjy hp hq, Option.bind_some, rof_eq hp hq, Option.bind_some, cond_false]
 refine Kax known (fun pre => rowK (pre.filter (kp (tou p q) (dG p q)))) (fun a n => (a, (n : Int))) (fun a => a) rfl (fun pre x post e => ?_) ?_ ?_
 ·have hl := Kc8 e
  have hfl := List.length_filter_le (kp (tou p q) (dG p q)) pre
  have hr := Kbu (pre.filter (kp (tou p q) (dG p q)))
  have h3 := hr.2.2
  simp only [Kau e, cond_true]
  rw [Kae e rfl, Option.bind_some, Kam e (by omega), List.filter_append]
  have hx : [x].filter (kp (tou p q) (dG p q)) = if kp (tou p q) (dG p q) x = true then [x] else [] := by
   cases h : kp (tou p q) (dG p q) x <;> simp [h]
  rw [hx]
  have hkx : kp (tou p q) (dG p q) x = if x.gNode < 0 then hasS x.gName (dG p q) else hasS x.gName (tou p q) := rfl
  rw [hkx, in_eq (by omega), in_eq (by omega)]
  by_cases hn : x.gNode < 0
  ·rw [decide_eq_true hn, cond_true, if_pos hn, decide_eq_false (by omega)]
   cases hc : hasS x.gName (dG p q)
   ·simp [hc]
   ·simp only [cond_true, Option.bind_some, if_true]
    rw [rput_eq hr.1 x (by omega), Option.bind_some, Ke2]
  ·rw [decide_eq_false hn, cond_false, if_neg hn, decide_eq_true (by omega)]
   cases hc : hasS x.gName (tou p q)
   ·simp [hc]
   ·simp only [cond_true, Option.bind_some, if_true]
    rw [rput_eq hr.1 x (by omega), Option.bind_some, Ke2]
 ·simp only [Kav, cond_false]
 ·rfl
end Go.Proofs.YtnfkijcmakgkmaaGreat.Ab.Pq
namespace Go.Proofs.YtnfkijcmakgkmaaGreat.Ab
open Go Go.RowKit Go.Shelf Go.Proofs Go.Proofs.YtnfkijcmakgkmaaGreat.Ab.Pq
set_option linter.all false
theorem upR_app {ps qs : List Pr} {x y : Ka} : upR (ps ++ qs) false x y ↔ OR (upR ps false) (upR qs false) x y := by
 unfold OR upR
 simp only [Bool.false_eq_true, if_false, List.mem_append]
theorem g_lives {H : Hp} {w : World} (hA : Ag H w) : Calls Tryz.prog 11 #[] w fun e w' => ∃ r, e = .returned r ∧ ∃ H', Grow H w H' w' ∧ r = .bool true :=
 (to_calls (Kjk true lives32) hA (us := #[]) (by simp only [RepsV])).mono fun e w' ⟨he, hb⟩ => ⟨_, he, H, Ke8 (KaR hA hb), rfl⟩
theorem g_rbegin {H : Hp} {w : World} (hA : Ag H w) {p q : Kw} {known : List Ka} {pv qv kv : Value} (rp : Rep H (Ku p) pv) (rq : Rep H (Ku q) qv) (hk : KL H known kv) (bp : PB p) (bq : PB q) (hl : known.length ≤ 4000000) :
  Calls Tryz.prog 8 #[pv, qv, kv] w fun e w' => ∃ v, e = .returned v ∧ ∃ H', Grow H w H' w' ∧ KL H' (bgK p q known) v :=
 g_told (us := #[pv, qv, kv]) (KiY p q known _ (rbegin_eq bp bq known hl)) hA (by simp only [RepsV]; exact ⟨_, _, rfl, rp, _, _, rfl, rq, _, _, rfl, hk, rfl⟩)
theorem or_len {p q : Kw} {known : List Ka} {ps qs : List Pr} {out : List Ka} (a : AllR (OR (upR ps false) (upR qs false)) (bgK p q known) out) : out.length ≤ known.length + (ps.length + qs.length) := by
 have hb := bgK_len p q known
 have : OfI (upR ps false) (upR qs false) (bgK p q known) out := ⟨a.1, fun k hk => a.2.1 k (by rw [(KgM p q known).cl]; exact hk), fun S s1 s2 => a.2.2.2 S (fun k hk => s1 k (by rw [(KgM p q known).cl] at hk; exact hk)) s2⟩
 have := this.len
 omega
theorem KiS {H : Hp} {p : Kw} {u1 u2 : Value} (h1 : Rep H (.lst 4 (p.gGlobals.map KJ) .no) u1) (h2 : Rep H (.lst 5 (p.gFuncs.map KA) .no) u2) (o1 : one u1 = true) (o2 : one u2 = true) : Rep H (Ku p) (.agg #[u1, u2]) := by
 refine Kgw (us := [u1, u2]) ?_
 have e : ∀ {u : Value}, one u = true → u.cells.toList = [u] := fun {u} h => by cases u <;> simp [one] at h <;> rfl
 simp only [Reps]
 exact ⟨_, _, rfl, ⟨by have := h1.1; rw [e o1] at this; exact this, o1, rfl⟩, _, _, rfl, ⟨by have := h2.1; rw [e o2] at this; exact this, o2, rfl⟩, rfl⟩
theorem rep_case {H : Hp} {a : Ka6} {v : Value} (h : Rep H (KaZ a) v) :
    ∃ a0 n0 m0 a1 n1 m1 a2 n2 m2 a3 n3 m3 a4 m4 a5 m5 a6 m6, v = .agg #[.slice a0 n0 m0, .slice a1 n1 m1, .slice a2 n2 m2, .slice a3 n3 m3, .slice a4 a.gReads.length m4, .slice a5 a.gAdds.length m5, .slice a6 a.gKnown.length m6] ∧
      Rep H (Ku a.gP) (.agg #[.slice a0 n0 m0, .slice a1 n1 m1]) ∧ Rep H (Ku a.gQ) (.agg #[.slice a2 n2 m2, .slice a3 n3 m3]) ∧ PL H a.gReads (.slice a4 a.gReads.length m4) ∧ PL H a.gAdds (.slice a5 a.gAdds.length m5) ∧ KL H a.gKnown (.slice a6 a.gKnown.length m6) := by
  obtain ⟨us, rfl, hr⟩ := KaW h
  simp only [Reps] at hr
  obtain ⟨u0, _, rfl, ⟨h0, o0, _⟩, u1, _, rfl, ⟨h1, o1, _⟩, u2, _, rfl, ⟨h2, o2, _⟩, u3, _, rfl, ⟨h3, o3, _⟩, u4, _, rfl, ⟨h4, o4, _⟩, u5, _, rfl, ⟨h5, o5, _⟩, u6, _, rfl, ⟨h6, o6, _⟩, rfl⟩ := hr
  have r0 := Kap h0 o0 (by cases u0 <;> simp [one] at o0 <;> rfl)
  have r1 := Kap h1 o1 (by cases u1 <;> simp [one] at o1 <;> rfl)
  have r2 := Kap h2 o2 (by cases u2 <;> simp [one] at o2 <;> rfl)
  have r3 := Kap h3 o3 (by cases u3 <;> simp [one] at o3 <;> rfl)
  have r4 := Kap h4 o4 (by cases u4 <;> simp [one] at o4 <;> rfl)
  have r5 := Kap h5 o5 (by cases u5 <;> simp [one] at o5 <;> rfl)
  have r6 := Kap h6 o6 (by cases u6 <;> simp [one] at o6 <;> rfl)
  obtain ⟨a0, m0, rfl⟩ := Kbb r0
  obtain ⟨a1, m1, rfl⟩ := Kbb r1
  obtain ⟨a2, m2, rfl⟩ := Kbb r2
  obtain ⟨a3, m3, rfl⟩ := Kbb r3
  obtain ⟨a4, m4, rfl⟩ := Kbb r4
  obtain ⟨a5, m5, rfl⟩ := Kbb r5
  obtain ⟨a6, m6, rfl⟩ := Kbb r6
  exact ⟨_, _, _, _, _, _, _, _, _, _, _, _, _, _, _, _, _, _, rfl, KiS r0 r1 rfl rfl, KiS r2 r3 rfl rfl, r4, r5, r6⟩
end Go.Proofs.YtnfkijcmakgkmaaGreat.Ab
namespace Go.Proofs.YtnfkijcmakgkmaaGreat.Ab
open Go Go.RowKit Go.Shelf Go.Proofs Go.Proofs.YtnfkijcmakgkmaaGreat.Ab.Pq
set_option linter.all false
theorem g_has {H : Hp} {w : World} (hA : Ag H w) {l : List Ka} {v : Value} (hv : KL H l v) (x : Ka) (hl : l.length ≤ 4611686018427387904) :
  Calls Tryz.prog 12 #[v, .agg #[.string x.gName, .int .i64 x.gNode]] w fun e w' => e = .returned (.bool (hasK l x)) ∧ Grow H w H w' :=
 (to_calls (r26_Has_ok l x _ (rhas_eq l x hl)) hA (us := #[v, encK x]) (by simp only [RepsV]; exact ⟨_, _, rfl, hv, _, _, rfl, rep_key H x, rfl⟩)).mono fun e w' ⟨he, hb⟩ => ⟨he, Ke8 (KaR hA hb)⟩
theorem has_of {l : List Ka} (h : RowC l) {x : Ka} (hx : clK x = x) : hasK l x = true ↔ x ∈ l := by
 rw [KhG h.2, hx]
theorem has_step {ps qs : List Pr} {b out : List Ka} (a : AllR (OR (upR ps false) (upR qs false)) b out) (cp : CP (ps ++ qs)) {p : Pr} (hp : p ∈ ps ++ qs) (hy : hasK out p.gY = true) : hasK out p.gX = true := by
 have c := cp p hp
 rw [has_of a.1 c.2] at hy
 rw [has_of a.1 c.1]
 exact a.2.2.1 _ hy _ (upR_app.1 (Kev.2 ⟨p, hp, rfl, rfl⟩))
theorem Kew {H : Hp} {w w1 : World} {H' : Hp} {w2 : World} (hb : Below w.heap.size w w1) (g : Grow H w1 H' w2) : Below w.heap.size w w2 := hb.trans (g.below.mono hb.size)
theorem Ki0 (k : Ka6) (bp : PB k.gP) (bq : PB k.gQ) (hl : k.gKnown.length ≤ 1048576) (nr : k.gReads.length ≤ 1048576) (na : k.gAdds.length ≤ 1048576) :
    CallsD Tryz.prog 4 [KaZ k] [] [] (fun d h k => d = .v (.bool true) ∧ h = [] ∧ k = []) := by
  refine ⟨⟨_, Tryz.func4, rfl, rfl⟩, fun H0 w vs hv hA _ _ _ => ?_⟩
  simp only [RepsV] at hv
  obtain ⟨u1, _, rfl, g1, rfl⟩ := hv
  obtain ⟨a0, n0, m0, a1, n1, m1, a2, n2, m2, a3, n3, m3, a4, m4, a5, m5, a6, m6, rfl, rp, rq, rr, ra, rk⟩ := rep_case g1
  clear g1
  have mixed : Tryz.prog.follows .mixedOrders = true := by kernel_rfl
  suffices hs : Calls Tryz.prog 4 #[.agg #[.slice a0 n0 m0, .slice a1 n1 m1, .slice a2 n2 m2, .slice a3 n3 m3, .slice a4 k.gReads.length m4, .slice a5 k.gAdds.length m5, .slice a6 k.gKnown.length m6]] w fun e w' => e = .returned (.bool true) ∧ Below w.heap.size w w' from
    hs.mono fun e w' ⟨he, hb⟩ => ⟨_, H0, .v (.bool true), [], [], he, rep_v rfl, KaR hA hb, rfl, rfl, rfl⟩
  obtain ⟨W1, hW1⟩ : ∃ W1, W1 = w.alloc (.cells #[.slice a0 n0 m0, .slice a1 n1 m1, .slice a2 n2 m2, .slice a3 n3 m3, .slice a4 k.gReads.length m4, .slice a5 k.gAdds.length m5, .slice a6 k.gKnown.length m6] 29) := ⟨_, rfl⟩
  have hb1 : Below w.heap.size w W1 := by rw [hW1]; exact (Below.refl _ w).alloc (Nat.le_refl _) _
  have hA1 : Ag H0 W1 := Go.Proofs.YtnfkijcmakgkmaaGreat.Ag.below hA hb1
  have hx1 : W1.heap[w.heap.size]? = some (.cells #[.slice a0 n0 m0, .slice a1 n1 m1, .slice a2 n2 m2, .slice a3 n3 m3, .slice a4 k.gReads.length m4, .slice a5 k.gAdds.length m5, .slice a6 k.gKnown.length m6] 29 (0, 0)) := by rw [hW1, Kaq, if_pos rfl]
  have hs1 : w.heap.size < W1.heap.size := by rw [hW1]; simp
  have x4 : W1.cell? ⟨w.heap.size, 4, none⟩ = some (.slice a4 k.gReads.length m4) := by simp [World.cell?, hx1]
  have hlay := KiQ H0 W1 hA1 rr nr
  go_enter Tryz.func4, Tryz.ntmps4
  go_wp2_with fail
  rw [← hW1]
  clear hW1
  go_wp2_with fail
  refine hlay.mono ?_
  rintro e W3 ⟨yp, v3, rfl, ⟨H3, y, ps, l3, rfl, c3, k3, r3, lp3⟩⟩
  clear hlay x4
  have hx3 := ((Ken (c3.drop (List.nil_sublist _) (List.Sublist.refl _))).block _ hs1).trans hx1
  have x5 : W3.cell? ⟨w.heap.size, 5, none⟩ = some (.slice a5 k.gAdds.length m5) := by simp [World.cell?, hx3]
  have hlay := KiQ H3 W3 c3.ag (PL.mono ra l3) na
  go_wp2_with fail
  refine hlay.mono ?_
  rintro e W5 ⟨zp, v5, rfl, ⟨H5, z, qs, l5, rfl, c5, k5, r5, lp5⟩⟩
  clear hlay x5
  replace c5 := (Core.call (h1 := []) (k1 := []) (h2 := webH y) (k2 := []) c3 c5).perm (List.perm_append_comm (l₁ := webH z) (l₂ := webH y)) (List.Perm.refl _)
  clear c3
  have hb5 := Ken (c5.drop (List.nil_sublist _) (List.Sublist.refl _))
  have hx5 := (hb5.block _ hs1).trans hx1
  have f1 : Go.Proofs.YtnfkijcmakgkmaaGreat.Blk E W5 w.heap.size w.heap.size #[.slice a0 n0 m0, .slice a1 n1 m1, .slice a2 n2 m2, .slice a3 n3 m3, .slice a4 k.gReads.length m4, .slice a5 k.gAdds.length m5, .slice a6 k.gKnown.length m6] 29 := ⟨Nat.le_refl _, hx5, fun _ => rfl⟩
  have k3' := PL.mono k3 l5
  replace rp := Rep.mono (Hp.le_trans l3 l5) rp
  replace rq := Rep.mono (Hp.le_trans l3 l5) rq
  replace rk := KL.mono (Hp.le_trans l3 l5) rk
  have hA5 := c5.ag
  have blks5 := c5.blks
  have nd5 := c5.nd
  have ry := r3.mono nr
  have rz := r5.mono na
  have np : ps.length ≤ 1048576 := Nat.le_trans lp3 nr
  have nq : qs.length ≤ 1048576 := Nat.le_trans lp5 na
  have x0 : W5.cell? ⟨w.heap.size, 0, none⟩ = some (.slice a0 n0 m0) := by simp [World.cell?, hx5]
  have x1 : W5.cell? ⟨w.heap.size, 1, none⟩ = some (.slice a1 n1 m1) := by simp [World.cell?, hx5]
  have x2 : W5.cell? ⟨w.heap.size, 2, none⟩ = some (.slice a2 n2 m2) := by simp [World.cell?, hx5]
  have x3 : W5.cell? ⟨w.heap.size, 3, none⟩ = some (.slice a3 n3 m3) := by simp [World.cell?, hx5]
  have x6 : W5.cell? ⟨w.heap.size, 6, none⟩ = some (.slice a6 k.gKnown.length m6) := by simp [World.cell?, hx5]
  clear hx1 hx3 c5 rr ra k3 r3 r5 f1
  have hof := Of_calls _ _ hA5 rp rq rk bp bq hl blks5 nd5 ry rz np nq
  have cpq : CP (ps ++ qs) := fun x hx => (List.mem_append.1 hx).elim (ry.cp x) (rz.cp x)
  have hbw := hb1.trans (hb5.mono hb1.size)
  go_wp2_with fail
  refine hof.mono ?_
  rintro e W6 ⟨v6, rfl, H6, g6, out, k6, ao⟩
  clear hof x0 x1 x2 x3 x6
  have hol := or_len ao
  replace hx5 := (g6.below.block _ (Array.getElem?_eq_some_iff.1 hx5).1).trans hx5
  replace k3' := PL.mono k3' g6.le
  replace k5 := PL.mono k5 g6.le
  replace rp := Rep.mono g6.le rp
  replace rq := Rep.mono g6.le rq
  replace rk := KL.mono g6.le rk
  replace hbw := Kew hbw g6
  have hA6 := g6.ag
  clear g6 blks5 nd5 hA5 hb5 ry rz l3 l5
  obtain ⟨oa, om, rfl⟩ := Kbb k6
  obtain ⟨pa, pm, rfl⟩ := Kbb k3'
  obtain ⟨qa, qm, rfl⟩ := Kbb k5
  go_wp2_with fail
  go_loopw [8] (fun s8 wr => ∃ i : Nat, s8 = .int .i64 i ∧ i ≤ ps.length ∧ Grow H6 W6 H6 wr) (fun s8 _ => ps.length - (intOf s8).toNat)
  case atStart => exact ⟨0, rfl, Nat.zero_le _, Grow.refl hA6⟩
  case round =>
    obtain ⟨i, rfl, hi, g7⟩ := hrel
    by_cases hlt : i < ps.length
    · have hkk := List.getElem?_eq_getElem hlt
      obtain ⟨b, off, rfl, e1, e2, e3, e4⟩ := KdS g7.ag k3' hkk
      have hmem : ps[i] ∈ ps ++ qs := List.mem_append_left _ (List.getElem_mem hlt)
      have hstep := has_step ao cpq hmem
      generalize ps[i] = x at hkk e1 e2 e3 e4 hmem hstep
      have hw1 := KbL i (by omega)
      have hh := g_has g7.ag k6 x.gY (by omega)
      go_wp2_with fail
      refine hh.mono ?_
      rintro e W8 ⟨rfl, g8⟩
      clear hh
      have g9 := g7.trans g8
      cases hy : hasK out x.gY with
      | false =>
        go_wp2
        exact ⟨⟨i + 1, rfl, hlt, g9⟩, KcX hlt⟩
      | true =>
        obtain ⟨_, _, e0, e1, e2, e3, e4⟩ := KdS g9.ag k3' hkk
        cases e0
        have hh := g_has g9.ag k6 x.gX (by omega)
        rw [hstep hy] at hh
        go_wp2_with fail
        refine hh.mono ?_
        rintro e W10 ⟨rfl, g10⟩
        clear hh
        go_wp2
        exact ⟨⟨i + 1, rfl, hlt, g9.trans g10⟩, KcX hlt⟩
    · obtain rfl : i = ps.length := Nat.le_antisymm hi (Nat.le_of_not_lt hlt)
      replace hbw := Kew hbw g7
      replace hx5 := (g7.below.block _ (Array.getElem?_eq_some_iff.1 hx5).1).trans hx5
      have hA7 := g7.ag
      clear g7 hlt hi hA6 k3'
      go_wp2_with fail
      go_loopw [9] (fun s9 w7 => ∃ i : Nat, s9 = .int .i64 i ∧ i ≤ qs.length ∧ Grow H6 wr H6 w7) (fun s9 _ => qs.length - (intOf s9).toNat)
      case atStart => exact ⟨0, rfl, Nat.zero_le _, Grow.refl hA7⟩
      case round =>
        obtain ⟨i, rfl, hi, g7⟩ := hrel
        by_cases hlt : i < qs.length
        · have hkk := List.getElem?_eq_getElem hlt
          obtain ⟨b, off, rfl, e1, e2, e3, e4⟩ := KdS g7.ag k5 hkk
          have hmem : qs[i] ∈ ps ++ qs := List.mem_append_right _ (List.getElem_mem hlt)
          have hstep := has_step ao cpq hmem
          generalize qs[i] = x at hkk e1 e2 e3 e4 hmem hstep
          have hw1 := KbL i (by omega)
          have hh := g_has g7.ag k6 x.gY (by omega)
          go_wp2_with fail
          refine hh.mono ?_
          rintro e W8 ⟨rfl, g8⟩
          clear hh
          have g9 := g7.trans g8
          cases hy : hasK out x.gY with
          | false =>
            go_wp2
            exact ⟨⟨i + 1, rfl, hlt, g9⟩, KcX hlt⟩
          | true =>
            obtain ⟨_, _, e0, e1, e2, e3, e4⟩ := KdS g9.ag k5 hkk
            cases e0
            have hh := g_has g9.ag k6 x.gX (by omega)
            rw [hstep hy] at hh
            go_wp2_with fail
            refine hh.mono ?_
            rintro e W10 ⟨rfl, g10⟩
            clear hh
            go_wp2
            exact ⟨⟨i + 1, rfl, hlt, g9.trans g10⟩, KcX hlt⟩
        · obtain rfl : i = qs.length := Nat.le_antisymm hi (Nat.le_of_not_lt hlt)
          replace hbw := Kew hbw g7
          replace hx5 := (g7.below.block _ (Array.getElem?_eq_some_iff.1 hx5).1).trans hx5
          have hA9 := g7.ag
          clear g7 hlt hi hA7 k5
          have x0 : wr.cell? ⟨w.heap.size, 0, none⟩ = some (.slice a0 n0 m0) := by simp [World.cell?, hx5]
          have x1 : wr.cell? ⟨w.heap.size, 1, none⟩ = some (.slice a1 n1 m1) := by simp [World.cell?, hx5]
          have x2 : wr.cell? ⟨w.heap.size, 2, none⟩ = some (.slice a2 n2 m2) := by simp [World.cell?, hx5]
          have x3 : wr.cell? ⟨w.heap.size, 3, none⟩ = some (.slice a3 n3 m3) := by simp [World.cell?, hx5]
          have x6 : wr.cell? ⟨w.heap.size, 6, none⟩ = some (.slice a6 k.gKnown.length m6) := by simp [World.cell?, hx5]
          have hrb := g_rbegin hA9 rp rq rk bp bq (by omega)
          go_wp2_with fail
          refine hrb.mono ?_
          rintro e W11 ⟨v11, rfl, H11, g11, k11⟩
          clear hrb x0 x1 x2 x3 x6 hx5
          have hbl := bgK_len k.gP k.gQ k.gKnown
          have hbr := KgM k.gP k.gQ k.gKnown
          have hin : ∀ x ∈ bgK k.gP k.gQ k.gKnown, hasK out x = true := fun x hx => (has_of ao.1 (hbr.2 x hx)).2 (ao.2.1 x (by rw [hbr.cl]; exact hx))
          generalize bgK k.gP k.gQ k.gKnown = bb at k11 hbl hin ⊢
          replace hbw := Kew hbw g11
          replace k6 := KL.mono g11.le k6
          have hA11 := g11.ag
          clear g11 hA9
          obtain ⟨ba, bm, rfl⟩ := Kbb k11
          go_wp2_with fail
          go_loopw [11] (fun s11 w7 => ∃ i : Nat, s11 = .int .i64 i ∧ i ≤ bb.length ∧ Grow H11 W11 H11 w7) (fun s11 _ => bb.length - (intOf s11).toNat)
          case atStart => exact ⟨0, rfl, Nat.zero_le _, Grow.refl hA11⟩
          case round =>
            obtain ⟨i, rfl, hi, g7⟩ := hrel
            by_cases hlt : i < bb.length
            · have hkk := List.getElem?_eq_getElem hlt
              obtain ⟨b, off, rfl, e1, e2⟩ := kl_cells g7.ag k11 hkk
              have hy := hin _ (List.getElem_mem hlt)
              generalize bb[i] = x at hkk e1 e2 hy
              have hw1 := KbL i (by omega)
              have hh := g_has g7.ag k6 x (by omega)
              rw [hy] at hh
              go_wp2_with fail
              refine hh.mono ?_
              rintro e W12 ⟨rfl, g8⟩
              clear hh
              go_wp2
              exact ⟨⟨i + 1, rfl, hlt, g7.trans g8⟩, KcX hlt⟩
            · obtain rfl : i = bb.length := Nat.le_antisymm hi (Nat.le_of_not_lt hlt)
              replace hbw := Kew hbw g7
              have hlv := g_lives g7.ag
              go_wp2_with fail
              refine hlv.mono ?_
              rintro e W13 ⟨v13, rfl, H13, g13, rfl⟩
              go_wp2
              go_ret
              exact ⟨rfl, Kew hbw g13⟩
end Go.Proofs.YtnfkijcmakgkmaaGreat.Ab
namespace Go.Proofs.YtnfkijcmakgkmaaGreat.Ab
open Go Go.Proofs.YtnfkijcmakgkmaaGreat.Ab.Pq
set_option linter.all false
theorem wts_mem {α : Type} {e : α → D} : ∀ {l : List α} {x : α}, x ∈ l → wt (e x) ≤ wts (l.map e)
  | y :: l, x, h => by
    simp only [List.map_cons, wts]
    rcases List.mem_cons.1 h with rfl | h
    · omega
    · have := wts_mem (e := e) h; omega
theorem wts_vl : ∀ l : List Ka3, l.length ≤ wts (l.map Kaf)
  | [] => by simp
  | v :: l => by
    have := wts_vl l
    simp only [List.length_cons, List.map_cons, wts]
    have h : 1 ≤ wt (Kaf v) := by
      unfold Kaf; simp only [wt, wts, wtv]; omega
    omega
theorem wt_fb (x : KQ) (h : wt (KA x) ≤ 1048576) : Pq.FB x := by
 have h1 := wts_vl x.gParams
 have h2 := wts_vl x.gLocals
 have h3 := KgJ x.gBody
 unfold wSs at h3
 unfold KA at h
 simp only [wt, wts, wtv] at h
 unfold Pq.FB
 omega
theorem wt_funcs : ∀ l : List KQ, 4 * l.length ≤ wts (l.map KA)
  | [] => Nat.zero_le _
  | x :: l => by
    have := wt_funcs l
    simp only [List.map_cons, wts, List.length_cons, KA, wt, wtv]; omega
theorem wt_globs : ∀ l : List K8, 4 * l.length ≤ wts (l.map KJ)
  | [] => Nat.zero_le _
  | x :: l => by
    have := wt_globs l
    simp only [List.map_cons, wts, List.length_cons, KJ, wt, wtv]; omega
theorem KhL : ∀ l : List KX, l.length ≤ wts (l.map KZ)
  | [] => Nat.zero_le _
  | x :: l => by
    have := KhL l
    simp only [List.map_cons, wts, List.length_cons, KZ, wt, wtv]; omega
theorem wt_keys : ∀ l : List Ka, l.length ≤ wts (l.map Kf)
  | [] => Nat.zero_le _
  | x :: l => by
    have := wt_keys l
    simp only [List.map_cons, wts, List.length_cons, Kf, wt, wtv]; omega
theorem wt_pb (p : Kw) (h1 : wts (p.gGlobals.map KJ) ≤ 1048576) (h2 : wts (p.gFuncs.map KA) ≤ 1048576) : PB p := by
 have := wt_funcs p.gFuncs
 have := wt_globs p.gGlobals
 refine ⟨by omega, by omega, fun x hx => wt_fb x ?_⟩
 have := wts_mem (e := KA) hx
 omega
theorem wt_case (k : Ka6) (h : wt (KaZ k) ≤ 1048576) : PB k.gP ∧ PB k.gQ ∧ k.gKnown.length ≤ 1048576 ∧ k.gReads.length ≤ 1048576 ∧ k.gAdds.length ≤ 1048576 := by
 unfold KaZ at h
 simp only [wt, wts, wtv] at h
 have h1 := wt_keys k.gKnown
 have h2 := KhL k.gReads
 have h3 := KhL k.gAdds
 exact ⟨wt_pb _ (by omega) (by omega), wt_pb _ (by omega) (by omega), by omega, by omega, by omega⟩
theorem SpreadRests_U (a0 : Ka6) (h : wt (KaZ a0) ≤ 1048576) (_ : KdD a0) : CallsD Tryz.prog 4 [KaZ a0] [] [] (fun d h k => d = .v (.bool true) ∧ h = [] ∧ k = []) := by
 obtain ⟨h1, h2, h3, h4, h5⟩ := wt_case a0 h
 exact Ki0 a0 h1 h2 h3 h4 h5
end Go.Proofs.YtnfkijcmakgkmaaGreat.Ab
namespace Go.Proofs.YtnfkijcmakgkmaaGreat
open Go.ChangeShapes Go.WideShapes Go.ChangeAt Go.RowKit Go.Joins
set_option linter.all false
mutual
theorem KcY {H : Type} : ∀ d : DataW H, Ab.bulk d ≤ Rows.uptoBulk d
 | .lit (.string bytes) => by simp [Ab.bulk, Rows.uptoBulk]
 | .lit (.int _ _) => by simp [Ab.bulk, Rows.uptoBulk]
 | .lit (.bool _) => by simp [Ab.bulk, Rows.uptoBulk]
 | .lit l => by cases l <;> simp [Ab.bulk, Rows.uptoBulk]
 | .nil => by simp [Ab.bulk, Rows.uptoBulk]
 | .ptr d => by have := KcY d; simp only [Ab.bulk, Rows.uptoBulk]; omega
 | .slice elems spare => by have h1 := Kbr elems; have h2 := Kbr spare; simp only [Ab.bulk, Rows.uptoBulk]; omega
 | .agg parts => by have := Kbr parts; simp only [Ab.bulk, Rows.uptoBulk]; omega
 | .iface t d => by have := KcY d; simp only [Ab.bulk, Rows.uptoBulk]; omega
 | .map entries => by simp [Ab.bulk, Rows.uptoBulk]
 | .held h => by simp [Ab.bulk, Rows.uptoBulk]
theorem Kbr {H : Type} : ∀ l : List (DataW H), Ab.bulkAll l ≤ Rows.uptoBulkAll l
 | [] => by simp [Ab.bulkAll, Rows.uptoBulkAll]
 | d :: l => by have h1 := KcY d; have h2 := Kbr l; simp only [Ab.bulkAll, Rows.uptoBulkAll]; omega
end
theorem Kfy (os : Os) (started : os.Started) (H : Type) (enc : TypeId × Value → H) (Fi : Stop.Interp) :
  ReturnsInHanded {} Tryz.checked os 4 .any ((Rows.OpenSpec.upto Rows.spreadRestsSpec).pre6 enc Tryz.prog Tryz.f4 Rows.spreadRestsUptoRow.domain false) (((Rows.OpenSpec.upto Rows.spreadRestsSpec).at Fi).post enc Tryz.prog Tryz.f4 false true false false) := by
 refine returnsInHanded_of_cond (C := Tryz.checked) (s := Rows.OpenSpec.upto Rows.spreadRestsSpec) (k := Rows.uptoSmall) rfl own started (by kernel_rfl) Tryz.func4
  (OpenSpec.witness (enc := enc) (C := Tryz.checked) (s := Rows.OpenSpec.upto Rows.spreadRestsSpec) (k := Rows.uptoSmall) rfl false ⟨#[], #[.agg #[.slice none 0 0, .slice none 0 0, .slice none 0 0, .slice none 0 0, .slice none 0 0, .slice none 0 0, .slice none 0 0]], []⟩ 8 (by kernel_rfl) (by kernel_rfl) (by kernel_rfl)
   (x := ([.agg [.agg [.nil, .nil], .agg [.nil, .nil], .nil, .nil, .nil]], [], [])) (by kernel_rfl) rfl (by kernel_rfl)) ?_
 intro W base args ds gs before hval0 hW _ hk _
 have hval : ∀ (j : Nat) t v, Tryz.f4.params[j]? = some t → args[j]? = some v → Value.okWide Tryz.prog W .any base t v := hval0
 have hW' := hW
 obtain ⟨p, q, hA0, hV, rfl, hfz, hnd⟩ := hW
 have hA : DataW.TrodAll enc Tryz.prog W 0 (fun _ => true) true Tryz.f4.params.toList args.toList ds p := hA0
 obtain ⟨rfl, rfl⟩ := trodVars_none hV
 simp only [List.append_nil] at hW' hk
 have hback := KiB laidOut' (by kernel_rfl) hA (fun x hx => hW'.lt x hx)
 rw [Tryz.params4] at hA hval
 obtain ⟨v0, vs0, d0, ds0, p0, q0, hargs, rfl, hp0, h0, r0⟩ := trodAll_cons hA
 obtain ⟨rfl, rfl, hpn⟩ := trodAll_nil r0
 obtain rfl : args = #[v0] := by cases args; simp_all
 obtain ⟨n0, x0, g0, rep0, u0⟩ := Ab.rdw_arg (t := 29) Ab.htab [3, 4, 9, 22, 23, 25, 26, 27, 29, 41, 43, 60, 61, 63, 95, 97, 100, 110, 130] (by kernel_rfl) (by kernel_rfl) (hval 0 29 v0 rfl rfl) h0
 obtain ⟨a0, rfl, k0⟩ := Ab.goodTSondagelaw32Case g0
 have hb0 := of_decide_eq_true hk
 have hb1 := Kbr [d0]
 simp only [Ab.bulkAll] at hb1
 clear hA0 hval0
 refine (Ab.to_calls (us := #[v0]) (Ab.SpreadRests_U a0 (by omega) k0) (Ab.ag_all W) (by simp only [Ab.RepsV]; exact ⟨_, _, rfl, rep0, rfl⟩)).mono fun e W' ⟨he, hb⟩ => ?_
 subst he
 exact ⟨_, rfl, _, _, _, [], p, [], hW', trodAll_cons_mk (shut_bool Tryz.underlying4 _) trodAll_mk0, hback W' hb _ (fun x hx => by simpa using hW'.lt x hx), rfl, hb.frame _, fun h => by cases h⟩
theorem spreadRestsUpto_holds : Rows.SpreadRestsUptoSaid :=
 OpenClaim.holds_of_cond 4 Tryz.f4 rfl rfl rfl rfl rfl rfl rfl ⟨rfl, rfl, rfl, rfl, rfl⟩ rfl rfl rfl rfl rfl (by kernel_rfl) Tryz.func4 (by kernel_rfl)
  (of_decide_eq_true (by kernel_rfl)) (by unfold Func.isWrapper; rw [if_neg (of_decide_eq_false (by kernel_rfl))]; exact ⟨rfl, rfl⟩)
  (fun os started H enc _ Fi => Kfy os started H enc Fi)
#print axioms spreadRestsUpto_holds
end Go.Proofs.YtnfkijcmakgkmaaGreat
