/- Layer 18: what changes touch. -/
import Derived.Test.YtpeimfcmhedjmaaCq1
namespace Go.Proofs.Ytpeimfcmhedjmaa.Ab.Pq
open Go
set_option linter.all false
theorem beqc {α : Type} [BEq α] [LawfulBEq α] (a b : α) : (a == b) = (b == a) := by
  rw [Bool.eq_iff_iff, beq_iff_eq, beq_iff_eq]; exact eq_comm
theorem decc {α : Type} [DecidableEq α] (a b : α) : decide (a = b) = decide (b = a) := decide_eq_decide.2 eq_comm
mutual
theorem eqE_comm : ∀ e f, eqE false e f = eqE false f e
  | ⟨a, b, c, ks, d⟩, ⟨a', b', c', ks', d'⟩ => by
    rw [eqE_eq, eqE_eq]
    simp only [Bool.not_false, Bool.true_or]
    rw [beqc a, beqc b, decc c, eqEs_comm ks ks']
theorem eqEs_comm : ∀ l m, eqEs false l m = eqEs false m l
  | [], [] => rfl
  | [], _ :: _ => by simp [eqEs]
  | _ :: _, [] => by simp [eqEs]
  | e :: l, f :: m => by simp only [eqEs]; rw [eqE_comm e f, eqEs_comm l m]
end
mutual
theorem eqS_comm : ∀ e f, eqS false e f = eqS false f e
  | ⟨a, b, c, es, ks, ls, d⟩, ⟨a', b', c', es', ks', ls', d'⟩ => by
    rw [eqS_eq, eqS_eq]
    simp only [Bool.not_false, Bool.true_or]
    rw [beqc a, decc b, decc c, eqEs_comm es es', eqSs_comm ks ks', eqSs_comm ls ls']
theorem eqSs_comm : ∀ l m, eqSs false l m = eqSs false m l
  | [], [] => rfl
  | [], _ :: _ => by simp [eqSs]
  | _ :: _, [] => by simp [eqSs]
  | e :: l, f :: m => by simp only [eqSs]; rw [eqS_comm e f, eqSs_comm l m]
end
theorem all2_comm {β : Type} {t : β → β → Bool} (ht : ∀ x y, t x y = t y x) : ∀ l m, all2 t l m = all2 t m l
  | [], [] => rfl
  | [], _ :: _ => rfl
  | _ :: _, [] => rfl
  | x :: l, y :: m => by
    show (t x y && all2 t l m) = (t y x && all2 t m l)
    rw [ht, all2_comm ht l m]
theorem eqVar_comm (a b : TApiVar) : eqVar a b = eqVar b a := by unfold eqVar; rw [decc a.gName, beqc a.gPtr]
theorem eqF_comm (a b : TApiFunc) : eqF a b = eqF b a := by
  unfold eqF
  rw [decc a.gName, all2_comm eqVar_comm a.gParams, all2_comm eqVar_comm a.gLocals, eqSs_comm a.gBody]
theorem chF_comm (p q : Pg) (s : ByteArray) : chF p q s = chF q p s := by
  unfold chF
  cases fnF p.gFuncs s <;> cases fnF q.gFuncs s <;> simp only []
  rw [eqF_comm]
theorem chG_comm (p q : Pg) (s : ByteArray) : chG p q s = chG q p s := by
  unfold chG
  cases fnG p.gGlobals s <;> cases fnG q.gGlobals s <;> simp only []
  unfold neG bne
  rename_i a b
  rw [beqc a.gPtr, beqc a.gSize]
theorem ins_same {l m : List ByteArray} (h : ∀ x, x ∈ l ↔ x ∈ m) : insA ltB l = insA ltB m := by
  have h1 := insB_all l
  have h2 := insB_all m
  exact rise_unique (fun a b h k => lsOf_inj (List.le_antisymm h k)) h1.1 h2.1 fun x => (h1.2.1 x).trans ((h x).trans (h2.2.1 x).symm)
theorem dF_comm (p q : Pg) : dF p q = dF q p := ins_same fun x => by
  simp only [List.mem_filter, List.mem_append, chF_comm p q x]
  constructor
  · rintro ⟨h, k⟩; exact ⟨h.symm, k⟩
  · rintro ⟨h, k⟩; exact ⟨h.symm, k⟩
theorem dG_comm (p q : Pg) : dG p q = dG q p := ins_same fun x => by
  simp only [List.mem_filter, List.mem_append, chG_comm p q x]
  constructor
  · rintro ⟨h, k⟩; exact ⟨h.symm, k⟩
  · rintro ⟨h, k⟩; exact ⟨h.symm, k⟩
theorem dF_self (p : Pg) : dF p p = [] := by
  have : (nmsF p ++ nmsF p).filter (chF p p) = [] := by
    rw [List.filter_eq_nil_iff]
    intro s hs
    have hs' : s ∈ nmsF p := by rcases List.mem_append.1 hs with h | h <;> exact h
    obtain ⟨x, hx, rfl⟩ := List.mem_map.1 hs'
    have := fnF_some hx
    unfold chF
    cases h : fnF p.gFuncs x.gName with
    | none => rw [h] at this; cases this
    | some a => simp [eqF_refl]
  unfold dF; rw [this]; rfl
theorem dG_self (p : Pg) : dG p p = [] := by
  have : (nmsG p ++ nmsG p).filter (chG p p) = [] := by
    rw [List.filter_eq_nil_iff]
    intro s hs
    have hs' : s ∈ nmsG p := by rcases List.mem_append.1 hs with h | h <;> exact h
    obtain ⟨x, hx, rfl⟩ := List.mem_map.1 hs'
    have := fnG_some hx
    unfold chG
    cases h : fnG p.gGlobals x.gName with
    | none => rw [h] at this; cases this
    | some a => simp [neG]
  unfold dG; rw [this]; rfl
/-! ### What is touched -/
def hasS (s : ByteArray) (l : List ByteArray) : Bool := l.any fun x => decide (s = x)
theorem contains_eq (s : ByteArray) {l : List ByteArray} (hl : l.length ≤ 4000000) : slices_Contains_string_string l s = some (hasS s l) := by
  unfold slices_Contains_string_string slices_Index_string_string
  obtain ⟨i, h1, h2⟩ := find_loop (fun x => decide (s = x)) (l := l) (f := fun (s15 : Int) => (bif (decide (s15 < (l.length : Int))) then ((idx l s15).bind fun x25 => (bif (decide (s = x25)) then some (.done (.inr s15)) else some (.next (IntKind.i64.wrap (s15 + (1 : Int)))))) else some (.done (.inl ())))) (fun p x q h => by
    rw [lt_pre h, cond_true, idx_pre2 h rfl, Option.bind_some, inc_pre h (by omega)]
    cases decide (s = x) <;> rfl) (by rw [lt_end, cond_false])
  rw [h1, Option.bind_some]
  unfold hasS
  rcases h2 with ⟨rfl, h⟩ | ⟨n, x, rfl, _, h, h'⟩
  · have : l.any (fun x => decide (s = x)) = false := by
      rw [List.find?_eq_none] at h
      rw [List.any_eq_false]; exact fun x hx => h x hx
    rw [this]; rfl
  · have : l.any (fun x => decide (s = x)) = true := List.any_eq_true.2 ⟨x, List.mem_of_find?_eq_some h', List.find?_some (p := fun x => decide (s = x)) h'⟩
    rw [this, decide_eq_true (by omega)]
theorem containsF_eq {l m : List ByteArray} (hl : l.length ≤ 4000000) (hm : m.length ≤ 4000000) : slices_ContainsFunc_string_string l m = some (l.any fun g => hasS g m) := by
  unfold slices_ContainsFunc_string_string slices_IndexFunc_string_string
  obtain ⟨i, h1, h2⟩ := find_loop (fun x => hasS x m) (l := l) (f := fun (s18 : Int) => (bif (decide (s18 < (l.length : Int))) then ((idx l s18).bind fun x30 => ((change_Touched_1 x30 m).bind fun x31 => (bif x31 then some (.done (.inr s18)) else some (.next (IntKind.i64.wrap (s18 + (1 : Int))))))) else some (.done (.inl ())))) (fun p x q h => by
    rw [lt_pre h, cond_true, idx_pre2 h rfl, Option.bind_some, inc_pre h (by omega)]
    unfold change_Touched_1
    rw [contains_eq _ hm]
    simp only [Option.bind_some]
    cases hasS x m <;> rfl) (by rw [lt_end, cond_false])
  rw [h1, Option.bind_some]
  rcases h2 with ⟨rfl, h⟩ | ⟨n, x, rfl, _, h, h'⟩
  · have : l.any (fun g => hasS g m) = false := by
      rw [List.find?_eq_none] at h
      rw [List.any_eq_false]; exact fun x hx => h x hx
    rw [this]; rfl
  · have : l.any (fun g => hasS g m) = true := List.any_eq_true.2 ⟨x, List.mem_of_find?_eq_some h', List.find?_some (p := fun g => hasS g m) h'⟩
    rw [this, decide_eq_true (by omega)]
def tch (d : List ByteArray) (f : TApiFunc) : Bool := d.any fun g => hasS g (insA ltB (namesOf false f.gBody))
def tou (p q : Pg) : List ByteArray := insA ltB (dF p q ++ ((p.gFuncs ++ q.gFuncs).filter (tch (dG p q))).map (·.gName))
theorem touched_eq {p q : Pg} (hp : PB p) (hq : PB q) : change_Touched p q = some (tou p q) ∧ (tou p q).length ≤ 1048576 := by
  have h1 := hp.f
  have h2 := hq.f
  have hd := d_len hp hq
  have hfl := List.length_filter_le (tch (dG p q)) (p.gFuncs ++ q.gFuncs)
  rw [List.length_append] at hfl
  have hil := (insB_all (dF p q ++ ((p.gFuncs ++ q.gFuncs).filter (tch (dG p q))).map (·.gName))).2.2
  rw [List.length_append, List.length_map] at hil
  refine ⟨?_, by unfold tou; omega⟩
  unfold change_Touched
  rw [of_r hp hq, Option.bind_some, concatF h1 h2, Option.bind_some]
  refine loop_list (p.gFuncs ++ q.gFuncs) (fun pre => dF p q ++ (pre.filter (tch (dG p q))).map (·.gName)) (fun a n => ((n : Int), a)) (fun a => (dG p q, a)) (by simp) (fun pre x post hpp => ?_) ?_ ?_
  · have hl := pre_len hpp
    have hfl := List.length_filter_le (tch (dG p q)) pre
    rw [List.length_append] at hl
    have hx : FB x := by
      rcases List.mem_append.1 (pre_mem hpp) with hx | hx
      · exact hp.b x hx
      · exact hq.b x hx
    have hn := namesOf_len false x.gBody
    have hni := (insB_all (namesOf false x.gBody)).2.2
    have hx3 := hx.2.2
    simp only [lt_pre hpp, cond_true]
    rw [idx_pre2 hpp rfl, Option.bind_some, names_eq hx.2.2, Option.bind_some, containsF_eq (by omega) (by omega), Option.bind_some, inc_pre hpp (by simp; omega), List.filter_append, List.map_append]
    rw [show (dG p q).any (fun g => hasS g (insA ltB (namesOf false x.gBody))) = tch (dG p q) x from rfl]
    cases ht : tch (dG p q) x
    · simp [ht]
    · simp only [cond_true]
      rw [app_len (by omega) (by simp; omega), Option.bind_some]
      simp [ht]
  · simp only [lt_end, cond_false]
  · rw [row_eq (by rw [List.length_append, List.length_map]; omega), Option.bind_some]; rfl
theorem tou_comm (p q : Pg) : tou p q = tou q p := by
  unfold tou
  rw [dF_comm p q, dG_comm p q]
  refine ins_same fun x => ?_
  simp only [List.mem_append, List.mem_map, List.mem_filter]
  constructor
  · rintro (h | ⟨f, ⟨h, k⟩, rfl⟩)
    · exact .inl h
    · exact .inr ⟨f, ⟨h.symm, k⟩, rfl⟩
  · rintro (h | ⟨f, ⟨h, k⟩, rfl⟩)
    · exact .inl h
    · exact .inr ⟨f, ⟨h.symm, k⟩, rfl⟩
theorem tou_self (p : Pg) : tou p p = [] := by
  unfold tou
  rw [dF_self, dG_self]
  have : (p.gFuncs ++ p.gFuncs).filter (tch []) = [] := by
    rw [List.filter_eq_nil_iff]; intro x _; simp [tch]
  rw [this]; rfl
theorem changeNone_law {p q : Pg} (hp : QB p) (hq : QB q) : l18_ChangeNone p q = some true := by
  unfold l18_ChangeNone
  rcases few_cases hp hq with h | ⟨h, hp', hq'⟩
  · rw [bind_some'] at h
    rw [h, Option.bind_some, cond_true, lives18]; rfl
  · rw [bind_some'] at h
    rw [h, Option.bind_some, cond_false, of_eq hp' hp', Option.bind_some, dF_self, dG_self, (touched_eq hp' hp').1, tou_self]
    simp only [List.length_nil, Option.bind_some]
    rw [show (((0 : Nat) : Int) == 0) = true from rfl, cond_true, cond_true, cond_true, (touched_eq hp' hq').1, (touched_eq hq' hp').1, ← tou_comm p q]
    simp only [Option.bind_some]
    rw [texts_refl (touched_eq hp' hq').2, Option.bind_some, cond_true, lives18]; rfl
end Go.Proofs.Ytpeimfcmhedjmaa.Ab.Pq
