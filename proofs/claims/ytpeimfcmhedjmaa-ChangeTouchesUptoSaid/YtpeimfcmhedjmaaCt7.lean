/- The texts that changeTouchesUpto_holds leans on, part 7. -/
import Derived.Test.YtpeimfcmhedjmaaCt6
namespace Go.Proofs.Ytpeimfcmhedjmaa.Ab
open Go
set_option linter.all false
theorem loop_any {β τ : Type} {l : List β} {f : Int → Option (Step Int (Unit ⊕ τ))} (t : β → Bool) (r : Nat → τ)
    (h1 : ∀ p x q, l = p ++ x :: q → f (p.length : Int) = some (bif t x then .done (.inr (r p.length)) else .next ((p.length + 1 : Nat) : Int)))
    (h2 : f (l.length : Int) = some (.done (.inl ()))) : (l.any t = false ∧ loopM f (0 : Int) = some (.inl ())) ∨ (l.any t = true ∧ ∃ j, j < l.length ∧ loopM f (0 : Int) = some (.inr (r j))) := by
  have key : ∀ (q p : List β), l = p ++ q → (q.any t = false ∧ loopM f (p.length : Int) = some (.inl ())) ∨ (q.any t = true ∧ ∃ j, j < l.length ∧ loopM f (p.length : Int) = some (.inr (r j))) := by
    intro q
    induction q with
    | nil =>
      intro p e
      rw [List.append_nil] at e; subst e
      exact .inl ⟨rfl, loopM_done h2⟩
    | cons x q ih =>
      intro p e
      have h := h1 p x q e
      cases ht : t x
      · rw [ht, cond_false] at h
        have := ih (p ++ [x]) (by simp [e])
        rw [loopM_next h]
        simp only [List.length_append, List.length_cons, List.length_nil, Nat.zero_add, List.any_cons, ht, Bool.false_or] at this ⊢
        exact this
      · rw [ht, cond_true] at h
        refine .inr ⟨by simp [ht], p.length, by subst e; simp, loopM_done h⟩
  exact key l [] rfl
theorem any_list {β τ ρ : Type} {f : Int → Option (Step Int (Unit ⊕ τ))} {k : Unit ⊕ τ → Option ρ} {R : Option ρ} (l : List β) (t : β → Bool) (r : Nat → τ)
    (h1 : ∀ p x q, l = p ++ x :: q → f (p.length : Int) = some (bif t x then .done (.inr (r p.length)) else .next ((p.length + 1 : Nat) : Int)))
    (h2 : f (l.length : Int) = some (.done (.inl ()))) (k0 : l.any t = false → k (.inl ()) = R) (k1 : ∀ j, j < l.length → l.any t = true → k (.inr (r j)) = R) : Option.bind (loopM f (0 : Int)) k = R := by
  rcases loop_any t r h1 h2 with ⟨a, b⟩ | ⟨a, j, hj, b⟩
  · rw [b]; exact k0 a
  · rw [b]; exact k1 j hj a
end Go.Proofs.Ytpeimfcmhedjmaa.Ab
namespace Go.Proofs.Ytpeimfcmhedjmaa.Ab.Pq
open Go
set_option linter.all false
theorem in_eq {l : List ByteArray} {x : ByteArray} (hb : l.length ≤ 4000000) : r07_In l x = some (hasS x l) := by
  unfold r07_In
  have hh : (l.any fun y => decide (y = x)) = hasS x l := by
    unfold hasS; congr 1; funext y; exact decc y x
  refine any_list l (fun y => decide (y = x)) (fun _ => true) (fun p y q e => ?_) (by rw [lt_end, cond_false]) (fun h => ?_) (fun j _ h => ?_)
  · rw [lt_pre e, cond_true, idx_pre2 e rfl, Option.bind_some, inc_pre e (by omega)]
    cases decide (y = x) <;> rfl
  · rw [hh] at h; rw [h]; rfl
  · rw [hh] at h; rw [h]; rfl
theorem ins_idem (l : List ByteArray) : insA ltB (insA ltB l) = insA ltB l := ins_same fun x => (insB_all l).2.1 x
def tcs (d : List ByteArray) (x : TApiFunc) : List ByteArray := (d.filter fun g => hasS g (insA ltB (namesOf false x.gBody))).map fun _ => x.gName
theorem tcs_len (d : List ByteArray) (x : TApiFunc) : (tcs d x).length ≤ d.length := by
  unfold tcs; rw [List.length_map]; exact List.length_filter_le _ _
theorem fm_tcs_len (d : List ByteArray) : ∀ l : List TApiFunc, (l.flatMap (tcs d)).length ≤ l.length * d.length
  | [] => by simp
  | x :: l => by
    have := fm_tcs_len d l
    have := tcs_len d x
    rw [List.flatMap_cons, List.length_append, List.length_cons, Nat.add_mul]; omega
theorem rtouched_eq {p q : Pg} (hp : PB p) (hq : PB q) : r18_Touched p q = some (tou p q) := by
  have h1 := hp.f
  have h2 := hq.f
  have hd := d_len hp hq
  unfold r18_Touched
  rw [rof_eq hp hq, Option.bind_some, cond_true, rof_eq hp hq, Option.bind_some, cond_false, app_len (by omega) (by simp; omega), Option.bind_some, List.nil_append, app_len (by omega) (by omega), Option.bind_some]
  have hL : (p.gFuncs ++ q.gFuncs).length ≤ 60 := by rw [List.length_append]; omega
  have hLb : ∀ x ∈ p.gFuncs ++ q.gFuncs, FB x := fun x hx => by
    rcases List.mem_append.1 hx with hx | hx
    · exact hp.b x hx
    · exact hq.b x hx
  have hfin : insA ltB (dF p q ++ (p.gFuncs ++ q.gFuncs).flatMap (tcs (dG p q))) = tou p q := by
    unfold tou
    refine ins_same fun x => ?_
    simp only [List.mem_append, List.mem_flatMap, List.mem_map, tcs, tch, List.mem_filter, List.any_eq_true]
    constructor
    · rintro (h | ⟨f, hf, g, ⟨hg, hn⟩, rfl⟩)
      · exact .inl h
      · exact .inr ⟨f, ⟨hf, g, hg, hn⟩, rfl⟩
    · rintro (h | ⟨f, ⟨hf, g, hg, hn⟩, rfl⟩)
      · exact .inl h
      · exact .inr ⟨f, hf, g, ⟨hg, hn⟩, rfl⟩
  have hd0 : insA ltB (dF p q) = dF p q := by unfold dF; exact ins_idem _
  generalize hLL : p.gFuncs ++ q.gFuncs = L at hL hLb hfin ⊢
  generalize hDD : dG p q = G at hd hfin ⊢
  generalize hFF : dF p q = F at hd hd0 hfin ⊢
  refine loop_list L (fun pre => insA ltB (F ++ pre.flatMap (tcs G))) (fun a n => (a, (n : Int))) (fun a => a) (by simpa using hd0) (fun pre x post hpp => ?_) ?_ ?_
  · have hl := pre_len hpp
    have hx := hLb x (pre_mem hpp)
    have hn := namesOf_len false x.gBody
    have hni := (insB_all (namesOf false x.gBody)).2.2
    have hx3 := hx.2.2
    have hf1 := fm_tcs_len G pre
    have hf2 := Nat.mul_le_mul (show pre.length ≤ 60 by omega) hd.2
    simp only [lt_pre hpp, cond_true]
    rw [idx_pre2 hpp rfl, Option.bind_some, rnames_eq hx.2.2, Option.bind_some]
    refine loop_list G (fun pre2 => insA ltB (F ++ pre.flatMap (tcs G) ++ tcs pre2 x)) (fun a n => (a, (n : Int))) (fun a => a) (by simp [tcs]) (fun pre2 g post2 hpp2 => ?_) ?_ ?_
    · have hl2 := pre_len hpp2
      have hf3 := tcs_len pre2 x
      have hi := (insB_all (F ++ pre.flatMap (tcs G) ++ tcs pre2 x)).2.2
      rw [List.length_append, List.length_append] at hi
      simp only [lt_pre hpp2, cond_true]
      rw [idx_pre2 hpp2 rfl, Option.bind_some, in_eq (by omega), Option.bind_some, inc_pre hpp2 (by omega)]
      cases hc : hasS g (insA ltB (namesOf false x.gBody))
      · simp only [cond_false]
        rw [show tcs (pre2 ++ [g]) x = tcs pre2 x by simp [tcs, hc]]
      · simp only [cond_true, Option.bind_some]
        rw [put_eq (by omega), Option.bind_some, show tcs (pre2 ++ [g]) x = tcs pre2 x ++ [x.gName] by simp [tcs, hc], ← List.append_assoc, insA_snoc]
    · simp only [lt_end, cond_false]
    · rw [inc_pre hpp (by omega), List.flatMap_append]
      simp
  · simp only [lt_end, cond_false]
  · rw [hfin]
def cls (f : TApiFunc) : List ByteArray := insA ltB (namesOf true f.gBody)
theorem cls_len {f : TApiFunc} (h : FB f) : (cls f).length ≤ 1048576 := by
  have hn := namesOf_len true f.gBody
  have hni := (insB_all (namesOf true f.gBody)).2.2
  have := h.2.2
  unfold cls; omega
def cal (p : Pg) (s : ByteArray) : List ByteArray := (p.gFuncs.filter fun f => hasS s (cls f)).map (·.gName)
theorem cal_len {p : Pg} (hp : PB p) (s : ByteArray) : (cal p s).length ≤ 30 := by
  unfold cal; rw [List.length_map]; exact Nat.le_trans (List.length_filter_le _ _) hp.f
theorem callers_eq {p : Pg} (hp : PB p) (s : ByteArray) : change_Callers p s = some (insA ltB (cal p s)) := by
  have h1 := hp.f
  unfold change_Callers
  refine loop_list p.gFuncs (fun pre => (pre.filter fun f => hasS s (cls f)).map (·.gName)) (fun a n => (a, (n : Int))) (fun a => a) (by simp) (fun pre x post hpp => ?_) ?_ ?_
  · have hl := pre_len hpp
    have hx := hp.b x (pre_mem hpp)
    have hc := cls_len hx
    have hfl := List.length_filter_le (fun f => hasS s (cls f)) pre
    simp only [lt_pre hpp, cond_true]
    rw [idx_pre2 hpp rfl, Option.bind_some, calls_eq hx.2.2, Option.bind_some, contains_eq _ (by show (cls x).length ≤ _; omega), Option.bind_some, inc_pre hpp (by omega), List.filter_append, List.map_append]
    show (bif hasS s (cls x) then _ else _) = _
    cases hc : hasS s (cls x)
    · simp [hc]
    · simp only [cond_true]
      rw [app_len (by omega) (by simp; omega), Option.bind_some]
      simp [hc]
  · simp only [lt_end, cond_false]
  · have := cal_len hp s
    unfold cal at this ⊢
    rw [row_eq (by omega), Option.bind_some]
theorem rcallers_eq {p : Pg} (hp : PB p) (s : ByteArray) : r18_Callers p s = some (insA ltB (cal p s)) := by
  have h1 := hp.f
  unfold r18_Callers
  refine loop_list p.gFuncs (fun pre => insA ltB ((pre.filter fun f => hasS s (cls f)).map (·.gName))) (fun a n => (a, (n : Int))) (fun a => a) (by simp [insA]) (fun pre x post hpp => ?_) ?_ ?_
  · have hl := pre_len hpp
    have hx := hp.b x (pre_mem hpp)
    have hc := cls_len hx
    have hfl := List.length_filter_le (fun f => hasS s (cls f)) pre
    have hi := (insB_all ((pre.filter fun f => hasS s (cls f)).map (·.gName))).2.2
    rw [List.length_map] at hi
    simp only [lt_pre hpp, cond_true]
    rw [idx_pre2 hpp rfl, Option.bind_some, rnames_eq hx.2.2, Option.bind_some, in_eq (by show (cls x).length ≤ _; omega), Option.bind_some, inc_pre hpp (by omega), List.filter_append, List.map_append]
    show (bif hasS s (cls x) then _ else _) = _
    cases hc : hasS s (cls x)
    · simp [hc]
    · simp only [cond_true, Option.bind_some]
      rw [put_eq (by omega), Option.bind_some, ← insA_snoc]
      simp [hc]
  · simp only [lt_end, cond_false]
  · rfl
end Go.Proofs.Ytpeimfcmhedjmaa.Ab.Pq
namespace Go.Proofs.Ytpeimfcmhedjmaa.Ab.Pq
open Go
set_option linter.all false
theorem nodup_le {α : Type} : ∀ {l m : List α}, l.Nodup → (∀ x ∈ l, x ∈ m) → l.length ≤ m.length
  | [], m, _, _ => by simp
  | x :: l, m, h, k => by
    obtain ⟨p, q, rfl⟩ := List.append_of_mem (k x (by simp))
    rw [List.nodup_cons] at h
    have := nodup_le (l := l) (m := p ++ q) h.2 fun y hy => by
      have hm := k y (List.mem_cons_of_mem _ hy)
      rw [List.mem_append, List.mem_cons] at hm
      rw [List.mem_append]
      rcases hm with hm | rfl | hm
      · exact .inl hm
      · exact absurd hy h.1
      · exact .inr hm
    simp only [List.length_append, List.length_cons] at this ⊢
    omega
theorem rise_nodup {l : List ByteArray} (h : Rise leS l) : l.Nodup := by
  unfold Rise at h
  exact h.imp fun h => h.2
theorem insT_rise' {l : List ByteArray} (w : ByteArray) (h : Rise leS l) : Rise leS (insT ltB w l) :=
  insT_rise ltB ltB_iff (fun a b => List.le_total _ _) (fun a b c => List.le_trans) (fun a b h k => lsOf_inj (List.le_antisymm h k)) w l h
theorem insT_drop (w : ByteArray) : ∀ (l : List ByteArray) (n : Nat) (x : ByteArray), x ∈ l.drop n → x ∈ (insT ltB w l).drop n
  | [], n, x, h => by simp at h
  | y :: l, 0, x, h => by
    rw [List.drop_zero] at h ⊢
    exact (insT_mem ltB w _ x).2 (.inr h)
  | y :: l, n + 1, x, h => by
    rw [List.drop_succ_cons] at h
    unfold insT
    split
    · exact h
    · split
      · rw [List.drop_succ_cons]
        cases n with
        | zero => simp only [List.drop_zero] at h ⊢; exact List.mem_cons_of_mem _ h
        | succ n =>
          rw [List.drop_succ_cons]
          have e : l.drop (n + 1) = (l.drop n).drop 1 := by rw [List.drop_drop]
          rw [e] at h
          exact List.mem_of_mem_drop h
      · rw [List.drop_succ_cons]; exact insT_drop w l n x h
def isF (p : Pg) (s : ByteArray) : Bool := (fnF p.gFuncs s).isSome
def suc (p : Pg) (s : ByteArray) : List ByteArray :=
  match fnF p.gFuncs s with
  | some f => (cls f).filter (isF p)
  | none => []
theorem isF_name {p : Pg} {s : ByteArray} (h : isF p s = true) : s ∈ nmsF p := by
  unfold isF at h
  cases e : fnF p.gFuncs s with
  | none => rw [e] at h; cases h
  | some f =>
    have := List.find?_some e
    simp only [decide_eq_true_eq] at this
    exact List.mem_map.2 ⟨f, fnF_mem e, this⟩
inductive Rch (p : Pg) (s : ByteArray) : ByteArray → Prop
  | here (h : isF p s = true) : Rch p s s
  | next {x y : ByteArray} (h : Rch p s x) (k : y ∈ suc p x) : Rch p s y
theorem rch_isF {p : Pg} {s x : ByteArray} (h : Rch p s x) : isF p x = true := by
  cases h with
  | here h => exact h
  | next h k =>
    unfold suc at k
    split at k
    · exact (List.mem_filter.1 k).2
    · cases k
theorem names_few {p : Pg} (hp : PB p) {l : List ByteArray} (hn : l.Nodup) (h : ∀ x ∈ l, isF p x = true) : l.length ≤ p.gFuncs.length := by
  have := nodup_le (m := nmsF p) hn fun x hx => isF_name (h x hx)
  simpa [nmsF] using this
noncomputable def rndF (p : Pg) : List ByteArray × Int → Option (Step (List ByteArray × Int) (List ByteArray)) :=
  fun (s1891 : List ByteArray × Int) => (bif (decide (s1891.2 < (s1891.1.length : Int))) then ((idx s1891.1 s1891.2).bind fun x2005 => ((r18_Func p x2005).bind fun x2006 => ((idx p.gFuncs x2006).bind fun x2007 => ((r11_Names x2007.gBody true).bind fun x2009 => (Option.bind (α := List ByteArray) (loopM (fun (s2035 : List ByteArray × Int) => (bif (decide (s2035.2 < (x2009.length : Int))) then ((idx x2009 s2035.2).bind fun x2053 => ((r18_Func p x2053).bind fun x2054 => (bif (decide ((0 : Int) ≤ x2054)) then ((idx x2009 s2035.2).bind fun x2056 => ((r07_Put s2035.1 x2056).bind fun x2058 => some (.next (x2058, (IntKind.i64.wrap (s2035.2 + (1 : Int))))))) else some (.next (s2035.1, (IntKind.i64.wrap (s2035.2 + (1 : Int)))))))) else some (.done s2035.1))) (s1891.1, (0 : Int))) fun y2034 => some (.next (y2034, (IntKind.i64.wrap (s1891.2 + (1 : Int)))))))))) else some (.done s1891.1))
def insM (l : List ByteArray) (ws : List ByteArray) : List ByteArray := ws.foldl (fun a w => insT ltB w a) l
theorem insM_snoc (l ws : List ByteArray) (w : ByteArray) : insM l (ws ++ [w]) = insT ltB w (insM l ws) := by simp [insM]
theorem insM_all : ∀ (ws l : List ByteArray) (_ : Rise leS l), Rise leS (insM l ws) ∧ (∀ x, x ∈ insM l ws ↔ x ∈ l ∨ x ∈ ws) ∧ (∀ n x, x ∈ l.drop n → x ∈ (insM l ws).drop n)
  | [], l, h => ⟨h, fun x => by simp [insM], fun _ _ h => h⟩
  | w :: ws, l, h => by
    obtain ⟨h1, h2, h3⟩ := insM_all ws (insT ltB w l) (insT_rise' w h)
    refine ⟨h1, fun x => ?_, fun n x hx => h3 n x (insT_drop w _ n x hx)⟩
    show x ∈ insM (insT ltB w l) ws ↔ _
    rw [h2, insT_mem, List.mem_cons]
    constructor
    · rintro ((h | h) | h)
      · exact .inr (.inl h)
      · exact .inl h
      · exact .inr (.inr h)
    · rintro (h | h | h)
      · exact .inl (.inr h)
      · exact .inl (.inl h)
      · exact .inr h
theorem rFunc_sign {p : Pg} (hp : PB p) (s : ByteArray) : ∃ i : Int, r18_Func p s = some i ∧ decide ((0 : Int) ≤ i) = isF p s ∧ decide (i < (0 : Int)) = !(isF p s) ∧ ∀ f, fnF p.gFuncs s = some f → idx p.gFuncs i = some f := by
  have h1 := hp.f
  obtain ⟨i, e1, e2⟩ := rFunc_eq (p := p) s (by omega)
  refine ⟨i, e1, ?_, ?_, ?_⟩
  · unfold isF
    rcases e2 with ⟨rfl, h⟩ | ⟨n, x, rfl, _, h, h'⟩
    · rw [h] <;> decide
    · rw [h'] <;> simp
  · unfold isF
    rcases e2 with ⟨rfl, h⟩ | ⟨n, x, rfl, _, h, h'⟩
    · rw [h] <;> decide
    · rw [h']; simp; try omega
  · intro f hf
    rcases e2 with ⟨rfl, h⟩ | ⟨n, x, rfl, _, h, h'⟩
    · rw [hf] at h; cases h
    · rw [hf] at h'; cases h'; exact idx_some h
theorem rnd_eq {p : Pg} (hp : PB p) {l0 : List ByteArray} (hr : Rise leS l0) (hf : ∀ x ∈ l0, isF p x = true) :
    ∃ l', loopM (rndF p) (l0, (0 : Int)) = some l' ∧ (Rise leS l' ∧ (∀ x ∈ l0, x ∈ l') ∧ (∀ x ∈ l0, ∀ y ∈ suc p x, y ∈ l') ∧ ∀ Q : ByteArray → Prop, (∀ x ∈ l0, Q x) → (∀ x, Q x → isF p x = true → ∀ y ∈ suc p x, Q y) → ∀ x ∈ l', Q x ∧ isF p x = true) := by
  have h30 := hp.f
  refine loopM_some (f := rndF p) (fun s => ∃ n : Nat, s.2 = n ∧ n ≤ s.1.length ∧ Rise leS s.1 ∧ (∀ x ∈ l0, x ∈ s.1) ∧ (∀ x ∈ l0, x ∈ s.1.drop n ∨ ∀ y ∈ suc p x, y ∈ s.1) ∧ (∀ x ∈ s.1, isF p x = true) ∧ ∀ Q : ByteArray → Prop, (∀ x ∈ l0, Q x) → (∀ x, Q x → isF p x = true → ∀ y ∈ suc p x, Q y) → ∀ x ∈ s.1, Q x)
    (fun s => 31 - s.2.toNat) _ ?_ (l0, 0) ⟨0, rfl, Nat.zero_le _, hr, fun _ h => h, fun x hx => .inl (by simpa using hx), hf, fun Q h _ => h⟩
  rintro ⟨l, i⟩ ⟨n, rfl, hn, h1, h2, h3, h4, h5⟩
  simp only at hn h1 h2 h3 h4 h5
  have hlen := names_few hp (rise_nodup h1) h4
  by_cases hlt : n < l.length
  · left
    have hx : l[n]? = some l[n] := List.getElem?_eq_getElem hlt
    generalize l[n] = x at hx
    have hxl : x ∈ l := List.mem_of_getElem? hx
    have hxf := h4 x hxl
    obtain ⟨i, e1, _, _, e4⟩ := rFunc_sign hp x
    obtain ⟨f, hff⟩ : ∃ f, fnF p.gFuncs x = some f := by unfold isF at hxf; exact Option.isSome_iff_exists.1 hxf
    have hfb := hp.b f (fnF_mem hff)
    have hcl := cls_len hfb
    have hsx : suc p x = (cls f).filter (isF p) := by unfold suc; rw [hff]
    have hM := insM_all ((cls f).filter (isF p)) l h1
    have hMf : ∀ y ∈ insM l ((cls f).filter (isF p)), isF p y = true := fun y hy => by
      rcases (hM.2.1 y).1 hy with hy | hy
      · exact h4 y hy
      · exact (List.mem_filter.1 hy).2
    refine ⟨(insM l ((cls f).filter (isF p)), ((n + 1 : Nat) : Int)), ?_, ⟨n + 1, rfl, ?_, hM.1, fun y hy => (hM.2.1 y).2 (.inl (h2 y hy)), ?_, hMf, ?_⟩, ?_⟩
    · show (bif decide ((n : Int) < (l.length : Int)) then _ else _) = _
      rw [decide_eq_true (by omega), cond_true, idx_some hx, Option.bind_some, e1, Option.bind_some, e4 f hff, Option.bind_some, rnames_eq hfb.2.2, Option.bind_some]
      show Option.bind (α := List ByteArray) (loopM (fun (s2035 : List ByteArray × Int) => (bif (decide (s2035.2 < ((cls f).length : Int))) then ((idx (cls f) s2035.2).bind fun x2053 => _) else _)) (l, (0 : Int))) _ = _
      refine loop_list (cls f) (fun pre => insM l (pre.filter (isF p))) (fun a n => (a, (n : Int))) (fun a => a) (by simp [insM]) (fun pre w post hpp => ?_) ?_ ?_
      · have hl2 := pre_len hpp
        obtain ⟨j, k1, k2, _, _⟩ := rFunc_sign hp w
        have hM2 := insM_all (pre.filter (isF p)) l h1
        have hlen2 := names_few hp (rise_nodup hM2.1) (fun y hy => by
          rcases (hM2.2.1 y).1 hy with hy | hy
          · exact h4 y hy
          · exact (List.mem_filter.1 hy).2)
        simp only [lt_pre hpp, cond_true]
        rw [idx_pre2 hpp rfl, Option.bind_some, k1, Option.bind_some, k2, inc_pre hpp (by omega), List.filter_append]
        cases hw : isF p w
        · simp [hw]
        · simp only [cond_true]
          rw [show idx (insA ltB (namesOf true f.gBody)) (pre.length : Int) = some w from idx_pre2 hpp rfl, Option.bind_some, put_eq (by omega), Option.bind_some, show [w].filter (isF p) = [w] by simp [hw], insM_snoc]
      · simp only [lt_end, cond_false]
      · rw [wrap_id (by omega) (by omega)]; rfl
    · have : ∀ m, m < l.length → l.length ≤ (insM l ((cls f).filter (isF p))).length := fun _ _ => nodup_le (rise_nodup h1) fun y hy => (hM.2.1 y).2 (.inl hy)
      have := this n hlt
      show n + 1 ≤ (insM l ((cls f).filter (isF p))).length
      omega
    · intro y hy
      rcases h3 y hy with h | h
      · rw [List.drop_eq_getElem_cons hlt] at h
        rcases List.mem_cons.1 h with h | h
        · right
          have : y = x := by rw [h]; rw [List.getElem?_eq_getElem hlt] at hx; exact Option.some.inj hx
          subst this
          intro z hz
          rw [hsx] at hz
          exact (hM.2.1 z).2 (.inr hz)
        · exact .inl (hM.2.2 _ _ h)
      · exact .inr fun z hz => (hM.2.1 z).2 (.inl (h z hz))
    · intro Q hQ hc y hy
      rcases (hM.2.1 y).1 hy with hy | hy
      · exact h5 Q hQ hc y hy
      · exact hc x (h5 Q hQ hc x hxl) hxf y (by rw [hsx]; exact hy)
    · show 31 - ((n + 1 : Nat) : Int).toNat < 31 - ((n : Int)).toNat
      omega
  · right
    refine ⟨l, ?_, h1, h2, fun x hx => ?_, fun Q hQ hc x hx => ⟨h5 Q hQ hc x hx, h4 x hx⟩⟩
    · show (bif decide ((n : Int) < (l.length : Int)) then _ else _) = _
      rw [decide_eq_false (by omega), cond_false]
    · rcases h3 x hx with h | h
      · rw [List.drop_eq_nil_of_le (by omega)] at h; cases h
      · exact h
def clo (p : Pg) (l : List ByteArray) : Prop := ∀ x ∈ l, ∀ y ∈ suc p x, y ∈ l
theorem rreach_eq {p : Pg} (hp : PB p) (s : ByteArray) : ∃ l, r18_Reach p s = some l ∧ Rise leS l ∧ ∀ x, x ∈ l ↔ Rch p s x := by
  have h30 := hp.f
  unfold r18_Reach
  obtain ⟨i, e1, _, e3, _⟩ := rFunc_sign hp s
  rw [e1, Option.bind_some, e3]
  cases hs : isF p s
  · refine ⟨[], rfl, by simp [Rise], fun x => ⟨fun h => (by cases h), fun h => ?_⟩⟩
    exfalso
    have : ∀ x, Rch p s x → False := fun x h => by
      induction h with
      | here h => rw [hs] at h; cases h
      | next _ _ ih => exact ih
    exact this x h
  · simp only [Bool.not_true, cond_false]
    have key := loopM_some (σ := List ByteArray × Int) (τ := List ByteArray) (f := fun (s1035 : List ByteArray × Int) => (bif (decide (s1035.2 < (p.gFuncs.length : Int))) then (Option.bind (α := List ByteArray) (loopM (rndF p) (s1035.1, (0 : Int))) fun y1890 => some (.next (y1890, (IntKind.i64.wrap (s1035.2 + (1 : Int)))))) else some (.done s1035.1)))
      (fun t => ∃ n : Nat, t.2 = n ∧ n ≤ p.gFuncs.length ∧ Rise leS t.1 ∧ s ∈ t.1 ∧ (∀ x ∈ t.1, Rch p s x) ∧ (clo p t.1 ∨ n + 1 ≤ t.1.length)) (fun t => 31 - t.2.toNat) (fun l => Rise leS l ∧ s ∈ l ∧ (∀ x ∈ l, Rch p s x) ∧ clo p l) ?_ ([s], 0)
      ⟨0, rfl, Nat.zero_le _, by simp [Rise], by simp, fun x hx => by rw [List.mem_singleton] at hx; subst hx; exact .here hs, .inr (by simp)⟩
    · obtain ⟨l, k1, k2, k3, k4, k5⟩ := key
      refine ⟨l, ?_, k2, fun x => Iff.intro (k4 x) fun h => ?_⟩
      · exact (congrArg (fun o => Option.bind o fun y1034 => some y1034) k1)
      · induction h with
        | here _ => exact k3
        | next _ k ih => exact k5 _ ih _ k
    · rintro ⟨l, i⟩ ⟨n, rfl, hn, h1, h2, h3, h4⟩
      simp only at h1 h2 h3 h4
      by_cases hlt : n < p.gFuncs.length
      · left
        obtain ⟨l', r1, r2, r3, r4, r5⟩ := rnd_eq hp h1 fun x hx => rch_isF (h3 x hx)
        have r6 := r5 (Rch p s) h3 fun x hx _ y hy => .next hx hy
        refine ⟨(l', ((n + 1 : Nat) : Int)), ?_, ⟨n + 1, rfl, hlt, r2, r3 s h2, fun x hx => (r6 x hx).1, ?_⟩, by show 31 - ((n + 1 : Nat) : Int).toNat < 31 - ((n : Int)).toNat; omega⟩
        · show (bif decide ((n : Int) < (p.gFuncs.length : Int)) then _ else _) = _
          rw [decide_eq_true (by omega), cond_true, r1, Option.bind_some, wrap_id (by omega) (by omega)]; rfl
        · by_cases hsub : ∀ x ∈ l', x ∈ l
          · left
            intro x hx y hy
            exact r4 x (hsub x hx) y hy
          · right
            rcases h4 with h4 | h4
            · exact absurd (fun x hx => (r5 (· ∈ l) (fun _ h => h) (fun x hx _ y hy => h4 x hx y hy) x hx).1) hsub
            · obtain ⟨z, hz⟩ := Classical.not_forall.1 hsub
              obtain ⟨hz1, hz2⟩ := Classical.not_imp.1 hz
              have := nodup_le (l := z :: l) (m := l') (List.nodup_cons.2 ⟨hz2, rise_nodup h1⟩) fun y hy => by
                rcases List.mem_cons.1 hy with rfl | hy
                · exact hz1
                · exact r3 y hy
              simp only [List.length_cons] at this
              show n + 1 + 1 ≤ l'.length
              omega
      · right
        refine ⟨l, ?_, h1, h2, h3, ?_⟩
        · show (bif decide ((n : Int) < (p.gFuncs.length : Int)) then _ else _) = _
          rw [decide_eq_false (by omega), cond_false]
        · rcases h4 with h4 | h4
          · exact h4
          · have := names_few hp (rise_nodup h1) fun x hx => rch_isF (h3 x hx)
            omega
end Go.Proofs.Ytpeimfcmhedjmaa.Ab.Pq
namespace Go.Proofs.Ytpeimfcmhedjmaa.Ab.Pq
open Go
set_option linter.all false
theorem mget_put {α β : Type} [DecidableEq α] (k : α) (v : β) (k' : α) : ∀ l : List (α × β), mget (mput l k v) k' = if k = k' then some v else mget l k'
  | [] => by simp [mput, mget]
  | (a, b) :: l => by
    unfold mput
    by_cases h : a = k
    · subst h
      rw [if_pos rfl]
      by_cases h2 : a = k'
      · simp [mget, h2]
      · simp [mget, h2]
    · rw [if_neg h]
      simp only [mget]
      by_cases h2 : a = k'
      · subst h2
        rw [if_pos rfl, if_neg (fun e => h e.symm), if_pos rfl]
      · rw [if_neg h2, if_neg h2, mget_put k v k' l]
theorem mgetD_put {α β : Type} [DecidableEq α] (k : α) (v z : β) (k' : α) (l : List (α × β)) : mgetD (mput l k v) k' z = if k = k' then v else mgetD l k' z := by
  unfold mgetD
  rw [mget_put]
  by_cases h : k = k'
  · rw [if_pos h, if_pos h]; rfl
  · rw [if_neg h, if_neg h]
structure RI (p : Pg) (s : ByteArray) (out ahead : List ByteArray) (met : List (ByteArray × Int)) (c : Nat) : Prop where
  nd : out.Nodup
  fn : ∀ x ∈ out, isF p x = true
  re : ∀ x ∈ out, Rch p s x
  ah : ∀ y ∈ ahead, isF p y = true → Rch p s y
  su : ∀ x ∈ out, ∀ y ∈ suc p x, y ∈ out ∨ y ∈ ahead
  st : isF p s = true → s ∈ out ∨ s ∈ ahead
  me : ∀ x, ∃ n : Nat, mgetD met x (0 : Int) = (n : Int) ∧ n ≤ c ∧ (x ∈ out → 1 ≤ n) ∧ (1 ≤ n → isF p x = true → x ∈ out)
  bd : c + (1048577 * (31 - out.length) + ahead.length) ≤ 32505888
theorem reach_eq {p : Pg} (hp : PB p) (s : ByteArray) : ∃ l, change_Reach p s = some (insA ltB l) ∧ l.length ≤ 30 ∧ ∀ x, x ∈ l ↔ Rch p s x := by
  have h30 := hp.f
  unfold change_Reach
  have key : ∃ t, loopM (fun (s64 : List ByteArray × List ByteArray × List (ByteArray × Int)) => (bif (decide ((0 : Int) < (s64.2.1.length : Int))) then ((idx s64.2.1 (0 : Int)).bind fun x110 => ((cutL s64.2.1 (1 : Int) ((s64.2.1).length : Int)).bind fun x111 => ((change_funcOf p x110).bind fun x112 => (Option.bind (α := Bool) (bif (!x112.2) then some true else some (decide ((1 : Int) < (mgetD (mput s64.2.2 x110 (IntKind.i64.wrap ((mgetD s64.2.2 x110 (0 : Int)) + (1 : Int)))) x110 (0 : Int))))) fun y115 => (bif y115 then some (.next (s64.1, x111, (mput s64.2.2 x110 (IntKind.i64.wrap ((mgetD s64.2.2 x110 (0 : Int)) + (1 : Int)))))) else ((app 16 s64.1 ([x110] : List ByteArray)).bind fun x118 => ((tree_Calls_r x112.1.gBody).bind fun x120 => ((app 16 x111 x120).bind fun x121 => some (.next (x118, x121, (mput s64.2.2 x110 (IntKind.i64.wrap ((mgetD s64.2.2 x110 (0 : Int)) + (1 : Int)))))))))))))) else some (.done (s64.1, s64.2.2)))) (([] : List ByteArray), ([s] : List ByteArray), ([] : List (ByteArray × Int))) = some t ∧ (t.1.length ≤ 30 ∧ ∀ x, x ∈ t.1 ↔ Rch p s x) := by
    refine loopM_some (fun t => ∃ c, RI p s t.1 t.2.1 t.2.2 c) (fun t => 1048577 * (31 - t.1.length) + t.2.1.length) _ ?_ _ ⟨0, by simp, by simp, by simp, fun y hy h => by rw [List.mem_singleton] at hy; subst hy; exact .here h, by simp, fun _ => .inr (by simp), fun x => ⟨0, by simp [mgetD, mget], Nat.le_refl _, by simp, by omega⟩, by simp⟩
    rintro ⟨out, ahead, met⟩ ⟨c, I⟩
    simp only at I
    have hlen := names_few hp I.nd I.fn
    cases ahead with
    | nil =>
      right
      refine ⟨(out, met), ?_, by show out.length ≤ 30; omega, fun x => ⟨I.re x, fun h => ?_⟩⟩
      · simp
      · induction h with
        | here h => rcases I.st h with h | h
                    · exact h
                    · cases h
        | next _ k ih => rcases I.su _ ih _ k with h | h
                         · exact h
                         · cases h
    | cons x rest =>
      left
      obtain ⟨n, m1, m2, m3, m4⟩ := I.me x
      have hbd := I.bd
      simp only [List.length_cons] at hbd
      have hw : IntKind.i64.wrap ((n : Int) + 1) = ((n + 1 : Nat) : Int) := by rw [wrap_id (by omega) (by omega)]; rfl
      have hcut : cutL (x :: rest) (1 : Int) ((x :: rest).length : Int) = some rest := by
        have := cutL_nat (xs := x :: rest) (l := 1) (h := (x :: rest).length) (by simp) (Nat.le_refl _)
        simpa using this
      have hme : ∀ y, ∃ n' : Nat, mgetD (mput met x ((n + 1 : Nat) : Int)) y (0 : Int) = (n' : Int) ∧ ((y = x ∧ n' = n + 1) ∨ (y ≠ x ∧ mgetD met y (0 : Int) = (n' : Int))) := fun y => by
        rw [mgetD_put]
        by_cases h : x = y
        · exact ⟨n + 1, by rw [if_pos h], .inl ⟨h.symm, rfl⟩⟩
        · obtain ⟨n', e, _⟩ := I.me y
          exact ⟨n', by rw [if_neg h, e], .inr ⟨fun e => h e.symm, e⟩⟩
      have hstay : (isF p x = true → x ∈ out) → RI p s out rest (mput met x ((n + 1 : Nat) : Int)) (c + 1) := fun hx => by
        refine ⟨I.nd, I.fn, I.re, fun y hy => I.ah y (List.mem_cons_of_mem _ hy), fun z hz y hy => ?_, fun h => ?_, fun y => ?_, by omega⟩
        · rcases I.su z hz y hy with h | h
          · exact .inl h
          · rcases List.mem_cons.1 h with h | h
            · subst h
              refine .inl (hx ?_)
              exact rch_isF (.next (I.re z hz) hy)
            · exact .inr h
        · rcases I.st h with h' | h'
          · exact .inl h'
          · rcases List.mem_cons.1 h' with h' | h'
            · subst h'; exact .inl (hx h)
            · exact .inr h'
        · obtain ⟨n', e, ⟨rfl, rfl⟩ | ⟨h1, h2⟩⟩ := hme y
          · exact ⟨_, e, by omega, fun _ => by omega, fun _ h => hx h⟩
          · obtain ⟨n2, e2, k1, k2, k3⟩ := I.me y
            have : n2 = n' := by rw [e2] at h2; omega
            subst this
            exact ⟨_, e, by omega, k2, k3⟩
      show ∃ s', (bif decide ((0 : Int) < ((x :: rest).length : Int)) then _ else _) = _ ∧ _ ∧ _
      rw [decide_eq_true (by simp), cond_true, show idx (x :: rest) (0 : Int) = some x from rfl, Option.bind_some, hcut, Option.bind_some, funcOf_eq x (by omega), Option.bind_some]
      simp only [m1, hw]
      rw [mgetD_put, if_pos rfl]
      have hmu : 1048577 * (31 - out.length) + rest.length < 1048577 * (31 - out.length) + (x :: rest).length := by simp
      cases hf : (fnF p.gFuncs x) with
      | none =>
        refine ⟨(out, rest, mput met x ((n + 1 : Nat) : Int)), by simp, ⟨c + 1, hstay fun h => by unfold isF at h; rw [hf] at h; cases h⟩, hmu⟩
      | some f =>
        have hfx : isF p x = true := by unfold isF; rw [hf]; rfl
        have hfb := hp.b f (fnF_mem hf)
        have hcl := cls_len hfb
        simp only [Option.isSome_some, Bool.not_true, cond_false, Option.bind_some, Option.getD_some]
        by_cases h1 : 1 ≤ n
        · rw [decide_eq_true (by omega), cond_true]
          exact ⟨(out, rest, mput met x ((n + 1 : Nat) : Int)), rfl, ⟨c + 1, hstay fun h => m4 h1 h⟩, hmu⟩
        · rw [decide_eq_false (by omega), cond_false, app_len (by omega) (by simp; omega), Option.bind_some, calls_eq hfb.2.2, Option.bind_some]
          rw [show insA ltB (namesOf true f.gBody) = cls f from rfl, app_of (by omega), Option.bind_some]
          have hxo : x ∉ out := fun h => h1 (m3 h)
          have hnd : (out ++ [x]).Nodup := by
            rw [List.nodup_append]
            refine ⟨I.nd, by simp, fun a ha b hb e => ?_⟩
            rw [List.mem_singleton] at hb; subst hb; subst e; exact hxo ha
          have hxr : Rch p s x := I.ah x (by simp) hfx
          have hfn : ∀ y ∈ out ++ [x], isF p y = true := fun y hy => by
            rcases List.mem_append.1 hy with hy | hy
            · exact I.fn y hy
            · rw [List.mem_singleton] at hy; subst hy; exact hfx
          have hl2 := names_few hp hnd hfn
          rw [List.length_append] at hl2
          simp only [List.length_cons, List.length_nil] at hl2
          have hsx : suc p x = (cls f).filter (isF p) := by unfold suc; rw [hf]
          refine ⟨_, rfl, ⟨c + 1, hnd, hfn, fun y hy => ?_, fun y hy h => ?_, fun z hz y hy => ?_, fun h => ?_, fun y => ?_, ?_⟩, ?_⟩
          · rcases List.mem_append.1 hy with hy | hy
            · exact I.re y hy
            · rw [List.mem_singleton] at hy; subst hy; exact hxr
          · rcases List.mem_append.1 hy with hy | hy
            · exact I.ah y (List.mem_cons_of_mem _ hy) h
            · exact .next hxr (by rw [hsx]; exact List.mem_filter.2 ⟨hy, h⟩)
          · rcases List.mem_append.1 hz with hz | hz
            · rcases I.su z hz y hy with h | h
              · exact .inl (List.mem_append_left _ h)
              · rcases List.mem_cons.1 h with h | h
                · subst h; exact .inl (by simp)
                · exact .inr (List.mem_append_left _ h)
            · rw [List.mem_singleton] at hz; subst hz
              rw [hsx] at hy
              exact .inr (List.mem_append_right _ (List.mem_filter.1 hy).1)
          · rcases I.st h with h | h
            · exact .inl (List.mem_append_left _ h)
            · rcases List.mem_cons.1 h with h | h
              · subst h; exact .inl (by simp)
              · exact .inr (List.mem_append_left _ h)
          · obtain ⟨n', e, ⟨rfl, rfl⟩ | ⟨h2, h3⟩⟩ := hme y
            · exact ⟨_, e, by omega, fun _ => by omega, fun _ _ => by simp⟩
            · obtain ⟨n2, e2, k1, k2, k3⟩ := I.me y
              have : n2 = n' := by rw [e2] at h3; omega
              subst this
              refine ⟨_, e, by omega, fun hy => k2 ?_, fun hy h => List.mem_append_left _ (k3 hy h)⟩
              rcases List.mem_append.1 hy with hy | hy
              · exact hy
              · rw [List.mem_singleton] at hy; exact absurd hy h2
          · simp only [List.length_append, List.length_cons, List.length_nil]; omega
          · simp only [List.length_append, List.length_cons, List.length_nil]; omega
  obtain ⟨t, k1, k2, k3⟩ := key
  refine ⟨t.1, ?_, k2, k3⟩
  rw [k1, Option.bind_some, row_eq (by omega), Option.bind_some]
theorem changeTouches_law {p q : Pg} (hp : QB p) (hq : QB q) (s : ByteArray) : l18_ChangeTouches p q s = some true := by
  unfold l18_ChangeTouches
  rcases few_cases hp hq with h | ⟨h, hp', hq'⟩
  · rw [bind_some'] at h
    rw [h, Option.bind_some, cond_true, lives18]; rfl
  · rw [bind_some'] at h
    obtain ⟨l, e1, e2, e3⟩ := reach_eq hp' s
    obtain ⟨l', k1, k2, k3⟩ := rreach_eq hp' s
    have hl : insA ltB l = l' := rise_unique (fun a b h k => lsOf_inj (List.le_antisymm h k)) (insB_all l).1 k2 fun x => by rw [(insB_all l).2.1 x, e3, k3]
    have hc := cal_len hp' s
    have hc2 := (insB_all (cal p s)).2.2
    have hl2 := (insB_all l).2.2
    rw [h, Option.bind_some, cond_false, (touched_eq hp' hq').1, Option.bind_some, rtouched_eq hp' hq', Option.bind_some, texts_refl (touched_eq hp' hq').2, Option.bind_some, cond_true, callers_eq hp', Option.bind_some, rcallers_eq hp', Option.bind_some, texts_refl (by omega), Option.bind_some, cond_true, e1, Option.bind_some, k1, Option.bind_some, ← hl, texts_refl (by omega), Option.bind_some, cond_true, lives18]
    rfl
end Go.Proofs.Ytpeimfcmhedjmaa.Ab.Pq
namespace Go.Proofs.Ytpeimfcmhedjmaa.Ab
open Go
set_option linter.all false
theorem ChangeTouches_true (a0 a1 : TApiProgram) (a2 : ByteArray) (h : wt (eTApiProgram a0) + wt (eTApiProgram a1) + wt (.v (.string a2)) ≤ 1048576) (k0 : wfTApiProgram a0) (k1 : wfTApiProgram a1) (k2 : a2.size ≤ maxLen) : l18_ChangeTouches a0 a1 a2 = some true := Pq.changeTouches_law (wt_qb a0 (by omega)) (wt_qb a1 (by omega)) a2
end Go.Proofs.Ytpeimfcmhedjmaa.Ab
namespace Go.Proofs.Ytpeimfcmhedjmaa
open Go.ChangeShapes Go.WideShapes Go.ChangeAt Go.RowKit Go.Joins
set_option linter.all false
mutual
theorem bulk_leChangeTouches {H : Type} : ∀ d : DataW H, Ab.bulk d ≤ Rows.uptoBulk d
  | .lit (.string bytes) => by simp [Ab.bulk, Rows.uptoBulk]
  | .lit (.int _ _) => by simp [Ab.bulk, Rows.uptoBulk]
  | .lit (.bool _) => by simp [Ab.bulk, Rows.uptoBulk]
  | .lit l => by cases l <;> simp [Ab.bulk, Rows.uptoBulk]
  | .nil => by simp [Ab.bulk, Rows.uptoBulk]
  | .ptr d => by have := bulk_leChangeTouches d; simp only [Ab.bulk, Rows.uptoBulk]; omega
  | .slice elems spare => by have h1 := bulkAll_leChangeTouches elems; have h2 := bulkAll_leChangeTouches spare; simp only [Ab.bulk, Rows.uptoBulk]; omega
  | .agg parts => by have := bulkAll_leChangeTouches parts; simp only [Ab.bulk, Rows.uptoBulk]; omega
  | .iface t d => by have := bulk_leChangeTouches d; simp only [Ab.bulk, Rows.uptoBulk]; omega
  | .map entries => by simp [Ab.bulk, Rows.uptoBulk]
  | .held h => by simp [Ab.bulk, Rows.uptoBulk]
theorem bulkAll_leChangeTouches {H : Type} : ∀ l : List (DataW H), Ab.bulkAll l ≤ Rows.uptoBulkAll l
  | [] => by simp [Ab.bulkAll, Rows.uptoBulkAll]
  | d :: l => by have h1 := bulk_leChangeTouches d; have h2 := bulkAll_leChangeTouches l; simp only [Ab.bulkAll, Rows.uptoBulkAll]; omega
end
set_option maxRecDepth 100000 in
theorem liftedChangeTouchesUpto (os : Os) (started : os.Started) (H : Type) (enc : TypeId × Value → H) (Fi : Stop.Interp) :
    ReturnsInHanded {} Try.checked os 5 .any ((Rows.OpenSpec.upto Rows.changeTouchesSpec).pre6 enc Try.prog Try.f5 Rows.changeTouchesUptoRow.domain false) (((Rows.OpenSpec.upto Rows.changeTouchesSpec).at Fi).post enc Try.prog Try.f5 false true false false) := by
  refine returnsInHanded_of_cond (C := Try.checked) (s := Rows.OpenSpec.upto Rows.changeTouchesSpec) (k := Rows.uptoSmall) rfl own started (by kernel_rfl) Try.func5
    (OpenSpec.witness (enc := enc) (C := Try.checked) (s := Rows.OpenSpec.upto Rows.changeTouchesSpec) (k := Rows.uptoSmall) rfl false ⟨#[], #[.agg #[.slice none 0 0, .slice none 0 0], .agg #[.slice none 0 0, .slice none 0 0], .string ByteArray.empty], []⟩ 8 (by kernel_rfl) (by kernel_rfl) (by kernel_rfl)
      (x := ([.agg [.nil, .nil], .agg [.nil, .nil], .lit (.string [])], [], [])) (by kernel_rfl) rfl (by kernel_rfl)) ?_
  intro W base args ds gs before hval0 hW _ hk _
  have hval : ∀ (j : Nat) t v, Try.f5.params[j]? = some t → args[j]? = some v → Value.okWide Try.prog W .any base t v := hval0
  have hW' := hW
  obtain ⟨p, q, hA0, hV, rfl, hfz, hnd⟩ := hW
  have hA : DataW.TrodAll enc Try.prog W 0 (fun _ => true) true Try.f5.params.toList args.toList ds p := hA0
  obtain ⟨rfl, rfl⟩ := trodVars_none hV
  simp only [List.append_nil] at hW' hk
  have hback := args_back laidOut' (by kernel_rfl) hA (fun x hx => hW'.lt x hx)
  rw [Try.params5] at hA hval
  obtain ⟨v0, vs0, d0, ds0, p0, q0, hargs, rfl, hp0, h0, r0⟩ := trodAll_cons hA
  obtain ⟨v1, vs1, d1, ds1, p1, q1, rfl, rfl, hp1, h1, r1⟩ := trodAll_cons r0
  obtain ⟨v2, vs2, d2, ds2, p2, q2, rfl, rfl, hp2, h2, r2⟩ := trodAll_cons r1
  obtain ⟨rfl, rfl, hpn⟩ := trodAll_nil r2
  obtain rfl : args = #[v0, v1, v2] := by cases args; simp_all
  obtain ⟨n0, x0, g0, rep0, u0⟩ := Ab.rdw_arg (t := 25) Ab.htab [3, 4, 9, 22, 23, 25, 38, 39, 41, 43, 61, 71, 73, 76] (by kernel_rfl) (by kernel_rfl) (hval 0 25 v0 rfl rfl) h0
  obtain ⟨a0, rfl, k0⟩ := Ab.goodTApiProgram g0
  obtain ⟨n1, x1, g1, rep1, u1⟩ := Ab.rdw_arg (t := 25) Ab.htab [3, 4, 9, 22, 23, 25, 38, 39, 41, 43, 61, 71, 73, 76] (by kernel_rfl) (by kernel_rfl) (hval 1 25 v1 rfl rfl) h1
  obtain ⟨a1, rfl, k1⟩ := Ab.goodTApiProgram g1
  obtain ⟨n2, x2, g2, rep2, u2⟩ := Ab.rdw_arg (t := 9) Ab.htab [3, 4, 9, 22, 23, 25, 38, 39, 41, 43, 61, 71, 73, 76] (by kernel_rfl) (by kernel_rfl) (hval 2 9 v2 rfl rfl) h2
  obtain ⟨a2, rfl, k2⟩ := Ab.good_str Ab.ti9 rfl g2
  have hb0 := of_decide_eq_true hk
  have hb1 := bulkAll_leChangeTouches [d0, d1, d2]
  simp only [Ab.bulkAll] at hb1
  clear hA0 hval0
  refine (Ab.to_calls (us := #[v0, v1, v2]) (Ab.l18_ChangeTouches_ok a0 a1 a2 true (Ab.ChangeTouches_true a0 a1 a2 (by omega) k0 k1 k2)) (Ab.ag_all W) (by simp only [Ab.RepsV]; exact ⟨_, _, rfl, rep0, ⟨_, _, rfl, rep1, ⟨_, _, rfl, rep2, rfl⟩⟩⟩)).mono fun e W' ⟨he, hb⟩ => ?_
  subst he
  exact ⟨_, rfl, _, _, _, [], p, [], hW', trodAll_cons_mk (shut_bool Try.underlying4 _) trodAll_mk0, hback W' hb _ (fun x hx => by simpa using hW'.lt x hx), rfl, hb.frame _, fun h => by cases h⟩
theorem changeTouchesUpto_holds : Rows.ChangeTouchesUptoSaid :=
  OpenClaim.holds_of_cond 5 Try.f5 rfl rfl rfl rfl rfl rfl rfl ⟨rfl, rfl, rfl, rfl, rfl⟩ rfl rfl rfl rfl rfl (by kernel_rfl) Try.func5 (by kernel_rfl)
    (of_decide_eq_true (by kernel_rfl)) (by unfold Func.isWrapper; rw [if_neg (of_decide_eq_false (by kernel_rfl))]; exact ⟨rfl, rfl⟩)
    (fun os started H enc _ Fi => liftedChangeTouchesUpto os started H enc Fi)
#print axioms changeTouchesUpto_holds
end Go.Proofs.Ytpeimfcmhedjmaa
