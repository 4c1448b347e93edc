/- The texts that grammarFuncs_holds leans on, part 7. -/
import Derived.Test.YtmgklehakmdiiaaGe6
set_option maxRecDepth 100000
set_option maxHeartbeats 2000000
namespace Go.Proofs.Ytmgklehakmdiiaa.Ab
open Go
set_option linter.all false
mutual
def allE : Ka → List Ka
 | ⟨a, b, c, ks, d⟩ => ⟨a, b, c, ks, d⟩ :: allEs ks
def allEs : List Ka → List Ka
 | [] => []
 | e :: l => allE e ++ allEs l
end
theorem allE_eq (e : Ka) : allE e = e :: allEs e.gKids := by cases e; simp only [allE]
theorem KgF : ∀ l m, allEs (l ++ m) = allEs l ++ allEs m
 | [], m => by simp [allEs]
 | e :: l, m => by simp only [List.cons_append, allEs, KgF l m, List.append_assoc]
mutual
theorem Kjh : ∀ e, (allE e).length = szE e
 | ⟨_, _, _, ks, _⟩ => by simp only [allE, szE, List.length_cons, Ke1 ks]; omega
theorem Ke1 : ∀ l, (allEs l).length = szEs l
 | [] => rfl
 | e :: l => by simp only [allEs, szEs, List.length_append, Kjh e, Ke1 l]
end
mutual
def flS : Kl → List Kl
 | ⟨a, b, c, es, ks, ls, d⟩ => ⟨a, b, c, es, ks, ls, d⟩ :: (flSs ks ++ flSs ls)
def flSs : List Kl → List Kl
 | [] => []
 | s :: l => flS s ++ flSs l
end
mutual
def szS : Kl → Nat
 | ⟨_, _, _, es, ks, ls, _⟩ => 1 + szSs ks + szSs ls + szEs es
def szSs : List Kl → Nat
 | [] => 0
 | s :: l => szS s + szSs l
end
mutual
def hS : Kl → Nat
 | ⟨_, _, _, _, ks, ls, _⟩ => 1 + max (hSs ks) (hSs ls)
def hSs : List Kl → Nat
 | [] => 1
 | s :: l => max (hS s) (hSs l)
end
def exOf (l : List Kl) : List Ka := l.flatMap fun s => allEs s.gExps
theorem flS_eq (s : Kl) : flS s = s :: (flSs s.gKids ++ flSs s.gElse) := by cases s; simp only [flS]
theorem KeI (s : Kl) : szS s = 1 + szSs s.gKids + szSs s.gElse + szEs s.gExps := by cases s; simp only [szS]
theorem hS_eq (s : Kl) : hS s = 1 + max (hSs s.gKids) (hSs s.gElse) := by cases s; simp only [hS]
theorem KiY : ∀ l m, flSs (l ++ m) = flSs l ++ flSs m
 | [], m => by simp [flSs]
 | e :: l, m => by simp only [List.cons_append, flSs, KiY l m, List.append_assoc]
theorem KfE : ∀ l m, szSs (l ++ m) = szSs l + szSs m
 | [], m => by simp [szSs]
 | e :: l, m => by simp only [List.cons_append, szSs, KfE l m]; omega
theorem KiZ (l m : List Kl) : exOf (l ++ m) = exOf l ++ exOf m := by simp [exOf]
theorem hS_mem : ∀ {l : List Kl} {s : Kl}, s ∈ l → hS s ≤ hSs l
  | x :: l, e, h => by
    simp only [hSs]
    rcases List.mem_cons.1 h with rfl | h
    · omega
    · have := hS_mem h; omega
theorem szS_mem : ∀ {l : List Kl} {s : Kl}, s ∈ l → szS s ≤ szSs l
  | x :: l, e, h => by
    simp only [szSs]
    rcases List.mem_cons.1 h with rfl | h
    · omega
    · have := szS_mem h; omega
theorem KiL : ∀ l, 1 ≤ hSs l
 | [] => by simp [hSs]
 | s :: l => by have := KiL l; simp only [hSs]; omega
mutual
theorem szS_fl : ∀ s, szS s = (flS s).length + (exOf (flS s)).length
  | ⟨a, b, c, es, ks, ls, d⟩ => by
    have h1 := Ke2 ks
    have h2 := Ke2 ls
    simp only [szS, flS, List.length_cons, List.length_append, exOf, List.flatMap_cons, List.flatMap_append, Ke1] at h1 h2 ⊢
    omega
theorem Ke2 : ∀ l, szSs l = (flSs l).length + (exOf (flSs l)).length
  | [] => rfl
  | s :: l => by
    have h1 := szS_fl s
    have h2 := Ke2 l
    simp only [szSs, flSs, List.length_append, KiZ]; omega
end
theorem Kfw : ∀ l, l.length ≤ szSs l
  | [] => by simp
  | e :: l => by
    have := Kfw l
    have h := KeI e
    simp only [szSs, List.length_cons]; omega
theorem szSs_pre {l pre : List Kl} {x : Kl} {post : List Kl} (h : l = pre ++ x :: post) : szSs pre + szS x ≤ szSs l := by
 subst h; rw [KfE]; simp only [szSs]; omega
theorem fuel {l : List Kl} {n : Nat} {x : Kl} (h : hSs l ≤ n + 1) (hx : x ∈ l) : hSs x.gKids ≤ n ∧ hSs x.gElse ≤ n := by
 have h1 := hS_mem hx
 have h2 := hS_eq x
 omega
end Go.Proofs.Ytmgklehakmdiiaa.Ab
namespace Go.Proofs.Ytmgklehakmdiiaa.Ab.Pq
open Go
set_option linter.all false
def GR {A : Type} (L : List Tok) (v o : Int) (p : Pos L) (sz : A → Nat) (r : Option (A × Ke)) (r2 : Option (A × RR)) : Prop :=
 ∃ x y q e, r = some (x, gm L q e v o) ∧ r2 = some (y, rm L q e) ∧ (e = 0 → x = y ∧ p.1 + sz x ≤ q.1)
theorem GR.bad {A : Type} {L : List Tok} {v o : Int} {p : Pos L} {sz : A → Nat} {r : Option (A × Ke)} {r2 : Option (A × RR)} {x y : A} {q : Pos L} {e : Int} (he : e ≠ 0) (h : r = some (x, gm L q e v o)) (h2 : r2 = some (y, rm L q e)) : GR L v o p sz r r2 := ⟨x, y, q, e, h, h2, fun h => absurd h he⟩
theorem GR.ret {A : Type} {L : List Tok} {v o : Int} {p : Pos L} {sz : A → Nat} {r : Option (A × Ke)} {r2 : Option (A × RR)} {x : A} {q : Pos L} {e : Int} (h : r = some (x, gm L q e v o)) (h2 : r2 = some (x, rm L q e)) (hs : p.1 + sz x ≤ q.1) : GR L v o p sz r r2 := ⟨x, x, q, e, h, h2, fun _ => ⟨rfl, hs⟩⟩
section
variable {L : List Tok}
theorem Kdk (p : Pos L) (s : ByteArray) : (∃ q : Pos L, eatP L p 0 s = (q, 0) ∧ q.1 = p.1 + 1 ∧ isS L p.1 s = true) ∨ (eatP L p 0 s = (p, 3) ∧ isS L p.1 s = false) := by
 unfold eatP
 rw [if_pos rfl]
 by_cases h : isS L p.1 s = true
 ·rw [dif_pos h]; exact .inl ⟨_, rfl, rfl, h⟩
 ·rw [dif_neg h]; exact .inr ⟨rfl, by simpa using h⟩
theorem KcW (p : Pos L) (e : Int) (s : ByteArray) : p.1 ≤ (eatP L p e s).1.1 := by
 unfold eatP
 by_cases he : e = 0
 ·rw [if_pos he]
  by_cases h : isS L p.1 s = true
  ·rw [dif_pos h]; exact Nat.le_succ _
  ·rw [dif_neg h]; exact Nat.le_refl _
 ·rw [if_neg he]; exact Nat.le_refl _
theorem Kbn (p : Pos L) (s : ByteArray) : (∃ q : Pos L, mayP L p 0 s = (true, q) ∧ q.1 = p.1 + 1 ∧ isS L p.1 s = true) ∨ (mayP L p 0 s = (false, p) ∧ isS L p.1 s = false) := by
 unfold mayP
 rw [if_pos rfl]
 by_cases h : isS L p.1 s = true
 ·rw [dif_pos h]; exact .inl ⟨_, rfl, rfl, h⟩
 ·rw [dif_neg h]; exact .inr ⟨rfl, by simpa using h⟩
theorem KfF (p : Pos L) : (∃ q : Pos L, nameP L p 0 = ((lk L p.1).gText, q, 0) ∧ q.1 = p.1 + 1 ∧ (lk L p.1).gKind = 1) ∨ nameP L p 0 = (ByteArray.empty, p, 3) := by
 unfold nameP
 rw [if_pos rfl]
 by_cases h : (lk L p.1).gKind = 1
 ·rw [dif_pos h]; exact .inl ⟨_, rfl, rfl, h⟩
 ·rw [dif_neg h]; exact .inr rfl
theorem KiM {p : Pos L} {e v o : Int} (he : e ≠ 0) : K9 (gm L p e v o) = some (ex0, gm L p e v o) := by
 unfold K9
 rw [show ((gm L p e v o).gE != 0) = true by simp [he]]; rfl
theorem Kgi {p : Pos L} {e : Int} (he : e ≠ 0) : KaN (rm L p e) = some (ex0, rm L p e) := by
 unfold KaN
 rw [show ((rm L p e).gE != 0) = true by simp [he]]; rfl
variable (hL : L.length ≤ 100000)
include hL
theorem Kdl {p : Pos L} {e v o : Int} (he : e ≠ 0) (l : List ByteArray) (hl : l.length ≤ 1000) : KO (gm L p e v o) l = some (gm L p e v o) := by rw [geats hL p e v o l hl, Kg1 he]
theorem Kdm {p : Pos L} {e : Int} (he : e ≠ 0) (s : ByteArray) : Kam (rm L p e) s = some (rm L p e) := by rw [reat hL, Kcr he]
theorem KfQ {p : Pos L} {e v o : Int} (he : e ≠ 0) (s : ByteArray) : K2 (gm L p e v o) s = some (false, gm L p e v o) := by rw [gmay hL, Kem he]
theorem KdZ {p : Pos L} {e : Int} (he : e ≠ 0) (s : ByteArray) : KbN (rm L p e) s = some (false, rm L p e) := by rw [rmay hL, Kem he]
theorem gname_b {p : Pos L} {e v o : Int} (he : e ≠ 0) : KaF (gm L p e v o) = some (ByteArray.empty, gm L p e v o) := by rw [gname hL, Kg0 he]
theorem rname_b {p : Pos L} {e : Int} (he : e ≠ 0) : Kbt (rm L p e) = some (ByteArray.empty, rm L p e) := by rw [rname hL, Kg0 he]
theorem Kfx (p : Pos L) (v o : Int) : GR L v o p szE (K9 (gm L p 0 v o)) (KaN (rm L p 0)) := by
 have hp := p.2
 obtain ⟨x, y, i, e, h1, h2, h3, h4⟩ := (sm (10 * L.length + 20)).1 L p.1 0 (10 * L.length + 20) hL hp (by omega) (by omega) (by omega)
 have h1' := Kfn _ _ _ h1
 have h2' := KkF _ _ _ h2
 have a1 : K9 (gm L p 0 v o) = some (bif e == 0 then x else ex0, gm L ⟨i, h3⟩ e v o) := by
  unfold K9 Ket
  simp only [bne, beq_self_eq_true, Bool.not_true, cond_false]
  rw [show min ((p.1 : Nat) : Int) (L.length : Int) = ((p.1 : Nat) : Int) by omega, decide_eq_false (by omega), cond_false, decide_eq_false (by omega), Option.bind_some, cond_false]
  rw [show KcY (⟨L, ((p.1 : Nat) : Int), 0⟩ : Kb) 0 = _ from h1', Option.bind_some]
  by_cases he : e = 0
  ·subst he; rfl
  ·simp only [mk, show (e == 0) = false by simp [he], Bool.not_false, cond_true, Option.bind_some, cond_false]
   have := gfail (L := L) p ⟨i, h3⟩ 0 v o e
   rw [KeQ] at this
   rw [show Kao (gm L p 0 v o) (i : Int) e = _ from this, Option.bind_some]; rfl
 have a2 : KaN (rm L p 0) = some (y, rm L ⟨i, h3⟩ e) := by
  unfold KaN
  simp only [bne, beq_self_eq_true, Bool.not_true, cond_false]
  rw [show KgZ (rm L p 0) 0 = _ from h2', Option.bind_some]; rfl
 refine ⟨_, _, _, _, a1, a2, fun he => ?_⟩
 subst he
 obtain ⟨q1, q2, q3, q4⟩ := h4 rfl
 exact ⟨q1, by show p.1 + szE x ≤ i; omega⟩
abbrev SL6 := List Xp × List Tok × Int × Int × Int × Int
abbrev SL4 := List Xp × List Tok × Int × Int
omit hL in
noncomputable def lsP (s28 : SL6) : Option (Step SL6 SL6) := (bif (s28.2.2.2.1 == (0 : Int)) then ((K9 (⟨s28.2.1, s28.2.2.1, s28.2.2.2.1, s28.2.2.2.2.1, s28.2.2.2.2.2⟩ : Ke)).bind fun x43 => ((app 64 s28.1 ([x43.1] : List Ka)).bind fun x44 => ((K2 x43.2 (ByteArray.mk #[44])).bind fun x45 => (bif (!x45.1) then some (.done (x44, x45.2.gL, x45.2.gAt, x45.2.gE, x45.2.gVars, x45.2.gOpen)) else some (.next (x44, x45.2.gL, x45.2.gAt, x45.2.gE, x45.2.gVars, x45.2.gOpen)))))) else some (.done (s28.1, s28.2.1, s28.2.2.1, s28.2.2.2.1, s28.2.2.2.2.1, s28.2.2.2.2.2)))
omit hL in
noncomputable def lsR (s26 : SL4) : Option (Step SL4 SL4) := ((KbN (⟨s26.2.1, s26.2.2.1, s26.2.2.2⟩ : Kd) (ByteArray.mk #[44])).bind fun x37 => (bif x37.1 then ((KaN x37.2).bind fun x39 => ((app 64 s26.1 ([x39.1] : List Ka)).bind fun x40 => some (.next (x40, x39.2.gL, x39.2.gAt, x39.2.gE)))) else some (.done (s26.1, x37.2.gL, x37.2.gAt, x37.2.gE))))
theorem ls_loop (v o : Int) (p0 : Nat) : ∀ (n : Nat) (p : Pos L) (acc : List Xp), L.length - p.1 ≤ n → p0 + szEs acc ≤ p.1 →
    ∃ l l2 q e, loopM lsP (acc, L, ((p.1 : Nat) : Int), 0, v, o) = some (l, L, ((q.1 : Nat) : Int), e, v, o) ∧ ((KaN (rm L p 0)).bind fun x7 => (app 64 acc [x7.1]).bind fun x8 => loopM lsR (x8, x7.2.gL, x7.2.gAt, x7.2.gE)) = some (l2, L, ((q.1 : Nat) : Int), e) ∧ (e = 0 → l = l2 ∧ p0 + szEs l ≤ (q : Pos L).1) := by
  intro n
  induction n with
  | zero =>
    intro p acc hn ha
    obtain ⟨x, y, q, e, h1, h2, h3⟩ := Kfx hL p v o
    have hp := p.2
    have hlen := Kdu acc
    have he : e ≠ 0 := by
      intro he
      obtain ⟨_, h4⟩ := h3 he
      have := q.2
      have h5 : 1 ≤ szE x := by rw [KcZ]; omega
      omega
    have hf : lsP (acc, L, ((p.1 : Nat) : Int), 0, v, o) = some (.done (acc ++ [x], L, ((q.1 : Nat) : Int), e, v, o)) := by
      unfold lsP
      simp only [beq_self_eq_true, cond_true]
      rw [h1, Option.bind_some, Kba (by omega) (by simp; omega), Option.bind_some]
      simp only []
      rw [KfQ hL he, Option.bind_some]; rfl
    refine ⟨_, acc ++ [y], q, e, KG hf, ?_, fun h => absurd h he⟩
    rw [h2, Option.bind_some, Kba (by omega) (by simp; omega), Option.bind_some]
    refine KG ?_
    unfold lsR
    simp only []
    rw [KdZ hL he, Option.bind_some]; rfl
  | succ n ih =>
    intro p acc hn ha
    obtain ⟨x, y, q, e, h1, h2, h3⟩ := Kfx hL p v o
    have hp := p.2
    have hlen := Kdu acc
    have hf : ∀ b q', mayP L q e (ByteArray.mk #[44]) = (b, q') → lsP (acc, L, ((p.1 : Nat) : Int), 0, v, o) = (bif !b then some (.done (acc ++ [x], L, ((q'.1 : Nat) : Int), e, v, o)) else some (.next (acc ++ [x], L, ((q'.1 : Nat) : Int), e, v, o))) := by
      intro b q' hb
      unfold lsP
      simp only [beq_self_eq_true, cond_true]
      rw [h1, Option.bind_some, Kba (by omega) (by simp; omega), Option.bind_some]
      simp only []
      rw [gmay hL, Option.bind_some, hb]
    have hR : ∀ b q', mayP L q e (ByteArray.mk #[44]) = (b, q') → lsR (acc ++ [y], L, ((q.1 : Nat) : Int), e) = (bif b then ((KaN (rm L q' e)).bind fun x39 => ((app 64 (acc ++ [y]) ([x39.1] : List Ka)).bind fun x40 => some (.next (x40, x39.2.gL, x39.2.gAt, x39.2.gE)))) else some (.done (acc ++ [y], L, ((q'.1 : Nat) : Int), e))) := by
      intro b q' hb
      unfold lsR
      simp only []
      rw [rmay hL q, Option.bind_some, hb]
    rw [h2, Option.bind_some, Kba (by omega) (by simp; omega), Option.bind_some]
    by_cases he : e = 0
    · subst he
      obtain ⟨hxy, h4⟩ := h3 rfl
      subst hxy
      have h5 : 1 ≤ szE x := by rw [KcZ]; omega
      have hsz : szEs (acc ++ [x]) = szEs acc + szE x := by rw [KeG]; simp [szEs]
      rcases Kbn q (ByteArray.mk #[44]) with ⟨q', hq, hq1, _⟩ | ⟨hq, _⟩
      · have hf' := hf _ _ hq
        have hR' := hR _ _ hq
        simp only [Bool.not_true, cond_false, cond_true] at hf' hR'
        rw [Kag hf']
        obtain ⟨l, l2, q2, e2, k1, k2, k3⟩ := ih q' (acc ++ [x]) (by omega) (by omega)
        refine ⟨l, l2, q2, e2, k1, ?_, k3⟩
        rw [← k2]
        have hstep : ∀ (m : Option (Xp × RR)) (g : Xp × RR → Option SL4), lsR (acc ++ [x], L, ((q.1 : Nat) : Int), 0) = (m.bind fun z => (g z).bind fun w => some (.next w)) → (∃ r, (m.bind g) = some r) → loopM lsR (acc ++ [x], L, ((q.1 : Nat) : Int), 0) = m.bind fun z => (g z).bind fun w => loopM lsR w := by
          intro m g hm hr
          cases m with
          | none => obtain ⟨r, hr⟩ := hr; cases hr
          | some z =>
            rw [Option.bind_some] at hm hr ⊢
            obtain ⟨r, hr⟩ := hr
            rw [hr, Option.bind_some] at hm ⊢
            exact Kag hm
        have hh := hstep (KaN (rm L q' 0)) (fun z => (app 64 (acc ++ [x]) [z.1]).bind fun w => some (w, z.2.gL, z.2.gAt, z.2.gE)) (by
          rw [hR']
          cases KaN (rm L q' 0) with
          | none => rfl
          | some z =>
            simp only [Option.bind_some]
            cases app 64 (acc ++ [x]) [z.1] <;> rfl) (by
          obtain ⟨x', y', q'', e'', m1, m2, m3⟩ := Kfx hL q' v o
          rw [m2, Option.bind_some]
          have hq2 := q.2
          rw [Kba (by omega) (by simp; omega), Option.bind_some]
          exact ⟨_, rfl⟩)
        rw [show ((acc ++ [x], (x, rm L q 0).2.gL, (x, rm L q 0).2.gAt, (x, rm L q 0).2.gE) : SL4) = (acc ++ [x], L, ((q.1 : Nat) : Int), 0) from rfl, hh]
        cases KaN (rm L q' 0) with
        | none => rfl
        | some z =>
          simp only [Option.bind_some]
          cases app 64 (acc ++ [x]) [z.1] <;> rfl
      · have hf' := hf _ _ hq
        have hR' := hR _ _ hq
        simp only [Bool.not_false, cond_false, cond_true] at hf' hR'
        exact ⟨_, _, q, 0, KG hf', KG hR', fun _ => ⟨rfl, by omega⟩⟩
    · have hf' := hf _ _ (Kem he _)
      have hR' := hR _ _ (Kem he _)
      simp only [Bool.not_false, cond_false, cond_true] at hf' hR'
      exact ⟨_, _, q, e, KG hf', KG hR', fun h => absurd h he⟩
theorem list_gr (p : Pos L) (v o : Int) : GR L v o p szEs (KaV (gm L p 0 v o)) (Keg (rm L p 0)) := by
  unfold KaV Keg
  rw [geat hL, Option.bind_some, reat hL, Option.bind_some]
  rcases Kdk p (ByteArray.mk #[40]) with ⟨q, hq, hq1, _⟩ | ⟨hq, _⟩
  · rw [hq]
    simp only []
    rw [gmay hL, Option.bind_some, rmay hL, Option.bind_some]
    rcases Kbn q (ByteArray.mk #[41]) with ⟨q', hm, hm1, _⟩ | ⟨hm, _⟩
    · rw [hm]
      exact GR.ret (x := []) (q := q') (e := 0) rfl rfl (by simp [szEs]; omega)
    · rw [hm]
      simp only [cond_false]
      obtain ⟨l, l2, q2, e, k1, k2, k3⟩ := ls_loop hL v o p.1 L.length q [] (by omega) (by simp [szEs]; omega)
      change GR L v o p szEs (Option.bind (loopM lsP ([], L, ((q.1 : Nat) : Int), 0, v, o)) _) _
      rw [k1, Option.bind_some]
      simp only []
      rw [geat hL q2, Option.bind_some]
      have e2 : ((KaN (rm L q 0)).bind fun x7 => (app 64 ([] : List Xp) [x7.1]).bind fun x8 => (loopM lsR (x8, x7.2.gL, x7.2.gAt, x7.2.gE)).bind fun y25 => ((Kam (⟨y25.2.1, y25.2.2.1, y25.2.2.2⟩ : Kd) (ByteArray.mk #[41])).bind fun x41 => some (y25.1, x41))) = some (l2, rm L (eatP L q2 e (ByteArray.mk #[41])).1 (eatP L q2 e (ByteArray.mk #[41])).2) := by
        cases hx : KaN (rm L q 0) with
        | none => rw [hx] at k2; cases k2
        | some z =>
          rw [hx, Option.bind_some] at k2
          rw [Option.bind_some]
          cases hy : app 64 ([] : List Xp) [z.1] with
          | none => rw [hy] at k2; cases k2
          | some w =>
            rw [hy, Option.bind_some] at k2
            rw [Option.bind_some, k2, Option.bind_some]
            simp only []
            rw [reat hL q2, Option.bind_some]
      refine ⟨l, l2, (eatP L q2 e (ByteArray.mk #[41])).1, (eatP L q2 e (ByteArray.mk #[41])).2, rfl, e2, fun he => ?_⟩
      by_cases h0 : e = 0
      · obtain ⟨a, b⟩ := k3 h0
        have := KcW q2 e (ByteArray.mk #[41])
        exact ⟨a, by omega⟩
      · rw [Kcr h0] at he; exact absurd he h0
  · rw [hq]
    simp only []
    have h3 : (3 : Int) ≠ 0 := by decide
    rw [KfQ hL h3, Option.bind_some, KdZ hL h3, Option.bind_some]
    simp only [cond_false]
    change GR L v o p szEs (Option.bind (loopM lsP ([], L, ((p.1 : Nat) : Int), 3, v, o)) _) _
    rw [KG (t := ([], L, ((p.1 : Nat) : Int), 3, v, o)) rfl, Option.bind_some]
    simp only []
    rw [Kdl hL h3 _ (by simp), Option.bind_some, Kgi h3, Option.bind_some, Kba (by omega) (by simp), Option.bind_some]
    refine GR.bad h3 (q := p) rfl (y := [ex0]) ?_
    change Option.bind (loopM lsR ([] ++ [ex0], L, ((p.1 : Nat) : Int), 3)) _ = _
    rw [KG (t := ([ex0], L, ((p.1 : Nat) : Int), 3)) (by unfold lsR; simp only []; rw [KdZ hL h3, Option.bind_some]; rfl), Option.bind_some]
    simp only []
    rw [Kdm hL h3, Option.bind_some]
end
end Go.Proofs.Ytmgklehakmdiiaa.Ab.Pq
namespace Go.Proofs.Ytmgklehakmdiiaa.Ab.Pq
open Go
set_option linter.all false
section
variable {L : List Tok}
theorem szS0 {op at_ : Int} {nm fn : ByteArray} {es : List Xp} : szS ⟨op, nm, fn, es, [], [], at_⟩ = 1 + szEs es := by rw [KeI]; simp [szSs]
variable (hL : L.length ≤ 100000)
include hL
theorem list_b {p : Pos L} {e v o : Int} (he : e ≠ 0) : KaV (gm L p e v o) = some ([], gm L p e v o) := by
 unfold KaV
 rw [Kdl hL he _ (by simp), Option.bind_some, KfQ hL he, Option.bind_some]
 simp only [cond_false]
 change (Option.bind (loopM lsP ([], L, ((p.1 : Nat) : Int), e, v, o)) _) = _
 rw [KG (t := ([], L, ((p.1 : Nat) : Int), e, v, o)) (by unfold lsP; simp only []; rw [show (e == 0) = false by simp [he], cond_false]), Option.bind_some]
 simp only []
 rw [Kdl hL he _ (by simp), Option.bind_some]
theorem exprs_b {p : Pos L} {e : Int} (he : e ≠ 0) : Keg (rm L p e) = some ([ex0], rm L p e) := by
 unfold Keg
 rw [Kdm hL he, Option.bind_some, KdZ hL he, Option.bind_some]
 simp only [cond_false]
 rw [Kgi he, Option.bind_some, Kba (by omega) (by simp), Option.bind_some]
 change (Option.bind (loopM lsR ([] ++ [ex0], L, ((p.1 : Nat) : Int), e)) _) = _
 rw [KG (t := ([ex0], L, ((p.1 : Nat) : Int), e)) (by unfold lsR; simp only []; rw [KdZ hL he, Option.bind_some]; rfl), Option.bind_some]
 simp only []
 rw [Kdm hL he, Option.bind_some]
theorem call_gr (p : Pos L) (v o : Int) (op at_ : Int) (nm fn : ByteArray) (es : List Xp) : GR L v o p szS (KaQ (gm L p 0 v o) ⟨op, nm, fn, es, [], [], at_⟩) (Kds (rm L p 0) ⟨op, nm, fn, es, [], [], at_⟩) := by
 unfold KaQ Kds
 rw [gname hL, Option.bind_some, rname hL, Option.bind_some]
 rcases KfF p with ⟨q, hq, hq1, _⟩ | hq
 ·rw [hq]
  simp only []
  obtain ⟨x, y, q2, e, h1, h2, h3⟩ := list_gr hL q v o
  rw [h1, Option.bind_some, h2, Option.bind_some, geat hL, Option.bind_some, reat hL, Option.bind_some]
  by_cases he : e = 0
  ·obtain ⟨hxy, h4⟩ := h3 he
   subst hxy
   exact GR.ret rfl rfl (by rw [szS0]; have := KcW q2 e (ByteArray.mk #[59]); show p.1 + (1 + szEs x) ≤ (eatP L q2 e (ByteArray.mk #[59])).1.1; omega)
  ·rw [Kcr he]
   exact GR.bad he rfl rfl
 ·rw [hq]
  simp only []
  have h3 : (3 : Int) ≠ 0 := by decide
  rw [list_b hL h3, exprs_b hL h3, Option.bind_some, Option.bind_some, Kdl hL h3 _ (by simp), Option.bind_some, Kdm hL h3, Option.bind_some]
  exact GR.bad h3 rfl rfl
theorem call_b {p : Pos L} {e v o : Int} (he : e ≠ 0) (s : Kl) : (∃ x, KaQ (gm L p e v o) s = some (x, gm L p e v o)) ∧ (∃ y, Kds (rm L p e) s = some (y, rm L p e)) := by
 constructor
 ·unfold KaQ
  rw [gname_b hL he, Option.bind_some]
  simp only []
  rw [list_b hL he, Option.bind_some]
  simp only []
  rw [Kdl hL he _ (by simp), Option.bind_some]
  exact ⟨_, rfl⟩
 ·unfold Kds
  rw [rname_b hL he, Option.bind_some]
  simp only []
  rw [exprs_b hL he, Option.bind_some]
  simp only []
  rw [Kdm hL he, Option.bind_some]
  exact ⟨_, rfl⟩
theorem test_gr (p : Pos L) (v o : Int) : GR L v o p szEs (Kbc (gm L p 0 v o)) (KeO (rm L p 0)) := by
 unfold Kbc KeO
 rw [geat hL, Option.bind_some, reat hL, Option.bind_some]
 rcases Kdk p (ByteArray.mk #[40]) with ⟨q, hq, hq1, _⟩ | ⟨hq, _⟩
 ·rw [hq]
  simp only []
  obtain ⟨x, y, q2, e, h1, h2, h3⟩ := Kfx hL q v o
  rw [h1, Option.bind_some, h2, Option.bind_some, geat hL, Option.bind_some, reat hL, Option.bind_some]
  by_cases he : e = 0
  ·obtain ⟨hxy, h4⟩ := h3 he
   subst hxy
   exact GR.ret rfl rfl (by simp only [szEs]; have := KcW q2 e (ByteArray.mk #[41]); omega)
  ·rw [Kcr he]
   exact GR.bad he rfl rfl
 ·rw [hq]
  simp only []
  have h3 : (3 : Int) ≠ 0 := by decide
  rw [KiM h3, Option.bind_some, Kgi h3, Option.bind_some, Kdl hL h3 _ (by simp), Option.bind_some, Kdm hL h3, Option.bind_some]
  exact GR.bad h3 rfl rfl
theorem Kji (p q0 : Pos L) (v o : Int) (s : ByteArray) (op at_ : Int) (nm fn : ByteArray) (hp : p.1 + 1 ≤ q0.1) : GR L v o p szS
  ((K9 (gm L q0 0 v o)).bind fun x => (KO x.2 [s]).bind fun z => some ((⟨op, nm, fn, [x.1], [], [], at_⟩ : Kl), z))
  ((KaN (rm L q0 0)).bind fun x => (Kam x.2 s).bind fun z => some ((⟨op, nm, fn, [x.1], [], [], at_⟩ : Kl), z)) := by
 obtain ⟨x, y, q2, e, h1, h2, h3⟩ := Kfx hL q0 v o
 rw [h1, Option.bind_some, h2, Option.bind_some, geat hL, Option.bind_some, reat hL, Option.bind_some]
 by_cases he : e = 0
 ·obtain ⟨hxy, h4⟩ := h3 he
  subst hxy
  exact GR.ret rfl rfl (by rw [szS0]; simp only [szEs]; have := KcW q2 e s; omega)
 ·rw [Kcr he]
  exact GR.bad he rfl rfl
theorem KjA {p q0 : Pos L} {v o e : Int} (he : e ≠ 0) (s : ByteArray) (op at_ : Int) (nm fn : ByteArray) : GR L v o p szS
  ((K9 (gm L q0 e v o)).bind fun x => (KO x.2 [s]).bind fun z => some ((⟨op, nm, fn, [x.1], [], [], at_⟩ : Kl), z))
  ((KaN (rm L q0 e)).bind fun x => (Kam x.2 s).bind fun z => some ((⟨op, nm, fn, [x.1], [], [], at_⟩ : Kl), z)) := by
 rw [KiM he, Option.bind_some, Kgi he, Option.bind_some, Kdl hL he _ (by simp), Option.bind_some, Kdm hL he, Option.bind_some]
 exact GR.bad he rfl rfl
theorem isS1 (i : Nat) (s : ByteArray) : (bif (lk L i).gKind == 3 then some (decide ((lk L i).gText = s)) else some false) = some (isS L i s) := by
 unfold isS
 cases (lk L i).gKind == 3 <;> rfl
noncomputable def rtail (x32 : RR) (nm fn : ByteArray) (op at_ : Int) : Option (Kl × RR) := ((KbN x32 (ByteArray.mk #[105, 110, 112, 117, 116])).bind fun x33 => (bif x33.1 then ((Kam x33.2 (ByteArray.mk #[40])).bind fun x39 => ((Kam x39 (ByteArray.mk #[41])).bind fun x40 => ((Kam x40 (ByteArray.mk #[59])).bind fun x41 => some ((⟨(5 : Int), nm, fn, [], [], [], at_⟩ : Kl), x41)))) else ((Kef x33.2 (1 : Int)).bind fun x43 => (Option.bind (α := Bool) ((Kbq x33.2).bind fun x49 => (bif (x49.gKind == (1 : Int)) then (bif (x43.gKind == (3 : Int)) then some (decide (x43.gText = (ByteArray.mk #[40]))) else some false) else some false)) fun y48 => (bif y48 then ((Kds x33.2 (⟨op, nm, fn, [], [], [], at_⟩ : Kl)).bind fun x55 => some (x55.1, x55.2)) else ((KaN x33.2).bind fun x57 => ((Kam x57.2 (ByteArray.mk #[59])).bind fun x58 => some ((⟨(1 : Int), nm, fn, ([x57.1] : List Ka), [], [], at_⟩ : Kl), x58))))))))
theorem assign_gr (p q0 : Pos L) (v o : Int) (nm fn : ByteArray) (op at_ : Int) (hp : p.1 + 1 ≤ q0.1) : GR L v o p szS (KaO (gm L q0 0 v o) ⟨op, nm, fn, [], [], [], at_⟩) (rtail (rm L q0 0) nm fn op at_) := by
  unfold KaO rtail
  rw [gmay hL, Option.bind_some, rmay hL, Option.bind_some]
  rcases Kbn q0 (ByteArray.mk #[105, 110, 112, 117, 116]) with ⟨q, hq, hq1, _⟩ | ⟨hq, _⟩
  · rw [hq]
    simp only [cond_true]
    rw [geats hL _ _ _ _ _ (by simp), Option.bind_some, reat hL, Option.bind_some, reat hL, Option.bind_some, reat hL, Option.bind_some]
    refine GR.ret (q := (eatsP L q 0 [ByteArray.mk #[40], ByteArray.mk #[41], ByteArray.mk #[59]]).1) rfl rfl ?_
    rw [szS0]
    simp only [szEs]
    have a1 := KcW q 0 (ByteArray.mk #[40])
    have a2 := KcW (eatP L q 0 (ByteArray.mk #[40])).1 (eatP L q 0 (ByteArray.mk #[40])).2 (ByteArray.mk #[41])
    have a3 := KcW (eatP L (eatP L q 0 (ByteArray.mk #[40])).1 (eatP L q 0 (ByteArray.mk #[40])).2 (ByteArray.mk #[41])).1 (eatP L (eatP L q 0 (ByteArray.mk #[40])).1 (eatP L q 0 (ByteArray.mk #[40])).2 (ByteArray.mk #[41])).2 (ByteArray.mk #[59])
    show p.1 + (1 + 0) ≤ (eatP L (eatP L (eatP L q 0 (ByteArray.mk #[40])).1 (eatP L q 0 (ByteArray.mk #[40])).2 (ByteArray.mk #[41])).1 (eatP L (eatP L q 0 (ByteArray.mk #[40])).1 (eatP L q 0 (ByteArray.mk #[40])).2 (ByteArray.mk #[41])).2 (ByteArray.mk #[59])).1.1
    omega
  · rw [hq]
    simp only [cond_false]
    rw [KgE hL, Option.bind_some, gis1 hL, Option.bind_some, rahead1 hL, Option.bind_some, rlook hL, Option.bind_some, isS1 hL]
    cases hk : (bif (lk L q0.1).gKind == 1 then some (isS L (q0.1 + 1) (ByteArray.mk #[40])) else some false) with
    | none => cases hk2 : (lk L q0.1).gKind == 1 <;> rw [hk2] at hk <;> cases hk
    | some b =>
      rw [Option.bind_some, Option.bind_some]
      cases b
      · exact Kji hL p q0 v o _ _ _ _ _ hp
      · simp only [cond_true]
        rw [KbG, KbG]
        obtain ⟨x, y, q2, e, h1, h2, h3⟩ := call_gr hL q0 v o op at_ nm fn []
        exact ⟨x, y, q2, e, h1, h2, fun he => by obtain ⟨a, b⟩ := h3 he; exact ⟨a, by omega⟩⟩
theorem assign_b {p : Pos L} {e v o : Int} (he : e ≠ 0) (nm fn : ByteArray) (op at_ : Int) : (∃ x, KaO (gm L p e v o) ⟨op, nm, fn, [], [], [], at_⟩ = some (x, gm L p e v o)) ∧ (∃ y, rtail (rm L p e) nm fn op at_ = some (y, rm L p e)) := by
  obtain ⟨⟨c1, h1⟩, ⟨c2, h2⟩⟩ := call_b hL (p := p) (v := v) (o := o) he ⟨op, nm, fn, [], [], [], at_⟩
  constructor
  · unfold KaO
    rw [KfQ hL he, Option.bind_some]
    simp only [cond_false]
    rw [KgE hL, Option.bind_some, gis1 hL, Option.bind_some]
    cases hk : (bif (lk L p.1).gKind == 1 then some (isS L (p.1 + 1) (ByteArray.mk #[40])) else some false) with
    | none => cases hk2 : (lk L p.1).gKind == 1 <;> rw [hk2] at hk <;> cases hk
    | some b =>
      rw [Option.bind_some]
      cases b
      · simp only [cond_false]
        rw [KiM he, Option.bind_some]
        simp only []
        rw [Kdl hL he _ (by simp), Option.bind_some]; exact ⟨_, rfl⟩
      · simp only [cond_true]
        rw [KbG, h1]; exact ⟨_, rfl⟩
  · unfold rtail
    rw [KdZ hL he, Option.bind_some]
    simp only [cond_false]
    rw [rahead1 hL, Option.bind_some, rlook hL, Option.bind_some, isS1 hL]
    cases hk : (bif (lk L p.1).gKind == 1 then some (isS L (p.1 + 1) (ByteArray.mk #[40])) else some false) with
    | none => cases hk2 : (lk L p.1).gKind == 1 <;> rw [hk2] at hk <;> cases hk
    | some b =>
      rw [Option.bind_some]
      cases b
      · simp only [cond_false]
        rw [Kgi he, Option.bind_some]
        simp only []
        rw [Kdm hL he, Option.bind_some]; exact ⟨_, rfl⟩
      · simp only [cond_true]
        rw [KbG, h2]; exact ⟨_, rfl⟩
end
end Go.Proofs.Ytmgklehakmdiiaa.Ab.Pq
namespace Go.Proofs.Ytmgklehakmdiiaa.Ab.Pq
open Go
set_option linter.all false
section
variable {L : List Tok} (hL : L.length ≤ 100000)
include hL
theorem rnamed_eq (p : Pos L) (e at_ : Int) : KeY (rm L p e) ⟨0, ByteArray.empty, ByteArray.empty, [], [], [], at_⟩ = (bif isS L (p.1 + 1) (ByteArray.mk #[40]) then Kds (rm L p e) ⟨0, ByteArray.empty, ByteArray.empty, [], [], [], at_⟩ else ((Kbt (rm L p e)).bind fun x13 => ((KbN x13.2 (ByteArray.mk #[91])).bind fun x14 => (bif x14.1 then ((KaN x14.2).bind fun x24 => ((Kam x24.2 (ByteArray.mk #[93])).bind fun x26 => ((Kam x26 (ByteArray.mk #[61])).bind fun x27 => ((KaN x27).bind fun x28 => ((Kam x28.2 (ByteArray.mk #[59])).bind fun x30 => some ((⟨(2 : Int), x13.1, ByteArray.empty, ([x24.1, x28.1] : List Ka), [], [], at_⟩ : Kl), x30)))))) else ((Kam x14.2 (ByteArray.mk #[61])).bind fun x32 => rtail x32 x13.1 ByteArray.empty 0 at_))))) := by
 unfold KeY rtail
 rw [rahead1 hL, Option.bind_some, isS1 hL, Option.bind_some]
 cases isS L (p.1 + 1) (ByteArray.mk #[40])
 ·rfl
 ·simp only [cond_true]; rw [KbG]
theorem gnamed_eq (p : Pos L) (e v o at_ : Int) : Kbh (gm L p e v o) ⟨0, ByteArray.empty, ByteArray.empty, [], [], [], at_⟩ = (bif isS L (p.1 + 1) (ByteArray.mk #[40]) then KaQ (gm L p e v o) ⟨0, ByteArray.empty, ByteArray.empty, [], [], [], at_⟩ else ((KaF (gm L p e v o)).bind fun x9 => ((K2 x9.2 (ByteArray.mk #[91])).bind fun x10 => (bif x10.1 then ((K9 x10.2).bind fun x18 => ((KO x18.2 ([(ByteArray.mk #[93]), (ByteArray.mk #[61])] : List ByteArray)).bind fun x20 => ((K9 x20).bind fun x21 => ((KO x21.2 ([(ByteArray.mk #[59])] : List ByteArray)).bind fun x22 => some ((⟨(2 : Int), x9.1, ByteArray.empty, ([x18.1, x21.1] : List Ka), [], [], at_⟩ : Kl), x22))))) else ((KO x10.2 ([(ByteArray.mk #[61])] : List ByteArray)).bind fun x24 => KaO x24 ⟨0, x9.1, ByteArray.empty, [], [], [], at_⟩))))) := by
 unfold Kbh
 rw [gis1 hL, Option.bind_some]
 simp only [KbG]
theorem named_gr (p : Pos L) (v o at_ : Int) : GR L v o p szS (Kbh (gm L p 0 v o) ⟨0, ByteArray.empty, ByteArray.empty, [], [], [], at_⟩) (KeY (rm L p 0) ⟨0, ByteArray.empty, ByteArray.empty, [], [], [], at_⟩) := by
 rw [gnamed_eq hL, rnamed_eq hL]
 have h3 : (3 : Int) ≠ 0 := by decide
 cases isS L (p.1 + 1) (ByteArray.mk #[40])
 rotate_left
 ·exact call_gr hL p v o _ _ _ _ _
 simp only [cond_false]
 rw [gname hL, Option.bind_some, rname hL, Option.bind_some]
 rcases KfF p with ⟨q, hq, hq1, _⟩ | hq
 ·rw [hq]
  simp only []
  rw [gmay hL, Option.bind_some, rmay hL, Option.bind_some]
  rcases Kbn q (ByteArray.mk #[91]) with ⟨q', hm, hm1, _⟩ | ⟨hm, _⟩
  ·rw [hm]
   simp only [cond_true]
   obtain ⟨x, y, q2, e, h1, h2, h4⟩ := Kfx hL q' v o
   rw [h1, Option.bind_some, h2, Option.bind_some]
   simp only []
   rw [geats hL q2 e v o _ (by simp), Option.bind_some, reat hL q2, Option.bind_some, reat hL, Option.bind_some]
   rw [show eatsP L q2 e [ByteArray.mk #[93], ByteArray.mk #[61]] = eatP L (eatP L q2 e (ByteArray.mk #[93])).1 (eatP L q2 e (ByteArray.mk #[93])).2 (ByteArray.mk #[61]) from rfl]
   have a1 := KcW q2 e (ByteArray.mk #[93])
   have a2 := KcW (eatP L q2 e (ByteArray.mk #[93])).1 (eatP L q2 e (ByteArray.mk #[93])).2 (ByteArray.mk #[61])
   have hbad : e ≠ 0 → (eatP L (eatP L q2 e (ByteArray.mk #[93])).1 (eatP L q2 e (ByteArray.mk #[93])).2 (ByteArray.mk #[61])).2 ≠ 0 := by
    intro he
    rw [Kcr he]
    simp only []
    rw [Kcr he]; exact he
   generalize eatP L (eatP L q2 e (ByteArray.mk #[93])).1 (eatP L q2 e (ByteArray.mk #[93])).2 (ByteArray.mk #[61]) = w at a2 hbad ⊢
   obtain ⟨w1, w2⟩ := w
   simp only [] at a2 hbad ⊢
   by_cases hw : w2 = 0
   ·subst hw
    have he : e = 0 := by
     by_cases h : e = 0
     ·exact h
     ·exact absurd rfl (hbad h)
    obtain ⟨hxy, h5⟩ := h4 he
    subst hxy
    obtain ⟨x', y', q3, e', m1, m2, m3⟩ := Kfx hL w1 v o
    rw [m1, Option.bind_some, m2, Option.bind_some]
    simp only []
    rw [geat hL q3, Option.bind_some, reat hL q3, Option.bind_some]
    by_cases he' : e' = 0
    ·obtain ⟨hxy, m4⟩ := m3 he'
     subst hxy
     refine GR.ret (q := (eatP L q3 e' (ByteArray.mk #[59])).1) rfl rfl ?_
     rw [szS0]
     simp only [szEs]
     have := KcW q3 e' (ByteArray.mk #[59])
     omega
    ·rw [Kcr he']
     exact GR.bad he' rfl rfl
   ·rw [KiM hw, Option.bind_some, Kgi hw, Option.bind_some]
    simp only []
    rw [Kdl hL hw _ (by simp), Option.bind_some, Kdm hL hw, Option.bind_some]
    exact GR.bad hw rfl rfl
  ·rw [hm]
   simp only [cond_false]
   rw [geat hL, Option.bind_some, reat hL, Option.bind_some]
   rcases Kdk q (ByteArray.mk #[61]) with ⟨q', hm, hm1, _⟩ | ⟨hm, _⟩
   ·rw [hm]
    exact assign_gr hL p q' v o _ _ _ _ (by omega)
   ·rw [hm]
    obtain ⟨⟨x, hx⟩, ⟨y, hy⟩⟩ := assign_b hL (p := q) (v := v) (o := o) h3 (lk L p.1).gText ByteArray.empty 0 at_
    exact GR.bad h3 hx hy
 ·rw [hq]
  simp only []
  rw [KfQ hL h3, Option.bind_some, KdZ hL h3, Option.bind_some]
  simp only [cond_false]
  rw [Kdl hL h3 _ (by simp), Option.bind_some, Kdm hL h3, Option.bind_some]
  obtain ⟨⟨x, hx⟩, ⟨y, hy⟩⟩ := assign_b hL (p := p) (v := v) (o := o) h3 ByteArray.empty ByteArray.empty 0 at_
  exact GR.bad h3 hx hy
end
end Go.Proofs.Ytmgklehakmdiiaa.Ab.Pq
namespace Go.Proofs.Ytmgklehakmdiiaa.Ab.Pq
open Go
set_option linter.all false
section
variable {L : List Tok} (hL : L.length ≤ 100000)
omit hL in
theorem word_eq2 (i : Nat) : ∃ w, (bif (lk L i).gKind == 3 then some (lk L i).gText else some (ByteArray.mk #[])) = some w ∧ ∀ s : ByteArray, s ≠ ByteArray.mk #[] → decide (w = s) = isS L i s := by
 unfold isS
 cases h : (lk L i).gKind == 3
 ·exact ⟨_, rfl, fun s hs => by rw [Bool.false_and, decide_eq_false (Ne.symm hs)]⟩
 ·exact ⟨_, rfl, fun s hs => by rw [Bool.true_and]⟩
include hL
theorem rnext {p q : Pos L} (h : q.1 = p.1 + 1) : (⟨L, IntKind.i64.wrap (((p.1 : Nat) : Int) + 1), 0⟩ : RR) = rm L q 0 := by
 have := p.2
 rw [winc (by omega), ← h]
theorem stmt_gr (g0 : Ke → Option (Kl × Ke)) (g1 : Ke → Option (List Kl × Ke)) (k0 : RR → Int → Option (List Kl × RR)) (k1 : RR → Int → Option (Kl × RR)) (k2 : RR → Int → Option (List Kl × RR)) (p : Pos L) (v o : Int)
  (ih : ∀ q : Pos L, p.1 + 1 ≤ q.1 → GR L v o q szSs (g1 (gm L q 0 v o)) (k2 (rm L q 0) o))
  (ihb : ∀ (q : Pos L) (e : Int), e ≠ 0 → (∃ x, g1 (gm L q e v o) = some (x, gm L q e v o)) ∧ (∃ y, k2 (rm L q e) o = some (y, rm L q e))) :
  GR L v o p szS (KaB g0 g1 (gm L p 0 v o)) (Kcz k0 k1 k2 (rm L p 0) o) := by
 have h3 : (3 : Int) ≠ 0 := by decide
 unfold KaB Kcz
 rw [KgE hL, Option.bind_some, rlook hL, Option.bind_some]
 cases hk : (lk L p.1).gKind == 1
 rotate_left
 ·simp only [cond_true]
  rw [KbG, KbG]
  exact named_gr hL p v o _
 obtain ⟨w, hw, hws⟩ := word_eq2 (L := L) p.1
 simp only [cond_false]
 rw [hw, Option.bind_some, hws _ (by decide), hws _ (by decide), hws _ (by decide), hws _ (by decide), hws _ (by decide)]
 rw [gmay hL, Option.bind_some]
 rcases Kbn p (ByteArray.mk #[42]) with ⟨q, hq, hq1, hs⟩ | ⟨hq, hs⟩
 ·
  rw [hq, hs]
  simp only [cond_true]
  rw [rnext hL hq1, gname hL, Option.bind_some, rname hL, Option.bind_some]
  rcases KfF q with ⟨q', hm, hm1, _⟩ | hm
  ·rw [hm]
   simp only []
   rw [geat hL, Option.bind_some, reat hL, Option.bind_some]
   rcases Kdk q' (ByteArray.mk #[61]) with ⟨q2, hm, hm2, _⟩ | ⟨hm, _⟩
   ·rw [hm]
    exact Kji hL p q2 v o _ _ _ _ _ (by omega)
   ·rw [hm]
    exact KjA hL h3 _ _ _ _ _
  ·rw [hm]
   simp only []
   rw [Kdl hL h3 _ (by simp), Option.bind_some, Kdm hL h3, Option.bind_some]
   exact KjA hL h3 _ _ _ _ _
 rw [hq, hs]
 simp only [cond_false]
 rw [gmay hL, Option.bind_some]
 rcases Kbn p (ByteArray.mk #[105, 102]) with ⟨q, hq, hq1, hs⟩ | ⟨hq, hs⟩
 ·
  rw [hq, hs]
  simp only [cond_true]
  rw [rnext hL hq1]
  obtain ⟨x, y, q2, e, h1, h2, h4⟩ := test_gr hL q v o
  rw [h1, Option.bind_some, h2, Option.bind_some]
  simp only []
  by_cases he : e = 0
  ·subst he
   obtain ⟨hxy, h5⟩ := h4 rfl
   subst hxy
   obtain ⟨x', y', q3, e', m1, m2, m3⟩ := ih q2 (by omega)
   rw [m1, Option.bind_some, m2, Option.bind_some]
   simp only []
   rw [gmay hL, Option.bind_some, rmay hL, Option.bind_some]
   by_cases he' : e' = 0
   ·subst he'
    obtain ⟨hxy, m4⟩ := m3 rfl
    subst hxy
    rcases Kbn q3 (ByteArray.mk #[101, 108, 115, 101]) with ⟨q4, hm, hm1, _⟩ | ⟨hm, _⟩
    ·rw [hm]
     simp only [cond_true]
     obtain ⟨x2, y2, q5, e2, j1, j2, j3⟩ := ih q4 (by omega)
     rw [j1, Option.bind_some, j2, Option.bind_some]
     refine ⟨_, _, q5, e2, rfl, rfl, fun h => ?_⟩
     obtain ⟨hxy, j4⟩ := j3 h
     subst hxy
     refine ⟨rfl, ?_⟩
     rw [KeI]
     show p.1 + (1 + szSs x' + szSs x2 + szEs x) ≤ q5.1
     omega
    ·rw [hm]
     simp only [cond_false]
     refine GR.ret (q := q3) rfl rfl ?_
     rw [KeI]
     show p.1 + (1 + szSs x' + szSs [] + szEs x) ≤ q3.1
     simp only [szSs]
     omega
   ·rw [Kem he']
    simp only [cond_false]
    exact GR.bad he' rfl rfl
  ·obtain ⟨⟨x', m1⟩, ⟨y', m2⟩⟩ := ihb q2 e he
   rw [m1, Option.bind_some, m2, Option.bind_some]
   simp only []
   rw [KfQ hL he, Option.bind_some, KdZ hL he, Option.bind_some]
   simp only [cond_false]
   exact GR.bad he rfl rfl
 rw [hq, hs]
 simp only [cond_false]
 rw [gmay hL, Option.bind_some]
 rcases Kbn p (ByteArray.mk #[119, 104, 105, 108, 101]) with ⟨q, hq, hq1, hs⟩ | ⟨hq, hs⟩
 ·
  rw [hq, hs]
  simp only [cond_true]
  rw [rnext hL hq1]
  obtain ⟨x, y, q2, e, h1, h2, h4⟩ := test_gr hL q v o
  rw [h1, Option.bind_some, h2, Option.bind_some]
  simp only []
  by_cases he : e = 0
  ·subst he
   obtain ⟨hxy, h5⟩ := h4 rfl
   subst hxy
   obtain ⟨x', y', q3, e', m1, m2, m3⟩ := ih q2 (by omega)
   rw [m1, Option.bind_some, m2, Option.bind_some]
   refine ⟨_, _, q3, e', rfl, rfl, fun h => ?_⟩
   obtain ⟨hxy, m4⟩ := m3 h
   subst hxy
   refine ⟨rfl, ?_⟩
   rw [KeI]
   show p.1 + (1 + szSs x' + szSs [] + szEs x) ≤ q3.1
   simp only [szSs]
   omega
  ·obtain ⟨⟨x', m1⟩, ⟨y', m2⟩⟩ := ihb q2 e he
   rw [m1, Option.bind_some, m2, Option.bind_some]
   exact GR.bad he rfl rfl
 rw [hq, hs]
 simp only [cond_false]
 rw [gmay hL, Option.bind_some]
 rcases Kbn p (ByteArray.mk #[114, 101, 116, 117, 114, 110]) with ⟨q, hq, hq1, hs⟩ | ⟨hq, hs⟩
 ·
  rw [hq, hs]
  simp only [cond_true]
  rw [rnext hL hq1]
  exact Kji hL p q v o _ _ _ _ _ (by omega)
 rw [hq, hs]
 simp only [cond_false]
 rw [gmay hL, Option.bind_some]
 rcases Kbn p (ByteArray.mk #[97, 115, 115, 101, 114, 116]) with ⟨q, hq, hq1, hs⟩ | ⟨hq, hs⟩
 ·
  rw [hq, hs]
  simp only [cond_true]
  rw [rnext hL hq1]
  obtain ⟨x, y, q2, e, h1, h2, h4⟩ := test_gr hL q v o
  rw [h1, Option.bind_some, h2, Option.bind_some]
  simp only []
  rw [geat hL, Option.bind_some, reat hL, Option.bind_some]
  by_cases he : e = 0
  ·obtain ⟨hxy, h5⟩ := h4 he
   subst hxy
   refine GR.ret (q := (eatP L q2 e (ByteArray.mk #[59])).1) rfl rfl ?_
   rw [szS0]
   have := KcW q2 e (ByteArray.mk #[59])
   omega
  ·rw [Kcr he]
   exact GR.bad he rfl rfl
 rw [hq, hs]
 simp only [cond_false]
 rw [gfail p p, Option.bind_some, rfail p p, Option.bind_some, KeQ]
 exact GR.bad h3 rfl rfl
end
end Go.Proofs.Ytmgklehakmdiiaa.Ab.Pq
namespace Go.Proofs.Ytmgklehakmdiiaa.Ab.Pq
open Go
set_option linter.all false
abbrev SB6 := List Kl × List Tok × Int × Int × Int × Int
abbrev SB4 := List Kl × List Tok × Int × Int
noncomputable def bkP (g0 : Ke → Option (Kl × Ke)) (s38 : SB6) : Option (Step SB6 SB6) := (Option.bind (α := Bool × List Kq × Int × Int × Int × Int) (bif (s38.2.2.2.1 == (0 : Int)) then ((K2 (⟨s38.2.1, s38.2.2.1, s38.2.2.2.1, s38.2.2.2.2.1, s38.2.2.2.2.2⟩ : Ke) (ByteArray.mk #[125])).bind fun x62 => some ((!x62.1), x62.2.gL, x62.2.gAt, x62.2.gE, x62.2.gVars, x62.2.gOpen)) else some (false, s38.2.1, s38.2.2.1, s38.2.2.2.1, s38.2.2.2.2.1, s38.2.2.2.2.2)) fun y60 => (bif y60.1 then ((g0 (⟨y60.2.1, y60.2.2.1, y60.2.2.2.1, y60.2.2.2.2.1, y60.2.2.2.2.2⟩ : Ke)).bind fun x64 => ((app 120 s38.1 ([x64.1] : List Kl)).bind fun x65 => some (.next (x65, x64.2.gL, x64.2.gAt, x64.2.gE, x64.2.gVars, x64.2.gOpen)))) else some (.done (s38.1, y60.2.1, y60.2.2.1, y60.2.2.2.1, y60.2.2.2.2.1, y60.2.2.2.2.2))))
noncomputable def bkR (g1 : RR → Int → Option (Kl × RR)) (a1 : Int) (s31 : SB4) : Option (Step SB4 SB4) := (Option.bind (α := Bool × List Kq × Int × Int) (bif (s31.2.2.2 == (0 : Int)) then ((KbN (⟨s31.2.1, s31.2.2.1, s31.2.2.2⟩ : Kd) (ByteArray.mk #[125])).bind fun x55 => some ((!x55.1), x55.2.gL, x55.2.gAt, x55.2.gE)) else some (false, s31.2.1, s31.2.2.1, s31.2.2.2)) fun y53 => (bif y53.1 then ((g1 (⟨y53.2.1, y53.2.2.1, y53.2.2.2⟩ : Kd) a1).bind fun x57 => ((app 120 s31.1 ([x57.1] : List Kl)).bind fun x58 => some (.next (x58, x57.2.gL, x57.2.gAt, x57.2.gE)))) else some (.done (s31.1, y53.2.1, y53.2.2.1, y53.2.2.2))))
section
variable {L : List Tok}
theorem Khz {g0} {acc : List Kl} {p : Pos L} {e v o : Int} (he : e ≠ 0) : loopM (bkP g0) (acc, L, ((p.1 : Nat) : Int), e, v, o) = some (acc, L, ((p.1 : Nat) : Int), e, v, o) := by
 refine KG ?_
 unfold bkP
 simp only []
 rw [show (e == 0) = false by simp [he], cond_false]; rfl
theorem KhA {g1} {a1 : Int} {acc : List Kl} {p : Pos L} {e : Int} (he : e ≠ 0) : loopM (bkR g1 a1) (acc, L, ((p.1 : Nat) : Int), e) = some (acc, L, ((p.1 : Nat) : Int), e) := by
 refine KG ?_
 unfold bkR
 simp only []
 rw [show (e == 0) = false by simp [he], cond_false]; rfl
variable (hL : L.length ≤ 100000)
include hL
theorem bk_loop (g0 : Ke → Option (Kl × Ke)) (k1 : RR → Int → Option (Kl × RR)) (v o : Int) (p0 : Nat)
    (ih : ∀ q : Pos L, p0 ≤ q.1 → GR L v o q szS (g0 (gm L q 0 v o)) (k1 (rm L q 0) o)) : ∀ (n : Nat) (p : Pos L) (acc : List Kl), L.length - p.1 ≤ n → p0 + szSs acc ≤ p.1 →
    ∃ l l2 q e, loopM (bkP g0) (acc, L, ((p.1 : Nat) : Int), 0, v, o) = some (l, L, (((q : Pos L).1 : Nat) : Int), e, v, o) ∧ loopM (bkR k1 o) (acc, L, ((p.1 : Nat) : Int), 0) = some (l2, L, ((q.1 : Nat) : Int), e) ∧ (e = 0 → l = l2 ∧ p0 + szSs l ≤ q.1) := by
  intro n
  induction n with
  | zero =>
    intro p acc hn ha
    have hp := p.2
    have hlen := Kfw acc
    rcases Kbn p (ByteArray.mk #[125]) with ⟨q, hq, hq1, hs⟩ | ⟨hq, hs⟩
    · have := (Kel hs).1; omega
    · obtain ⟨x, y, q, e, h1, h2, h3⟩ := ih p (by omega)
      have he : e ≠ 0 := by
        intro he
        obtain ⟨_, h4⟩ := h3 he
        have := q.2
        have h5 : 1 ≤ szS x := by rw [KeI]; omega
        omega
      refine ⟨acc ++ [x], acc ++ [y], q, e, ?_, ?_, fun h => absurd h he⟩
      · rw [Kag (s' := (acc ++ [x], L, ((q.1 : Nat) : Int), e, v, o)) ?_]
        · exact Khz he
        · unfold bkP
          simp only [beq_self_eq_true, cond_true]
          rw [gmay hL p, Option.bind_some, hq]
          simp only [Bool.not_false, Option.bind_some, cond_true]
          rw [h1, Option.bind_some, Kba (by omega) (by simp; omega), Option.bind_some]
      · rw [Kag (s' := (acc ++ [y], L, ((q.1 : Nat) : Int), e)) ?_]
        · exact KhA he
        · unfold bkR
          simp only [beq_self_eq_true, cond_true]
          rw [rmay hL p, Option.bind_some, hq]
          simp only [Bool.not_false, Option.bind_some, cond_true]
          rw [h2, Option.bind_some, Kba (by omega) (by simp; omega), Option.bind_some]
  | succ n ihn =>
    intro p acc hn ha
    have hp := p.2
    have hlen := Kfw acc
    rcases Kbn p (ByteArray.mk #[125]) with ⟨q, hq, hq1, hs⟩ | ⟨hq, hs⟩
    · refine ⟨acc, acc, q, 0, KG ?_, KG ?_, fun _ => ⟨rfl, by omega⟩⟩
      · unfold bkP
        simp only [beq_self_eq_true, cond_true]
        rw [gmay hL p, Option.bind_some, hq]; rfl
      · unfold bkR
        simp only [beq_self_eq_true, cond_true]
        rw [rmay hL p, Option.bind_some, hq]; rfl
    · obtain ⟨x, y, q, e, h1, h2, h3⟩ := ih p (by omega)
      have f1 : bkP g0 (acc, L, ((p.1 : Nat) : Int), 0, v, o) = some (.next (acc ++ [x], L, ((q.1 : Nat) : Int), e, v, o)) := by
        unfold bkP
        simp only [beq_self_eq_true, cond_true]
        rw [gmay hL p, Option.bind_some, hq]
        simp only [Bool.not_false, Option.bind_some, cond_true]
        rw [h1, Option.bind_some, Kba (by omega) (by simp; omega), Option.bind_some]
      have f2 : bkR k1 o (acc, L, ((p.1 : Nat) : Int), 0) = some (.next (acc ++ [y], L, ((q.1 : Nat) : Int), e)) := by
        unfold bkR
        simp only [beq_self_eq_true, cond_true]
        rw [rmay hL p, Option.bind_some, hq]
        simp only [Bool.not_false, Option.bind_some, cond_true]
        rw [h2, Option.bind_some, Kba (by omega) (by simp; omega), Option.bind_some]
      rw [Kag f1, Kag f2]
      by_cases he : e = 0
      · subst he
        obtain ⟨hxy, h4⟩ := h3 rfl
        subst hxy
        have h5 : 1 ≤ szS x := by rw [KeI]; omega
        exact ihn q (acc ++ [x]) (by omega) (by rw [KfE]; simp only [szSs]; omega)
      · exact ⟨_, _, q, e, Khz he, KhA he, fun h => absurd h he⟩
def begP (L : List Tok) (p : Pos L) (e : Int) (o : Int) : Pos L × Int := if 24 ≤ o then failP L (eatP L p e (ByteArray.mk #[123])).1 (eatP L p e (ByteArray.mk #[123])).2 p 5 else eatP L p e (ByteArray.mk #[123])
theorem rbegin (p : Pos L) (e o : Int) : Kdg (rm L p e) o = some (rm L (begP L p e o).1 (begP L p e o).2) := by
 unfold Kdg begP
 rw [reat hL, Option.bind_some]
 by_cases h : 24 ≤ o
 ·rw [decide_eq_true h, cond_true, if_pos h, rfail _ p, Option.bind_some]
 ·rw [decide_eq_false h, cond_false, if_neg h]
omit hL in
theorem Kh0 {p : Pos L} {e o : Int} (he : e ≠ 0) : begP L p e o = (p, e) := by
 unfold begP
 rw [Kcr he]
 simp only []
 rw [KfP he]
 split <;> rfl
omit hL in
theorem begP_ok {p : Pos L} {o : Int} (h : (begP L p 0 o).2 = 0) : o < 24 ∧ p.1 + 1 ≤ (begP L p 0 o).1.1 := by
 unfold begP at h ⊢
 by_cases h24 : 24 ≤ o
 ·rw [if_pos h24] at h
  rcases Kdk p (ByteArray.mk #[123]) with ⟨q, hq, hq1, _⟩ | ⟨hq, _⟩
  ·rw [hq] at h; simp only [KeQ] at h; cases h
  ·rw [hq] at h; simp only [] at h; rw [KfP (by decide)] at h; cases h
 ·rw [if_neg h24] at h ⊢
  refine ⟨by omega, ?_⟩
  rcases Kdk p (ByteArray.mk #[123]) with ⟨q, hq, hq1, _⟩ | ⟨hq, _⟩
  ·rw [hq]; simp only []; omega
  ·rw [hq] at h; cases h
theorem gbegin (p : Pos L) (e v o : Int) : ((KO (gm L p e v o) [ByteArray.mk #[123]]).bind fun x1 => (bif (decide ((24 : Int) ≤ x1.gOpen)) then ((Kao x1 ((p.1 : Nat) : Int) (5 : Int)).bind fun x6 => some (x6.gL, x6.gAt, x6.gE, x6.gVars, x6.gOpen)) else some (x1.gL, x1.gAt, x1.gE, x1.gVars, x1.gOpen))) = some (L, (((begP L p e o).1.1 : Nat) : Int), (begP L p e o).2, v, o) := by
 unfold begP
 rw [geat hL, Option.bind_some]
 by_cases h : 24 ≤ o
 ·simp only [decide_eq_true h, cond_true, if_pos h]
  rw [gfail _ p, Option.bind_some]
 ·simp only [decide_eq_false h, cond_false, if_neg h]
theorem Kki (g0 : Ke → Option (Kl × Ke)) (g1 : Ke → Option (List Kl × Ke)) (p : Pos L) (e v o : Int) : Kau g0 g1 (gm L p e v o) = (loopM (bkP g0) ([], L, (((begP L p e o).1.1 : Nat) : Int), (begP L p e o).2, v, IntKind.i64.wrap (o + 1))).bind fun y37 => some (y37.1, (⟨y37.2.1, y37.2.2.1, y37.2.2.2.1, y37.2.2.2.2.1, (IntKind.i64.wrap (y37.2.2.2.2.2 - (1 : Int)))⟩ : Ke)) := by
 have h := gbegin hL p e v o
 unfold Kau
 rw [geat hL, Option.bind_some] at h ⊢
 simp only [] at h ⊢
 rw [h, Option.bind_some]
 rfl
end
end Go.Proofs.Ytmgklehakmdiiaa.Ab.Pq
namespace Go.Proofs.Ytmgklehakmdiiaa.Ab.Pq
open Go
set_option linter.all false
noncomputable abbrev stg := KT
noncomputable abbrev rsg := K1
theorem wopen {o : Nat} (h : o ≤ 1000) : IntKind.i64.wrap (IntKind.i64.wrap ((o : Int) + 1) - 1) = (o : Int) := by
 rw [KbM (n := (o : Int) + 1) (by omega) (by omega), KbM (by omega) (by omega)]; omega
section
variable {L : List Tok} (hL : L.length ≤ 100000)
include hL
theorem KiN (n : Nat) (p : Pos L) (e : Int) (a : Int) : (rsg (n + 1)).1 (rm L p e) a = (loopM (bkR (rsg n).2.1 a) ([], L, ((p.1 : Nat) : Int), e)).bind fun y30 => some (y30.1, (⟨y30.2.1, y30.2.2.1, y30.2.2.2⟩ : RR)) := rfl
theorem Kkj (n : Nat) (p : Pos L) (e o : Int) : (rsg (n + 1)).2.2 (rm L p e) o = (rsg n).1 (rm L (begP L p e o).1 (begP L p e o).2) (IntKind.i64.wrap (o + 1)) := by
 show KcS (rsg n).1 (rsg n).2.1 (rsg n).2.2 (rm L p e) o = _
 unfold KcS
 rw [rbegin hL, Option.bind_some, KbG]
theorem block_b {p : Pos L} {e v : Int} {o : Nat} (ho : o ≤ 24) (he : e ≠ 0) (n1 n2 : Nat) : (∃ x, (stg (n1 + 1)).2 (gm L p e v o) = some (x, gm L p e v o)) ∧ (∃ y, (rsg (n2 + 2)).2.2 (rm L p e) o = some (y, rm L p e)) := by
 constructor
 ·show ∃ x, Kau (stg n1).1 (stg n1).2 (gm L p e v o) = _
  rw [Kki hL, Kh0 he]
  simp only []
  rw [Khz he, Option.bind_some]
  simp only []
  rw [wopen (by omega)]; exact ⟨_, rfl⟩
 ·rw [Kkj hL, KiN hL, Kh0 he]
  simp only []
  rw [KhA he, Option.bind_some]; exact ⟨_, rfl⟩
theorem stm (v : Int) : ∀ N n2 : Nat, n2 ≤ N → (∀ (p : Pos L) (o n1 : Nat), o ≤ 24 → 4 * (L.length - p.1) + 1 ≤ n2 → 4 * (L.length - p.1) + 1 ≤ n1 → GR L v o p szS ((stg n1).1 (gm L p 0 v o)) ((rsg n2).2.1 (rm L p 0) o)) ∧
    (∀ (p : Pos L) (o n1 : Nat), o ≤ 24 → 4 * (L.length - p.1) + 3 ≤ n2 → 4 * (L.length - p.1) + 3 ≤ n1 → GR L v o p szSs ((stg n1).2 (gm L p 0 v o)) ((rsg n2).2.2 (rm L p 0) o)) := by
  intro N
  induction N with
  | zero => intro n2 h; exact ⟨fun p o n1 _ h2 => by omega, fun p o n1 _ h2 => by omega⟩
  | succ N ih =>
    intro n2 hN
    refine ⟨fun p o n1 ho h1 h2 => ?_, fun p o n1 ho h1 h2 => ?_⟩
    · obtain ⟨m1, rfl⟩ : ∃ m, n1 = m + 1 := ⟨n1 - 1, by omega⟩
      obtain ⟨m2, rfl⟩ : ∃ m, n2 = m + 1 := ⟨n2 - 1, by omega⟩
      have hp := p.2
      by_cases hlt : p.1 < L.length
      · refine stmt_gr hL (stg m1).1 (stg m1).2 (rsg m2).1 (rsg m2).2.1 (rsg m2).2.2 p v o (fun q hq => (ih m2 (by omega)).2 q o m1 ho (by omega) (by omega)) (fun q e he => ?_)
        obtain ⟨m1, rfl⟩ : ∃ m, m1 = m + 1 := ⟨m1 - 1, by omega⟩
        obtain ⟨m2, rfl⟩ : ∃ m, m2 = m + 2 := ⟨m2 - 2, by omega⟩
        exact block_b hL ho he m1 m2
      · -- nothing stands there
        have hz : lk L p.1 = z0 := Kfg (by omega)
        refine ⟨⟨0, ByteArray.empty, ByteArray.empty, [], [], [], 0⟩, ⟨0, ByteArray.empty, ByteArray.empty, [], [], [], 0⟩, p, 3, ?_, ?_, fun h => by cases h⟩
        · show KaB (stg m1).1 (stg m1).2 (gm L p 0 v o) = _
          have hs : ∀ s : ByteArray, mayP L p 0 s = (false, p) := by
            intro s
            rcases Kbn p s with ⟨q, _, _, h⟩ | ⟨h, _⟩
            · have := (Kel h).1; omega
            · exact h
          unfold KaB
          rw [KgE hL, Option.bind_some, hz]
          simp only [show (z0.gKind == 1) = false from rfl, cond_false]
          rw [gmay hL, Option.bind_some, hs]
          simp only [cond_false]
          rw [gmay hL, Option.bind_some, hs]
          simp only [cond_false]
          rw [gmay hL, Option.bind_some, hs]
          simp only [cond_false]
          rw [gmay hL, Option.bind_some, hs]
          simp only [cond_false]
          rw [gmay hL, Option.bind_some, hs]
          simp only [cond_false]
          rw [gfail p p, Option.bind_some, KeQ]; rfl
        · show Kcz (rsg m2).1 (rsg m2).2.1 (rsg m2).2.2 (rm L p 0) o = _
          unfold Kcz
          rw [rlook hL, Option.bind_some, hz]
          simp only [show (z0.gKind == 1) = false from rfl, show (z0.gKind == 3) = false from rfl, cond_false, Option.bind_some]
          rw [decide_eq_false (by decide), decide_eq_false (by decide), decide_eq_false (by decide), decide_eq_false (by decide), decide_eq_false (by decide)]
          simp only [cond_false]
          rw [rfail p p, Option.bind_some, KeQ]; rfl
    · obtain ⟨m1, rfl⟩ : ∃ m, n1 = m + 1 := ⟨n1 - 1, by omega⟩
      obtain ⟨m2, rfl⟩ : ∃ m, n2 = m + 2 := ⟨n2 - 2, by omega⟩
      show GR L v o p szSs (Kau (stg m1).1 (stg m1).2 (gm L p 0 v o)) _
      rw [Kki hL, Kkj hL, KiN hL]
      by_cases he : (begP L p 0 o).2 = 0
      · obtain ⟨ho2, hp1⟩ := begP_ok he
        rw [he]
        have hw : IntKind.i64.wrap ((o : Int) + 1) = ((o + 1 : Nat) : Int) := winc (by omega)
        obtain ⟨l, l2, q, e, k1, k2, k3⟩ := bk_loop hL (stg m1).1 (rsg m2).2.1 v ((o + 1 : Nat) : Int) (p.1 + 1) (fun q hq => (ih m2 (by omega)).1 q (o + 1) m1 (by omega) (by omega) (by omega)) L.length (begP L p 0 o).1 [] (by omega) (by simp only [szSs]; omega)
        rw [hw, k1, k2, Option.bind_some, Option.bind_some]
        simp only []
        rw [← hw, wopen (by omega)]
        exact ⟨l, l2, q, e, rfl, rfl, fun h => by obtain ⟨a, b⟩ := k3 h; exact ⟨a, by omega⟩⟩
      · rw [Khz he, KhA he, Option.bind_some, Option.bind_some]
        simp only []
        rw [wopen (by omega)]
        exact GR.bad he rfl rfl
end
end Go.Proofs.Ytmgklehakmdiiaa.Ab.Pq
namespace Go.Proofs.Ytmgklehakmdiiaa.Ab.Pq
open Go
set_option linter.all false
def varP (L : List Tok) (p : Pos L) (e : Int) (n : Nat) : KV × Pos L × Int :=
 let a := eatP L p e (ByteArray.mk #[105, 110, 116])
 let b := mayP L a.1 a.2 (ByteArray.mk #[42])
 let m := nameP L b.2 a.2
 let f := if 16 ≤ n then failP L m.2.1 m.2.2 b.2 6 else (m.2.1, m.2.2)
 (⟨m.1, b.1⟩, f.1, f.2)
section
variable {L : List Tok}
theorem varP_bad {p : Pos L} {e : Int} {n : Nat} (he : e ≠ 0) : varP L p e n = (⟨ByteArray.empty, false⟩, p, e) := by
 unfold varP
 simp only [Kcr he, Kem he, Kg0 he, KfP he]
 split <;> rfl
theorem varP_ok {p : Pos L} {n : Nat} (h : (varP L p 0 n).2.2 = 0) : p.1 + 1 ≤ (varP L p 0 n).2.1.1 := by
 unfold varP at h ⊢
 simp only [] at h ⊢
 rcases Kdk p (ByteArray.mk #[105, 110, 116]) with ⟨q, hq, hq1, _⟩ | ⟨hq, _⟩
 ·rw [hq] at h ⊢
  simp only [] at h ⊢
  have hb : q.1 ≤ (mayP L q 0 (ByteArray.mk #[42])).2.1 := by
   rcases Kbn q (ByteArray.mk #[42]) with ⟨q', hm, hm1, _⟩ | ⟨hm, _⟩ <;> rw [hm] <;> simp only [] <;> omega
  generalize mayP L q 0 (ByteArray.mk #[42]) = b at h hb ⊢
  rcases KfF b.2 with ⟨q', hm, hm1, _⟩ | hm
  ·rw [hm] at h ⊢
   simp only [KeQ] at h ⊢
   by_cases hn : 16 ≤ n
   ·rw [if_pos hn] at h; cases h
   ·rw [if_neg hn]; simp only []; omega
  ·rw [hm] at h
   simp only [] at h
   rw [KfP (by decide)] at h
   by_cases hn : 16 ≤ n
   ·rw [if_pos hn] at h; cases h
   ·rw [if_neg hn] at h; cases h
 ·rw [hq] at h
  simp only [Kem (show (3 : Int) ≠ 0 by decide), Kg0 (show (3 : Int) ≠ 0 by decide), KfP (show (3 : Int) ≠ 0 by decide)] at h
  by_cases hn : 16 ≤ n
  ·rw [if_pos hn] at h; cases h
  ·rw [if_neg hn] at h; cases h
variable (hL : L.length ≤ 100000)
include hL
theorem gvar (p : Pos L) (e o : Int) {n : Nat} (hn : n ≤ 1000000) : KaJ (gm L p e n o) = some ((varP L p e n).1, gm L (varP L p e n).2.1 (varP L p e n).2.2 ((n + 1 : Nat) : Int) o) := by
 unfold KaJ varP
 simp only []
 rw [geat hL, Option.bind_some, gmay hL, Option.bind_some, gname hL, Option.bind_some]
 simp only []
 rw [winc (by omega)]
 by_cases h : 16 ≤ n
 ·rw [decide_eq_true (by omega), cond_true, if_pos h, gfail _ (mayP L (eatP L p e (ByteArray.mk #[105, 110, 116])).1 (eatP L p e (ByteArray.mk #[105, 110, 116])).2 (ByteArray.mk #[42])).2, Option.bind_some]
 ·rw [decide_eq_false (by omega), cond_false, if_neg h]
theorem rvar (p : Pos L) (e : Int) (n : Nat) : KbF (rm L p e) (n : Int) = some ((varP L p e n).1, rm L (varP L p e n).2.1 (varP L p e n).2.2) := by
 unfold KbF varP
 simp only []
 rw [reat hL, Option.bind_some, rmay hL, Option.bind_some, rname hL, Option.bind_some]
 simp only []
 by_cases h : 16 ≤ n
 ·rw [decide_eq_true (by omega), cond_true, if_pos h, rfail _ (mayP L (eatP L p e (ByteArray.mk #[105, 110, 116])).1 (eatP L p e (ByteArray.mk #[105, 110, 116])).2 (ByteArray.mk #[42])).2, Option.bind_some]
 ·rw [decide_eq_false (by omega), cond_false, if_neg h]
abbrev SV6 := List KV × List Tok × Int × Int × Int × Int
abbrev SV4 := List KV × List Tok × Int × Int
omit hL in
noncomputable def lvP (s28 : SV6) : Option (Step SV6 SV6) := (bif (s28.2.2.2.1 == (0 : Int)) then ((KaJ (⟨s28.2.1, s28.2.2.1, s28.2.2.2.1, s28.2.2.2.2.1, s28.2.2.2.2.2⟩ : Ke)).bind fun x43 => ((app 24 s28.1 ([x43.1] : List KV)).bind fun x44 => ((K2 x43.2 (ByteArray.mk #[44])).bind fun x45 => (bif (!x45.1) then some (.done (x44, x45.2.gL, x45.2.gAt, x45.2.gE, x45.2.gVars, x45.2.gOpen)) else some (.next (x44, x45.2.gL, x45.2.gAt, x45.2.gE, x45.2.gVars, x45.2.gOpen)))))) else some (.done (s28.1, s28.2.1, s28.2.2.1, s28.2.2.2.1, s28.2.2.2.2.1, s28.2.2.2.2.2)))
omit hL in
noncomputable def lvR (s26 : SV4) : Option (Step SV4 SV4) := ((KbN (⟨s26.2.1, s26.2.2.1, s26.2.2.2⟩ : Kd) (ByteArray.mk #[44])).bind fun x37 => (bif x37.1 then ((KbF x37.2 (s26.1.length : Int)).bind fun x39 => ((app 24 s26.1 ([x39.1] : List KV)).bind fun x40 => some (.next (x40, x39.2.gL, x39.2.gAt, x39.2.gE)))) else some (.done (s26.1, x37.2.gL, x37.2.gAt, x37.2.gE))))
theorem lv_loop (o : Int) (p0 : Nat) : ∀ (n : Nat) (p : Pos L) (acc : List KV), L.length - p.1 ≤ n → p0 + acc.length ≤ p.1 →
    ∃ l q e v', loopM lvP (acc, L, ((p.1 : Nat) : Int), 0, (acc.length : Int), o) = some (l, L, (((q : Pos L).1 : Nat) : Int), e, v', o) ∧ loopM lvR (acc ++ [(varP L p 0 acc.length).1], L, (((varP L p 0 acc.length).2.1.1 : Nat) : Int), (varP L p 0 acc.length).2.2) = some (l, L, ((q.1 : Nat) : Int), e) ∧ (e = 0 → v' = (l.length : Int) ∧ p0 + l.length ≤ q.1) := by
  intro n
  induction n with
  | zero =>
    intro p acc hn ha
    have hp := p.2
    have he : (varP L p 0 acc.length).2.2 ≠ 0 := by
      intro he
      have := varP_ok he
      have := (varP L p 0 acc.length).2.1.2
      omega
    refine ⟨_, (varP L p 0 acc.length).2.1, _, _, KG (t := (acc ++ [(varP L p 0 acc.length).1], L, (((varP L p 0 acc.length).2.1.1 : Nat) : Int), (varP L p 0 acc.length).2.2, ((acc.length + 1 : Nat) : Int), o)) ?_, KG ?_, fun h => absurd h he⟩
    · unfold lvP
      simp only [beq_self_eq_true, cond_true]
      rw [gvar hL p 0 o (by omega), Option.bind_some, Kba (by omega) (by simp; omega), Option.bind_some]
      simp only []
      rw [KfQ hL he, Option.bind_some]; rfl
    · unfold lvR
      simp only []
      rw [KdZ hL he, Option.bind_some]; rfl
  | succ n ih =>
    intro p acc hn ha
    have hp := p.2
    have hf : ∀ b q', mayP L (varP L p 0 acc.length).2.1 (varP L p 0 acc.length).2.2 (ByteArray.mk #[44]) = (b, q') → lvP (acc, L, ((p.1 : Nat) : Int), 0, (acc.length : Int), o) = (bif !b then some (.done (acc ++ [(varP L p 0 acc.length).1], L, ((q'.1 : Nat) : Int), (varP L p 0 acc.length).2.2, ((acc.length + 1 : Nat) : Int), o)) else some (.next (acc ++ [(varP L p 0 acc.length).1], L, ((q'.1 : Nat) : Int), (varP L p 0 acc.length).2.2, ((acc.length + 1 : Nat) : Int), o))) := by
      intro b q' hb
      unfold lvP
      simp only [beq_self_eq_true, cond_true]
      rw [gvar hL p 0 o (by omega), Option.bind_some, Kba (by omega) (by simp; omega), Option.bind_some]
      simp only []
      rw [gmay hL, Option.bind_some, hb]
    by_cases he : (varP L p 0 acc.length).2.2 = 0
    · have hq1 := varP_ok he
      rcases Kbn (varP L p 0 acc.length).2.1 (ByteArray.mk #[44]) with ⟨q', hq, hq2, _⟩ | ⟨hq, _⟩
      · rw [he] at hf ⊢
        have hf' := hf _ _ hq
        simp only [Bool.not_true, cond_false] at hf'
        obtain ⟨l, q2, e2, v', k1, k2, k3⟩ := ih q' (acc ++ [(varP L p 0 acc.length).1]) (by omega) (by rw [List.length_append, List.length_singleton]; omega)
        rw [List.length_append, List.length_singleton] at k1 k2
        refine ⟨l, q2, e2, v', by rw [Kag hf']; exact k1, ?_, k3⟩
        rw [← k2]
        refine Kag ?_
        unfold lvR
        simp only []
        rw [rmay hL (varP L p 0 acc.length).2.1, Option.bind_some, hq]
        simp only [cond_true]
        rw [List.length_append, List.length_singleton, rvar hL q' 0, Option.bind_some, Kba (by omega) (by simp; omega), Option.bind_some]
      · rw [he] at hf ⊢
        have hf' := hf _ _ hq
        simp only [Bool.not_false, cond_true] at hf'
        refine ⟨_, (varP L p 0 acc.length).2.1, 0, _, KG hf', KG ?_, fun _ => ⟨by rw [List.length_append, List.length_singleton], by rw [List.length_append, List.length_singleton]; omega⟩⟩
        unfold lvR
        simp only []
        rw [rmay hL (varP L p 0 acc.length).2.1, Option.bind_some, hq]; rfl
    · have hf' := hf _ _ (Kem he _)
      simp only [Bool.not_false, cond_true] at hf'
      refine ⟨_, (varP L p 0 acc.length).2.1, (varP L p 0 acc.length).2.2, _, KG hf', KG ?_, fun h => absurd h he⟩
      unfold lvR
      simp only []
      rw [KdZ hL he, Option.bind_some]; rfl
end
end Go.Proofs.Ytmgklehakmdiiaa.Ab.Pq
namespace Go.Proofs.Ytmgklehakmdiiaa.Ab.Pq
open Go
set_option linter.all false
section
variable {L : List Tok} (hL : L.length ≤ 100000)
include hL
theorem params_b {p : Pos L} {e v o : Int} (he : e ≠ 0) : Kaz (gm L p e v o) = some ([], gm L p e v o) ∧ Kco (rm L p e) = some ([⟨ByteArray.empty, false⟩], rm L p e) := by
 constructor
 ·unfold Kaz
  rw [Kdl hL he _ (by simp), Option.bind_some, KfQ hL he, Option.bind_some]
  simp only [cond_false]
  change (Option.bind (loopM lvP ([], L, ((p.1 : Nat) : Int), e, v, o)) _) = _
  rw [KG (t := ([], L, ((p.1 : Nat) : Int), e, v, o)) (by unfold lvP; simp only []; rw [show (e == 0) = false by simp [he], cond_false]), Option.bind_some]
  simp only []
  rw [Kdl hL he _ (by simp), Option.bind_some]
 ·unfold Kco
  rw [Kdm hL he, Option.bind_some, KdZ hL he, Option.bind_some]
  simp only [cond_false]
  rw [show KbF (rm L p e) 0 = _ from rvar hL p e 0, Option.bind_some, Kba (by omega) (by simp), Option.bind_some, varP_bad he]
  change (Option.bind (loopM lvR ([] ++ [⟨ByteArray.empty, false⟩], L, ((p.1 : Nat) : Int), e)) _) = _
  rw [KG (t := ([⟨ByteArray.empty, false⟩], L, ((p.1 : Nat) : Int), e)) (by unfold lvR; simp only []; rw [KdZ hL he, Option.bind_some]; rfl), Option.bind_some]
  simp only []
  rw [Kdm hL he, Option.bind_some]
theorem params_ok (p : Pos L) (o : Int) : ∃ l l2 q e v', Kaz (gm L p 0 0 o) = some (l, gm L q e v' o) ∧ Kco (rm L p 0) = some (l2, rm L q e) ∧ (e = 0 → l = l2 ∧ v' = (l.length : Int) ∧ p.1 + l.length ≤ q.1) := by
 have h3 : (3 : Int) ≠ 0 := by decide
 rcases Kdk p (ByteArray.mk #[40]) with ⟨q, hq, hq1, _⟩ | ⟨hq, _⟩
 ·unfold Kaz Kco
  rw [geat hL, Option.bind_some, reat hL, Option.bind_some, hq]
  simp only []
  rw [gmay hL, Option.bind_some, rmay hL, Option.bind_some]
  rcases Kbn q (ByteArray.mk #[41]) with ⟨q', hm, hm1, _⟩ | ⟨hm, _⟩
  ·rw [hm]
   exact ⟨[], [], q', 0, 0, rfl, rfl, fun _ => ⟨rfl, rfl, by simp only [List.length_nil]; omega⟩⟩
  ·rw [hm]
   simp only [cond_false]
   obtain ⟨l, q2, e, v', k1, k2, k3⟩ := lv_loop hL o p.1 L.length q [] (by omega) (by simp only [List.length_nil]; omega)
   rw [show KbF (rm L q 0) 0 = _ from rvar hL q 0 0, Option.bind_some, Kba (by omega) (by simp), Option.bind_some]
   have k1' : loopM lvP ([], L, ((q.1 : Nat) : Int), 0, 0, o) = some (l, L, ((q2.1 : Nat) : Int), e, v', o) := k1
   have k2' : loopM lvR ([] ++ [(varP L q 0 0).1], L, (((varP L q 0 0).2.1.1 : Nat) : Int), (varP L q 0 0).2.2) = some (l, L, ((q2.1 : Nat) : Int), e) := k2
   refine ⟨l, l, (eatP L q2 e (ByteArray.mk #[41])).1, (eatP L q2 e (ByteArray.mk #[41])).2, v', ?_, ?_, fun h => ?_⟩
   ·change (Option.bind (loopM lvP ([], L, ((q.1 : Nat) : Int), 0, 0, o)) _) = _
    rw [k1', Option.bind_some]
    simp only []
    rw [geat hL q2, Option.bind_some]
   ·change (Option.bind (loopM lvR ([] ++ [(varP L q 0 0).1], L, (((varP L q 0 0).2.1.1 : Nat) : Int), (varP L q 0 0).2.2)) _) = _
    rw [k2', Option.bind_some]
    simp only []
    rw [reat hL q2, Option.bind_some]
   ·by_cases he : e = 0
    ·obtain ⟨a, b⟩ := k3 he
     have := KcW q2 e (ByteArray.mk #[41])
     exact ⟨rfl, a, by omega⟩
    ·rw [Kcr he] at h; exact absurd h he
 ·unfold Kaz Kco
  rw [geat hL, Option.bind_some, reat hL, Option.bind_some, hq]
  obtain ⟨b1, b2⟩ := params_b hL (p := p) (v := 0) (o := o) h3
  unfold Kaz at b1
  unfold Kco at b2
  rw [Kdl hL h3 _ (by simp), Option.bind_some] at b1
  rw [Kdm hL h3, Option.bind_some] at b2
  exact ⟨_, _, p, 3, 0, b1, b2, fun h => by cases h⟩
abbrev SW6 := List Tok × Int × Int × Int × Int × List KV
abbrev SW4 := List Tok × Int × Int × List KV
omit hL in
noncomputable def lcP (s33 : SW6) : Option (Step SW6 SW6) := (Option.bind (α := Bool) (bif (s33.2.2.1 == (0 : Int)) then ((KaC (⟨s33.1, s33.2.1, s33.2.2.1, s33.2.2.2.1, s33.2.2.2.2.1⟩ : Ke) (0 : Int) (ByteArray.mk #[105, 110, 116])).bind fun x58 => some x58) else some false) fun y56 => (bif y56 then ((KaJ (⟨s33.1, s33.2.1, s33.2.2.1, s33.2.2.2.1, s33.2.2.2.2.1⟩ : Ke)).bind fun x60 => ((app 24 s33.2.2.2.2.2 ([x60.1] : List KV)).bind fun x61 => ((KO x60.2 ([(ByteArray.mk #[59])] : List ByteArray)).bind fun x62 => some (.next (x62.gL, x62.gAt, x62.gE, x62.gVars, x62.gOpen, x61))))) else some (.done (s33.1, s33.2.1, s33.2.2.1, s33.2.2.2.1, s33.2.2.2.2.1, s33.2.2.2.2.2))))
omit hL in
noncomputable def lcR (c : Nat) (s52 : SW4) : Option (Step SW4 SW4) := (Option.bind (α := Bool) (bif (s52.2.2.1 == (0 : Int)) then ((Kee (⟨s52.1, s52.2.1, s52.2.2.1⟩ : Kd) (ByteArray.mk #[105, 110, 116])).bind fun x78 => some x78) else some false) fun y76 => (bif y76 then ((KbF (⟨s52.1, s52.2.1, s52.2.2.1⟩ : Kd) (IntKind.i64.wrap ((c : Int) + (s52.2.2.2.length : Int)))).bind fun x80 => ((app 24 s52.2.2.2 ([x80.1] : List KV)).bind fun x81 => ((Kam x80.2 (ByteArray.mk #[59])).bind fun x82 => some (.next (x82.gL, x82.gAt, x82.gE, x81))))) else some (.done (s52.1, s52.2.1, s52.2.2.1, s52.2.2.2))))
omit hL in
theorem lcP_bad {p : Pos L} {e v o : Int} {acc : List KV} (he : e ≠ 0) : loopM lcP (L, ((p.1 : Nat) : Int), e, v, o, acc) = some (L, ((p.1 : Nat) : Int), e, v, o, acc) := by
 refine KG ?_
 unfold lcP
 simp only []
 rw [show (e == 0) = false by simp [he], cond_false]; rfl
omit hL in
theorem lcR_bad {p : Pos L} {e : Int} {c : Nat} {acc : List KV} (he : e ≠ 0) : loopM (lcR c) (L, ((p.1 : Nat) : Int), e, acc) = some (L, ((p.1 : Nat) : Int), e, acc) := by
 refine KG ?_
 unfold lcR
 simp only []
 rw [show (e == 0) = false by simp [he], cond_false]; rfl
theorem lc_loop (o : Int) (c p0 : Nat) : ∀ (n : Nat) (p : Pos L) (acc : List KV), L.length - p.1 ≤ n → p0 + acc.length ≤ p.1 → c ≤ p0 →
    ∃ l q e v', loopM lcP (L, ((p.1 : Nat) : Int), 0, ((c + acc.length : Nat) : Int), o, acc) = some (L, (((q : Pos L).1 : Nat) : Int), e, v', o, l) ∧ loopM (lcR c) (L, ((p.1 : Nat) : Int), 0, acc) = some (L, ((q.1 : Nat) : Int), e, l) ∧ (e = 0 → p0 + l.length ≤ q.1) := by
  intro n
  induction n with
  | zero =>
    intro p acc hn ha hc
    have hp := p.2
    have hs : isS L p.1 (ByteArray.mk #[105, 110, 116]) = false := by
      cases h : isS L p.1 (ByteArray.mk #[105, 110, 116])
      · rfl
      · have := (Kel h).1; omega
    refine ⟨acc, p, 0, ((c + acc.length : Nat) : Int), KG ?_, KG ?_, fun _ => ha⟩
    · unfold lcP
      simp only [beq_self_eq_true, cond_true]
      rw [gis0 hL p, Option.bind_some, Option.bind_some, hs, cond_false]
    · unfold lcR
      simp only [beq_self_eq_true, cond_true]
      rw [ris hL p, Option.bind_some, Option.bind_some, hs, cond_false]
  | succ n ih =>
    intro p acc hn ha hc
    have hp := p.2
    cases hs : isS L p.1 (ByteArray.mk #[105, 110, 116])
    · refine ⟨acc, p, 0, ((c + acc.length : Nat) : Int), KG ?_, KG ?_, fun _ => ha⟩
      · unfold lcP
        simp only [beq_self_eq_true, cond_true]
        rw [gis0 hL p, Option.bind_some, Option.bind_some, hs, cond_false]
      · unfold lcR
        simp only [beq_self_eq_true, cond_true]
        rw [ris hL p, Option.bind_some, Option.bind_some, hs, cond_false]
    · have hle : (eatP L (varP L p 0 (c + acc.length)).2.1 (varP L p 0 (c + acc.length)).2.2 (ByteArray.mk #[59])).2 = 0 → p.1 + 1 ≤ (eatP L (varP L p 0 (c + acc.length)).2.1 (varP L p 0 (c + acc.length)).2.2 (ByteArray.mk #[59])).1.1 := by
        intro h
        by_cases he : (varP L p 0 (c + acc.length)).2.2 = 0
        · have := varP_ok he
          have := KcW (varP L p 0 (c + acc.length)).2.1 (varP L p 0 (c + acc.length)).2.2 (ByteArray.mk #[59])
          omega
        · rw [Kcr he] at h; exact absurd h he
      have f1 : lcP (L, ((p.1 : Nat) : Int), 0, ((c + acc.length : Nat) : Int), o, acc) = some (.next (L, (((eatP L (varP L p 0 (c + acc.length)).2.1 (varP L p 0 (c + acc.length)).2.2 (ByteArray.mk #[59])).1.1 : Nat) : Int), (eatP L (varP L p 0 (c + acc.length)).2.1 (varP L p 0 (c + acc.length)).2.2 (ByteArray.mk #[59])).2, ((c + acc.length + 1 : Nat) : Int), o, acc ++ [(varP L p 0 (c + acc.length)).1])) := by
        unfold lcP
        simp only [beq_self_eq_true, cond_true]
        rw [gis0 hL p, Option.bind_some, Option.bind_some, hs, cond_true, gvar hL p 0 o (by omega), Option.bind_some, Kba (by omega) (by simp; omega), Option.bind_some]
        simp only []
        rw [geat hL, Option.bind_some]
      have f2 : lcR c (L, ((p.1 : Nat) : Int), 0, acc) = some (.next (L, (((eatP L (varP L p 0 (c + acc.length)).2.1 (varP L p 0 (c + acc.length)).2.2 (ByteArray.mk #[59])).1.1 : Nat) : Int), (eatP L (varP L p 0 (c + acc.length)).2.1 (varP L p 0 (c + acc.length)).2.2 (ByteArray.mk #[59])).2, acc ++ [(varP L p 0 (c + acc.length)).1])) := by
        unfold lcR
        simp only [beq_self_eq_true, cond_true]
        rw [ris hL p, Option.bind_some, Option.bind_some, hs, cond_true, KbM (by omega) (by omega), show (c : Int) + (acc.length : Int) = ((c + acc.length : Nat) : Int) by omega, rvar hL p 0, Option.bind_some, Kba (by omega) (by simp; omega), Option.bind_some]
        simp only []
        rw [reat hL, Option.bind_some]
      rw [Kag f1, Kag f2]
      by_cases he : (eatP L (varP L p 0 (c + acc.length)).2.1 (varP L p 0 (c + acc.length)).2.2 (ByteArray.mk #[59])).2 = 0
      · have h1 := hle he
        rw [he]
        have := ih (eatP L (varP L p 0 (c + acc.length)).2.1 (varP L p 0 (c + acc.length)).2.2 (ByteArray.mk #[59])).1 (acc ++ [(varP L p 0 (c + acc.length)).1]) (by omega) (by rw [List.length_append, List.length_singleton]; omega) hc
        rw [List.length_append, List.length_singleton, ← Nat.add_assoc] at this
        exact this
      · exact ⟨_, _, _, _, lcP_bad he, lcR_bad he, fun h => absurd h he⟩
end
end Go.Proofs.Ytmgklehakmdiiaa.Ab.Pq
namespace Go.Proofs.Ytmgklehakmdiiaa.Ab.Pq
open Go
set_option linter.all false
section
variable {L : List Tok} (hL : L.length ≤ 100000)
include hL
end
theorem Kkk {l : List Tok} {t : Tok} {i : Nat} (h : i < (l ++ [t]).length) : idx (l ++ [t]) (i : Int) = some (lk (l ++ [t]) i) := by
 rw [KdF]; unfold lk
 rw [List.getD_eq_getElem?_getD, List.getElem?_eq_getElem h]; rfl
theorem lk_app_end {l : List Tok} {t : Tok} : lk (l ++ [t]) l.length = t := by
 unfold lk
 rw [List.getD_eq_getElem?_getD, List.getElem?_append_right (Nat.le_refl _), Nat.sub_self]; rfl
theorem place_eq {b : List UInt8} {l : List Tok} (hl : l.length ≤ 4000) {i : Nat} (hi : i ≤ (l ++ [(⟨0, ByteArray.empty, 0, (b.length : Int)⟩ : Tok)]).length) (e : Int) :
  KfO (l ++ [⟨0, ByteArray.empty, 0, (b.length : Int)⟩]) b (i : Int) e = some (bif (bif e == 0 && (lk (l ++ [⟨0, ByteArray.empty, 0, (b.length : Int)⟩]) (min i l.length)).gKind != 0 then 3 else e) == 0 then 0 else (lk (l ++ [⟨0, ByteArray.empty, 0, (b.length : Int)⟩]) (min i l.length)).gAt, bif e == 0 && (lk (l ++ [⟨0, ByteArray.empty, 0, (b.length : Int)⟩]) (min i l.length)).gKind != 0 then 3 else e) := by
 unfold KfO
 have hlen : (l ++ [(⟨0, ByteArray.empty, 0, (b.length : Int)⟩ : Tok)]).length = l.length + 1 := by simp
 have h1 : (bif (decide ((i : Int) < ((l ++ [(⟨0, ByteArray.empty, 0, (b.length : Int)⟩ : Tok)]).length : Int))) then ((idx (l ++ [(⟨0, ByteArray.empty, 0, (b.length : Int)⟩ : Tok)]) (i : Int)).bind fun x6 => ((idx (l ++ [(⟨0, ByteArray.empty, 0, (b.length : Int)⟩ : Tok)]) (i : Int)).bind fun x7 => some (x6.gAt, x7.gKind))) else some ((b.length : Int), (0 : Int))) = some ((lk (l ++ [⟨0, ByteArray.empty, 0, (b.length : Int)⟩]) (min i l.length)).gAt, (lk (l ++ [⟨0, ByteArray.empty, 0, (b.length : Int)⟩]) (min i l.length)).gKind) := by
  by_cases q : i < l.length + 1
  ·rw [decide_eq_true (by omega), cond_true, Kkk (by omega), Option.bind_some, Option.bind_some, show min i l.length = i by omega]
  ·rw [decide_eq_false (by omega), cond_false, show min i l.length = l.length by omega, lk_app_end]
 rw [h1, Option.bind_some]
 generalize lk (l ++ [(⟨0, ByteArray.empty, 0, (b.length : Int)⟩ : Tok)]) (min i l.length) = t
 simp only []
 cases he : e == 0
 ·simp only [cond_false, Option.bind_some, Bool.false_and, he]
 ·simp only [cond_true, Option.bind_some, Bool.true_and]
  cases hk : t.gKind != 0
  ·simp only [cond_false, Option.bind_some, he, cond_true]
  ·simp only [cond_true, Option.bind_some]; rfl
end Go.Proofs.Ytmgklehakmdiiaa.Ab.Pq
namespace Go.Proofs.Ytmgklehakmdiiaa.Ab
open Go
set_option linter.all false
theorem size_g : ∀ (n : Nat) (e : Ka), dpE e ≤ n → szE e ≤ 1048576 → KbJ n e = some (szE e : Int)
  | 0, e, h, _ => by rw [KeF] at h; omega
  | n + 1, e, h, hb => by
    show Kca (KbJ n) e = _
    unfold Kca
    have hs := KcZ e
    have hl := Kdu e.gKids
    refine Kde e.gKids (fun pre => 1 + szEs pre) (fun a n => ((a : Nat), (n : Nat))) (fun a => (a : Int)) (by simp [szEs, dpEs, allEs]) (fun pre x post hp => ?_) ?_ ?_
    · have hk := KhY (Kes hp)
      have hsp := KhZ hp
      simp only [Kb2 hp, cond_true]
      rw [Kby hp (by omega)]
      rw [show idx e.gKids (pre.length : Int) = some x by rw [hp]; exact Kd1 _ _ _, Option.bind_some, size_g n x (by omega) (by omega), Option.bind_some]
      rw [KbM (by omega) (by omega), KeG]
      simp only [szEs]
      congr 3; omega
    · simp only [Kb3, cond_false]
    · rw [hs]
theorem size_eq {e : Ka} (hb : szE e ≤ 1048576) : KfN e = some (szE e : Int) := Kit e (dpE e) (size_g _ e (Nat.le_refl _) hb)
theorem rall_g : ∀ (n : Nat) (e : Ka), dpE e ≤ n → szE e ≤ 1048576 → KcC n e = some (allE e)
  | 0, e, h, _ => by rw [KeF] at h; omega
  | n + 1, e, h, hb => by
    show KdM (KcC n) e = _
    unfold KdM
    have hs := KcZ e
    have hl := Kdu e.gKids
    refine Kde e.gKids (fun pre => e :: allEs pre) (fun a n => (a, (n : Nat))) (fun a => a) (by simp [szEs, dpEs, allEs]) (fun pre x post hp => ?_) ?_ ?_
    · have hk := KhY (Kes hp)
      have hsp := KhZ hp
      simp only [Kb2 hp, cond_true]
      rw [Kby hp (by omega)]
      rw [show idx e.gKids (pre.length : Int) = some x by rw [hp]; exact Kd1 _ _ _, Option.bind_some, rall_g n x (by omega) (by omega), Option.bind_some]
      rw [Kba (by omega) (by rw [List.length_cons, Ke1, Kjh]; omega), Option.bind_some, KgF]
      simp only [allEs, List.append_nil, List.cons_append]
    · simp only [Kb3, cond_false]
    · rw [allE_eq]
theorem rall_eq {e : Ka} (hb : szE e ≤ 1048576) : KiH e = some (allE e) := r11_All_of e (dpE e) (rall_g _ e (Nat.le_refl _) hb)
theorem stmts_g : ∀ (n : Nat) (l : List Kl), hSs l ≤ n → szSs l ≤ 1048576 → KbZ n l = some (flSs l)
  | 0, l, h, _ => by have := KiL l; omega
  | n + 1, l, h, hb => by
    show KcT (KbZ n) l = _
    unfold KcT
    have hl := Kfw l
    refine Kde l (fun pre => flSs pre) (fun a n => (a, (n : Nat))) (fun a => a) (by simp [flSs]) (fun pre x post hp => ?_) ?_ ?_
    · have hx := Kes hp
      have hk := fuel h hx
      have hsp := szSs_pre hp
      have hsx := KeI x
      have f1 := Ke2 pre
      have f2 := Ke2 x.gKids
      have f3 := Ke2 x.gElse
      simp only [Kb2 hp, cond_true]
      rw [Kby hp (by omega)]
      rw [show idx l (pre.length : Int) = some x by rw [hp]; exact Kd1 _ _ _, Option.bind_some, Kba (by omega) (by simp; omega), Option.bind_some, Option.bind_some, stmts_g n _ hk.1 (by omega), Option.bind_some, Kba (by omega) (by simp; omega), Option.bind_some, Option.bind_some, stmts_g n _ hk.2 (by omega), Option.bind_some, Kba (by omega) (by simp; omega), Option.bind_some]
      rw [KiY]
      simp only [flSs, List.append_nil, flS_eq x, List.append_assoc, List.cons_append, List.nil_append]
    · simp only [Kb3, cond_false]
    · rfl
theorem stmts_eq {l : List Kl} (hb : szSs l ≤ 1048576) : KeZ l = some (flSs l) := KkJ l (hSs l) (stmts_g _ l (Nat.le_refl _) hb)
theorem exOf_pre {l pre : List Kl} {x : Kl} {post : List Kl} (h : l = pre ++ x :: post) : (exOf pre).length + szEs x.gExps ≤ (exOf l).length := by
 subst h; simp only [exOf, List.flatMap_append, List.flatMap_cons, List.length_append, Ke1]; omega
theorem exprs_eq {l : List Kl} (hb : szSs l ≤ 1048576) : Ke0 l = some (exOf (flSs l)) := by
 unfold Ke0
 rw [stmts_eq hb, Option.bind_some]
 have hf := Ke2 l
 generalize flSs l = m at hf ⊢
 refine Kde m (fun pre => exOf pre) (fun a n => (a, (n : Nat))) (fun a => a) (by simp [exOf]) (fun pre x post hp => ?_) ?_ ?_
 ·have hx := Kes hp
  have hp2 := exOf_pre hp
  have hl := Kdu x.gExps
  simp only [Kb2 hp, cond_true]
  rw [Kby hp (by omega)]
  have hi : idx m (pre.length : Int) = some x := by rw [hp]; exact Kd1 _ _ _
  rw [hi]
  refine Kde x.gExps (fun q => exOf pre ++ allEs q) (fun a n => (a, (n : Nat))) (fun a => a) (by simp [allEs]) (fun q y post2 hq => ?_) ?_ ?_
  ·have hy := KhZ hq
   simp only [Option.bind_some, Kb2 hq, cond_true]
   rw [Kby hq (by omega)]
   rw [show idx x.gExps (q.length : Int) = some y by rw [hq]; exact Kd1 _ _ _, Option.bind_some, rall_eq (by omega), Option.bind_some, Kba (by omega) (by simp [Ke1, Kjh]; omega), Option.bind_some]
   rw [KgF]
   simp only [allEs, List.append_nil, List.append_assoc]
  ·simp only [Option.bind_some, Kb3, cond_false]
  ·simp only [KiZ]; simp [exOf]
 ·simp only [Kb3, cond_false]
 ·rfl
theorem sizes_g : ∀ (n : Nat) (l : List Kl), hSs l ≤ n → szSs l ≤ 1048576 → Kbu n l = some (szSs l : Int)
  | 0, l, h, _ => by have := KiL l; omega
  | n + 1, l, h, hb => by
    show KbY (Kbu n) l = _
    unfold KbY
    have hl := Kfw l
    refine Kde l (fun pre => szSs pre) (fun a n => ((a : Nat), (n : Nat))) (fun a => (a : Int)) (by simp [szSs]) (fun pre x post hp => ?_) ?_ ?_
    · have hx := Kes hp
      have hk := fuel h hx
      have hsp := szSs_pre hp
      have hsx := KeI x
      have hel := Kdu x.gExps
      simp only [Kb2 hp, cond_true]
      rw [Kby hp (by omega)]
      rw [show idx l (pre.length : Int) = some x by rw [hp]; exact Kd1 _ _ _, Option.bind_some, sizes_g n _ hk.1 (by omega), Option.bind_some, sizes_g n _ hk.2 (by omega), Option.bind_some]
      refine Kde x.gExps (fun q => szSs pre + 1 + szSs x.gKids + szSs x.gElse + szEs q) (fun a n => ((a : Nat), (n : Nat))) (fun a => (a : Int)) ?_ (fun q y post2 hq => ?_) ?_ ?_
      · simp only [szEs]
        rw [KbM (n := 1 + (szSs x.gKids : Int)) (by omega) (by omega), KbM (n := 1 + (szSs x.gKids : Int) + szSs x.gElse) (by omega) (by omega), KbM (by omega) (by omega)]
        congr 1; omega
      · have hy := KhZ hq
        simp only [Kb2 hq, cond_true]
        rw [Kby hq (by omega)]
        rw [show idx x.gExps (q.length : Int) = some y by rw [hq]; exact Kd1 _ _ _, Option.bind_some, size_eq (by omega), Option.bind_some, KbM (by omega) (by omega), KeG]
        simp only [szEs]
        congr 3; omega
      · simp only [Kb3, cond_false]
      · rw [KfE]; simp only [szSs]; congr 3; omega
    · simp only [Kb3, cond_false]
    · rfl
theorem sizes_eq {l : List Kl} (hb : szSs l ≤ 1048576) : Keu l = some (szSs l : Int) := Kh9 l (hSs l) (sizes_g _ l (Nat.le_refl _) hb)
end Go.Proofs.Ytmgklehakmdiiaa.Ab
namespace Go.Proofs.Ytmgklehakmdiiaa.Ab
open Go
set_option linter.all false
mutual
def eqS (p : Bool) : Kl → Kl → Bool
  | ⟨a, b, c, es, ks, ls, d⟩, f => a == f.gOp && (decide (b = f.gName) && (decide (c = f.gFunc) && ((!p || d == f.gAt) && (eqEs p es f.gExps && (eqSs p ks f.gKids && eqSs p ls f.gElse)))))
def eqSs (p : Bool) : List Kl → List Kl → Bool
  | [], m => m.isEmpty
  | e :: l, m => match m with
    | [] => false
    | f :: m => eqS p e f && eqSs p l m
end
theorem eqS_eq (p : Bool) (e f : Kl) : eqS p e f = (e.gOp == f.gOp && (decide (e.gName = f.gName) && (decide (e.gFunc = f.gFunc) && ((!p || e.gAt == f.gAt) && (eqEs p e.gExps f.gExps && (eqSs p e.gKids f.gKids && eqSs p e.gElse f.gElse)))))) := by cases e; simp only [eqS]
theorem eqSs_eq (p : Bool) : ∀ l m, eqSs p l m = all2 (eqS p) l m
 | [], [] => by simp [eqSs, all2]
 | [], _ :: _ => by simp [eqSs, all2]
 | _ :: _, [] => by simp [eqSs, all2]
 | x :: l, y :: m => by simp only [eqSs, all2, eqSs_eq p l m]
mutual
theorem eqS_refl (p : Bool) : ∀ e, eqS p e e = true
  | ⟨a, b, c, es, ks, ls, d⟩ => by
    rw [eqS_eq]
    simp [KiA p es, Kg2 p ks, Kg2 p ls]
theorem Kg2 (p : Bool) : ∀ l, eqSs p l l = true
  | [] => by simp [eqSs]
  | e :: l => by simp only [eqSs, eqS_refl p e, Kg2 p l, Bool.and_self]
end
theorem Kjj (p : Bool) : ∀ (n : Nat) (l m : List Kl), hSs l ≤ n → szSs l ≤ 1048576 → Kbv n l m p = some (eqSs p l m)
  | 0, l, m, h, _ => by have := KiL l; omega
  | n + 1, l, m, h, hb => by
    show Kcu (Kbv n) l m p = _
    unfold Kcu
    have hl := Kfw l
    rw [eqSs_eq]
    refine pairs _ l m (fun a x q a' y q' e e' hp => ?_) ?_
    · have hx := Kes e
      have hd := hS_mem hx
      have hz := szS_mem hx
      have hdx := hS_eq x
      have hsx := KeI x
      rw [Kb2 e, cond_true]
      simp only [KbR e rfl, KbR e' hp, Option.bind_some]
      rw [Kby e (by omega), rexps_eq (by omega), Kjj p n _ _ (by omega) (by omega), Kjj p n _ _ (by omega) (by omega), eqS_eq]
      simp only [Option.bind_some, bne]
      cases x.gOp == y.gOp <;> cases decide (x.gName = y.gName) <;> cases decide (x.gFunc = y.gFunc) <;> cases p <;> cases x.gAt == y.gAt <;> cases eqEs _ x.gExps y.gExps <;> cases eqSs _ x.gKids y.gKids <;> cases eqSs _ x.gElse y.gElse <;> rfl
    · rw [Kb3, cond_false]
theorem rsameS_eq {l m : List Kl} {p : Bool} (hb : szSs l ≤ 1048576) : KfD l m p = some (eqSs p l m) := KjM l m p (hSs l) (Kjj p _ l m (Nat.le_refl _) hb)
def eqVar (a b : KV) : Bool := decide (a.gName = b.gName) && (a.gPtr == b.gPtr && true)
theorem vars_eq {l m : List KV} (hb : l.length ≤ 1048576) : Kft l m = some (all2 eqVar l m) := by
 unfold Kft
 refine pairs _ l m (fun p x q p' y q' e e' hp => ?_) ?_
 ·rw [Kb2 e, cond_true, KbR e rfl, Option.bind_some, KbR e' hp, Option.bind_some, Kby e (by omega)]
  show (bif !eqVar x y then _ else _) = _
  cases eqVar x y <;> rfl
 ·rw [Kb3, cond_false]
theorem KjB (v : KV) : eqVar v v = true := by simp [eqVar]
theorem Kk1 {a : KS} {p : Bool} (h1 : a.gParams.length ≤ 1048576) (h2 : a.gLocals.length ≤ 1048576) (h3 : szSs a.gBody ≤ 1048576) : Kek a a p = some true := by
 unfold Kek
 rw [vars_eq h1, vars_eq h2, rsameS_eq h3, Kiq fun x _ => KjB x, Kiq fun x _ => KjB x, Kg2]
 cases p <;> simp
end Go.Proofs.Ytmgklehakmdiiaa.Ab
namespace Go.Proofs.Ytmgklehakmdiiaa.Ab.Pq
open Go
set_option linter.all false
section
variable {L : List Tok} (hL : L.length ≤ 100000)
omit hL in
theorem f1_eq (m2 : KS) (p : Pos L) (e v o : Int) : Ka6 m2 (gm L p e v o) = (loopM lcP (L, ((p.1 : Nat) : Int), e, v, o, m2.gLocals)).bind fun y32 => some ((⟨y32.1, y32.2.1, y32.2.2.1, y32.2.2.2.1, y32.2.2.2.2.1⟩ : Ke), (⟨m2.gName, m2.gParams, y32.2.2.2.2.2, m2.gBody, m2.gAt⟩ : KS)) := rfl
include hL
theorem KjC (p : Pos L) (e v o : Int) (m2 : KS) : KaL (gm L p e v o) m2 = (Ka6 m2 (gm L (begP L p e o).1 (begP L p e o).2 v (IntKind.i64.wrap (o + 1)))).bind fun x8 => (loopM (bkP Kbd) ([], x8.1.gL, x8.1.gAt, x8.1.gE, x8.1.gVars, x8.1.gOpen)).bind fun y38 => some (y38.1, (⟨y38.2.1, y38.2.2.1, y38.2.2.2.1, y38.2.2.2.2.1, (IntKind.i64.wrap (y38.2.2.2.2.2 - (1 : Int)))⟩ : Ke), x8.2) := by
 have h := gbegin hL p e v o
 unfold KaL
 rw [geat hL, Option.bind_some] at h ⊢
 simp only [] at h ⊢
 rw [h, Option.bind_some]
 rfl
theorem stmt_half (p : Pos L) (v : Int) {o : Nat} (ho : o ≤ 24) : GR L v o p szS (Kbd (gm L p 0 v o)) ((rsg (4 * L.length + 10)).2.1 (rm L p 0) o) := by
 obtain ⟨x, y, q, e, h1, h2, h3⟩ := (stm hL v (4 * L.length + 10) (4 * L.length + 10) (Nat.le_refl _)).1 p o (4 * L.length + 10) ho (by omega) (by omega)
 exact ⟨x, y, q, e, KeE _ _ h1, h2, h3⟩
theorem body_ok (p : Pos L) (v : Int) : ∃ l l2 q e, loopM (bkP Kbd) ([], L, ((p.1 : Nat) : Int), 0, v, 1) = some (l, L, (((q : Pos L).1 : Nat) : Int), e, v, 1) ∧ Keh (rm L p 0) 1 = some (l2, rm L q e) ∧ (e = 0 → l = l2 ∧ p.1 + szSs l ≤ q.1) := by
 obtain ⟨l, l2, q, e, k1, k2, k3⟩ := bk_loop hL Kbd (rsg (4 * L.length + 10)).2.1 v ((1 : Nat) : Int) p.1 (fun q _ => stmt_half hL q v (by omega)) L.length p [] (by omega) (by simp only [szSs]; omega)
 refine ⟨l, l2, q, e, k1, KiV _ _ (4 * L.length + 10 + 1) ?_, k3⟩
 rw [KiN hL]
 rw [show (1 : Int) = ((1 : Nat) : Int) from rfl, k2, Option.bind_some]
theorem body_b {p : Pos L} {e v o : Int} (he : e ≠ 0) : loopM (bkP Kbd) ([], L, ((p.1 : Nat) : Int), e, v, o) = some ([], L, ((p.1 : Nat) : Int), e, v, o) ∧ Keh (rm L p e) 1 = some ([], rm L p e) := by
 refine ⟨Khz he, KiV _ _ 1 ?_⟩
 rw [KiN hL, KhA he, Option.bind_some]
end
end Go.Proofs.Ytmgklehakmdiiaa.Ab.Pq
namespace Go.Proofs.Ytmgklehakmdiiaa.Ab.Pq
open Go
set_option linter.all false
section
variable {L : List Tok} (hL : L.length ≤ 100000)
include hL
theorem Kkl {p : Pos L} {e v : Int} (he : e ≠ 0) (m2 : KS) : KaL (gm L p e v 0) m2 = some ([], gm L p e v 0, ⟨m2.gName, m2.gParams, m2.gLocals, m2.gBody, m2.gAt⟩) := by
 rw [KjC hL, Kh0 he]
 simp only []
 rw [f1_eq, lcP_bad he, Option.bind_some, Option.bind_some]
 simp only []
 rw [(body_b hL he).1, Option.bind_some]
 rfl
noncomputable def rfb (c : Nat) (m : RR) : Option (List KV × List Kl × RR) := (Kdg m 0).bind fun x18 => (loopM (lcR c) (x18.gL, x18.gAt, x18.gE, [])).bind fun y51 => (Keh (⟨y51.1, y51.2.1, y51.2.2.1⟩ : RR) 1).bind fun x84 => some (y51.2.2.2, x84.1, x84.2)
theorem rfb_b {p : Pos L} {e : Int} {c : Nat} (he : e ≠ 0) : rfb c (rm L p e) = some ([], [], rm L p e) := by
 unfold rfb
 rw [rbegin hL, Option.bind_some, Kh0 he]
 simp only []
 rw [lcR_bad he, Option.bind_some]
 simp only []
 rw [(body_b hL (v := 0) (o := 0) he).2, Option.bind_some]
theorem fblock_ok (p : Pos L) (c : Nat) (hc : c ≤ p.1) (nm : ByteArray) (ps : List KV) (at_ : Int) : ∃ lo l l2 q e v', KaL (gm L p 0 c 0) ⟨nm, ps, [], [], at_⟩ = some (l, gm L q e v' 0, ⟨nm, ps, lo, [], at_⟩) ∧ rfb c (rm L p 0) = some (lo, l2, rm L q e) ∧ (e = 0 → l = l2 ∧ p.1 + lo.length + szSs l ≤ q.1) := by
 rw [KjC hL]
 unfold rfb
 rw [rbegin hL, Option.bind_some, show IntKind.i64.wrap ((0 : Int) + 1) = 1 from rfl, f1_eq]
 by_cases he : (begP L p 0 0).2 = 0
 ·obtain ⟨_, hb⟩ := begP_ok he
  rw [he]
  obtain ⟨lo, q, e, v', k1, k2, k3⟩ := lc_loop hL 1 c p.1 L.length (begP L p 0 0).1 [] (by omega) (by simp only [List.length_nil]; omega) hc
  have k1' : loopM lcP (L, (((begP L p 0 0).1.1 : Nat) : Int), 0, (c : Int), 1, []) = some (L, ((q.1 : Nat) : Int), e, v', 1, lo) := k1
  rw [k1', k2, Option.bind_some, Option.bind_some, Option.bind_some]
  simp only []
  by_cases he2 : e = 0
  ·subst he2
   obtain ⟨l, l2, q2, e2, m1, m2, m3⟩ := body_ok hL q v'
   rw [m1, m2, Option.bind_some, Option.bind_some]
   refine ⟨lo, l, l2, q2, e2, v', rfl, rfl, fun h => ?_⟩
   obtain ⟨a, b⟩ := m3 h
   have := k3 rfl
   exact ⟨a, by omega⟩
  ·obtain ⟨m1, m2⟩ := body_b hL (p := q) (v := v') (o := 1) he2
   rw [m1, m2, Option.bind_some, Option.bind_some]
   exact ⟨lo, _, _, q, e, v', rfl, rfl, fun h => absurd h he2⟩
 ·rw [lcP_bad he, lcR_bad he, Option.bind_some, Option.bind_some, Option.bind_some]
  simp only []
  obtain ⟨m1, m2⟩ := body_b hL (p := (begP L p 0 0).1) (v := (c : Int)) (o := 1) he
  rw [m1, m2, Option.bind_some, Option.bind_some]
  exact ⟨[], _, _, _, _, _, rfl, rfl, fun h => absurd h he⟩
end
end Go.Proofs.Ytmgklehakmdiiaa.Ab.Pq
namespace Go.Proofs.Ytmgklehakmdiiaa.Ab.Pq
open Go
set_option linter.all false
def zF : KS := ⟨ByteArray.empty, [], [], [], 0⟩
section
variable {L : List Tok} (hL : L.length ≤ 100000)
include hL
theorem tail_both (p : Pos L) (e : Int) (nm : ByteArray) (at_ : Int) : ∃ f ps lo l2 q e' v', ((Kaz (gm L p e 0 0)).bind fun x8 => (KaL x8.2 (⟨nm, x8.1, [], [], at_⟩ : KS)).bind fun x12 => some ((⟨x12.2.2.gName, x12.2.2.gParams, x12.2.2.gLocals, x12.1, x12.2.2.gAt⟩ : KS), x12.2.1)) = some (f, gm L q e' v' 0) ∧ ((Kco (rm L p e)).bind fun x17 => (rfb x17.1.length x17.2).bind fun y => some (x17.1, y)) = some (ps, lo, l2, rm L q e') ∧ (e' = 0 → f = ⟨nm, ps, lo, l2, at_⟩ ∧ ps.length + lo.length + szSs l2 ≤ 2 * q.1) := by
 by_cases he : e = 0
 ·subst he
  obtain ⟨l, l2, q, e, v', h1, h2, h3⟩ := params_ok hL p 0
  rw [h1, h2, Option.bind_some, Option.bind_some]
  simp only []
  by_cases he : e = 0
  ·subst he
   obtain ⟨hl, hv, hq⟩ := h3 rfl
   subst hl; subst hv
   obtain ⟨lo, b, b2, q2, e2, v2, k1, k2, k3⟩ := fblock_ok hL q l.length (by omega) nm l at_
   rw [k1, k2, Option.bind_some, Option.bind_some]
   refine ⟨_, l, lo, b2, q2, e2, v2, rfl, rfl, fun h => ?_⟩
   obtain ⟨a, c⟩ := k3 h
   subst a
   exact ⟨rfl, by omega⟩
  ·rw [Kkl hL he, rfb_b hL he, Option.bind_some, Option.bind_some]
   exact ⟨_, l2, [], [], q, e, v', rfl, rfl, fun h => absurd h he⟩
 ·obtain ⟨h1, h2⟩ := params_b hL (p := p) (v := 0) (o := 0) he
  rw [h1, h2, Option.bind_some, Option.bind_some]
  simp only []
  rw [Kkl hL he, rfb_b hL he, Option.bind_some, Option.bind_some]
  exact ⟨_, _, [], [], p, e, 0, rfl, rfl, fun h => absurd h he⟩
end
end Go.Proofs.Ytmgklehakmdiiaa.Ab.Pq
namespace Go.Proofs.Ytmgklehakmdiiaa.Ab.Pq
open Go
set_option linter.all false
section
variable {L : List Tok} (hL : L.length ≤ 100000)
theorem rfb_inv {c : Nat} {m : RR} {lo : List KV} {l2 : List Kl} {m2 : RR} (h : rfb c m = some (lo, l2, m2)) : ∃ x y, Kdg m 0 = some x ∧ loopM (lcR c) (x.gL, x.gAt, x.gE, []) = some y ∧ Keh (⟨y.1, y.2.1, y.2.2.1⟩ : RR) 1 = some (l2, m2) ∧ y.2.2.2 = lo := by
  unfold rfb at h
  cases h1 : Kdg m 0 with
  | none => rw [h1] at h; cases h
  | some x =>
    rw [h1, Option.bind_some] at h
    cases h2 : loopM (lcR c) (x.gL, x.gAt, x.gE, []) with
    | none => rw [h2] at h; cases h
    | some y =>
      rw [h2, Option.bind_some] at h
      cases h3 : Keh (⟨y.1, y.2.1, y.2.2.1⟩ : RR) 1 with
      | none => rw [h3] at h; cases h
      | some z =>
        rw [h3, Option.bind_some] at h
        simp only [Option.some.injEq, Prod.mk.injEq] at h
        obtain ⟨a, b, c⟩ := h
        exact ⟨x, y, rfl, h2, by rw [h3]; cases z; simp_all, a⟩
include hL
theorem sizes_both {l : List Kl} (h : szSs l ≤ 1000000) : Keu l = some (szSs l : Int) ∧ ((KeZ l).bind fun x101 => (Ke0 l).bind fun x103 => some (decide ((800 : Int) < (IntKind.i64.wrap ((x101.length : Int) + (x103.length : Int)))))) = some (decide (800 < szSs l)) := by
 refine ⟨sizes_eq (by omega), ?_⟩
 have hfl := Ke2 l
 rw [stmts_eq (by omega), Option.bind_some, exprs_eq (by omega), Option.bind_some, KbM (by omega) (by omega)]
 congr 1
 exact decide_eq_decide.2 (by omega)
def outF (f : KS) (q : Nat) (e : Int) : KS × Int × Int := bif e != 0 then (zF, (q : Int), e) else (f, (q : Int), 0)
theorem func_both (p : Pos L) : ∃ f q e v', Ka2 (gm L p 0 0 0) = some (f, gm L q e v' 0) ∧ Kei L ((p.1 : Nat) : Int) = some (outF f q.1 e) ∧ (e = 0 → f.gParams.length ≤ 1048576 ∧ f.gLocals.length ≤ 1048576 ∧ szSs f.gBody ≤ 1048576) := by
 have hp := p.2
 unfold Ka2 Kei
 rw [decide_eq_false (by omega), cond_false, decide_eq_false (by omega), Option.bind_some, cond_false]
 rw [KgE hL, Option.bind_some, geat hL, Option.bind_some, gname hL, Option.bind_some]
 rw [rlook hL p, Option.bind_some, reat hL p, Option.bind_some, rname hL, Option.bind_some]
 simp only []
 generalize eatP L p 0 (ByteArray.mk #[105, 110, 116]) = a
 generalize nameP L a.1 a.2 = m
 obtain ⟨f, ps, lo, l2, q, e, v', h1, h2, h3⟩ := tail_both hL m.2.1 m.2.2 m.1 (lk L p.1).gAt
 cases hA : Kaz (gm L m.2.1 m.2.2 0 0) with
 | none => rw [hA] at h1; cases h1
 | some x8 =>
 rw [hA, Option.bind_some] at h1
 cases hB : KaL x8.2 (⟨m.1, x8.1, [], [], (lk L p.1).gAt⟩ : KS) with
 | none => rw [hB] at h1; cases h1
 | some x12 =>
 rw [hB, Option.bind_some] at h1
 simp only [Option.some.injEq, Prod.mk.injEq] at h1
 obtain ⟨hf, hg⟩ := h1
 cases hC : Kco (rm L m.2.1 m.2.2) with
 | none => rw [hC] at h2; cases h2
 | some x17 =>
 rw [hC, Option.bind_some] at h2
 cases hD : rfb x17.1.length x17.2 with
 | none => rw [hD] at h2; cases h2
 | some y =>
 rw [hD, Option.bind_some] at h2
 simp only [Option.some.injEq, Prod.mk.injEq] at h2
 obtain ⟨hps, hy⟩ := h2
 subst hy
 obtain ⟨x18, y51, k1, k2, k3, k4⟩ := rfb_inv hD
 simp only [Option.bind_some]
 rw [hB, Option.bind_some, k1, Option.bind_some]
 change ∃ f_1 q_1 e_1 v'_1, _ ∧ Option.bind (loopM (lcR x17.1.length) (x18.gL, x18.gAt, x18.gE, [])) _ = _ ∧ _
 rw [k2, Option.bind_some, k3, Option.bind_some, hg, hf, k4, hps]
 simp only []
 by_cases he : e = 0
 ·subst he
  obtain ⟨hf2, hs⟩ := h3 rfl
  have hq := q.2
  obtain ⟨s1, s2⟩ := sizes_both hL (l := l2) (by omega)
  have hb : x12.1 = l2 := by
   have := congrArg KS.gBody (hf.trans hf2)
   exact this
  rw [hb, s1, s2]
  simp only [beq_self_eq_true, cond_true, Option.bind_some]
  rw [show decide ((800 : Int) < ((szSs l2 : Nat) : Int)) = decide (800 < szSs l2) from decide_eq_decide.2 (by omega)]
  subst hf2
  by_cases h8 : 800 < szSs l2
  ·rw [decide_eq_true h8, cond_true, cond_true, gfail q a.1, rfail q a.1, KeQ, Option.bind_some, Option.bind_some, Option.bind_some]
   exact ⟨_, a.1, 6, v', rfl, rfl, fun h => by cases h⟩
  ·rw [decide_eq_false h8, cond_false, cond_false, Option.bind_some]
   exact ⟨_, q, 0, v', rfl, rfl, fun _ => ⟨by show ps.length ≤ _; omega, by show lo.length ≤ _; omega, by show szSs l2 ≤ _; omega⟩⟩
 ·have hb : (e == 0) = false := by simp [he]
  simp only [hb, cond_false, Option.bind_some, bne, Bool.not_false, cond_true]
  refine ⟨_, q, e, v', rfl, ?_, fun h => absurd h he⟩
  unfold outF
  simp only [bne, hb, Bool.not_false, cond_true]; rfl
end
end Go.Proofs.Ytmgklehakmdiiaa.Ab.Pq
namespace Go.Proofs.Ytmgklehakmdiiaa.Ab.Pq
open Go
set_option linter.all false
def FSz (f : KS) : Prop := f.gParams.length ≤ 1048576 ∧ f.gLocals.length ≤ 1048576 ∧ szSs f.gBody ≤ 1048576
theorem fsz_z : FSz zF := ⟨by show (0 : Nat) ≤ _; omega, by show (0 : Nat) ≤ _; omega, by show szSs [] ≤ _; decide⟩
theorem outF_sz {f : KS} {q : Nat} {e : Int} (h : e = 0 → FSz f) : FSz (outF f q e).1 := by
 unfold outF
 by_cases he : e = 0
 ·subst he; exact h rfl
 ·simp only [bne, show (e == 0) = false by simp [he], Bool.not_false, cond_true]; exact fsz_z
theorem outF_at (f : KS) (q : Nat) (e : Int) : (outF f q e).2.1 = (q : Int) := by
 unfold outF; cases (e != 0) <;> rfl
section
variable {L : List Tok} (hL : L.length ≤ 100000)
include hL
theorem funcs_both (a : Int) : ∃ r, Kcn L a = some r ∧ Kei L a = some r ∧ FSz r.1 ∧ (0 ≤ a → a ≤ (L.length : Int) → ∃ q : Pos L, r.2.1 = ((q.1 : Nat) : Int)) := by
 by_cases h0 : 0 ≤ a
 ·by_cases h1 : a ≤ (L.length : Int)
  ·obtain ⟨n, rfl⟩ := Int.eq_ofNat_of_zero_le h0
   obtain ⟨f, q, e, v', k1, k2, k3⟩ := func_both hL ⟨n, by omega⟩
   refine ⟨outF f q.1 e, ?_, k2, outF_sz k3, fun _ _ => ⟨q, outF_at _ _ _⟩⟩
   unfold Kcn Kct
   rw [decide_eq_true h0, cond_true, Option.bind_some, decide_eq_true h1]
   simp only [Bool.not_true, cond_false]
   change Option.bind (Ka2 (gm L ⟨n, by omega⟩ 0 0 0)) _ = _
   rw [k1, Option.bind_some]
   unfold outF
   cases (e != 0) <;> rfl
  ·refine ⟨(zF, 0, 2), ?_, ?_, fsz_z, fun _ h => absurd h h1⟩
   ·unfold Kcn Kct
    rw [decide_eq_true h0, cond_true, Option.bind_some, decide_eq_false h1]; rfl
   ·unfold Kei
    rw [decide_eq_false (by omega), cond_false, decide_eq_true (by omega)]; rfl
 ·refine ⟨(zF, 0, 2), ?_, ?_, fsz_z, fun h => absurd h h0⟩
  ·unfold Kcn Kct
   rw [decide_eq_false h0, cond_false]; rfl
  ·unfold Kei
   rw [decide_eq_true (by omega), cond_true]; rfl
end
theorem funcText_both (b : List UInt8) : ∃ r, KbE b = some r ∧ Kej b = some r ∧ FSz r.1 := by
 unfold KbE KbD Kej
 rcases read_both b with ⟨l, hl, h1, h2⟩ | ⟨x, e, he, h1, h2⟩
 ·rw [h1, h2]
  simp only [Option.bind_some, bne, beq_self_eq_true, Bool.not_true, cond_false]
  have hlen : (l ++ [(⟨0, ByteArray.empty, 0, (b.length : Int)⟩ : Tok)]).length = l.length + 1 := by simp
  obtain ⟨r, h3, h4, hz, h5⟩ := funcs_both (L := l ++ [⟨0, ByteArray.empty, 0, (b.length : Int)⟩]) (by omega) 0
  obtain ⟨q, hq⟩ := h5 (by omega) (by omega)
  have hq2 := q.2
  rw [h3, h4, Option.bind_some, Option.bind_some, hq, place_eq hl q.2, Option.bind_some]
  have hw : IntKind.i64.wrap (((l ++ [(⟨0, ByteArray.empty, 0, (b.length : Int)⟩ : Tok)]).length : Int) - 1) = (l.length : Int) := by rw [hlen, KbM (by omega) (by omega)]; omega
  rw [hw, show min ((q.1 : Nat) : Int) (l.length : Int) = ((min q.1 l.length : Nat) : Int) by omega, Kkk (by omega), Option.bind_some]
  generalize lk (l ++ [(⟨0, ByteArray.empty, 0, (b.length : Int)⟩ : Tok)]) (min q.1 l.length) = t
  simp only []
  cases he : r.2.2 == 0
  ·simp only [Bool.not_false, cond_true, Bool.false_and, cond_false, he, Option.bind_some]
   exact ⟨_, rfl, rfl, fsz_z⟩
  ·simp only [Bool.not_true, cond_false, Bool.true_and]
   cases hk : t.gKind == 0
   ·simp only [bne, hk, Bool.not_false, cond_true]
    exact ⟨_, rfl, rfl, fsz_z⟩
   ·simp only [bne, hk, Bool.not_true, cond_false, he, cond_true]
    exact ⟨_, rfl, rfl, hz⟩
 ·rw [h1, h2]
  simp only [Option.bind_some, bne, show (e == 0) = false by simp [he], Bool.not_false, cond_true]
  exact ⟨_, rfl, rfl, fsz_z⟩
end Go.Proofs.Ytmgklehakmdiiaa.Ab.Pq
namespace Go.Proofs.Ytmgklehakmdiiaa.Ab
open Go
set_option linter.all false
def Kfh (fu : Nat) (a0 : Int) : Option (Int) :=
 (Option.bind (α := Bool) (bif (a0 == (32 : Int)) then some true else (bif (a0 == (9 : Int)) then some true else (bif (a0 == (10 : Int)) then some true else some (a0 == (13 : Int))))) fun y4 => (bif y4 then some (1 : Int) else (Option.bind (α := Bool) (bif (decide ((97 : Int) ≤ a0)) then (bif (decide (a0 ≤ (122 : Int))) then some true else (bif (decide ((65 : Int) ≤ a0)) then (bif (decide (a0 ≤ (90 : Int))) then some true else some (a0 == (95 : Int))) else some (a0 == (95 : Int)))) else (bif (decide ((65 : Int) ≤ a0)) then (bif (decide (a0 ≤ (90 : Int))) then some true else some (a0 == (95 : Int))) else some (a0 == (95 : Int)))) fun y16 => (bif y16 then some (2 : Int) else (bif (decide ((48 : Int) ≤ a0)) then (bif (decide (a0 ≤ (57 : Int))) then some (3 : Int) else some (0 : Int)) else some (0 : Int))))))
theorem KhB (fu : Nat)   (a0 : Int) : Le (Kfh fu  a0) (Kcj  a0) := by
 unfold Kfh Kcj
 repeat (first | exact Le.refl _ | assumption | (refine Le.bind ?_ (fun _ => ?_)) | (refine Le.cond ?_ ?_) | (refine Le.loopC (fun _ => ?_)) | (refine Le.elim (fun _ => ?_) (fun _ => ?_)))
def Kcv (fu : Nat) (m0 : KN) (a1 : Bool) : Option (Int) :=
 (Option.bind (α := Int) (loopC fu (fun (s24 : Int) => (bif (decide ((IntKind.i64.wrap (m0.gAt + s24)) < (m0.gB.length : Int))) then ((idx m0.gB (IntKind.i64.wrap (m0.gAt + s24))).bind fun x40 => ((Kfh fu (IntKind.i32.wrap (x40.toNat : Int))).bind fun x41 => (bif (x41 != (3 : Int)) then (bif (x41 != (2 : Int)) then some (.done s24) else (bif (!a1) then some (.done s24) else some (.next (IntKind.i64.wrap (s24 + (1 : Int)))))) else some (.next (IntKind.i64.wrap (s24 + (1 : Int))))))) else some (.done s24))) (0 : Int)) fun y23 => some y23)
theorem Ke3 (fu : Nat)   (m0 : KN) (a1 : Bool) : Le (Kcv fu  m0 a1) (Kbm  m0 a1) := by
 unfold Kcv Kbm
 repeat (first | exact Le.refl _ | assumption | exact KhB fu _ | (refine Le.bind ?_ (fun _ => ?_)) | (refine Le.cond ?_ ?_) | (refine Le.loopC (fun _ => ?_)) | (refine Le.elim (fun _ => ?_) (fun _ => ?_)))
def Kcx (fu : Nat) (a0 : List ByteArray) (a1 : ByteArray) : Option (Int) :=
 (Option.bind (α := (Unit) ⊕ (Int)) (loopC fu (fun (s15 : Int) => (bif (decide (s15 < (a0.length : Int))) then ((idx a0 s15).bind fun x25 => (bif (decide (a1 = x25)) then some (.done (.inr s15)) else some (.next (IntKind.i64.wrap (s15 + (1 : Int)))))) else some (.done (.inl ())))) (0 : Int)) (Sum.elim (fun y14 => some (-1 : Int)) (fun r => some r)))
theorem Kfi (fu : Nat)   (a0 : List ByteArray) (a1 : ByteArray) : Le (Kcx fu  a0 a1) (Ka0  a0 a1) := by
 unfold Kcx Ka0
 repeat (first | exact Le.refl _ | assumption | (refine Le.bind ?_ (fun _ => ?_)) | (refine Le.cond ?_ ?_) | (refine Le.loopC (fun _ => ?_)) | (refine Le.elim (fun _ => ?_) (fun _ => ?_)))
def Kbw (fu : Nat) (a0 : List ByteArray) (a1 : ByteArray) : Option (Bool) :=
 ((Kcx fu a0 a1).bind fun x1 => some (decide ((0 : Int) ≤ x1)))
theorem KcU (fu : Nat)   (a0 : List ByteArray) (a1 : ByteArray) : Le (Kbw fu  a0 a1) (KaH  a0 a1) := by
 unfold Kbw KaH
 repeat (first | exact Le.refl _ | assumption | exact Kfi fu _ _ | (refine Le.bind ?_ (fun _ => ?_)) | (refine Le.cond ?_ ?_) | (refine Le.loopC (fun _ => ?_)) | (refine Le.elim (fun _ => ?_) (fun _ => ?_)))
def KgG (fu : Nat) (a0 : ByteArray) : Option (Bool) :=
 ((Kbw fu ([(ByteArray.mk #[105, 110, 116]), (ByteArray.mk #[105, 102]), (ByteArray.mk #[101, 108, 115, 101]), (ByteArray.mk #[119, 104, 105, 108, 101]), (ByteArray.mk #[114, 101, 116, 117, 114, 110]), (ByteArray.mk #[97, 115, 115, 101, 114, 116]), (ByteArray.mk #[105, 110, 112, 117, 116]), (ByteArray.mk #[110, 117, 108, 108])] : List ByteArray) a0).bind fun x1 => some x1)
theorem KjO (fu : Nat)   (a0 : ByteArray) : Le (KgG fu  a0) (Kcy  a0) := by
 unfold KgG Kcy
 repeat (first | exact Le.refl _ | assumption | exact KcU fu _ _ | (refine Le.bind ?_ (fun _ => ?_)) | (refine Le.cond ?_ ?_) | (refine Le.loopC (fun _ => ?_)) | (refine Le.elim (fun _ => ?_) (fun _ => ?_)))
def Kb4 (fu : Nat) (m0 : KN) (a1 : Int) (a2 : Int) (a3 : Int) : Option (Int × KN) :=
 (bif (decide ((4000 : Int) ≤ (m0.gL.length : Int))) then some ((6 : Int), m0) else ((cutL m0.gB m0.gAt (IntKind.i64.wrap (m0.gAt + a2))).bind fun x4 => ((app 40 m0.gL ([(⟨a1, (ByteArray.mk x4.toArray), a3, m0.gAt⟩ : Kq)] : List Kq)).bind fun x5 => some ((0 : Int), (⟨m0.gB, (IntKind.i64.wrap (m0.gAt + a2)), x5⟩ : KN)))))
theorem KdS (fu : Nat)   (m0 : KN) (a1 : Int) (a2 : Int) (a3 : Int) : Le (Kb4 fu  m0 a1 a2 a3) (Kbj  m0 a1 a2 a3) := by
 unfold Kb4 Kbj
 repeat (first | exact Le.refl _ | assumption | (refine Le.bind ?_ (fun _ => ?_)) | (refine Le.cond ?_ ?_) | (refine Le.loopC (fun _ => ?_)) | (refine Le.elim (fun _ => ?_) (fun _ => ?_)))
def Kd5 (fu : Nat) (m0 : KN) : Option (Int × KN) :=
 ((Kcv fu m0 true).bind fun x1 => ((cutL m0.gB m0.gAt (IntKind.i64.wrap (m0.gAt + x1))).bind fun x2 => (bif (decide ((20 : Int) < x1)) then some ((6 : Int), m0) else ((KgG fu (ByteArray.mk x2.toArray)).bind fun x15 => (bif x15 then ((Kb4 fu m0 (3 : Int) x1 (0 : Int)).bind fun x21 => some (x21.1, x21.2)) else ((Kb4 fu m0 (1 : Int) x1 (0 : Int)).bind fun x24 => some (x24.1, x24.2)))))))
theorem KhC (fu : Nat)   (m0 : KN) : Le (Kd5 fu  m0) (Kbz  m0) := by
 unfold Kd5 Kbz
 repeat (first | exact Le.refl _ | assumption | exact Ke3 fu _ _ | exact KjO fu _ | exact KdS fu _ _ _ _ | (refine Le.bind ?_ (fun _ => ?_)) | (refine Le.cond ?_ ?_) | (refine Le.loopC (fun _ => ?_)) | (refine Le.elim (fun _ => ?_) (fun _ => ?_)))
def KdI (fu : Nat) (m0 : KN) : Option (Int × KN) :=
 (bif (decide ((4000 : Int) ≤ (m0.gL.length : Int))) then some ((6 : Int), m0) else ((Kcv fu m0 false).bind fun x4 => (Option.bind (α := Bool) ((Kcv fu m0 true).bind fun x10 => (bif (decide (x4 < x10)) then some true else ((idx m0.gB m0.gAt).bind fun x12 => (bif ((x12.toNat : Int) == (48 : Int)) then some (decide ((1 : Int) < x4)) else some false)))) fun y9 => (bif y9 then some ((3 : Int), m0) else ((cutL m0.gB m0.gAt (IntKind.i64.wrap (m0.gAt + x4))).bind fun x17 => (Option.bind (α := (Int) ⊕ (Int × KN)) (loopC fu (fun (s33 : Int × Int) => (bif (decide (s33.2 < (x17.length : Int))) then ((idx x17 s33.2).bind fun x43 => (bif (decide ((IntKind.u64.wrap ((IntKind.u64.wrap ((9223372036854775807 : Int) - (IntKind.u64.wrap (IntKind.u8.wrap ((x43.toNat : Int) - (48 : Int)))))).tdiv (10 : Int))) < s33.1)) then some (.done (.inr ((4 : Int), m0))) else some (.next ((IntKind.u64.wrap ((IntKind.u64.wrap ((10 : Int) * s33.1)) + (IntKind.u64.wrap (IntKind.u8.wrap ((x43.toNat : Int) - (48 : Int)))))), (IntKind.i64.wrap (s33.2 + (1 : Int))))))) else some (.done (.inl s33.1)))) ((0 : Int), (0 : Int))) (Sum.elim (fun y32 => ((Kb4 fu m0 (2 : Int) x4 (IntKind.i64.wrap y32)).bind fun x47 => some (x47.1, x47.2))) (fun r => some r))))))))
theorem KgQ (fu : Nat)   (m0 : KN) : Le (KdI fu  m0) (Kbl  m0) := by
 unfold KdI Kbl
 repeat (first | exact Le.refl _ | assumption | exact Ke3 fu _ _ | exact KdS fu _ _ _ _ | (refine Le.bind ?_ (fun _ => ?_)) | (refine Le.cond ?_ ?_) | (refine Le.loopC (fun _ => ?_)) | (refine Le.elim (fun _ => ?_) (fun _ => ?_)))
def Kd6 (fu : Nat) (m0 : KN) : Option (Int) :=
 ((cutL m0.gB m0.gAt ((m0.gB).length : Int)).bind fun x1 => (Option.bind (α := Bool) (bif (decide ((1 : Int) < (x1.length : Int))) then ((cutL x1 (0 : Int) (2 : Int)).bind fun x7 => ((Kbw fu ([(ByteArray.mk #[61, 61]), (ByteArray.mk #[33, 61]), (ByteArray.mk #[60, 61]), (ByteArray.mk #[38, 38]), (ByteArray.mk #[124, 124])] : List ByteArray) (ByteArray.mk x7.toArray)).bind fun x8 => some x8)) else some false) fun y5 => (bif y5 then some (2 : Int) else ((idx x1 (0 : Int)).bind fun x12 => (bif (decide ((0 : Int) ≤ (KdG (ByteArray.mk #[40, 41, 123, 125, 91, 93, 59, 44, 61, 60, 43, 45, 42, 47, 37, 33, 38]) (x12.toNat : Int)))) then some (1 : Int) else some (0 : Int))))))
theorem KhD (fu : Nat)   (m0 : KN) : Le (Kd6 fu  m0) (KbS  m0) := by
 unfold Kd6 KbS
 repeat (first | exact Le.refl _ | assumption | exact KcU fu _ _ | (refine Le.bind ?_ (fun _ => ?_)) | (refine Le.cond ?_ ?_) | (refine Le.loopC (fun _ => ?_)) | (refine Le.elim (fun _ => ?_) (fun _ => ?_)))
def Kd7 (fu : Nat) (m0 : KN) : Option (Int × KN) :=
 ((idx m0.gB m0.gAt).bind fun x1 => ((Kfh fu (IntKind.i32.wrap (x1.toNat : Int))).bind fun x2 => (bif (x2 == (1 : Int)) then some ((0 : Int), (⟨m0.gB, (IntKind.i64.wrap (m0.gAt + (1 : Int))), m0.gL⟩ : KN)) else (bif (x2 == (2 : Int)) then ((Kd5 fu m0).bind fun x27 => some (x27.1, x27.2)) else (bif (x2 == (3 : Int)) then ((KdI fu m0).bind fun x34 => some (x34.1, x34.2)) else ((Kd6 fu m0).bind fun x36 => (bif (x36 == (0 : Int)) then some ((3 : Int), m0) else ((Kb4 fu m0 (3 : Int) x36 (0 : Int)).bind fun x41 => some (x41.1, x41.2)))))))))
theorem KhE (fu : Nat)   (m0 : KN) : Le (Kd7 fu  m0) (Ka4  m0) := by
 unfold Kd7 Ka4
 repeat (first | exact Le.refl _ | assumption | exact KhB fu _ | exact KhC fu _ | exact KgQ fu _ | exact KhD fu _ | exact KdS fu _ _ _ _ | (refine Le.bind ?_ (fun _ => ?_)) | (refine Le.cond ?_ ?_) | (refine Le.loopC (fun _ => ?_)) | (refine Le.elim (fun _ => ?_) (fun _ => ?_)))
def KgH (fu : Nat) (a0 : List UInt8) : Option (List Kq × Int × Int) :=
 (bif (decide ((20000 : Int) < (a0.length : Int))) then some (([] : List Kq), (0 : Int), (6 : Int)) else (Option.bind (α := (List UInt8 × Int × List Kq) ⊕ (List Kq × Int × Int)) (loopC fu (fun (s25 : List UInt8 × Int × List Kq) => (bif (decide (s25.2.1 < (a0.length : Int))) then ((Kd7 fu (⟨s25.1, s25.2.1, s25.2.2⟩ : KN)).bind fun x40 => (bif (x40.1 != (0 : Int)) then some (.done (.inr (([] : List Kq), x40.2.gAt, x40.1))) else some (.next (x40.2.gB, x40.2.gAt, x40.2.gL)))) else some (.done (.inl (s25.1, s25.2.1, s25.2.2))))) (a0, (0 : Int), ([] : List Kq))) (Sum.elim (fun y24 => ((app 40 y24.2.2 ([(⟨(0 : Int), ByteArray.empty, (0 : Int), (a0.length : Int)⟩ : Kq)] : List Kq)).bind fun x44 => some (x44, (0 : Int), (0 : Int)))) (fun r => some r))))
theorem KjP (fu : Nat)   (a0 : List UInt8) : Le (KgH fu  a0) (Kdf  a0) := by
 unfold KgH Kdf
 repeat (first | exact Le.refl _ | assumption | exact KhE fu _ | (refine Le.bind ?_ (fun _ => ?_)) | (refine Le.cond ?_ ?_) | (refine Le.loopC (fun _ => ?_)) | (refine Le.elim (fun _ => ?_) (fun _ => ?_)))
def Kfj (fu : Nat) (a0 : List Kq) (a1 : Int) : Option (Ke × Bool) :=
 (bif (decide ((0 : Int) ≤ a1)) then some ((⟨a0, a1, (0 : Int), (0 : Int), (0 : Int)⟩ : Ke), (decide (a1 ≤ (a0.length : Int)))) else some ((⟨a0, a1, (0 : Int), (0 : Int), (0 : Int)⟩ : Ke), false))
theorem KiO (fu : Nat)   (a0 : List Kq) (a1 : Int) : Le (Kfj fu  a0 a1) (Kct  a0 a1) := by
 unfold Kfj Kct
 repeat (first | exact Le.refl _ | assumption | (refine Le.bind ?_ (fun _ => ?_)) | (refine Le.cond ?_ ?_) | (refine Le.loopC (fun _ => ?_)) | (refine Le.elim (fun _ => ?_) (fun _ => ?_)))
def Kbr (fu : Nat) (m0 : Ke) (a1 : Int) : Option (Kq) :=
 (bif (decide ((m0.gL.length : Int) ≤ (IntKind.i64.wrap (m0.gAt + a1)))) then some (⟨(0 : Int), ByteArray.empty, (0 : Int), (0 : Int)⟩ : Kq) else ((idx m0.gL (IntKind.i64.wrap (m0.gAt + a1))).bind fun x5 => some x5))
theorem KbO (fu : Nat)   (m0 : Ke) (a1 : Int) : Le (Kbr fu  m0 a1) (KaE  m0 a1) := by
 unfold Kbr KaE
 repeat (first | exact Le.refl _ | assumption | (refine Le.bind ?_ (fun _ => ?_)) | (refine Le.cond ?_ ?_) | (refine Le.loopC (fun _ => ?_)) | (refine Le.elim (fun _ => ?_) (fun _ => ?_)))
def KbB (fu : Nat) (m0 : Ke) (a1 : Int) (a2 : ByteArray) : Option (Bool) :=
 ((Kbr fu m0 a1).bind fun x1 => (bif (x1.gKind == (3 : Int)) then some (decide (x1.gText = a2)) else some false))
theorem Kb5 (fu : Nat)   (m0 : Ke) (a1 : Int) (a2 : ByteArray) : Le (KbB fu  m0 a1 a2) (KaC  m0 a1 a2) := by
 unfold KbB KaC
 repeat (first | exact Le.refl _ | assumption | exact KbO fu _ _ | (refine Le.bind ?_ (fun _ => ?_)) | (refine Le.cond ?_ ?_) | (refine Le.loopC (fun _ => ?_)) | (refine Le.elim (fun _ => ?_) (fun _ => ?_)))
def KaP (fu : Nat) (m0 : Ke) (a1 : Int) (a2 : Int) : Option (Ke) :=
 (bif (m0.gE == (0 : Int)) then some (⟨m0.gL, a1, a2, m0.gVars, m0.gOpen⟩ : Ke) else some m0)
theorem Ka3 (fu : Nat)   (m0 : Ke) (a1 : Int) (a2 : Int) : Le (KaP fu  m0 a1 a2) (Kao  m0 a1 a2) := by
 unfold KaP Kao
 repeat (first | exact Le.refl _ | assumption | (refine Le.bind ?_ (fun _ => ?_)) | (refine Le.cond ?_ ?_) | (refine Le.loopC (fun _ => ?_)) | (refine Le.elim (fun _ => ?_) (fun _ => ?_)))
def K4 (fu : Nat) (m0 : Ke) (a1 : List ByteArray) : Option (Ke) :=
 (Option.bind (α := (Int) ⊕ (Ke)) (loopC fu (fun (s34 : Int × Int) => (bif (decide (s34.1 < (a1.length : Int))) then ((idx a1 s34.1).bind fun x50 => (bif (m0.gE != (0 : Int)) then some (.done (.inr (⟨m0.gL, s34.2, m0.gE, m0.gVars, m0.gOpen⟩ : Ke))) else ((KbB fu (⟨m0.gL, s34.2, m0.gE, m0.gVars, m0.gOpen⟩ : Ke) (0 : Int) x50).bind fun x53 => (bif (!x53) then ((KaP fu (⟨m0.gL, s34.2, m0.gE, m0.gVars, m0.gOpen⟩ : Ke) s34.2 (3 : Int)).bind fun x55 => some (.done (.inr x55))) else some (.next ((IntKind.i64.wrap (s34.1 + (1 : Int))), (IntKind.i64.wrap (s34.2 + (1 : Int))))))))) else some (.done (.inl s34.2)))) ((0 : Int), m0.gAt)) (Sum.elim (fun y33 => some (⟨m0.gL, y33, m0.gE, m0.gVars, m0.gOpen⟩ : Ke)) (fun r => some r)))
theorem Kay (fu : Nat)   (m0 : Ke) (a1 : List ByteArray) : Le (K4 fu  m0 a1) (KO  m0 a1) := by
 unfold K4 KO
 repeat (first | exact Le.refl _ | assumption | exact Kb5 fu _ _ _ | exact Ka3 fu _ _ _ | (refine Le.bind ?_ (fun _ => ?_)) | (refine Le.cond ?_ ?_) | (refine Le.loopC (fun _ => ?_)) | (refine Le.elim (fun _ => ?_) (fun _ => ?_)))
def Kbs (fu : Nat) (m0 : Ke) : Option (ByteArray × Ke) :=
 (bif (m0.gE != (0 : Int)) then some ((ByteArray.mk #[]), m0) else ((Kbr fu m0 (0 : Int)).bind fun x4 => (bif (x4.gKind != (1 : Int)) then ((KaP fu m0 m0.gAt (3 : Int)).bind fun x9 => some ((ByteArray.mk #[]), x9)) else some (x4.gText, (⟨m0.gL, (IntKind.i64.wrap (m0.gAt + (1 : Int))), m0.gE, m0.gVars, m0.gOpen⟩ : Ke)))))
theorem KbP (fu : Nat)   (m0 : Ke) : Le (Kbs fu  m0) (KaF  m0) := by
 unfold Kbs KaF
 repeat (first | exact Le.refl _ | assumption | exact KbO fu _ _ | exact Ka3 fu _ _ _ | (refine Le.bind ?_ (fun _ => ?_)) | (refine Le.cond ?_ ?_) | (refine Le.loopC (fun _ => ?_)) | (refine Le.elim (fun _ => ?_) (fun _ => ?_)))
def Kaj (fu : Nat) (m0 : Ke) (a1 : ByteArray) : Option (Bool × Ke) :=
 (Option.bind (α := Bool) (bif (m0.gE != (0 : Int)) then some true else ((KbB fu m0 (0 : Int) a1).bind fun x5 => some (!x5))) fun y3 => (bif y3 then some (false, m0) else some (true, (⟨m0.gL, (IntKind.i64.wrap (m0.gAt + (1 : Int))), m0.gE, m0.gVars, m0.gOpen⟩ : Ke))))
theorem Ka9 (fu : Nat)   (m0 : Ke) (a1 : ByteArray) : Le (Kaj fu  m0 a1) (K2  m0 a1) := by
 unfold Kaj K2
 repeat (first | exact Le.refl _ | assumption | exact Kb5 fu _ _ _ | (refine Le.bind ?_ (fun _ => ?_)) | (refine Le.cond ?_ ?_) | (refine Le.loopC (fun _ => ?_)) | (refine Le.elim (fun _ => ?_) (fun _ => ?_)))
def Kb8 (fu : Nat) (m0 : Ke) : Option (KV × Ke) :=
 ((K4 fu m0 ([(ByteArray.mk #[105, 110, 116])] : List ByteArray)).bind fun x2 => ((Kaj fu x2 (ByteArray.mk #[42])).bind fun x3 => ((Kbs fu x3.2).bind fun x5 => (bif (decide ((16 : Int) < (IntKind.i64.wrap (x5.2.gVars + (1 : Int))))) then ((KaP fu (⟨x5.2.gL, x5.2.gAt, x5.2.gE, (IntKind.i64.wrap (x5.2.gVars + (1 : Int))), x5.2.gOpen⟩ : Ke) x3.2.gAt (6 : Int)).bind fun x7 => some ((⟨x5.1, x3.1⟩ : KV), x7)) else some ((⟨x5.1, x3.1⟩ : KV), (⟨x5.2.gL, x5.2.gAt, x5.2.gE, (IntKind.i64.wrap (x5.2.gVars + (1 : Int))), x5.2.gOpen⟩ : Ke))))))
theorem KdN (fu : Nat)   (m0 : Ke) : Le (Kb8 fu  m0) (KaJ  m0) := by
 unfold Kb8 KaJ
 repeat (first | exact Le.refl _ | assumption | exact Kay fu _ _ | exact Ka9 fu _ _ | exact KbP fu _ | exact Ka3 fu _ _ _ | (refine Le.bind ?_ (fun _ => ?_)) | (refine Le.cond ?_ ?_) | (refine Le.loopC (fun _ => ?_)) | (refine Le.elim (fun _ => ?_) (fun _ => ?_)))
def Kdv (fu : Nat) (m0 : Ke) : Option (List KV × Ke) :=
 ((K4 fu m0 ([(ByteArray.mk #[40])] : List ByteArray)).bind fun x1 => ((Kaj fu x1 (ByteArray.mk #[41])).bind fun x2 => (bif x2.1 then some (([] : List KV), x2.2) else (Option.bind (α := List KV × List Kq × Int × Int × Int × Int) (loopC fu (fun (s28 : List KV × List Kq × Int × Int × Int × Int) => (bif (s28.2.2.2.1 == (0 : Int)) then ((Kb8 fu (⟨s28.2.1, s28.2.2.1, s28.2.2.2.1, s28.2.2.2.2.1, s28.2.2.2.2.2⟩ : Ke)).bind fun x43 => ((app 24 s28.1 ([x43.1] : List KV)).bind fun x44 => ((Kaj fu x43.2 (ByteArray.mk #[44])).bind fun x45 => (bif (!x45.1) then some (.done (x44, x45.2.gL, x45.2.gAt, x45.2.gE, x45.2.gVars, x45.2.gOpen)) else some (.next (x44, x45.2.gL, x45.2.gAt, x45.2.gE, x45.2.gVars, x45.2.gOpen)))))) else some (.done (s28.1, s28.2.1, s28.2.2.1, s28.2.2.2.1, s28.2.2.2.2.1, s28.2.2.2.2.2)))) (([] : List KV), x2.2.gL, x2.2.gAt, x2.2.gE, x2.2.gVars, x2.2.gOpen)) fun y27 => ((K4 fu (⟨y27.2.1, y27.2.2.1, y27.2.2.2.1, y27.2.2.2.2.1, y27.2.2.2.2.2⟩ : Ke) ([(ByteArray.mk #[41])] : List ByteArray)).bind fun x47 => some (y27.1, x47))))))
theorem KgI (fu : Nat)   (m0 : Ke) : Le (Kdv fu  m0) (Kaz  m0) := by
 unfold Kdv Kaz
 repeat (first | exact Le.refl _ | assumption | exact Kay fu _ _ | exact Ka9 fu _ _ | exact KdN fu _ | (refine Le.bind ?_ (fun _ => ?_)) | (refine Le.cond ?_ ?_) | (refine Le.loopC (fun _ => ?_)) | (refine Le.elim (fun _ => ?_) (fun _ => ?_)))
def KcD (fu : Nat) (m2 : KS) (m1 : Ke) : Option (Ke × KS) :=
 (Option.bind (α := List Kq × Int × Int × Int × Int × List KV) (loopC fu (fun (s33 : List Kq × Int × Int × Int × Int × List KV) => (Option.bind (α := Bool) (bif (s33.2.2.1 == (0 : Int)) then ((KbB fu (⟨s33.1, s33.2.1, s33.2.2.1, s33.2.2.2.1, s33.2.2.2.2.1⟩ : Ke) (0 : Int) (ByteArray.mk #[105, 110, 116])).bind fun x58 => some x58) else some false) fun y56 => (bif y56 then ((Kb8 fu (⟨s33.1, s33.2.1, s33.2.2.1, s33.2.2.2.1, s33.2.2.2.2.1⟩ : Ke)).bind fun x60 => ((app 24 s33.2.2.2.2.2 ([x60.1] : List KV)).bind fun x61 => ((K4 fu x60.2 ([(ByteArray.mk #[59])] : List ByteArray)).bind fun x62 => some (.next (x62.gL, x62.gAt, x62.gE, x62.gVars, x62.gOpen, x61))))) else some (.done (s33.1, s33.2.1, s33.2.2.1, s33.2.2.2.1, s33.2.2.2.2.1, s33.2.2.2.2.2))))) (m1.gL, m1.gAt, m1.gE, m1.gVars, m1.gOpen, m2.gLocals)) fun y32 => some ((⟨y32.1, y32.2.1, y32.2.2.1, y32.2.2.2.1, y32.2.2.2.2.1⟩ : Ke), (⟨m2.gName, m2.gParams, y32.2.2.2.2.2, m2.gBody, m2.gAt⟩ : KS)))
theorem Kfm (fu : Nat)   (m2 : KS) (m1 : Ke) : Le (KcD fu  m2 m1) (Ka6  m2 m1) := by
 unfold KcD Ka6
 repeat (first | exact Le.refl _ | assumption | exact Kb5 fu _ _ _ | exact KdN fu _ | exact Kay fu _ _ | (refine Le.bind ?_ (fun _ => ?_)) | (refine Le.cond ?_ ?_) | (refine Le.loopC (fun _ => ?_)) | (refine Le.elim (fun _ => ?_) (fun _ => ?_)))
def KbV (fu : Nat) (m0 : Kb) : Option (Kq) :=
 (bif (decide ((m0.gL.length : Int) ≤ m0.gAt)) then some (⟨(0 : Int), ByteArray.empty, (0 : Int), (0 : Int)⟩ : Kq) else ((idx m0.gL m0.gAt).bind fun x5 => some x5))
theorem KcE (fu : Nat)   (m0 : Kb) : Le (KbV fu  m0) (KaS  m0) := by
 unfold KbV KaS
 repeat (first | exact Le.refl _ | assumption | (refine Le.bind ?_ (fun _ => ?_)) | (refine Le.cond ?_ ?_) | (refine Le.loopC (fun _ => ?_)) | (refine Le.elim (fun _ => ?_) (fun _ => ?_)))
def Kdz (fu : Nat) (m0 : Kb) (a1 : ByteArray) : Option (Bool) :=
 ((KbV fu m0).bind fun x1 => (bif (x1.gKind == (3 : Int)) then some (decide (x1.gText = a1)) else some false))
theorem Kfp (fu : Nat)   (m0 : Kb) (a1 : ByteArray) : Le (Kdz fu  m0 a1) (KbU  m0 a1) := by
 unfold Kdz KbU
 repeat (first | exact Le.refl _ | assumption | exact KcE fu _ | (refine Le.bind ?_ (fun _ => ?_)) | (refine Le.cond ?_ ?_) | (refine Le.loopC (fun _ => ?_)) | (refine Le.elim (fun _ => ?_) (fun _ => ?_)))
def KbC (fu : Nat) (m0 : Kb) (a1 : Int) (a2 : Int) : Option (Kb) :=
 (bif (m0.gE == (0 : Int)) then some (⟨m0.gL, a1, a2⟩ : Kb) else some m0)
theorem Kb6 (fu : Nat)   (m0 : Kb) (a1 : Int) (a2 : Int) : Le (KbC fu  m0 a1 a2) (KaD  m0 a1 a2) := by
 unfold KbC KaD
 repeat (first | exact Le.refl _ | assumption | (refine Le.bind ?_ (fun _ => ?_)) | (refine Le.cond ?_ ?_) | (refine Le.loopC (fun _ => ?_)) | (refine Le.elim (fun _ => ?_) (fun _ => ?_)))
def Ken (fu : Nat) (m0 : Kb) (a1 : ByteArray) : Option (Kb) :=
 ((Kdz fu m0 a1).bind fun x1 => (bif (!x1) then ((KbC fu m0 m0.gAt (3 : Int)).bind fun x5 => some x5) else some (⟨m0.gL, (IntKind.i64.wrap (m0.gAt + (1 : Int))), m0.gE⟩ : Kb)))
theorem Kh1 (fu : Nat)   (m0 : Kb) (a1 : ByteArray) : Le (Ken fu  m0 a1) (Ka1  m0 a1) := by
 unfold Ken Ka1
 repeat (first | exact Le.refl _ | assumption | exact Kfp fu _ _ | exact Kb6 fu _ _ _ | (refine Le.bind ?_ (fun _ => ?_)) | (refine Le.cond ?_ ?_) | (refine Le.loopC (fun _ => ?_)) | (refine Le.elim (fun _ => ?_) (fun _ => ?_)))
def KfZ (fu : Nat) (g0 : (Ka) → Option (Int)) (a0 : Ka) : Option (Int) :=
 (Option.bind (α := Int) (loopC fu (fun (s19 : Int × Int) => (bif (decide (s19.2 < (a0.gKids.length : Int))) then ((idx a0.gKids s19.2).bind fun x31 => ((g0 x31).bind fun x33 => some (.next ((max s19.1 x33), (IntKind.i64.wrap (s19.2 + (1 : Int))))))) else some (.done s19.1))) ((0 : Int), (0 : Int))) fun y18 => some (IntKind.i64.wrap (y18 + (1 : Int))))
theorem KjD (fu : Nat) (g0 g0' : (Ka) → Option (Int)) (hg0 : ∀ x0, Le (g0 x0) (g0' x0)) (a0 : Ka) : Le (KfZ fu g0 a0) (Kb9 g0' a0) := by
 unfold KfZ Kb9
 repeat (first | exact Le.refl _ | assumption | exact hg0 _ | (refine Le.bind ?_ (fun _ => ?_)) | (refine Le.cond ?_ ?_) | (refine Le.loopC (fun _ => ?_)) | (refine Le.elim (fun _ => ?_) (fun _ => ?_)))
def Kf0 (fu : Nat) : Nat → ((Ka) → Option (Int))
 | 0 => (fun _ => none)
 | n + 1 => (KfZ fu ((Kf0 fu n)))
theorem Kg3 (fu : Nat) : ∀ n, (∀ (a0 : Ka), Le ((Kf0 fu n) a0) ((KbI n) a0))
  | 0 => fun _ => Le.none _
  | n + 1 => by
    have ih := Kg3 fu n
    exact fun a0 => KjD fu _ _ ih a0
def Ki0 (fu : Nat) (a0 : Ka) : Option (Int) := (Kf0 fu fu) a0
theorem Kkz (fu : Nat) (a0 : Ka) : Le (Ki0 fu a0) (KfM a0) := fun r h => Kir a0 fu (((Kg3 fu fu) a0) r h)
def Kcs (fu : Nat) (m0 : Kb) (a1 : Ka) (a2 : Int) : Option (Ka × Kb) :=
 (bif (m0.gE != (0 : Int)) then some ((⟨(0 : Int), (0 : Int), ByteArray.empty, [], (0 : Int)⟩ : Ka), m0) else ((Ki0 fu a1).bind fun x6 => (bif (decide ((24 : Int) < x6)) then ((KbC fu m0 a2 (5 : Int)).bind fun x8 => some ((⟨(0 : Int), (0 : Int), ByteArray.empty, [], (0 : Int)⟩ : Ka), x8)) else some (a1, m0))))
theorem Kdw (fu : Nat)   (m0 : Kb) (a1 : Ka) (a2 : Int) : Le (Kcs fu  m0 a1 a2) (Kai  m0 a1 a2) := by
 unfold Kcs Kai
 repeat (first | exact Le.refl _ | assumption | exact Kkz fu _ | exact Kb6 fu _ _ _ | (refine Le.bind ?_ (fun _ => ?_)) | (refine Le.cond ?_ ?_) | (refine Le.loopC (fun _ => ?_)) | (refine Le.elim (fun _ => ?_) (fun _ => ?_)))
def Kc1 (fu : Nat) (a0 : ByteArray) (a1 : ByteArray) (a2 : Int) (a3 : ByteArray) (a4 : Int) : Option (Int) :=
 (bif (decide (a0 = a1)) then some a2 else (bif (decide (a0 = a3)) then some a4 else some (0 : Int)))
theorem KhF (fu : Nat)   (a0 : ByteArray) (a1 : ByteArray) (a2 : Int) (a3 : ByteArray) (a4 : Int) : Le (Kc1 fu  a0 a1 a2 a3 a4) (Kcm  a0 a1 a2 a3 a4) := by
 unfold Kc1 Kcm
 repeat (first | exact Le.refl _ | assumption | (refine Le.bind ?_ (fun _ => ?_)) | (refine Le.cond ?_ ?_) | (refine Le.loopC (fun _ => ?_)) | (refine Le.elim (fun _ => ?_) (fun _ => ?_)))
def Kc4 (fu : Nat) (m0 : Kb) : Option (ByteArray × Kb) :=
 ((KbV fu m0).bind fun x1 => (bif (x1.gKind != (1 : Int)) then ((KbC fu m0 m0.gAt (3 : Int)).bind fun x6 => some ((ByteArray.mk #[]), x6)) else some (x1.gText, (⟨m0.gL, (IntKind.i64.wrap (m0.gAt + (1 : Int))), m0.gE⟩ : Kb))))
theorem KhG (fu : Nat)   (m0 : Kb) : Le (Kc4 fu  m0) (Kbf  m0) := by
 unfold Kc4 Kbf
 repeat (first | exact Le.refl _ | assumption | exact KcE fu _ | exact Kb6 fu _ _ _ | (refine Le.bind ?_ (fun _ => ?_)) | (refine Le.cond ?_ ?_) | (refine Le.loopC (fun _ => ?_)) | (refine Le.elim (fun _ => ?_) (fun _ => ?_)))
def Kfk (fu : Nat) (a0 : Int) (a1 : ByteArray) : Option (Int) :=
 (bif (a0 == (0 : Int)) then (bif (decide (a1 = (ByteArray.mk #[124, 124]))) then some (17 : Int) else some (0 : Int)) else (bif (a0 == (1 : Int)) then (bif (decide (a1 = (ByteArray.mk #[38, 38]))) then some (16 : Int) else some (0 : Int)) else (bif (a0 == (2 : Int)) then ((Kc1 fu a1 (ByteArray.mk #[61, 61]) (14 : Int) (ByteArray.mk #[33, 61]) (15 : Int)).bind fun x10 => some x10) else (bif (a0 == (3 : Int)) then ((Kc1 fu a1 (ByteArray.mk #[60]) (12 : Int) (ByteArray.mk #[60, 61]) (13 : Int)).bind fun x13 => some x13) else (bif (a0 == (4 : Int)) then ((Kc1 fu a1 (ByteArray.mk #[43]) (10 : Int) (ByteArray.mk #[45]) (11 : Int)).bind fun x16 => some x16) else (bif (a0 == (5 : Int)) then (bif (decide (a1 = (ByteArray.mk #[37]))) then some (9 : Int) else ((Kc1 fu a1 (ByteArray.mk #[42]) (7 : Int) (ByteArray.mk #[47]) (8 : Int)).bind fun x22 => some x22)) else some (0 : Int)))))))
theorem KiP (fu : Nat)   (a0 : Int) (a1 : ByteArray) : Le (Kfk fu  a0 a1) (Kbo  a0 a1) := by
 unfold Kfk Kbo
 repeat (first | exact Le.refl _ | assumption | exact KhF fu _ _ _ _ _ | (refine Le.bind ?_ (fun _ => ?_)) | (refine Le.cond ?_ ?_) | (refine Le.loopC (fun _ => ?_)) | (refine Le.elim (fun _ => ?_) (fun _ => ?_)))
def KdT (fu : Nat) (g0 : (Kb) → (Int) → Option (Ka × Kb)) (g1 : (Kb) → Option (Ka × Kb)) (g2 : (Kb) → (Ka) → (Int) → (Int) → Option (Ka × Kb)) (g3 : (Kb) → (ByteArray) → Option (Ka × Kb)) (g4 : (Kb) → (Kq) → (Int) → Option (Ka × Kb)) (m0 : Kb) (a1 : Int) : Option (Ka × Kb) :=
 (bif (a1 == (6 : Int)) then ((g1 m0).bind fun x5 => some (x5.1, x5.2)) else ((g0 m0 (IntKind.i64.wrap (a1 + (1 : Int)))).bind fun x7 => (Option.bind (α := List Kq × Int × Int × Int × Int × ByteArray × List Ka × Int) (loopC fu (fun (s51 : List Kq × Int × Int × Int × Int × ByteArray × List Ka × Int) => (bif (s51.2.2.1 == (0 : Int)) then ((KbV fu (⟨s51.1, s51.2.1, s51.2.2.1⟩ : Kb)).bind fun x79 => (Option.bind (α := Int) (bif (x79.gKind == (3 : Int)) then ((Kfk fu a1 x79.gText).bind fun x85 => some x85) else some (0 : Int)) fun y83 => (bif (y83 == (0 : Int)) then some (.done (s51.1, s51.2.1, s51.2.2.1, s51.2.2.2.1, s51.2.2.2.2.1, s51.2.2.2.2.2.1, s51.2.2.2.2.2.2.1, s51.2.2.2.2.2.2.2)) else ((g0 (⟨s51.1, (IntKind.i64.wrap (s51.2.1 + (1 : Int))), s51.2.2.1⟩ : Kb) (IntKind.i64.wrap (a1 + (1 : Int)))).bind fun x87 => ((Kcs fu x87.2 (⟨y83, (0 : Int), ByteArray.empty, ([(⟨s51.2.2.2.1, s51.2.2.2.2.1, s51.2.2.2.2.2.1, s51.2.2.2.2.2.2.1, s51.2.2.2.2.2.2.2⟩ : Ka), x87.1] : List Ka), x79.gAt⟩ : Ka) s51.2.1).bind fun x89 => some (.next (x89.2.gL, x89.2.gAt, x89.2.gE, x89.1.gOp, x89.1.gN, x89.1.gName, x89.1.gKids, x89.1.gAt))))))) else some (.done (s51.1, s51.2.1, s51.2.2.1, s51.2.2.2.1, s51.2.2.2.2.1, s51.2.2.2.2.2.1, s51.2.2.2.2.2.2.1, s51.2.2.2.2.2.2.2)))) (x7.2.gL, x7.2.gAt, x7.2.gE, x7.1.gOp, x7.1.gN, x7.1.gName, x7.1.gKids, x7.1.gAt)) fun y50 => some ((⟨y50.2.2.2.1, y50.2.2.2.2.1, y50.2.2.2.2.2.1, y50.2.2.2.2.2.2.1, y50.2.2.2.2.2.2.2⟩ : Ka), (⟨y50.1, y50.2.1, y50.2.2.1⟩ : Kb)))))
theorem Khd (fu : Nat) (g0 g0' : (Kb) → (Int) → Option (Ka × Kb)) (g1 g1' : (Kb) → Option (Ka × Kb)) (g2 g2' : (Kb) → (Ka) → (Int) → (Int) → Option (Ka × Kb)) (g3 g3' : (Kb) → (ByteArray) → Option (Ka × Kb)) (g4 g4' : (Kb) → (Kq) → (Int) → Option (Ka × Kb)) (hg0 : ∀ x0 x1, Le (g0 x0 x1) (g0' x0 x1)) (hg1 : ∀ x0, Le (g1 x0) (g1' x0)) (hg2 : ∀ x0 x1 x2 x3, Le (g2 x0 x1 x2 x3) (g2' x0 x1 x2 x3)) (hg3 : ∀ x0 x1, Le (g3 x0 x1) (g3' x0 x1)) (hg4 : ∀ x0 x1 x2, Le (g4 x0 x1 x2) (g4' x0 x1 x2)) (m0 : Kb) (a1 : Int) : Le (KdT fu g0 g1 g2 g3 g4 m0 a1) (KaM g0' g1' g2' g3' g4' m0 a1) := by
 unfold KdT KaM
 repeat (first | exact Le.refl _ | assumption | exact hg0 _ _ | exact hg1 _ | exact hg2 _ _ _ _ | exact hg3 _ _ | exact hg4 _ _ _ | exact KcE fu _ | exact KiP fu _ _ | exact Kdw fu _ _ _ | (refine Le.bind ?_ (fun _ => ?_)) | (refine Le.cond ?_ ?_) | (refine Le.loopC (fun _ => ?_)) | (refine Le.elim (fun _ => ?_) (fun _ => ?_)))
def KdJ (fu : Nat) (g0 : (Kb) → (Int) → Option (Ka × Kb)) (g1 : (Kb) → Option (Ka × Kb)) (g2 : (Kb) → (Ka) → (Int) → (Int) → Option (Ka × Kb)) (g3 : (Kb) → (ByteArray) → Option (Ka × Kb)) (g4 : (Kb) → (Kq) → (Int) → Option (Ka × Kb)) (m0 : Kb) : Option (Ka × Kb) :=
 ((KbV fu m0).bind fun x2 => (bif (m0.gE != (0 : Int)) then some ((⟨(0 : Int), (0 : Int), ByteArray.empty, [], (0 : Int)⟩ : Ka), m0) else (bif (x2.gKind == (2 : Int)) then some ((⟨(1 : Int), x2.gN, ByteArray.empty, [], x2.gAt⟩ : Ka), (⟨m0.gL, (IntKind.i64.wrap (m0.gAt + (1 : Int))), m0.gE⟩ : Kb)) else (bif (x2.gKind == (1 : Int)) then ((g2 (⟨m0.gL, (IntKind.i64.wrap (m0.gAt + (1 : Int))), m0.gE⟩ : Kb) (⟨(2 : Int), (0 : Int), x2.gText, [], x2.gAt⟩ : Ka) (3 : Int) m0.gAt).bind fun x24 => some (x24.1, x24.2)) else (bif (x2.gKind == (3 : Int)) then ((g4 (⟨m0.gL, (IntKind.i64.wrap (m0.gAt + (1 : Int))), m0.gE⟩ : Kb) x2 m0.gAt).bind fun x29 => some (x29.1, x29.2)) else ((KbC fu (⟨m0.gL, (IntKind.i64.wrap (m0.gAt + (1 : Int))), m0.gE⟩ : Kb) m0.gAt (3 : Int)).bind fun x31 => some ((⟨(0 : Int), (0 : Int), ByteArray.empty, [], (0 : Int)⟩ : Ka), x31)))))))
theorem KgR (fu : Nat) (g0 g0' : (Kb) → (Int) → Option (Ka × Kb)) (g1 g1' : (Kb) → Option (Ka × Kb)) (g2 g2' : (Kb) → (Ka) → (Int) → (Int) → Option (Ka × Kb)) (g3 g3' : (Kb) → (ByteArray) → Option (Ka × Kb)) (g4 g4' : (Kb) → (Kq) → (Int) → Option (Ka × Kb)) (hg0 : ∀ x0 x1, Le (g0 x0 x1) (g0' x0 x1)) (hg1 : ∀ x0, Le (g1 x0) (g1' x0)) (hg2 : ∀ x0 x1 x2 x3, Le (g2 x0 x1 x2 x3) (g2' x0 x1 x2 x3)) (hg3 : ∀ x0 x1, Le (g3 x0 x1) (g3' x0 x1)) (hg4 : ∀ x0 x1 x2, Le (g4 x0 x1 x2) (g4' x0 x1 x2)) (m0 : Kb) : Le (KdJ fu g0 g1 g2 g3 g4 m0) (KaX g0' g1' g2' g3' g4' m0) := by
 unfold KdJ KaX
 repeat (first | exact Le.refl _ | assumption | exact hg0 _ _ | exact hg1 _ | exact hg2 _ _ _ _ | exact hg3 _ _ | exact hg4 _ _ _ | exact KcE fu _ | exact Kb6 fu _ _ _ | (refine Le.bind ?_ (fun _ => ?_)) | (refine Le.cond ?_ ?_) | (refine Le.loopC (fun _ => ?_)) | (refine Le.elim (fun _ => ?_) (fun _ => ?_)))
def Kc2 (fu : Nat) (g0 : (Kb) → (Int) → Option (Ka × Kb)) (g1 : (Kb) → Option (Ka × Kb)) (g2 : (Kb) → (Ka) → (Int) → (Int) → Option (Ka × Kb)) (g3 : (Kb) → (ByteArray) → Option (Ka × Kb)) (g4 : (Kb) → (Kq) → (Int) → Option (Ka × Kb)) (m0 : Kb) (a1 : Ka) (a2 : Int) (a3 : Int) : Option (Ka × Kb) :=
 (Option.bind (α := Bool) (bif (m0.gE != (0 : Int)) then some true else ((Kdz fu m0 (ByteArray.mk #[91])).bind fun x7 => some (!x7))) fun y5 => (bif y5 then some (a1, m0) else ((g3 (⟨m0.gL, (IntKind.i64.wrap (m0.gAt + (1 : Int))), m0.gE⟩ : Kb) (ByteArray.mk #[93])).bind fun x11 => ((Kcs fu x11.2 (⟨a2, a1.gN, a1.gName, ([x11.1] : List Ka), a1.gAt⟩ : Ka) a3).bind fun x12 => some (x12.1, x12.2)))))
theorem Kf1 (fu : Nat) (g0 g0' : (Kb) → (Int) → Option (Ka × Kb)) (g1 g1' : (Kb) → Option (Ka × Kb)) (g2 g2' : (Kb) → (Ka) → (Int) → (Int) → Option (Ka × Kb)) (g3 g3' : (Kb) → (ByteArray) → Option (Ka × Kb)) (g4 g4' : (Kb) → (Kq) → (Int) → Option (Ka × Kb)) (hg0 : ∀ x0 x1, Le (g0 x0 x1) (g0' x0 x1)) (hg1 : ∀ x0, Le (g1 x0) (g1' x0)) (hg2 : ∀ x0 x1 x2 x3, Le (g2 x0 x1 x2 x3) (g2' x0 x1 x2 x3)) (hg3 : ∀ x0 x1, Le (g3 x0 x1) (g3' x0 x1)) (hg4 : ∀ x0 x1 x2, Le (g4 x0 x1 x2) (g4' x0 x1 x2)) (m0 : Kb) (a1 : Ka) (a2 : Int) (a3 : Int) : Le (Kc2 fu g0 g1 g2 g3 g4 m0 a1 a2 a3) (Kax g0' g1' g2' g3' g4' m0 a1 a2 a3) := by
 unfold Kc2 Kax
 repeat (first | exact Le.refl _ | assumption | exact hg0 _ _ | exact hg1 _ | exact hg2 _ _ _ _ | exact hg3 _ _ | exact hg4 _ _ _ | exact Kfp fu _ _ | exact Kdw fu _ _ _ | (refine Le.bind ?_ (fun _ => ?_)) | (refine Le.cond ?_ ?_) | (refine Le.loopC (fun _ => ?_)) | (refine Le.elim (fun _ => ?_) (fun _ => ?_)))
def KdU (fu : Nat) (g0 : (Kb) → (Int) → Option (Ka × Kb)) (g1 : (Kb) → Option (Ka × Kb)) (g2 : (Kb) → (Ka) → (Int) → (Int) → Option (Ka × Kb)) (g3 : (Kb) → (ByteArray) → Option (Ka × Kb)) (g4 : (Kb) → (Kq) → (Int) → Option (Ka × Kb)) (m0 : Kb) (a1 : ByteArray) : Option (Ka × Kb) :=
 ((g0 m0 (0 : Int)).bind fun x2 => (bif (x2.2.gE == (0 : Int)) then ((Ken fu x2.2 a1).bind fun x5 => some (x2.1, x5)) else some (x2.1, x2.2)))
theorem Khe (fu : Nat) (g0 g0' : (Kb) → (Int) → Option (Ka × Kb)) (g1 g1' : (Kb) → Option (Ka × Kb)) (g2 g2' : (Kb) → (Ka) → (Int) → (Int) → Option (Ka × Kb)) (g3 g3' : (Kb) → (ByteArray) → Option (Ka × Kb)) (g4 g4' : (Kb) → (Kq) → (Int) → Option (Ka × Kb)) (hg0 : ∀ x0 x1, Le (g0 x0 x1) (g0' x0 x1)) (hg1 : ∀ x0, Le (g1 x0) (g1' x0)) (hg2 : ∀ x0 x1 x2 x3, Le (g2 x0 x1 x2 x3) (g2' x0 x1 x2 x3)) (hg3 : ∀ x0 x1, Le (g3 x0 x1) (g3' x0 x1)) (hg4 : ∀ x0 x1 x2, Le (g4 x0 x1 x2) (g4' x0 x1 x2)) (m0 : Kb) (a1 : ByteArray) : Le (KdU fu g0 g1 g2 g3 g4 m0 a1) (Ka8 g0' g1' g2' g3' g4' m0 a1) := by
 unfold KdU Ka8
 repeat (first | exact Le.refl _ | assumption | exact hg0 _ _ | exact hg1 _ | exact hg2 _ _ _ _ | exact hg3 _ _ | exact hg4 _ _ _ | exact Kh1 fu _ _ | (refine Le.bind ?_ (fun _ => ?_)) | (refine Le.cond ?_ ?_) | (refine Le.loopC (fun _ => ?_)) | (refine Le.elim (fun _ => ?_) (fun _ => ?_)))
def KdK (fu : Nat) (g0 : (Kb) → (Int) → Option (Ka × Kb)) (g1 : (Kb) → Option (Ka × Kb)) (g2 : (Kb) → (Ka) → (Int) → (Int) → Option (Ka × Kb)) (g3 : (Kb) → (ByteArray) → Option (Ka × Kb)) (g4 : (Kb) → (Kq) → (Int) → Option (Ka × Kb)) (m0 : Kb) (a1 : Kq) (a2 : Int) : Option (Ka × Kb) :=
 (Option.bind (α := Bool) (bif (decide (a1.gText = (ByteArray.mk #[45]))) then some (decide (a1.gText = (ByteArray.mk #[45]))) else some (decide (a1.gText = (ByteArray.mk #[33])))) fun y19 => (bif y19 then ((Kc1 fu a1.gText (ByteArray.mk #[45]) (5 : Int) (ByteArray.mk #[33]) (6 : Int)).bind fun x34 => ((g1 m0).bind fun x35 => ((Kcs fu x35.2 (⟨x34, (0 : Int), ByteArray.empty, ([x35.1] : List Ka), a1.gAt⟩ : Ka) a2).bind fun x36 => some (x36.1, x36.2)))) else (bif (decide (a1.gText = (ByteArray.mk #[42]))) then ((Kc4 fu m0).bind fun x47 => some ((⟨(4 : Int), (0 : Int), x47.1, [], a1.gAt⟩ : Ka), x47.2)) else (bif (decide (a1.gText = (ByteArray.mk #[38]))) then ((Kc4 fu m0).bind fun x56 => ((g2 x56.2 (⟨(19 : Int), (0 : Int), x56.1, [], a1.gAt⟩ : Ka) (20 : Int) a2).bind fun x57 => some (x57.1, x57.2))) else (bif (decide (a1.gText = (ByteArray.mk #[110, 117, 108, 108]))) then some ((⟨(18 : Int), (0 : Int), ByteArray.empty, [], a1.gAt⟩ : Ka), m0) else (bif (decide (a1.gText = (ByteArray.mk #[40]))) then ((g3 m0 (ByteArray.mk #[41])).bind fun x67 => some (x67.1, x67.2)) else ((KbC fu m0 a2 (3 : Int)).bind fun x69 => some ((⟨(0 : Int), (0 : Int), ByteArray.empty, [], (0 : Int)⟩ : Ka), x69))))))))
theorem KgS (fu : Nat) (g0 g0' : (Kb) → (Int) → Option (Ka × Kb)) (g1 g1' : (Kb) → Option (Ka × Kb)) (g2 g2' : (Kb) → (Ka) → (Int) → (Int) → Option (Ka × Kb)) (g3 g3' : (Kb) → (ByteArray) → Option (Ka × Kb)) (g4 g4' : (Kb) → (Kq) → (Int) → Option (Ka × Kb)) (hg0 : ∀ x0 x1, Le (g0 x0 x1) (g0' x0 x1)) (hg1 : ∀ x0, Le (g1 x0) (g1' x0)) (hg2 : ∀ x0 x1 x2 x3, Le (g2 x0 x1 x2 x3) (g2' x0 x1 x2 x3)) (hg3 : ∀ x0 x1, Le (g3 x0 x1) (g3' x0 x1)) (hg4 : ∀ x0 x1 x2, Le (g4 x0 x1 x2) (g4' x0 x1 x2)) (m0 : Kb) (a1 : Kq) (a2 : Int) : Le (KdK fu g0 g1 g2 g3 g4 m0 a1 a2) (KaY g0' g1' g2' g3' g4' m0 a1 a2) := by
 unfold KdK KaY
 repeat (first | exact Le.refl _ | assumption | exact hg0 _ _ | exact hg1 _ | exact hg2 _ _ _ _ | exact hg3 _ _ | exact hg4 _ _ _ | exact KhF fu _ _ _ _ _ | exact Kdw fu _ _ _ | exact KhG fu _ | exact Kb6 fu _ _ _ | (refine Le.bind ?_ (fun _ => ?_)) | (refine Le.cond ?_ ?_) | (refine Le.loopC (fun _ => ?_)) | (refine Le.elim (fun _ => ?_) (fun _ => ?_)))
def KQ (fu : Nat) : Nat → ((Kb) → (Int) → Option (Ka × Kb)) × ((Kb) → Option (Ka × Kb)) × ((Kb) → (Ka) → (Int) → (Int) → Option (Ka × Kb)) × ((Kb) → (ByteArray) → Option (Ka × Kb)) × ((Kb) → (Kq) → (Int) → Option (Ka × Kb))
 | 0 => (fun _ _ => none, fun _ => none, fun _ _ _ _ => none, fun _ _ => none, fun _ _ _ => none)
 | n + 1 => (KdT fu ((KQ fu n).1) ((KQ fu n).2.1) ((KQ fu n).2.2.1) ((KQ fu n).2.2.2.1) ((KQ fu n).2.2.2.2), KdJ fu ((KQ fu n).1) ((KQ fu n).2.1) ((KQ fu n).2.2.1) ((KQ fu n).2.2.2.1) ((KQ fu n).2.2.2.2), Kc2 fu ((KQ fu n).1) ((KQ fu n).2.1) ((KQ fu n).2.2.1) ((KQ fu n).2.2.2.1) ((KQ fu n).2.2.2.2), KdU fu ((KQ fu n).1) ((KQ fu n).2.1) ((KQ fu n).2.2.1) ((KQ fu n).2.2.2.1) ((KQ fu n).2.2.2.2), KdK fu ((KQ fu n).1) ((KQ fu n).2.1) ((KQ fu n).2.2.1) ((KQ fu n).2.2.2.1) ((KQ fu n).2.2.2.2))
theorem KeJ (fu : Nat) : ∀ n, (∀ (m0 : Kb) (a1 : Int), Le ((KQ fu n).1 m0 a1) ((Ko n).1 m0 a1)) ∧ (∀ (m0 : Kb), Le ((KQ fu n).2.1 m0) ((Ko n).2.1 m0)) ∧ (∀ (m0 : Kb) (a1 : Ka) (a2 : Int) (a3 : Int), Le ((KQ fu n).2.2.1 m0 a1 a2 a3) ((Ko n).2.2.1 m0 a1 a2 a3)) ∧ (∀ (m0 : Kb) (a1 : ByteArray), Le ((KQ fu n).2.2.2.1 m0 a1) ((Ko n).2.2.2.1 m0 a1)) ∧ (∀ (m0 : Kb) (a1 : Kq) (a2 : Int), Le ((KQ fu n).2.2.2.2 m0 a1 a2) ((Ko n).2.2.2.2 m0 a1 a2))
  | 0 => ⟨fun _ _ => Le.none _, fun _ => Le.none _, fun _ _ _ _ => Le.none _, fun _ _ => Le.none _, fun _ _ _ => Le.none _⟩
  | n + 1 => by
    have ih := KeJ fu n
    exact ⟨fun m0 a1 => Khd fu _ _ _ _ _ _ _ _ _ _ ih.1 ih.2.1 ih.2.2.1 ih.2.2.2.1 ih.2.2.2.2 m0 a1, fun m0 => KgR fu _ _ _ _ _ _ _ _ _ _ ih.1 ih.2.1 ih.2.2.1 ih.2.2.2.1 ih.2.2.2.2 m0, fun m0 a1 a2 a3 => Kf1 fu _ _ _ _ _ _ _ _ _ _ ih.1 ih.2.1 ih.2.2.1 ih.2.2.2.1 ih.2.2.2.2 m0 a1 a2 a3, fun m0 a1 => Khe fu _ _ _ _ _ _ _ _ _ _ ih.1 ih.2.1 ih.2.2.1 ih.2.2.2.1 ih.2.2.2.2 m0 a1, fun m0 a1 a2 => KgS fu _ _ _ _ _ _ _ _ _ _ ih.1 ih.2.1 ih.2.2.1 ih.2.2.2.1 ih.2.2.2.2 m0 a1 a2⟩
def KfR (fu : Nat) (m0 : Kb) (a1 : Int) : Option (Ka × Kb) := (KQ fu fu).1 m0 a1
theorem Kh2 (fu : Nat) (m0 : Kb) (a1 : Int) : Le (KfR fu m0 a1) (KcY m0 a1) := fun r h => Kfn m0 a1 fu (((KeJ fu fu).1 m0 a1) r h)
def KgJ (fu : Nat) (a0 : List Kq) (a1 : Int) : Option (Ka × Int × Int) :=
 (Option.bind (α := Bool) (bif (decide (a1 < (0 : Int))) then some true else some (decide ((a0.length : Int) < a1))) fun y3 => (bif y3 then some ((⟨(0 : Int), (0 : Int), ByteArray.empty, [], (0 : Int)⟩ : Ka), (0 : Int), (2 : Int)) else ((KfR fu (⟨a0, a1, (0 : Int)⟩ : Kb) (0 : Int)).bind fun x9 => (bif (x9.2.gE != (0 : Int)) then some ((⟨(0 : Int), (0 : Int), ByteArray.empty, [], (0 : Int)⟩ : Ka), x9.2.gAt, x9.2.gE) else some (x9.1, x9.2.gAt, (0 : Int))))))
theorem KjQ (fu : Nat)   (a0 : List Kq) (a1 : Int) : Le (KgJ fu  a0 a1) (Ket  a0 a1) := by
 unfold KgJ Ket
 repeat (first | exact Le.refl _ | assumption | exact Kh2 fu _ _ | (refine Le.bind ?_ (fun _ => ?_)) | (refine Le.cond ?_ ?_) | (refine Le.loopC (fun _ => ?_)) | (refine Le.elim (fun _ => ?_) (fun _ => ?_)))
def KaW (fu : Nat) (m0 : Ke) : Option (Ka × Ke) :=
 (bif (m0.gE != (0 : Int)) then some ((⟨(0 : Int), (0 : Int), ByteArray.empty, [], (0 : Int)⟩ : Ka), m0) else ((KgJ fu m0.gL (min m0.gAt (m0.gL.length : Int))).bind fun x5 => (bif (x5.2.2 != (0 : Int)) then ((KaP fu m0 x5.2.1 x5.2.2).bind fun x10 => some ((⟨(0 : Int), (0 : Int), ByteArray.empty, [], (0 : Int)⟩ : Ka), x10)) else some (x5.1, (⟨m0.gL, x5.2.1, m0.gE, m0.gVars, m0.gOpen⟩ : Ke)))))
theorem KbQ (fu : Nat)   (m0 : Ke) : Le (KaW fu  m0) (K9  m0) := by
 unfold KaW K9
 repeat (first | exact Le.refl _ | assumption | exact KjQ fu _ _ | exact Ka3 fu _ _ _ | (refine Le.bind ?_ (fun _ => ?_)) | (refine Le.cond ?_ ?_) | (refine Le.loopC (fun _ => ?_)) | (refine Le.elim (fun _ => ?_) (fun _ => ?_)))
def Kc5 (fu : Nat) (m0 : Ke) : Option (List Ka × Ke) :=
 ((K4 fu m0 ([(ByteArray.mk #[40])] : List ByteArray)).bind fun x1 => ((Kaj fu x1 (ByteArray.mk #[41])).bind fun x2 => (bif x2.1 then some (([] : List Ka), x2.2) else (Option.bind (α := List Ka × List Kq × Int × Int × Int × Int) (loopC fu (fun (s28 : List Ka × List Kq × Int × Int × Int × Int) => (bif (s28.2.2.2.1 == (0 : Int)) then ((KaW fu (⟨s28.2.1, s28.2.2.1, s28.2.2.2.1, s28.2.2.2.2.1, s28.2.2.2.2.2⟩ : Ke)).bind fun x43 => ((app 64 s28.1 ([x43.1] : List Ka)).bind fun x44 => ((Kaj fu x43.2 (ByteArray.mk #[44])).bind fun x45 => (bif (!x45.1) then some (.done (x44, x45.2.gL, x45.2.gAt, x45.2.gE, x45.2.gVars, x45.2.gOpen)) else some (.next (x44, x45.2.gL, x45.2.gAt, x45.2.gE, x45.2.gVars, x45.2.gOpen)))))) else some (.done (s28.1, s28.2.1, s28.2.2.1, s28.2.2.2.1, s28.2.2.2.2.1, s28.2.2.2.2.2)))) (([] : List Ka), x2.2.gL, x2.2.gAt, x2.2.gE, x2.2.gVars, x2.2.gOpen)) fun y27 => ((K4 fu (⟨y27.2.1, y27.2.2.1, y27.2.2.2.1, y27.2.2.2.2.1, y27.2.2.2.2.2⟩ : Ke) ([(ByteArray.mk #[41])] : List ByteArray)).bind fun x47 => some (y27.1, x47))))))
theorem Kga (fu : Nat)   (m0 : Ke) : Le (Kc5 fu  m0) (KaV  m0) := by
 unfold Kc5 KaV
 repeat (first | exact Le.refl _ | assumption | exact Kay fu _ _ | exact Ka9 fu _ _ | exact KbQ fu _ | (refine Le.bind ?_ (fun _ => ?_)) | (refine Le.cond ?_ ?_) | (refine Le.loopC (fun _ => ?_)) | (refine Le.elim (fun _ => ?_) (fun _ => ?_)))
def KcF (fu : Nat) (m0 : Ke) (a1 : Kl) : Option (Kl × Ke) :=
 ((Kbs fu m0).bind fun x3 => ((Kc5 fu x3.2).bind fun x5 => ((K4 fu x5.2 ([(ByteArray.mk #[59])] : List ByteArray)).bind fun x6 => some ((⟨(4 : Int), a1.gName, x3.1, x5.1, a1.gKids, a1.gElse, a1.gAt⟩ : Kl), x6))))
theorem Key (fu : Nat)   (m0 : Ke) (a1 : Kl) : Le (KcF fu  m0 a1) (KaQ  m0 a1) := by
 unfold KcF KaQ
 repeat (first | exact Le.refl _ | assumption | exact KbP fu _ | exact Kga fu _ | exact Kay fu _ _ | (refine Le.bind ?_ (fun _ => ?_)) | (refine Le.cond ?_ ?_) | (refine Le.loopC (fun _ => ?_)) | (refine Le.elim (fun _ => ?_) (fun _ => ?_)))
def Kc6 (fu : Nat) (m0 : Ke) (a1 : Kl) : Option (Kl × Ke) :=
 ((Kaj fu m0 (ByteArray.mk #[105, 110, 112, 117, 116])).bind fun x15 => (bif x15.1 then ((K4 fu x15.2 ([(ByteArray.mk #[40]), (ByteArray.mk #[41]), (ByteArray.mk #[59])] : List ByteArray)).bind fun x28 => some ((⟨(5 : Int), a1.gName, a1.gFunc, a1.gExps, a1.gKids, a1.gElse, a1.gAt⟩ : Kl), x28)) else (Option.bind (α := Bool) ((Kbr fu x15.2 (0 : Int)).bind fun x34 => (bif (x34.gKind == (1 : Int)) then ((KbB fu x15.2 (1 : Int) (ByteArray.mk #[40])).bind fun x36 => some x36) else some false)) fun y33 => (bif y33 then ((KcF fu x15.2 a1).bind fun x40 => some (x40.1, x40.2)) else ((KaW fu x15.2).bind fun x42 => ((K4 fu x42.2 ([(ByteArray.mk #[59])] : List ByteArray)).bind fun x43 => some ((⟨(1 : Int), a1.gName, a1.gFunc, ([x42.1] : List Ka), a1.gKids, a1.gElse, a1.gAt⟩ : Kl), x43)))))))
theorem Kgb (fu : Nat)   (m0 : Ke) (a1 : Kl) : Le (Kc6 fu  m0 a1) (KaO  m0 a1) := by
 unfold Kc6 KaO
 repeat (first | exact Le.refl _ | assumption | exact Ka9 fu _ _ | exact Kay fu _ _ | exact KbO fu _ _ | exact Kb5 fu _ _ _ | exact Key fu _ _ | exact KbQ fu _ | (refine Le.bind ?_ (fun _ => ?_)) | (refine Le.cond ?_ ?_) | (refine Le.loopC (fun _ => ?_)) | (refine Le.elim (fun _ => ?_) (fun _ => ?_)))
def Kdx (fu : Nat) (m0 : Ke) (a1 : Kl) : Option (Kl × Ke) :=
 ((KbB fu m0 (1 : Int) (ByteArray.mk #[40])).bind fun x3 => (bif x3 then ((KcF fu m0 a1).bind fun x7 => some (x7.1, x7.2)) else ((Kbs fu m0).bind fun x9 => ((Kaj fu x9.2 (ByteArray.mk #[91])).bind fun x10 => (bif x10.1 then ((KaW fu x10.2).bind fun x18 => ((K4 fu x18.2 ([(ByteArray.mk #[93]), (ByteArray.mk #[61])] : List ByteArray)).bind fun x20 => ((KaW fu x20).bind fun x21 => ((K4 fu x21.2 ([(ByteArray.mk #[59])] : List ByteArray)).bind fun x22 => some ((⟨(2 : Int), x9.1, a1.gFunc, ([x18.1, x21.1] : List Ka), a1.gKids, a1.gElse, a1.gAt⟩ : Kl), x22))))) else ((K4 fu x10.2 ([(ByteArray.mk #[61])] : List ByteArray)).bind fun x24 => ((Kc6 fu x24 (⟨a1.gOp, x9.1, a1.gFunc, a1.gExps, a1.gKids, a1.gElse, a1.gAt⟩ : Kl)).bind fun x25 => some (x25.1, x25.2))))))))
theorem KgK (fu : Nat)   (m0 : Ke) (a1 : Kl) : Le (Kdx fu  m0 a1) (Kbh  m0 a1) := by
 unfold Kdx Kbh
 repeat (first | exact Le.refl _ | assumption | exact Kb5 fu _ _ _ | exact Key fu _ _ | exact KbP fu _ | exact Ka9 fu _ _ | exact KbQ fu _ | exact Kay fu _ _ | exact Kgb fu _ _ | (refine Le.bind ?_ (fun _ => ?_)) | (refine Le.cond ?_ ?_) | (refine Le.loopC (fun _ => ?_)) | (refine Le.elim (fun _ => ?_) (fun _ => ?_)))
def Kb7 (fu : Nat) (m0 : Ke) : Option (List Ka × Ke) :=
 ((K4 fu m0 ([(ByteArray.mk #[40])] : List ByteArray)).bind fun x1 => ((KaW fu x1).bind fun x2 => ((K4 fu x2.2 ([(ByteArray.mk #[41])] : List ByteArray)).bind fun x4 => some (([x2.1] : List Ka), x4))))
theorem KgT (fu : Nat)   (m0 : Ke) : Le (Kb7 fu  m0) (Kbc  m0) := by
 unfold Kb7 Kbc
 repeat (first | exact Le.refl _ | assumption | exact Kay fu _ _ | exact KbQ fu _ | (refine Le.bind ?_ (fun _ => ?_)) | (refine Le.cond ?_ ?_) | (refine Le.loopC (fun _ => ?_)) | (refine Le.elim (fun _ => ?_) (fun _ => ?_)))
def Kez (fu : Nat)  : Option (Unit) :=
 some ()
theorem Kii (fu : Nat)    : Le (Kez fu  ) (grammar_nothing  ) := by
 unfold Kez grammar_nothing
 repeat (first | exact Le.refl _ | assumption | (refine Le.bind ?_ (fun _ => ?_)) | (refine Le.cond ?_ ?_) | (refine Le.loopC (fun _ => ?_)) | (refine Le.elim (fun _ => ?_) (fun _ => ?_)))
def Kc7 (fu : Nat) (g0 : (Ke) → Option (Kl × Ke)) (g1 : (Ke) → Option (List Kl × Ke)) (m0 : Ke) : Option (Kl × Ke) :=
 ((Kbr fu m0 (0 : Int)).bind fun x2 => (bif (x2.gKind == (1 : Int)) then ((Kdx fu m0 (⟨(0 : Int), ByteArray.empty, ByteArray.empty, [], [], [], x2.gAt⟩ : Kl)).bind fun x6 => some (x6.1, x6.2)) else ((Kaj fu m0 (ByteArray.mk #[42])).bind fun x8 => (bif x8.1 then ((Kbs fu x8.2).bind fun x10 => ((K4 fu x10.2 ([(ByteArray.mk #[61])] : List ByteArray)).bind fun x11 => ((KaW fu x11).bind fun x12 => ((K4 fu x12.2 ([(ByteArray.mk #[59])] : List ByteArray)).bind fun x13 => some ((⟨(3 : Int), x10.1, ByteArray.empty, ([x12.1] : List Ka), [], [], x2.gAt⟩ : Kl), x13))))) else ((Kaj fu x8.2 (ByteArray.mk #[105, 102])).bind fun x15 => (bif x15.1 then ((Kb7 fu x15.2).bind fun x18 => ((g1 x18.2).bind fun x20 => ((Kaj fu x20.2 (ByteArray.mk #[101, 108, 115, 101])).bind fun x21 => (bif x21.1 then ((g1 x21.2).bind fun x24 => some ((⟨(6 : Int), ByteArray.empty, ByteArray.empty, x18.1, x20.1, x24.1, x2.gAt⟩ : Kl), x24.2)) else some ((⟨(6 : Int), ByteArray.empty, ByteArray.empty, x18.1, x20.1, [], x2.gAt⟩ : Kl), x21.2))))) else ((Kaj fu x15.2 (ByteArray.mk #[119, 104, 105, 108, 101])).bind fun x27 => (bif x27.1 then ((Kb7 fu x27.2).bind fun x30 => ((g1 x30.2).bind fun x32 => some ((⟨(7 : Int), ByteArray.empty, ByteArray.empty, x30.1, x32.1, [], x2.gAt⟩ : Kl), x32.2))) else ((Kaj fu x27.2 (ByteArray.mk #[114, 101, 116, 117, 114, 110])).bind fun x34 => (bif x34.1 then ((KaW fu x34.2).bind fun x36 => ((K4 fu x36.2 ([(ByteArray.mk #[59])] : List ByteArray)).bind fun x37 => some ((⟨(8 : Int), ByteArray.empty, ByteArray.empty, ([x36.1] : List Ka), [], [], x2.gAt⟩ : Kl), x37))) else ((Kaj fu x34.2 (ByteArray.mk #[97, 115, 115, 101, 114, 116])).bind fun x39 => (bif x39.1 then ((Kb7 fu x39.2).bind fun x42 => ((K4 fu x42.2 ([(ByteArray.mk #[59])] : List ByteArray)).bind fun x43 => some ((⟨(9 : Int), ByteArray.empty, ByteArray.empty, x42.1, [], [], x2.gAt⟩ : Kl), x43))) else ((KaP fu x39.2 x39.2.gAt (3 : Int)).bind fun x45 => some ((⟨(0 : Int), ByteArray.empty, ByteArray.empty, [], [], [], x2.gAt⟩ : Kl), x45))))))))))))))
theorem Kgc (fu : Nat) (g0 g0' : (Ke) → Option (Kl × Ke)) (g1 g1' : (Ke) → Option (List Kl × Ke)) (hg0 : ∀ x0, Le (g0 x0) (g0' x0)) (hg1 : ∀ x0, Le (g1 x0) (g1' x0)) (m0 : Ke) : Le (Kc7 fu g0 g1 m0) (KaB g0' g1' m0) := by
 unfold Kc7 KaB
 repeat (first | exact Le.refl _ | assumption | exact hg0 _ | exact hg1 _ | exact KbO fu _ _ | exact KgK fu _ _ | exact Ka9 fu _ _ | exact KbP fu _ | exact Kay fu _ _ | exact KbQ fu _ | exact KgT fu _ | exact Ka3 fu _ _ _ | (refine Le.bind ?_ (fun _ => ?_)) | (refine Le.cond ?_ ?_) | (refine Le.loopC (fun _ => ?_)) | (refine Le.elim (fun _ => ?_) (fun _ => ?_)))
def KcN (fu : Nat) (g0 : (Ke) → Option (Kl × Ke)) (g1 : (Ke) → Option (List Kl × Ke)) (m0 : Ke) : Option (List Kl × Ke) :=
 ((K4 fu m0 ([(ByteArray.mk #[123])] : List ByteArray)).bind fun x1 => (Option.bind (α := List Kq × Int × Int × Int × Int) (bif (decide ((24 : Int) ≤ x1.gOpen)) then ((KaP fu x1 m0.gAt (5 : Int)).bind fun x6 => some (x6.gL, x6.gAt, x6.gE, x6.gVars, x6.gOpen)) else some (x1.gL, x1.gAt, x1.gE, x1.gVars, x1.gOpen)) fun y4 => ((Kez fu).bind fun x7 => (Option.bind (α := List Kl × List Kq × Int × Int × Int × Int) (loopC fu (fun (s38 : List Kl × List Kq × Int × Int × Int × Int) => (Option.bind (α := Bool × List Kq × Int × Int × Int × Int) (bif (s38.2.2.2.1 == (0 : Int)) then ((Kaj fu (⟨s38.2.1, s38.2.2.1, s38.2.2.2.1, s38.2.2.2.2.1, s38.2.2.2.2.2⟩ : Ke) (ByteArray.mk #[125])).bind fun x62 => some ((!x62.1), x62.2.gL, x62.2.gAt, x62.2.gE, x62.2.gVars, x62.2.gOpen)) else some (false, s38.2.1, s38.2.2.1, s38.2.2.2.1, s38.2.2.2.2.1, s38.2.2.2.2.2)) fun y60 => (bif y60.1 then ((g0 (⟨y60.2.1, y60.2.2.1, y60.2.2.2.1, y60.2.2.2.2.1, y60.2.2.2.2.2⟩ : Ke)).bind fun x64 => ((app 120 s38.1 ([x64.1] : List Kl)).bind fun x65 => some (.next (x65, x64.2.gL, x64.2.gAt, x64.2.gE, x64.2.gVars, x64.2.gOpen)))) else some (.done (s38.1, y60.2.1, y60.2.2.1, y60.2.2.2.1, y60.2.2.2.2.1, y60.2.2.2.2.2))))) (([] : List Kl), y4.1, y4.2.1, y4.2.2.1, y4.2.2.2.1, (IntKind.i64.wrap (y4.2.2.2.2 + (1 : Int))))) fun y37 => some (y37.1, (⟨y37.2.1, y37.2.2.1, y37.2.2.2.1, y37.2.2.2.2.1, (IntKind.i64.wrap (y37.2.2.2.2.2 - (1 : Int)))⟩ : Ke))))))
theorem KfS (fu : Nat) (g0 g0' : (Ke) → Option (Kl × Ke)) (g1 g1' : (Ke) → Option (List Kl × Ke)) (hg0 : ∀ x0, Le (g0 x0) (g0' x0)) (hg1 : ∀ x0, Le (g1 x0) (g1' x0)) (m0 : Ke) : Le (KcN fu g0 g1 m0) (Kau g0' g1' m0) := by
 unfold KcN Kau
 repeat (first | exact Le.refl _ | assumption | exact hg0 _ | exact hg1 _ | exact Kay fu _ _ | exact Ka3 fu _ _ _ | exact Kii fu | exact Ka9 fu _ _ | (refine Le.bind ?_ (fun _ => ?_)) | (refine Le.cond ?_ ?_) | (refine Le.loopC (fun _ => ?_)) | (refine Le.elim (fun _ => ?_) (fun _ => ?_)))
def Kbg (fu : Nat) : Nat → ((Ke) → Option (Kl × Ke)) × ((Ke) → Option (List Kl × Ke))
 | 0 => (fun _ => none, fun _ => none)
 | n + 1 => (Kc7 fu ((Kbg fu n).1) ((Kbg fu n).2), KcN fu ((Kbg fu n).1) ((Kbg fu n).2))
theorem Kd8 (fu : Nat) : ∀ n, (∀ (m0 : Ke), Le ((Kbg fu n).1 m0) ((KT n).1 m0)) ∧ (∀ (m0 : Ke), Le ((Kbg fu n).2 m0) ((KT n).2 m0))
  | 0 => ⟨fun _ => Le.none _, fun _ => Le.none _⟩
  | n + 1 => by
    have ih := Kd8 fu n
    exact ⟨fun m0 => Kgc fu _ _ _ _ ih.1 ih.2 m0, fun m0 => KfS fu _ _ _ _ ih.1 ih.2 m0⟩
def Ke4 (fu : Nat) (m0 : Ke) : Option (Kl × Ke) := (Kbg fu fu).1 m0
theorem KgU (fu : Nat) (m0 : Ke) : Le (Ke4 fu m0) (Kbd m0) := fun r h => KeE m0 fu (((Kd8 fu fu).1 m0) r h)
def Kdy (fu : Nat) (m0 : Ke) (m2 : KS) : Option (List Kl × Ke × KS) :=
 ((K4 fu m0 ([(ByteArray.mk #[123])] : List ByteArray)).bind fun x1 => (Option.bind (α := List Kq × Int × Int × Int × Int) (bif (decide ((24 : Int) ≤ x1.gOpen)) then ((KaP fu x1 m0.gAt (5 : Int)).bind fun x6 => some (x6.gL, x6.gAt, x6.gE, x6.gVars, x6.gOpen)) else some (x1.gL, x1.gAt, x1.gE, x1.gVars, x1.gOpen)) fun y4 => ((KcD fu m2 (⟨y4.1, y4.2.1, y4.2.2.1, y4.2.2.2.1, (IntKind.i64.wrap (y4.2.2.2.2 + (1 : Int)))⟩ : Ke)).bind fun x8 => (Option.bind (α := List Kl × List Kq × Int × Int × Int × Int) (loopC fu (fun (s39 : List Kl × List Kq × Int × Int × Int × Int) => (Option.bind (α := Bool × List Kq × Int × Int × Int × Int) (bif (s39.2.2.2.1 == (0 : Int)) then ((Kaj fu (⟨s39.2.1, s39.2.2.1, s39.2.2.2.1, s39.2.2.2.2.1, s39.2.2.2.2.2⟩ : Ke) (ByteArray.mk #[125])).bind fun x63 => some ((!x63.1), x63.2.gL, x63.2.gAt, x63.2.gE, x63.2.gVars, x63.2.gOpen)) else some (false, s39.2.1, s39.2.2.1, s39.2.2.2.1, s39.2.2.2.2.1, s39.2.2.2.2.2)) fun y61 => (bif y61.1 then ((Ke4 fu (⟨y61.2.1, y61.2.2.1, y61.2.2.2.1, y61.2.2.2.2.1, y61.2.2.2.2.2⟩ : Ke)).bind fun x65 => ((app 120 s39.1 ([x65.1] : List Kl)).bind fun x66 => some (.next (x66, x65.2.gL, x65.2.gAt, x65.2.gE, x65.2.gVars, x65.2.gOpen)))) else some (.done (s39.1, y61.2.1, y61.2.2.1, y61.2.2.2.1, y61.2.2.2.2.1, y61.2.2.2.2.2))))) (([] : List Kl), x8.1.gL, x8.1.gAt, x8.1.gE, x8.1.gVars, x8.1.gOpen)) fun y38 => some (y38.1, (⟨y38.2.1, y38.2.2.1, y38.2.2.2.1, y38.2.2.2.2.1, (IntKind.i64.wrap (y38.2.2.2.2.2 - (1 : Int)))⟩ : Ke), x8.2)))))
theorem KgL (fu : Nat)   (m0 : Ke) (m2 : KS) : Le (Kdy fu  m0 m2) (KaL  m0 m2) := by
 unfold Kdy KaL
 repeat (first | exact Le.refl _ | assumption | exact Kay fu _ _ | exact Ka3 fu _ _ _ | exact Kfm fu _ _ | exact Ka9 fu _ _ | exact KgU fu _ | (refine Le.bind ?_ (fun _ => ?_)) | (refine Le.cond ?_ ?_) | (refine Le.loopC (fun _ => ?_)) | (refine Le.elim (fun _ => ?_) (fun _ => ?_)))
def Kf2 (fu : Nat) (g0 : (Ka) → Option (Int)) (a0 : Ka) : Option (Int) :=
 (Option.bind (α := Int) (loopC fu (fun (s19 : Int × Int) => (bif (decide (s19.2 < (a0.gKids.length : Int))) then ((idx a0.gKids s19.2).bind fun x31 => ((g0 x31).bind fun x33 => some (.next ((IntKind.i64.wrap (s19.1 + x33)), (IntKind.i64.wrap (s19.2 + (1 : Int))))))) else some (.done s19.1))) ((1 : Int), (0 : Int))) fun y18 => some y18)
theorem KjE (fu : Nat) (g0 g0' : (Ka) → Option (Int)) (hg0 : ∀ x0, Le (g0 x0) (g0' x0)) (a0 : Ka) : Le (Kf2 fu g0 a0) (Kca g0' a0) := by
 unfold Kf2 Kca
 repeat (first | exact Le.refl _ | assumption | exact hg0 _ | (refine Le.bind ?_ (fun _ => ?_)) | (refine Le.cond ?_ ?_) | (refine Le.loopC (fun _ => ?_)) | (refine Le.elim (fun _ => ?_) (fun _ => ?_)))
def Kf3 (fu : Nat) : Nat → ((Ka) → Option (Int))
 | 0 => (fun _ => none)
 | n + 1 => (Kf2 fu ((Kf3 fu n)))
theorem Kg4 (fu : Nat) : ∀ n, (∀ (a0 : Ka), Le ((Kf3 fu n) a0) ((KbJ n) a0))
  | 0 => fun _ => Le.none _
  | n + 1 => by
    have ih := Kg4 fu n
    exact fun a0 => KjE fu _ _ ih a0
def Ki1 (fu : Nat) (a0 : Ka) : Option (Int) := (Kf3 fu fu) a0
theorem KkA (fu : Nat) (a0 : Ka) : Le (Ki1 fu a0) (KfN a0) := fun r h => Kit a0 fu (((Kg4 fu fu) a0) r h)
def Kfy (fu : Nat) (g0 : (List Kl) → Option (Int)) (a0 : List Kl) : Option (Int) :=
 (Option.bind (α := Int) (loopC fu (fun (s115 : Int × Int) => (bif (decide (s115.2 < (a0.length : Int))) then ((idx a0 s115.2).bind fun x191 => ((g0 x191.gKids).bind fun x193 => ((g0 x191.gElse).bind fun x194 => (Option.bind (α := Int) (loopC fu (fun (s211 : Int × Int) => (bif (decide (s211.2 < (x191.gExps.length : Int))) then ((idx x191.gExps s211.2).bind fun x223 => ((Ki1 fu x223).bind fun x225 => some (.next ((IntKind.i64.wrap (s211.1 + x225)), (IntKind.i64.wrap (s211.2 + (1 : Int))))))) else some (.done s211.1))) ((IntKind.i64.wrap (s115.1 + (IntKind.i64.wrap ((IntKind.i64.wrap ((1 : Int) + x193)) + x194)))), (0 : Int))) fun y210 => some (.next (y210, (IntKind.i64.wrap (s115.2 + (1 : Int))))))))) else some (.done s115.1))) ((0 : Int), (0 : Int))) fun y114 => some y114)
theorem Kjk (fu : Nat) (g0 g0' : (List Kl) → Option (Int)) (hg0 : ∀ x0, Le (g0 x0) (g0' x0)) (a0 : List Kl) : Le (Kfy fu g0 a0) (KbY g0' a0) := by
 unfold Kfy KbY
 repeat (first | exact Le.refl _ | assumption | exact hg0 _ | exact KkA fu _ | (refine Le.bind ?_ (fun _ => ?_)) | (refine Le.cond ?_ ?_) | (refine Le.loopC (fun _ => ?_)) | (refine Le.elim (fun _ => ?_) (fun _ => ?_)))
def Kfz (fu : Nat) : Nat → ((List Kl) → Option (Int))
 | 0 => (fun _ => none)
 | n + 1 => (Kfy fu ((Kfz fu n)))
theorem KgM (fu : Nat) : ∀ n, (∀ (a0 : List Kl), Le ((Kfz fu n) a0) ((Kbu n) a0))
  | 0 => fun _ => Le.none _
  | n + 1 => by
    have ih := KgM fu n
    exact fun a0 => Kjk fu _ _ ih a0
def KiB (fu : Nat) (a0 : List Kl) : Option (Int) := (Kfz fu fu) a0
theorem KjR (fu : Nat) (a0 : List Kl) : Le (KiB fu a0) (Keu a0) := fun r h => Kh9 a0 fu (((KgM fu fu) a0) r h)
def KcO (fu : Nat) (m0 : Ke) : Option (KS × Ke) :=
 ((Kbr fu m0 (0 : Int)).bind fun x3 => ((K4 fu m0 ([(ByteArray.mk #[105, 110, 116])] : List ByteArray)).bind fun x5 => ((Kbs fu x5).bind fun x6 => ((Kdv fu x6.2).bind fun x8 => ((Kdy fu x8.2 (⟨x6.1, x8.1, [], [], x3.gAt⟩ : KS)).bind fun x12 => (Option.bind (α := Bool) (bif (x12.2.1.gE == (0 : Int)) then ((KiB fu x12.1).bind fun x17 => some (decide ((800 : Int) < x17))) else some false) fun y15 => (bif y15 then ((KaP fu x12.2.1 x5.gAt (6 : Int)).bind fun x19 => some ((⟨x12.2.2.gName, x12.2.2.gParams, x12.2.2.gLocals, x12.1, x12.2.2.gAt⟩ : KS), x19)) else some ((⟨x12.2.2.gName, x12.2.2.gParams, x12.2.2.gLocals, x12.1, x12.2.2.gAt⟩ : KS), x12.2.1))))))))
theorem KfT (fu : Nat)   (m0 : Ke) : Le (KcO fu  m0) (Ka2  m0) := by
 unfold KcO Ka2
 repeat (first | exact Le.refl _ | assumption | exact KbO fu _ _ | exact Kay fu _ _ | exact KbP fu _ | exact KgI fu _ | exact KgL fu _ _ | exact KjR fu _ | exact Ka3 fu _ _ _ | (refine Le.bind ?_ (fun _ => ?_)) | (refine Le.cond ?_ ?_) | (refine Le.loopC (fun _ => ?_)) | (refine Le.elim (fun _ => ?_) (fun _ => ?_)))
def KfA (fu : Nat) (a0 : List Kq) (a1 : Int) : Option (KS × Int × Int) :=
 ((Kfj fu a0 a1).bind fun x3 => (bif (!x3.2) then some ((⟨ByteArray.empty, [], [], [], (0 : Int)⟩ : KS), (0 : Int), (2 : Int)) else ((KcO fu x3.1).bind fun x13 => (bif (x13.2.gE != (0 : Int)) then some ((⟨ByteArray.empty, [], [], [], (0 : Int)⟩ : KS), x13.2.gAt, x13.2.gE) else some (x13.1, x13.2.gAt, (0 : Int))))))
theorem Kjl (fu : Nat)   (a0 : List Kq) (a1 : Int) : Le (KfA fu  a0 a1) (Kcn  a0 a1) := by
 unfold KfA Kcn
 repeat (first | exact Le.refl _ | assumption | exact KiO fu _ _ | exact KfT fu _ | (refine Le.bind ?_ (fun _ => ?_)) | (refine Le.cond ?_ ?_) | (refine Le.loopC (fun _ => ?_)) | (refine Le.elim (fun _ => ?_) (fun _ => ?_)))
def Kc8 (fu : Nat) (a0 : List UInt8) : Option (KS × Int × Int) :=
 ((KgH fu a0).bind fun x4 => (bif (x4.2.2 != (0 : Int)) then some ((⟨ByteArray.empty, [], [], [], (0 : Int)⟩ : KS), x4.2.1, x4.2.2) else ((KfA fu x4.1 (0 : Int)).bind fun x14 => ((idx x4.1 (min x14.2.1 (IntKind.i64.wrap ((x4.1.length : Int) - (1 : Int))))).bind fun x16 => (bif (x14.2.2 != (0 : Int)) then some ((⟨ByteArray.empty, [], [], [], (0 : Int)⟩ : KS), x16.gAt, x14.2.2) else (bif (x16.gKind != (0 : Int)) then some ((⟨ByteArray.empty, [], [], [], (0 : Int)⟩ : KS), x16.gAt, (3 : Int)) else some (x14.1, (0 : Int), (0 : Int))))))))
theorem Kgd (fu : Nat)   (a0 : List UInt8) : Le (Kc8 fu  a0) (KbD  a0) := by
 unfold Kc8 KbD
 repeat (first | exact Le.refl _ | assumption | exact KjP fu _ | exact Kjl fu _ _ | (refine Le.bind ?_ (fun _ => ?_)) | (refine Le.cond ?_ ?_) | (refine Le.loopC (fun _ => ?_)) | (refine Le.elim (fun _ => ?_) (fun _ => ?_)))
def Keo (fu : Nat) (a0 : List UInt8) : Option (KS × Int × Int) :=
 ((Kc8 fu a0).bind fun x5 => some (x5.1, x5.2.1, x5.2.2))
theorem Kh3 (fu : Nat)   (a0 : List UInt8) : Le (Keo fu  a0) (KbE  a0) := by
 unfold Keo KbE
 repeat (first | exact Le.refl _ | assumption | exact Kgd fu _ | (refine Le.bind ?_ (fun _ => ?_)) | (refine Le.cond ?_ ?_) | (refine Le.loopC (fun _ => ?_)) | (refine Le.elim (fun _ => ?_) (fun _ => ?_)))
def Ki2 (fu : Nat)  : Option (Bool) :=
 ((Keo fu ([(105 : UInt8), (110 : UInt8), (116 : UInt8), (32 : UInt8), (102 : UInt8), (40 : UInt8), (105 : UInt8), (110 : UInt8), (116 : UInt8), (32 : UInt8), (42 : UInt8), (112 : UInt8), (41 : UInt8), (32 : UInt8), (123 : UInt8), (32 : UInt8), (114 : UInt8), (101 : UInt8), (116 : UInt8), (117 : UInt8), (114 : UInt8), (110 : UInt8), (32 : UInt8), (42 : UInt8), (112 : UInt8), (59 : UInt8), (32 : UInt8), (125 : UInt8)] : List UInt8)).bind fun x4 => (bif (x4.2.2 == (0 : Int)) then (bif (decide (x4.1.gName = (ByteArray.mk #[102]))) then (bif ((x4.1.gParams.length : Int) == (1 : Int)) then ((idx x4.1.gParams (0 : Int)).bind fun x9 => (bif x9.gPtr then (bif ((x4.1.gBody.length : Int) == (1 : Int)) then ((idx x4.1.gBody (0 : Int)).bind fun x12 => some (x12.gOp == (8 : Int))) else some false) else some false)) else some false) else some false) else some false))
theorem KkB (fu : Nat)    : Le (Ki2 fu  ) (l13_lives  ) := by
 unfold Ki2 l13_lives
 repeat (first | exact Le.refl _ | assumption | exact Kh3 fu _ | (refine Le.bind ?_ (fun _ => ?_)) | (refine Le.cond ?_ ?_) | (refine Le.loopC (fun _ => ?_)) | (refine Le.elim (fun _ => ?_) (fun _ => ?_)))
end Go.Proofs.Ytmgklehakmdiiaa.Ab
namespace Go.Proofs.Ytmgklehakmdiiaa.Ab
open Go
set_option linter.all false
theorem lives13 : l13_lives = some true := (KkB 90).of (by kernel_rfl)
end Go.Proofs.Ytmgklehakmdiiaa.Ab
namespace Go.Proofs.Ytmgklehakmdiiaa.Ab
open Go
set_option linter.all false
def wfL22 : List UInt8 → Prop := (fun y => (y.length ≤ maxLen ∧ ∀ z ∈ y, True))
theorem goodL22 {n : Nat} {d : D} (g : GoodT tab n 22 d) : ∃ x : List UInt8, d = .lst 1 (x.map byteD) .no ∧ wfL22 x := by
 obtain ⟨n1, zs1, _, rfl, hl1, hz1⟩ := good_slice ti22 rfl ti5 (g)
 obtain ⟨x1, rfl, w1⟩ := Kke (f := byteD) (K := (fun y => True)) (p := fun x => GoodT tab n1 5 x) (fun x hx => by obtain ⟨x2, rfl⟩ := good_u8 ti5 rfl (hx); exact ⟨x2, rfl, trivial⟩) zs1 hz1
 exact ⟨x1, rfl, ⟨by simpa using hl1, w1⟩⟩
theorem GrammarFuncs_true (a0 : List UInt8) (k0 : wfL22 a0) : KdQ a0 = some true := by
 unfold KdQ
 obtain ⟨r, h1, h2, s1, s2, s3⟩ := Pq.funcText_both a0
 rw [h1, h2]
 simp only [Option.bind_some, Kk1 s1 s2 s3, beq_self_eq_true, decide_true, Bool.and_self, cond_true, lives13]
end Go.Proofs.Ytmgklehakmdiiaa.Ab
namespace Go.Proofs.Ytmgklehakmdiiaa
open Go.ChangeShapes Go.WideShapes Go.ChangeAt Go.RowKit Go.Joins
set_option linter.all false
theorem KiC (os : Os) (started : os.Started) (H : Type) (enc : TypeId × Value → H) :
  ReturnsInHanded {} Try.checked os 3 .any (Rows.grammarFuncsSpec.pre6 enc Try.prog Try.f3 Rows.grammarFuncsRow.domain false) (Rows.grammarFuncsSpec.post enc Try.prog Try.f3 false true false false) := by
 refine returnsInHanded_of_change (C := Try.checked) own started (by kernel_rfl) Try.func3
  (ChangeSpec.witness6 (enc := enc) (C := Try.checked) false ⟨#[], #[.slice none 0 0], []⟩ 8 (by kernel_rfl) (by kernel_rfl) (by kernel_rfl) (by kernel_rfl)) ?_
 intro W base args ds gs before hval0 hW hcnd _
 have hval : ∀ (j : Nat) t v, Try.f3.params[j]? = some t → args[j]? = some v → Value.okWide Try.prog W .any base t v := hval0
 have hW' := hW
 obtain ⟨p, q, hA0, hV, rfl, hfz, hnd⟩ := hW
 have hA : DataW.TrodAll enc Try.prog W 0 (fun _ => true) true Try.f3.params.toList args.toList ds p := hA0
 obtain ⟨rfl, rfl⟩ := trodVars_none hV
 simp only [List.append_nil] at hW'
 have hback := Kkf laidOut' (by kernel_rfl) hA (fun x hx => hW'.lt x hx)
 rw [Try.params3] at hA hval
 obtain ⟨v0, vs0, d0, ds0, p0, q0, hargs, rfl, hp0, h0, r0⟩ := trodAll_cons hA
 obtain ⟨rfl, rfl, hpn⟩ := trodAll_nil r0
 obtain rfl : args = #[v0] := by cases args; simp_all
 obtain ⟨n0, x0, g0, rep0⟩ := Ab.rd_arg (t := 22) Ab.htab [5, 22] (by kernel_rfl) (by kernel_rfl) (hval 0 22 v0 rfl rfl) h0
 obtain ⟨a0, rfl, k0⟩ := Ab.goodL22 g0
 clear hA0 hval0
 refine (Ab.to_calls (us := #[v0]) (Ab.l13_GrammarFuncs_ok a0 true (Ab.GrammarFuncs_true a0 k0)) (Ab.ag_all W) (by simp only [Ab.RepsV]; exact ⟨_, _, rfl, rep0, rfl⟩)).mono fun e W' ⟨he, hb⟩ => ?_
 subst he
 exact ⟨_, rfl, _, _, _, [], p, [], hW', trodAll_cons_mk (shut_bool Try.underlying4 _) trodAll_mk0, hback W' hb _ (fun x hx => by simpa using hW'.lt x hx), rfl, hb.frame _, fun h => by cases h⟩
theorem grammarFuncs_holds : Rows.GrammarFuncsSaid :=
 OpenClaim.holds_of_wide 3 Try.f3 rfl rfl rfl rfl rfl rfl rfl ⟨rfl, rfl, rfl, rfl, rfl⟩ rfl rfl rfl rfl rfl (by kernel_rfl) Try.func3 (by kernel_rfl)
  (of_decide_eq_true (by kernel_rfl)) (by unfold Func.isWrapper; rw [if_neg (of_decide_eq_false (by kernel_rfl))]; exact ⟨rfl, rfl⟩)
  (fun os started H enc _ => KiC os started H enc)
#print axioms grammarFuncs_holds
end Go.Proofs.Ytmgklehakmdiiaa
