/- Layer 12: the parser; what it comes to on tokens that stand elsewhere. -/
import Derived.Test.YtbfbipcjdiipaaaEy
namespace Go.Proofs.Ytbfbipcjdiipaaa.Ab.Pq
open Go
set_option linter.all false
abbrev Tok := TApiToken
abbrev Xp := TApiExpr
abbrev Rdr := TParseReader
def z0 : Tok := ⟨0, ByteArray.empty, 0, 0⟩
def ex0 : Xp := ⟨0, 0, ByteArray.empty, [], 0⟩
def lk (L : List Tok) (i : Nat) : Tok := L.getD i z0
def mk (L : List Tok) (i : Nat) (e : Int) : Rdr := ⟨L, (i : Int), e⟩
theorem lk_end {L : List Tok} {i : Nat} (h : L.length ≤ i) : lk L i = z0 := by unfold lk; rw [List.getD_eq_getElem?_getD, List.getElem?_eq_none h]; rfl
theorem lk_lt {L : List Tok} {i : Nat} (h : (lk L i).gKind ≠ 0) : i < L.length := by
  rcases Nat.lt_or_ge i L.length with q | q
  · exact q
  · rw [lk_end q] at h; exact absurd rfl h
theorem look_eq (L : List Tok) (i : Nat) (e : Int) : parse_reader_look (mk L i e) = some (lk L i) := by
  unfold parse_reader_look mk
  simp only []
  by_cases h : L.length ≤ i
  · rw [decide_eq_true (by omega), cond_true, lk_end h]; rfl
  · rw [decide_eq_false (by omega), cond_false, idx_nat]
    unfold lk
    rw [List.getD_eq_getElem?_getD, List.getElem?_eq_getElem (by omega)]; rfl
def isS (L : List Tok) (i : Nat) (s : ByteArray) : Bool := (lk L i).gKind == 3 && decide ((lk L i).gText = s)
theorem is_eq (L : List Tok) (i : Nat) (e : Int) (s : ByteArray) : parse_reader_is (mk L i e) s = some (isS L i s) := by
  unfold parse_reader_is isS
  rw [look_eq, Option.bind_some]
  cases (lk L i).gKind == 3 <;> rfl
theorem isB_lt {L : List Tok} {i : Nat} {s : ByteArray} (h : isS L i s = true) : i < L.length ∧ (lk L i).gKind = 3 ∧ (lk L i).gText = s := by
  unfold isS at h
  simp only [Bool.and_eq_true, beq_iff_eq, decide_eq_true_eq] at h
  exact ⟨lk_lt (by rw [h.1]; decide), h⟩
theorem fail_eq (L : List Tok) (i a : Nat) (e k : Int) : parse_reader_fail (mk L i e) (a : Int) k = some (bif e == 0 then mk L a k else mk L i e) := by
  unfold parse_reader_fail mk
  cases h : e == 0 <;> simp only [h, cond_true, cond_false]
theorem winc {i : Nat} (h : i ≤ 4000000) : IntKind.i64.wrap ((i : Int) + 1) = ((i + 1 : Nat) : Int) := by rw [wrap_id (by omega) (by omega)]; omega
theorem eat_eq {L : List Tok} {i : Nat} (s : ByteArray) (h : i ≤ 4000000) : parse_reader_eat (mk L i 0) s = some (bif isS L i s then mk L (i + 1) 0 else mk L i 3) := by
  unfold parse_reader_eat
  rw [is_eq, Option.bind_some]
  cases isS L i s
  · simp only [Bool.not_false, cond_true, cond_false]
    show Option.bind (parse_reader_fail (mk L i 0) (i : Int) 3) _ = _
    rw [fail_eq, Option.bind_some]; rfl
  · simp only [Bool.not_true, cond_true, cond_false]
    show some (⟨L, IntKind.i64.wrap ((i : Int) + 1), 0⟩ : Rdr) = _
    rw [winc h]; rfl
theorem name_eq {L : List Tok} {i : Nat} (h : i ≤ 4000000) : parse_reader_name (mk L i 0) = some (bif (lk L i).gKind == 1 then ((lk L i).gText, mk L (i + 1) 0) else (ByteArray.empty, mk L i 3)) := by
  unfold parse_reader_name
  rw [look_eq, Option.bind_some]
  cases hk : (lk L i).gKind == 1
  · simp only [bne, hk, Bool.not_false, cond_true, cond_false]
    show Option.bind (parse_reader_fail (mk L i 0) (i : Int) 3) _ = _
    rw [fail_eq, Option.bind_some]; rfl
  · simp only [bne, hk, Bool.not_true, cond_true, cond_false]
    show some (_, (⟨L, IntKind.i64.wrap ((i : Int) + 1), 0⟩ : Rdr)) = _
    rw [winc h]; rfl
theorem sound_eq {L : List Tok} {i a : Nat} {e : Int} {x : Xp} (hx : e = 0 → szE x ≤ 1048576) : parse_reader_sound (mk L i e) x (a : Int) = some (bif e == 0 then bif decide (24 < dpE x) then (ex0, mk L a 5) else (x, mk L i 0) else (ex0, mk L i e)) := by
  unfold parse_reader_sound
  show (bif e != 0 then _ else _) = _
  cases he : e == 0
  · simp only [bne, he, Bool.not_false, cond_true, cond_false]; rfl
  · have h0 : e = 0 := by simpa using he
    subst h0
    simp only [bne, he, Bool.not_true, cond_true, cond_false]
    rw [deep_eq (hx rfl), Option.bind_some]
    by_cases hd : 24 < dpE x
    · rw [decide_eq_true (by omega), cond_true, decide_eq_true hd, cond_true, fail_eq, Option.bind_some]; rfl
    · rw [decide_eq_false (by omega), cond_false, decide_eq_false hd, cond_false]
noncomputable def bt (k : Int) (s : ByteArray) : Int := (parse_between k s).getD 0
theorem pick_eq (s a : ByteArray) (x : Int) (b : ByteArray) (y : Int) : parse_pick s a x b y = some (bif decide (s = a) then x else bif decide (s = b) then y else 0) := by
  unfold parse_pick
  cases decide (s = a) <;> cases decide (s = b) <;> rfl
theorem between_eq (k : Int) (s : ByteArray) : parse_between k s = some (bt k s) := by
  have h : ∃ r, parse_between k s = some r := by
    unfold parse_between
    simp only [pick_eq, Option.bind_some]
    cases k == 0
    · cases k == 1
      · cases k == 2
        · cases k == 3
          · cases k == 4
            · cases k == 5
              · exact ⟨_, rfl⟩
              · cases decide (s = ByteArray.mk #[37]) <;> exact ⟨_, rfl⟩
            · exact ⟨_, rfl⟩
          · exact ⟨_, rfl⟩
        · exact ⟨_, rfl⟩
      · cases decide (s = ByteArray.mk #[38, 38]) <;> exact ⟨_, rfl⟩
    · cases decide (s = ByteArray.mk #[124, 124]) <;> exact ⟨_, rfl⟩
  obtain ⟨r, h⟩ := h
  unfold bt; rw [h]; rfl
theorem bt_stop (k : Int) : bt k (ByteArray.mk #[41]) = 0 := by
  unfold bt parse_between
  simp only [pick_eq, Option.bind_some]
  rw [decide_eq_false (p := ByteArray.mk #[41] = ByteArray.mk #[124, 124]) (by decide), decide_eq_false (p := ByteArray.mk #[41] = ByteArray.mk #[38, 38]) (by decide), decide_eq_false (p := ByteArray.mk #[41] = ByteArray.mk #[61, 61]) (by decide), decide_eq_false (p := ByteArray.mk #[41] = ByteArray.mk #[33, 61]) (by decide), decide_eq_false (p := ByteArray.mk #[41] = ByteArray.mk #[60]) (by decide), decide_eq_false (p := ByteArray.mk #[41] = ByteArray.mk #[60, 61]) (by decide), decide_eq_false (p := ByteArray.mk #[41] = ByteArray.mk #[43]) (by decide), decide_eq_false (p := ByteArray.mk #[41] = ByteArray.mk #[45]) (by decide), decide_eq_false (p := ByteArray.mk #[41] = ByteArray.mk #[37]) (by decide), decide_eq_false (p := ByteArray.mk #[41] = ByteArray.mk #[42]) (by decide), decide_eq_false (p := ByteArray.mk #[41] = ByteArray.mk #[47]) (by decide)]
  cases k == 0 <;> cases k == 1 <;> cases k == 2 <;> cases k == 3 <;> cases k == 4 <;> cases k == 5 <;> rfl
/-! ### The same elsewhere -/
mutual
def shE (p : Int) : Xp → Xp
  | ⟨a, b, c, ks, d⟩ => ⟨a, b, c, shEs p ks, d + p⟩
def shEs (p : Int) : List Xp → List Xp
  | [] => []
  | e :: l => shE p e :: shEs p l
end
theorem shE_eq (p : Int) (e : Xp) : shE p e = ⟨e.gOp, e.gN, e.gName, shEs p e.gKids, e.gAt + p⟩ := by cases e; simp only [shE]
def shT (p : Int) (t : Tok) : Tok := ⟨t.gKind, t.gText, t.gN, t.gAt + p⟩
mutual
theorem dpE_sh (p : Int) : ∀ e, dpE (shE p e) = dpE e
  | ⟨a, b, c, ks, d⟩ => by simp only [shE, dpE, dpEs_sh p ks]
theorem dpEs_sh (p : Int) : ∀ l, dpEs (shEs p l) = dpEs l
  | [] => by simp [shEs]
  | e :: l => by simp only [shEs, dpEs, dpE_sh p e, dpEs_sh p l]
end
mutual
theorem szE_sh (p : Int) : ∀ e, szE (shE p e) = szE e
  | ⟨a, b, c, ks, d⟩ => by simp only [shE, szE, szEs_sh p ks]
theorem szEs_sh (p : Int) : ∀ l, szEs (shEs p l) = szEs l
  | [] => by simp [shEs]
  | e :: l => by simp only [shEs, szEs, szE_sh p e, szEs_sh p l]
end
mutual
theorem eqE_sh (p : Int) : ∀ e, eqE false e (shE p e) = true
  | ⟨a, b, c, ks, d⟩ => by
    rw [eqE_eq]
    simp [shE, eqEs_sh p ks]
theorem eqEs_sh (p : Int) : ∀ l, eqEs false l (shEs p l) = true
  | [] => by simp [eqEs, shEs]
  | e :: l => by simp only [eqEs, shEs, eqE_sh p e, eqEs_sh p l, Bool.and_self]
end
mutual
theorem eqE_sh' (p : Int) : ∀ e, eqE false (shE p e) e = true
  | ⟨a, b, c, ks, d⟩ => by
    rw [eqE_eq]
    simp [shE, eqEs_sh' p ks]
theorem eqEs_sh' (p : Int) : ∀ l, eqEs false (shEs p l) l = true
  | [] => by simp [eqEs, shEs]
  | e :: l => by simp only [eqEs, shEs, eqE_sh' p e, eqEs_sh' p l, Bool.and_self]
end
/-- The tokens of L up to m stand in L2 at d more; what is behind them stops the parser. -/
structure Mt (L L2 : List Tok) (d : Nat) (p : Int) (m : Nat) : Prop where
  tok : ∀ i, i < m → lk L2 (i + d) = shT p (lk L i)
  fin : (lk L m).gKind = 0
  stp : (lk L2 (m + d)).gKind = 3 ∧ (lk L2 (m + d)).gText = ByteArray.mk #[41]
  len : m + d ≤ 1000000
theorem Mt.lt {L L2 : List Tok} {d : Nat} {p : Int} {m i : Nat} (h : Mt L L2 d p m) (hi : i ≤ m) (hk : (lk L i).gKind ≠ 0) : i < m := by
  rcases Nat.lt_or_ge i m with q | q
  · exact q
  · have : i = m := by omega
    subst this; exact absurd h.fin hk
/-- What a part of the parser comes to. -/
def AB (L : List Tok) (i c s : Nat) (r : Option (Xp × Rdr)) (r2 : List Tok → Nat → Int → Option (Xp × Rdr)) : Prop :=
  ∃ x i' e', r = some (x, mk L i' e') ∧ (e' = 0 → i + c ≤ i' ∧ i' ≤ L.length ∧ dpE x ≤ 24 ∧ szE x + i ≤ i' + s ∧ ∀ L2 d p m, Mt L L2 d p m → i ≤ m → i' ≤ m ∧ r2 L2 d p = some (shE p x, mk L2 (i' + d) 0))
theorem AB.bad {L : List Tok} {i c s : Nat} {r : Option (Xp × Rdr)} {r2 : List Tok → Nat → Int → Option (Xp × Rdr)} (x : Xp) (i' : Nat) (e' : Int) (he : e' ≠ 0) (h : r = some (x, mk L i' e')) : AB L i c s r r2 := ⟨x, i', e', h, fun q => absurd q he⟩
theorem wIdx {k : Nat} (h : k ≤ 5) : IntKind.i64.wrap ((k : Int) + 1) = ((k + 1 : Nat) : Int) := winc (by omega)
abbrev S8 := List Tok × Int × Int × Int × Int × ByteArray × List Xp × Int
def st8 (L : List Tok) (j : Nat) (e : Int) (x : Xp) : S8 := (L, (j : Int), e, x.gOp, x.gN, x.gName, x.gKids, x.gAt)
noncomputable def rowF (g0 : Rdr → Int → Option (Xp × Rdr)) (a1 : Int) (s51 : S8) : Option (Step S8 S8) :=
  (bif (s51.2.2.1 == (0 : Int)) then ((parse_reader_look (⟨s51.1, s51.2.1, s51.2.2.1⟩ : TParseReader)).bind fun x79 => (Option.bind (α := Int) (bif (x79.gKind == (3 : Int)) then ((parse_between a1 x79.gText).bind fun x85 => some x85) else some (0 : Int)) fun y83 => (bif (y83 == (0 : Int)) then some (.done (s51.1, s51.2.1, s51.2.2.1, s51.2.2.2.1, s51.2.2.2.2.1, s51.2.2.2.2.2.1, s51.2.2.2.2.2.2.1, s51.2.2.2.2.2.2.2)) else ((g0 (⟨s51.1, (IntKind.i64.wrap (s51.2.1 + (1 : Int))), s51.2.2.1⟩ : TParseReader) (IntKind.i64.wrap (a1 + (1 : Int)))).bind fun x87 => ((parse_reader_sound x87.2 (⟨y83, (0 : Int), ByteArray.empty, ([(⟨s51.2.2.2.1, s51.2.2.2.2.1, s51.2.2.2.2.2.1, s51.2.2.2.2.2.2.1, s51.2.2.2.2.2.2.2⟩ : TApiExpr), x87.1] : List TApiExpr), x79.gAt⟩ : TApiExpr) s51.2.1).bind fun x89 => some (.next (x89.2.gL, x89.2.gAt, x89.2.gE, x89.1.gOp, x89.1.gN, x89.1.gName, x89.1.gKids, x89.1.gAt))))))) else some (.done (s51.1, s51.2.1, s51.2.2.1, s51.2.2.2.1, s51.2.2.2.2.1, s51.2.2.2.2.2.1, s51.2.2.2.2.2.2.1, s51.2.2.2.2.2.2.2)))
noncomputable def opAt (k : Int) (t : Tok) : Int := bif t.gKind == 3 then bt k t.gText else 0
theorem opAt_sh {k p : Int} {t : Tok} : opAt k (shT p t) = opAt k t := rfl
theorem opAt_kind {k : Int} {t : Tok} (h : opAt k t ≠ 0) : t.gKind ≠ 0 := by
  unfold opAt at h
  cases hk : t.gKind == 3
  · rw [hk] at h; exact absurd rfl h
  · have : t.gKind = 3 := by simpa using hk
    rw [this]; decide
theorem rowF_bad {g0 : Rdr → Int → Option (Xp × Rdr)} {k : Int} {L : List Tok} {j : Nat} {e : Int} {x : Xp} (he : e ≠ 0) : rowF g0 k (st8 L j e x) = some (.done (st8 L j e x)) := by
  unfold rowF st8
  rw [show (e == 0) = false by simp [he], cond_false]
/-- One round. -/
theorem rowF_eq {g0 : Rdr → Int → Option (Xp × Rdr)} {k : Int} {L : List Tok} {j : Nat} {x : Xp} (hj : j ≤ 4000000) : rowF g0 k (st8 L j 0 x) = (bif opAt k (lk L j) == 0 then some (.done (st8 L j 0 x)) else
    (g0 (mk L (j + 1) 0) (IntKind.i64.wrap (k + 1))).bind fun y => (parse_reader_sound y.2 ⟨opAt k (lk L j), 0, ByteArray.empty, [x, y.1], (lk L j).gAt⟩ (j : Int)).bind fun q => some (.next (q.2.gL, q.2.gAt, q.2.gE, q.1.gOp, q.1.gN, q.1.gName, q.1.gKids, q.1.gAt))) := by
  cases x
  unfold rowF st8
  simp only [beq_self_eq_true, cond_true]
  change Option.bind (parse_reader_look (mk L j 0)) _ = _
  rw [look_eq, Option.bind_some, winc hj]
  unfold opAt
  cases hk : (lk L j).gKind == 3
  · simp only [cond_false, Option.bind_some]; rfl
  · simp only [cond_true, between_eq, Option.bind_some]; rfl
theorem row_loop (g0 : Rdr → Int → Option (Xp × Rdr)) (L : List Tok) (i0 : Nat) (k : Int) (hL : L.length ≤ 100000)
    (ih : ∀ j, i0 < j → j ≤ L.length → AB L j 1 0 (g0 (mk L j 0) (IntKind.i64.wrap (k + 1))) (fun L2 d p => g0 (mk L2 (j + d) 0) (IntKind.i64.wrap (k + 1)))) :
    ∀ (q j : Nat) (x : Xp), L.length - j ≤ q → i0 ≤ j → j ≤ L.length → dpE x ≤ 24 → szE x + i0 ≤ j →
      ∃ x' j' e', loopM (rowF g0 k) (st8 L j 0 x) = some (st8 L j' e' x') ∧ (e' = 0 → j ≤ j' ∧ j' ≤ L.length ∧ dpE x' ≤ 24 ∧ szE x' + i0 ≤ j' ∧ ∀ L2 d p m, Mt L L2 d p m → j ≤ m → j' ≤ m ∧ loopM (rowF g0 k) (st8 L2 (j + d) 0 (shE p x)) = some (st8 L2 (j' + d) 0 (shE p x'))) := by
  intro q
  induction q with
  | zero =>
    intro j x hq h0 h1 hd hs
    have hz : lk L j = z0 := lk_end (by omega)
    refine ⟨x, j, 0, loopM_done (by rw [rowF_eq (by omega), hz]; rfl), fun _ => ⟨Nat.le_refl _, h1, hd, hs, fun L2 d p m hm hjm => ⟨hjm, ?_⟩⟩⟩
    refine loopM_done ?_
    rw [rowF_eq (by have := hm.len; omega)]
    rcases Nat.lt_or_ge j m with q | q
    · rw [hm.tok j q, opAt_sh, hz]; rfl
    · have : j = m := by omega
      subst this
      unfold opAt
      rw [hm.stp.1, hm.stp.2, bt_stop]; rfl
  | succ q ihq =>
    intro j x hq h0 h1 hd hs
    by_cases hop : opAt k (lk L j) = 0
    · refine ⟨x, j, 0, loopM_done (by rw [rowF_eq (by omega), hop]; rfl), fun _ => ⟨Nat.le_refl _, h1, hd, hs, fun L2 d p m hm hjm => ⟨hjm, ?_⟩⟩⟩
      refine loopM_done ?_
      rw [rowF_eq (by have := hm.len; omega)]
      rcases Nat.lt_or_ge j m with q | q
      · rw [hm.tok j q, opAt_sh, hop]; rfl
      · have : j = m := by omega
        subst this
        unfold opAt
        rw [hm.stp.1, hm.stp.2, bt_stop]; rfl
    · have hk := opAt_kind hop
      have hlt := lk_lt hk
      have hopb : (opAt k (lk L j) == 0) = false := by simp [hop]
      obtain ⟨y, j1, e1, hr, hg⟩ := ih (j + 1) (by omega) (by omega)
      have hf := rowF_eq (g0 := g0) (k := k) (L := L) (j := j) (x := x) (by omega)
      rw [hopb, cond_false, hr, Option.bind_some] at hf
      by_cases he : e1 = 0
      · subst he
        obtain ⟨g1, g2, g3, g4, g5⟩ := hg rfl
        have hsz : szE (⟨opAt k (lk L j), 0, ByteArray.empty, [x, y], (lk L j).gAt⟩ : Xp) = 1 + (szE x + szE y) := by simp [szE_eq, szEs]
        rw [sound_eq (fun _ => by rw [hsz]; omega), Option.bind_some] at hf
        simp only [beq_self_eq_true, cond_true] at hf
        by_cases hdd : 24 < dpE (⟨opAt k (lk L j), 0, ByteArray.empty, [x, y], (lk L j).gAt⟩ : Xp)
        · rw [decide_eq_true hdd, cond_true] at hf
          refine ⟨ex0, j, 5, ?_, fun h => by cases h⟩
          rw [loopM_next hf]
          exact loopM_done (rowF_bad (e := 5) (by decide))
        · rw [decide_eq_false hdd, cond_false] at hf
          obtain ⟨x', j', e', h5, h6⟩ := ihq j1 ⟨opAt k (lk L j), 0, ByteArray.empty, [x, y], (lk L j).gAt⟩ (by omega) (by omega) g2 (by omega) (by rw [hsz]; omega)
          refine ⟨x', j', e', by rw [loopM_next hf]; exact h5, fun h => ?_⟩
          obtain ⟨k1, k2, k3, k4, k5⟩ := h6 h
          refine ⟨by omega, k2, k3, k4, fun L2 d p m hm hjm => ?_⟩
          have hjlt := hm.lt hjm hk
          obtain ⟨m1, m2⟩ := g5 L2 d p m hm (by omega)
          simp only [] at m2
          obtain ⟨m3, m4⟩ := k5 L2 d p m hm m1
          refine ⟨m3, ?_⟩
          have hf2 := rowF_eq (g0 := g0) (k := k) (L := L2) (j := j + d) (x := shE p x) (by have := hm.len; omega)
          rw [hm.tok j hjlt, opAt_sh, hopb, cond_false, show j + d + 1 = j + 1 + d by omega, m2, Option.bind_some] at hf2
          have hsh : (⟨opAt k (lk L j), 0, ByteArray.empty, [shE p x, shE p y], (shT p (lk L j)).gAt⟩ : Xp) = shE p ⟨opAt k (lk L j), 0, ByteArray.empty, [x, y], (lk L j).gAt⟩ := by simp only [shE, shEs, shT]
          rw [hsh, sound_eq (fun _ => by rw [szE_sh, hsz]; omega), Option.bind_some, dpE_sh, decide_eq_false hdd] at hf2
          simp only [beq_self_eq_true, cond_true, cond_false] at hf2
          rw [loopM_next hf2]
          exact m4
      · rw [sound_eq (fun h => absurd h he), Option.bind_some, show (e1 == 0) = false by simp [he], cond_false] at hf
        refine ⟨ex0, j1, e1, ?_, fun h => absurd h he⟩
        rw [loopM_next hf]
        exact loopM_done (rowF_bad he)
end Go.Proofs.Ytbfbipcjdiipaaa.Ab.Pq
