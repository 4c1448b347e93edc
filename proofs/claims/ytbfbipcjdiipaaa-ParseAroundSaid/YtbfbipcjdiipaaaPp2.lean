/- Layer 12: the parser, whole. -/
import Derived.Test.YtbfbipcjdiipaaaPp1
namespace Go.Proofs.Ytbfbipcjdiipaaa.Ab.Pq
open Go
set_option linter.all false
theorem bind_eta {α β : Type} (o : Option (α × β)) : (o.bind fun x => some (x.1, x.2)) = o := by cases o <;> rfl
noncomputable abbrev pg := parse_reader_row_g
theorem xp_eta (x : Xp) : (⟨x.gOp, x.gN, x.gName, x.gKids, x.gAt⟩ : Xp) = x := by cases x; rfl
theorem row6 (n : Nat) (m : Rdr) : (pg (n + 1)).1 m 6 = (pg n).2.1 m := by
  show parse_reader_row_b (pg n).1 (pg n).2.1 (pg n).2.2.1 (pg n).2.2.2.1 (pg n).2.2.2.2 m 6 = _
  unfold parse_reader_row_b
  rw [show ((6 : Int) == 6) = true from rfl, cond_true, bind_eta]
theorem rowK {n k : Nat} (m : Rdr) (hk : k ≤ 5) : (pg (n + 1)).1 m k = ((pg n).1 m (IntKind.i64.wrap ((k : Int) + 1))).bind fun y => (loopM (rowF (pg n).1 (k : Int)) (y.2.gL, y.2.gAt, y.2.gE, y.1.gOp, y.1.gN, y.1.gName, y.1.gKids, y.1.gAt)).bind fun z => some ((⟨z.2.2.2.1, z.2.2.2.2.1, z.2.2.2.2.2.1, z.2.2.2.2.2.2.1, z.2.2.2.2.2.2.2⟩ : Xp), (⟨z.1, z.2.1, z.2.2.1⟩ : Rdr)) := by
  show parse_reader_row_b (pg n).1 (pg n).2.1 (pg n).2.2.1 (pg n).2.2.2.1 (pg n).2.2.2.2 m k = _
  unfold parse_reader_row_b
  rw [show ((k : Int) == 6) = false by simp; omega, cond_false]
  rfl
theorem unit_eq {n i : Nat} {L : List Tok} (hi : i ≤ 4000000) : (pg (n + 1)).2.1 (mk L i 0) =
    (bif (lk L i).gKind == 2 then some (⟨1, (lk L i).gN, ByteArray.empty, [], (lk L i).gAt⟩, mk L (i + 1) 0)
    else bif (lk L i).gKind == 1 then (pg n).2.2.1 (mk L (i + 1) 0) ⟨2, 0, (lk L i).gText, [], (lk L i).gAt⟩ 3 (i : Int)
    else bif (lk L i).gKind == 3 then (pg n).2.2.2.2 (mk L (i + 1) 0) (lk L i) (i : Int)
    else some (ex0, mk L i 3)) := by
  show parse_reader_unit_b (pg n).1 (pg n).2.1 (pg n).2.2.1 (pg n).2.2.2.1 (pg n).2.2.2.2 (mk L i 0) = _
  unfold parse_reader_unit_b
  rw [look_eq, Option.bind_some]
  have hw := winc hi
  change (bif false then some _ else _) = _
  rw [cond_false]
  change (bif (lk L i).gKind == 2 then some (_, (⟨L, IntKind.i64.wrap ((i : Int) + 1), 0⟩ : Rdr)) else bif (lk L i).gKind == 1 then Option.bind ((pg n).2.2.1 ⟨L, IntKind.i64.wrap ((i : Int) + 1), 0⟩ _ _ _) _ else bif (lk L i).gKind == 3 then Option.bind ((pg n).2.2.2.2 ⟨L, IntKind.i64.wrap ((i : Int) + 1), 0⟩ _ _) _ else Option.bind (parse_reader_fail ⟨L, IntKind.i64.wrap ((i : Int) + 1), 0⟩ _ _) _) = _
  rw [hw, bind_eta, bind_eta]
  change (bif (lk L i).gKind == 2 then some (_, _) else bif (lk L i).gKind == 1 then _ else bif (lk L i).gKind == 3 then _ else Option.bind (parse_reader_fail (mk L (i + 1) 0) _ _) _) = _
  simp only [show (mk L i 0).gAt = (i : Int) from rfl, fail_eq]
  rfl
theorem unit_eq' {n i : Nat} {L : List Tok} {t : Tok} (hi : i ≤ 4000000) (ht : lk L i = t) : (pg (n + 1)).2.1 (mk L i 0) =
    (bif t.gKind == 2 then some (⟨1, t.gN, ByteArray.empty, [], t.gAt⟩, mk L (i + 1) 0)
    else bif t.gKind == 1 then (pg n).2.2.1 (mk L (i + 1) 0) ⟨2, 0, t.gText, [], t.gAt⟩ 3 (i : Int)
    else bif t.gKind == 3 then (pg n).2.2.2.2 (mk L (i + 1) 0) t (i : Int)
    else some (ex0, mk L i 3)) := by subst ht; exact unit_eq hi
theorem indexed_eq {n i : Nat} {L : List Tok} {x : Xp} {op a : Int} (hi : i ≤ 4000000) : (pg (n + 1)).2.2.1 (mk L i 0) x op a =
    (bif isS L i (ByteArray.mk #[91]) then ((pg n).2.2.2.1 (mk L (i + 1) 0) (ByteArray.mk #[93])).bind fun y => parse_reader_sound y.2 ⟨op, x.gN, x.gName, [y.1], x.gAt⟩ a else some (x, mk L i 0)) := by
  show parse_reader_indexed_b (pg n).1 (pg n).2.1 (pg n).2.2.1 (pg n).2.2.2.1 (pg n).2.2.2.2 (mk L i 0) x op a = _
  unfold parse_reader_indexed_b
  show Option.bind (bif false then some true else _) _ = _
  rw [cond_false, is_eq]
  simp only [Option.bind_some]
  have hw := winc hi
  cases isS L i (ByteArray.mk #[91])
  · rfl
  · simp only [Bool.not_true, cond_true, cond_false]
    change Option.bind ((pg n).2.2.2.1 ⟨L, IntKind.i64.wrap ((i : Int) + 1), 0⟩ _) _ = _
    rw [hw]
    simp only [bind_eta]
    rfl
theorem indexed_bad {n i : Nat} {L : List Tok} {x : Xp} {op a e : Int} (he : e ≠ 0) : (pg (n + 1)).2.2.1 (mk L i e) x op a = some (x, mk L i e) := by
  show parse_reader_indexed_b (pg n).1 (pg n).2.1 (pg n).2.2.1 (pg n).2.2.2.1 (pg n).2.2.2.2 (mk L i e) x op a = _
  unfold parse_reader_indexed_b
  show Option.bind (bif e != 0 then some true else _) _ = _
  rw [show (e != 0) = true by simp [he]]; rfl
theorem all_eq {n : Nat} {m : Rdr} {s : ByteArray} : (pg (n + 1)).2.2.2.1 m s = ((pg n).1 m 0).bind fun x => bif x.2.gE == 0 then (parse_reader_eat x.2 s).bind fun y => some (x.1, y) else some x := by
  show parse_reader_all_b (pg n).1 (pg n).2.1 (pg n).2.2.1 (pg n).2.2.2.1 (pg n).2.2.2.2 m s = _
  unfold parse_reader_all_b
  rfl
def tm (s t : ByteArray) : Bool := decide (s = t)
theorem sign_eq {n i a : Nat} {L : List Tok} {t : Tok} : (pg (n + 1)).2.2.2.2 (mk L i 0) t (a : Int) =
    (bif tm t.gText (ByteArray.mk #[45]) then ((pg n).2.1 (mk L i 0)).bind fun y => parse_reader_sound y.2 ⟨5, 0, ByteArray.empty, [y.1], t.gAt⟩ (a : Int)
    else bif tm t.gText (ByteArray.mk #[33]) then ((pg n).2.1 (mk L i 0)).bind fun y => parse_reader_sound y.2 ⟨6, 0, ByteArray.empty, [y.1], t.gAt⟩ (a : Int)
    else bif tm t.gText (ByteArray.mk #[42]) then (parse_reader_name (mk L i 0)).bind fun y => some (⟨4, 0, y.1, [], t.gAt⟩, y.2)
    else bif tm t.gText (ByteArray.mk #[38]) then (parse_reader_name (mk L i 0)).bind fun y => (pg n).2.2.1 y.2 ⟨19, 0, y.1, [], t.gAt⟩ 20 (a : Int)
    else bif tm t.gText (ByteArray.mk #[110, 117, 108, 108]) then some (⟨18, 0, ByteArray.empty, [], t.gAt⟩, mk L i 0)
    else bif tm t.gText (ByteArray.mk #[40]) then (pg n).2.2.2.1 (mk L i 0) (ByteArray.mk #[41])
    else some (ex0, mk L a 3)) := by
  show parse_reader_sign_b (pg n).1 (pg n).2.1 (pg n).2.2.1 (pg n).2.2.2.1 (pg n).2.2.2.2 (mk L i 0) t (a : Int) = _
  unfold parse_reader_sign_b tm
  simp only [pick_eq, Option.bind_some, fail_eq, bind_eta]
  cases h1 : decide (t.gText = ByteArray.mk #[45])
  · cases h2 : decide (t.gText = ByteArray.mk #[33])
    · rfl
    · rfl
  · rfl
theorem tm_true {s t : ByteArray} (h : tm s t = true) : s = t := by simpa [tm] using h
theorem Mt.isS {L L2 : List Tok} {d : Nat} {p : Int} {m i : Nat} (h : Mt L L2 d p m) {s : ByteArray} (hi : i ≤ m) (hs : s ≠ ByteArray.mk #[41]) : isS L2 (i + d) s = isS L i s := by
  unfold Pq.isS
  rcases Nat.lt_or_ge i m with q | q
  · rw [h.tok i q]; rfl
  · have : i = m := by omega
    subst this
    rw [h.fin, h.stp.1, h.stp.2, decide_eq_false (Ne.symm hs)]; rfl
/-- A unit's sound end. -/
theorem AB.sound {L : List Tok} {i j a s : Nat} {op nn : Int} {nm : ByteArray} {at_ : Int} {r : Option (Xp × Rdr)} {r2 : List Tok → Nat → Int → Option (Xp × Rdr)} (y : Xp) (hs : 1 ≤ s) (hL : L.length ≤ 100000) (hij : i ≤ j) (hj : j ≤ L.length) (hy : szE y + i ≤ j)
    (hr : r = parse_reader_sound (mk L j 0) ⟨op, nn, nm, [y], at_⟩ (a : Int)) (h2 : ∀ L2 d p m, Mt L L2 d p m → i ≤ m → j ≤ m ∧ r2 L2 d p = parse_reader_sound (mk L2 (j + d) 0) ⟨op, nn, nm, [shE p y], at_ + p⟩ ((a + d : Nat) : Int)) : AB L i 0 s r r2 := by
  have hsz : szE (⟨op, nn, nm, [y], at_⟩ : Xp) = 1 + szE y := by simp [szE_eq, szEs]
  rw [sound_eq (fun _ => by rw [hsz]; omega)] at hr
  simp only [beq_self_eq_true, cond_true] at hr
  by_cases hd : 24 < dpE (⟨op, nn, nm, [y], at_⟩ : Xp)
  · rw [decide_eq_true hd, cond_true] at hr
    exact AB.bad ex0 a 5 (by decide) hr
  · rw [decide_eq_false hd, cond_false] at hr
    refine ⟨_, j, 0, hr, fun _ => ⟨by omega, hj, by omega, by rw [hsz]; omega, fun L2 d p m hm him => ?_⟩⟩
    obtain ⟨g1, g2⟩ := h2 L2 d p m hm him
    refine ⟨g1, ?_⟩
    have hsh : (⟨op, nn, nm, [shE p y], at_ + p⟩ : Xp) = shE p ⟨op, nn, nm, [y], at_⟩ := by simp only [shE, shEs]
    rw [g2, hsh, sound_eq (fun _ => by rw [szE_sh, hsz]; omega), dpE_sh, decide_eq_false hd]
    rfl
theorem AB.more {L : List Tok} {i c s c' s' : Nat} {r : Option (Xp × Rdr)} {r2 : List Tok → Nat → Int → Option (Xp × Rdr)} (h : AB L (i + 1) c s r r2) (hc : c' ≤ c + 1) (hs : s ≤ s' + 1) {r2' : List Tok → Nat → Int → Option (Xp × Rdr)} (h2 : ∀ L2 d p m, Mt L L2 d p m → i ≤ m → i + 1 ≤ m ∧ r2' L2 d p = r2 L2 d p) : AB L i c' s' r r2' := by
  obtain ⟨x, i', e', h1, h3⟩ := h
  refine ⟨x, i', e', h1, fun he => ?_⟩
  obtain ⟨g1, g2, g3, g4, g5⟩ := h3 he
  refine ⟨by omega, g2, g3, by omega, fun L2 d p m hm him => ?_⟩
  obtain ⟨k1, k2⟩ := h2 L2 d p m hm him
  obtain ⟨k3, k4⟩ := g5 L2 d p m hm k1
  exact ⟨k3, k2.trans k4⟩
theorem ab : ∀ n : Nat, (∀ (L : List Tok) (i k : Nat), L.length ≤ 100000 → i ≤ L.length → k ≤ 6 → 10 * (L.length - i) + 8 ≤ n + k → AB L i 1 0 ((pg n).1 (mk L i 0) (k : Int)) (fun L2 d p => (pg n).1 (mk L2 (i + d) 0) (k : Int))) ∧
    (∀ (L : List Tok) (i : Nat), L.length ≤ 100000 → i ≤ L.length → 10 * (L.length - i) + 1 ≤ n → AB L i 1 0 ((pg n).2.1 (mk L i 0)) (fun L2 d p => (pg n).2.1 (mk L2 (i + d) 0))) ∧
    (∀ (L : List Tok) (i a : Nat) (x : Xp) (op : Int), L.length ≤ 100000 → i ≤ L.length → x.gKids = [] → 10 * (L.length - i) + 1 ≤ n → AB L i 0 1 ((pg n).2.2.1 (mk L i 0) x op (a : Int)) (fun L2 d p => (pg n).2.2.1 (mk L2 (i + d) 0) (shE p x) op ((a + d : Nat) : Int))) ∧
    (∀ (L : List Tok) (i : Nat) (s : ByteArray), L.length ≤ 100000 → i ≤ L.length → 10 * (L.length - i) + 9 ≤ n → AB L i 1 0 ((pg n).2.2.2.1 (mk L i 0) s) (fun L2 d p => (pg n).2.2.2.1 (mk L2 (i + d) 0) s)) ∧
    (∀ (L : List Tok) (i a : Nat) (t : Tok), L.length ≤ 100000 → i ≤ L.length → 10 * (L.length - i) + 10 ≤ n → AB L i 0 1 ((pg n).2.2.2.2 (mk L i 0) t (a : Int)) (fun L2 d p => (pg n).2.2.2.2 (mk L2 (i + d) 0) (shT p t) ((a + d : Nat) : Int)))
  | 0 => ⟨fun L i k _ _ _ h => by omega, fun L i _ _ h => by omega, fun L i a x op _ _ _ h => by omega, fun L i s _ _ h => by omega, fun L i a t _ _ h => by omega⟩
  | n + 1 => by
    obtain ⟨ihR, ihU, ihI, ihA, ihS⟩ := ab n
    refine ⟨fun L i k hL hi hk hn => ?_, fun L i hL hi hn => ?_, fun L i a x op hL hi hx hn => ?_, fun L i s hL hi hn => ?_, fun L i a t hL hi hn => ?_⟩
    · -- a row
      by_cases h6 : k = 6
      · subst h6
        have h := ihU L i hL hi (by omega)
        obtain ⟨x, i', e', h1, h2⟩ := h
        refine ⟨x, i', e', (row6 n _).trans h1, fun he => ?_⟩
        obtain ⟨g1, g2, g3, g4, g5⟩ := h2 he
        exact ⟨g1, g2, g3, g4, fun L2 d p m hm him => ⟨(g5 L2 d p m hm him).1, (row6 n _).trans (g5 L2 d p m hm him).2⟩⟩
      · obtain ⟨x, i1, e1, h1, h2⟩ := ihR L i (k + 1) hL hi (by omega) (by omega)
        have hrow := rowK (n := n) (k := k) (mk L i 0) (by omega)
        rw [wIdx (by omega), h1, Option.bind_some] at hrow
        by_cases he : e1 = 0
        · subst he
          obtain ⟨g1, g2, g3, g4, g5⟩ := h2 rfl
          obtain ⟨x', j', e', h3, h4⟩ := row_loop (pg n).1 L i (k : Int) hL (fun j hj hjl => by
            have := ihR L j (k + 1) hL hjl (by omega) (by omega)
            rw [wIdx (by omega)]; exact this) (L.length - i1) i1 x (Nat.le_refl _) (by omega) g2 g3 (by omega)
          change _ = Option.bind (loopM (rowF (pg n).1 (k : Int)) (st8 L i1 0 x)) _ at hrow
          rw [h3, Option.bind_some] at hrow
          simp only [st8, xp_eta] at hrow
          refine ⟨x', j', e', hrow, fun he => ?_⟩
          obtain ⟨k1, k2, k3, k4, k5⟩ := h4 he
          refine ⟨by omega, k2, k3, by omega, fun L2 d p m hm him => ?_⟩
          obtain ⟨m1, m2⟩ := g5 L2 d p m hm him
          obtain ⟨m3, m4⟩ := k5 L2 d p m hm m1
          refine ⟨m3, ?_⟩
          simp only [] at m2 ⊢
          rw [rowK _ (by omega), wIdx (by omega), m2, Option.bind_some]
          change Option.bind (loopM (rowF (pg n).1 (k : Int)) (st8 L2 (i1 + d) 0 (shE p x))) _ = _
          rw [m4, Option.bind_some]
          simp only [st8, xp_eta]; rfl
        · change _ = Option.bind (loopM (rowF (pg n).1 (k : Int)) (st8 L i1 e1 x)) _ at hrow
          rw [loopM_done (rowF_bad he), Option.bind_some] at hrow
          simp only [st8, xp_eta] at hrow
          exact AB.bad x i1 e1 he hrow
    · -- a unit
      have hu := unit_eq (n := n) (i := i) (L := L) (by omega)
      by_cases h2 : (lk L i).gKind = 2
      · have hlt := lk_lt (L := L) (i := i) (by rw [h2]; decide)
        rw [h2] at hu
        refine ⟨_, i + 1, 0, hu, fun _ => ⟨Nat.le_refl _, hlt, by simp [dpE, dpEs], by simp [szE, szEs]; omega, fun L2 d p m hm him => ?_⟩⟩
        have hl := hm.lt him (by rw [h2]; decide)
        refine ⟨hl, ?_⟩
        have := unit_eq' (n := n) (i := i + d) (L := L2) (by have := hm.len; omega) (hm.tok i hl)
        rw [show (shT p (lk L i)).gKind = 2 from h2] at this
        try simp only []
        rw [this, show i + d + 1 = i + 1 + d by omega]; simp only [shE, shEs, shT]; rfl
      · rw [show ((lk L i).gKind == 2) = false by simp [h2], cond_false] at hu
        by_cases h1 : (lk L i).gKind = 1
        · have hlt := lk_lt (L := L) (i := i) (by rw [h1]; decide)
          rw [h1] at hu
          simp only [beq_self_eq_true, cond_true] at hu
          have h := ihI L (i + 1) i ⟨2, 0, (lk L i).gText, [], (lk L i).gAt⟩ 3 hL hlt rfl (by omega)
          rw [hu]
          refine h.more (by omega) (by omega) fun L2 d p m hm him => ?_
          have hl := hm.lt him (by rw [h1]; decide)
          refine ⟨hl, ?_⟩
          have := unit_eq' (n := n) (i := i + d) (L := L2) (by have := hm.len; omega) (hm.tok i hl)
          rw [show (shT p (lk L i)).gKind = 1 from h1] at this
          try simp only []
          rw [this, show i + d + 1 = i + 1 + d by omega]; simp only [shE, shEs, shT]; rfl
        · rw [show ((lk L i).gKind == 1) = false by simp [h1], cond_false] at hu
          by_cases h3 : (lk L i).gKind = 3
          · have hlt := lk_lt (L := L) (i := i) (by rw [h3]; decide)
            have h := ihS L (i + 1) i (lk L i) hL hlt (by omega)
            rw [show ((lk L i).gKind == 3) = true by simp [h3], cond_true] at hu
            rw [hu]
            refine h.more (by omega) (by omega) fun L2 d p m hm him => ?_
            have hl := hm.lt him (by rw [h3]; decide)
            refine ⟨hl, ?_⟩
            have := unit_eq' (n := n) (i := i + d) (L := L2) (by have := hm.len; omega) (hm.tok i hl)
            rw [show (shT p (lk L i)).gKind = 3 from h3] at this
            try simp only []
            rw [this, show i + d + 1 = i + 1 + d by omega]; rfl
          · rw [show ((lk L i).gKind == 3) = false by simp [h3], cond_false] at hu
            exact AB.bad ex0 i 3 (by decide) hu
    · -- an index
      have hx1 : dpE x = 1 := by rw [dpE_eq, hx]; rfl
      have hx2 : szE x = 1 := by rw [szE_eq, hx]; rfl
      have hu := indexed_eq (n := n) (i := i) (L := L) (x := x) (op := op) (a := (a : Int)) (by omega)
      cases hb : isS L i (ByteArray.mk #[91])
      · rw [hb, cond_false] at hu
        refine ⟨x, i, 0, hu, fun _ => ⟨Nat.le_refl _, hi, by omega, by omega, fun L2 d p m hm him => ⟨him, ?_⟩⟩⟩
        have := indexed_eq (n := n) (i := i + d) (L := L2) (x := shE p x) (op := op) (a := ((a + d : Nat) : Int)) (by have := hm.len; omega)
        rw [hm.isS him (by decide)] at this
        rw [hb, cond_false] at this
        exact this
      · rw [hb, cond_true] at hu
        obtain ⟨hlt, hk3, _⟩ := isB_lt hb
        obtain ⟨y, j, e1, h1, h2⟩ := ihA L (i + 1) (ByteArray.mk #[93]) hL hlt (by omega)
        rw [h1, Option.bind_some] at hu
        by_cases he : e1 = 0
        · subst he
          obtain ⟨g1, g2, g3, g4, g5⟩ := h2 rfl
          refine AB.sound y (Nat.le_refl _) hL (by omega) g2 (by omega) hu fun L2 d p m hm him => ?_
          have hl := hm.lt him (by rw [hk3]; decide)
          obtain ⟨m1, m2⟩ := g5 L2 d p m hm hl
          refine ⟨m1, ?_⟩
          have := indexed_eq (n := n) (i := i + d) (L := L2) (x := shE p x) (op := op) (a := ((a + d : Nat) : Int)) (by have := hm.len; omega)
          rw [hm.isS him (by decide)] at this
          simp only [] at m2 ⊢
          rw [hb, cond_true, show i + d + 1 = i + 1 + d by omega, m2, Option.bind_some] at this
          rw [this, shE_eq p x]
        · rw [sound_eq (fun h => absurd h he), show (e1 == 0) = false by simp [he], cond_false] at hu
          exact AB.bad ex0 j e1 he hu
    · -- all
      obtain ⟨x, j, e1, h1, h2⟩ := ihR L i 0 hL hi (by omega) (by omega)
      have hu := all_eq (n := n) (m := mk L i 0) (s := s)
      rw [show ((pg n).1 (mk L i 0) 0) = _ from h1, Option.bind_some] at hu
      by_cases he : e1 = 0
      · subst he
        obtain ⟨g1, g2, g3, g4, g5⟩ := h2 rfl
        change _ = Option.bind (parse_reader_eat (mk L j 0) s) _ at hu
        rw [eat_eq s (by omega), Option.bind_some] at hu
        cases hb : isS L j s
        · rw [hb, cond_false] at hu
          exact AB.bad x j 3 (by decide) hu
        · rw [hb, cond_true] at hu
          obtain ⟨hlt, hk3, ht⟩ := isB_lt hb
          refine ⟨x, j + 1, 0, hu, fun _ => ⟨by omega, hlt, g3, by omega, fun L2 d p m hm him => ?_⟩⟩
          obtain ⟨m1, m2⟩ := g5 L2 d p m hm him
          have hl := hm.lt m1 (by rw [hk3]; decide)
          refine ⟨hl, ?_⟩
          simp only [] at m2 ⊢
          have hb2 : isS L2 (j + d) s = true := by
            rw [← hb]; unfold isS; rw [hm.tok j hl]; rfl
          rw [all_eq, show ((pg n).1 (mk L2 (i + d) 0) 0) = _ from m2, Option.bind_some]
          change Option.bind (parse_reader_eat (mk L2 (j + d) 0) s) _ = _
          rw [eat_eq s (by have := hm.len; omega), Option.bind_some, hb2, cond_true, show j + d + 1 = j + 1 + d by omega]
      · rw [show ((x, mk L j e1).2.gE == 0) = false by simp [mk, he], cond_false] at hu
        exact AB.bad x j e1 he hu
    · -- a sign
      have hu := sign_eq (n := n) (i := i) (a := a) (L := L) (t := t)
      have hu2 := fun (L2 : List Tok) (d : Nat) (p : Int) => sign_eq (n := n) (i := i + d) (a := a + d) (L := L2) (t := shT p t)
      have htx : ∀ p, (shT p t).gText = t.gText := fun _ => rfl
      have hta : ∀ p, (shT p t).gAt = t.gAt + p := fun _ => rfl
      simp only [htx, hta] at hu2
      have un : ∀ op : Int, (∀ {r}, r = (((pg n).2.1 (mk L i 0)).bind fun y => parse_reader_sound y.2 ⟨op, 0, ByteArray.empty, [y.1], t.gAt⟩ (a : Int)) → (∀ {r2 : List Tok → Nat → Int → Option (Xp × Rdr)}, (∀ L2 d p, r2 L2 d p = (((pg n).2.1 (mk L2 (i + d) 0)).bind fun y => parse_reader_sound y.2 ⟨op, 0, ByteArray.empty, [y.1], t.gAt + p⟩ ((a + d : Nat) : Int))) → AB L i 0 1 r r2)) := by
        intro op r hr r2 hr2
        obtain ⟨y, j, e1, h1, h2⟩ := ihU L i hL hi (by omega)
        rw [h1, Option.bind_some] at hr
        by_cases he : e1 = 0
        · subst he
          obtain ⟨g1, g2, g3, g4, g5⟩ := h2 rfl
          refine AB.sound y (Nat.le_refl _) hL (by omega) g2 (by omega) hr fun L2 d p m hm him => ?_
          obtain ⟨m1, m2⟩ := g5 L2 d p m hm him
          refine ⟨m1, ?_⟩
          simp only [] at m2
          rw [hr2, m2, Option.bind_some]
        · rw [sound_eq (fun h => absurd h he), show (e1 == 0) = false by simp [he], cond_false] at hr
          exact AB.bad ex0 j e1 he hr
      cases c1 : tm t.gText (ByteArray.mk #[45])
      rotate_left
      · rw [c1, cond_true] at hu
        simp only [c1, cond_true] at hu2
        exact un 5 hu hu2
      cases c2 : tm t.gText (ByteArray.mk #[33])
      rotate_left
      · rw [c1, c2, cond_false, cond_true] at hu
        simp only [c1, c2, cond_true, cond_false] at hu2
        exact un 6 hu hu2
      cases c3 : tm t.gText (ByteArray.mk #[42])
      rotate_left
      · rw [c1, c2, c3, cond_false, cond_false, cond_true, name_eq (by omega), Option.bind_some] at hu
        simp only [c1, c2, c3, cond_true, cond_false] at hu2
        cases hk : (lk L i).gKind == 1
        · rw [hk, cond_false] at hu
          exact AB.bad _ i 3 (by decide) hu
        · have hk1 : (lk L i).gKind = 1 := by simpa using hk
          have hlt := lk_lt (L := L) (i := i) (by rw [hk1]; decide)
          rw [hk, cond_true] at hu
          refine ⟨_, i + 1, 0, hu, fun _ => ⟨by omega, hlt, by simp [dpE, dpEs], by simp [szE, szEs]; omega, fun L2 d p m hm him => ?_⟩⟩
          have hl := hm.lt him (by rw [hk1]; decide)
          refine ⟨hl, ?_⟩
          try simp only []
          rw [hu2 L2 d p, name_eq (by have := hm.len; omega), Option.bind_some, hm.tok i hl, show (shT p (lk L i)).gKind = 1 from hk1, show i + d + 1 = i + 1 + d by omega]
          simp only [shE, shEs, shT]; rfl
      cases c4 : tm t.gText (ByteArray.mk #[38])
      rotate_left
      · rw [c1, c2, c3, c4, cond_false, cond_false, cond_false, cond_true, name_eq (by omega), Option.bind_some] at hu
        simp only [c1, c2, c3, c4, cond_true, cond_false] at hu2
        cases hk : (lk L i).gKind == 1
        · rw [hk, cond_false] at hu
          simp only [] at hu
          have hn0 : ∃ n', n = n' + 1 := ⟨n - 1, by omega⟩
          obtain ⟨n', rfl⟩ := hn0
          rw [indexed_bad (by decide)] at hu
          exact AB.bad _ i 3 (by decide) hu
        · have hk1 : (lk L i).gKind = 1 := by simpa using hk
          have hlt := lk_lt (L := L) (i := i) (by rw [hk1]; decide)
          rw [hk, cond_true] at hu
          simp only [] at hu
          have h := ihI L (i + 1) a ⟨19, 0, (lk L i).gText, [], t.gAt⟩ 20 hL hlt rfl (by omega)
          rw [hu]
          refine h.more (by omega) (by omega) fun L2 d p m hm him => ?_
          have hl := hm.lt him (by rw [hk1]; decide)
          refine ⟨hl, ?_⟩
          try simp only []
          rw [hu2 L2 d p, name_eq (by have := hm.len; omega), Option.bind_some, hm.tok i hl, show (shT p (lk L i)).gKind = 1 from hk1, show i + d + 1 = i + 1 + d by omega]
          simp only [shE, shEs, shT]; rfl
      cases c5 : tm t.gText (ByteArray.mk #[110, 117, 108, 108])
      rotate_left
      · rw [c1, c2, c3, c4, c5, cond_false, cond_false, cond_false, cond_false, cond_true] at hu
        simp only [c1, c2, c3, c4, c5, cond_true, cond_false] at hu2
        refine ⟨_, i, 0, hu, fun _ => ⟨by omega, hi, by simp [dpE, dpEs], by simp [szE, szEs]; omega, fun L2 d p m hm him => ⟨him, ?_⟩⟩⟩
        try simp only []
        rw [hu2 L2 d p]; simp only [shE, shEs]
      cases c6 : tm t.gText (ByteArray.mk #[40])
      rotate_left
      · rw [c1, c2, c3, c4, c5, c6, cond_false, cond_false, cond_false, cond_false, cond_false, cond_true] at hu
        simp only [c1, c2, c3, c4, c5, c6, cond_true, cond_false] at hu2
        obtain ⟨x, j, e1, h1, h2⟩ := ihA L i (ByteArray.mk #[41]) hL hi (by omega)
        refine ⟨x, j, e1, hu.trans h1, fun he => ?_⟩
        obtain ⟨g1, g2, g3, g4, g5⟩ := h2 he
        refine ⟨by omega, g2, g3, by omega, fun L2 d p m hm him => ⟨(g5 L2 d p m hm him).1, ?_⟩⟩
        try simp only []
        rw [hu2 L2 d p]
        exact (g5 L2 d p m hm him).2
      · rw [c1, c2, c3, c4, c5, c6, cond_false, cond_false, cond_false, cond_false, cond_false, cond_false] at hu
        exact AB.bad ex0 a 3 (by decide) hu
end Go.Proofs.Ytbfbipcjdiipaaa.Ab.Pq
