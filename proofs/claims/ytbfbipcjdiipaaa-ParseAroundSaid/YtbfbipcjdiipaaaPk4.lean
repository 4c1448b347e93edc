/- Layer 12: brackets around a whole expression. -/
import Derived.Test.YtbfbipcjdiipaaaPk3
import Derived.Test.YtbfbipcjdiipaaaPp2
import Derived.Test.YtbfbipcjdiipaaaPv
namespace Go.Proofs.Ytbfbipcjdiipaaa.Ab.Pq
open Go
set_option linter.all false
theorem read_cases (b : List UInt8) (hb : b.length ≤ 20000) : (∃ (a : Nat) (e : Int), e ≠ 0 ∧ token_Read b = some ([], (a : Int), e)) ∨
    ∃ new : List Tp, token_Read b = some (new.map (tb 0) ++ [endT b.length], 0, 0) ∧ new.length ≤ 4000 ∧ (∀ x ∈ new, x.2.1 ≠ 0) ∧ Over b 0 new := by
  rcases read_loop b (by omega) b.length 0 [] (by omega) (by omega) (by simp) with ⟨a, e, he, h⟩ | ⟨new, h, h2, h3, h4⟩
  · exact .inl ⟨a, e, he, read_err hb h⟩
  · rw [List.nil_append] at h h2
    exact .inr ⟨new, read_of hb h2 h, by simpa using h2, h3, h4⟩
theorem in2_1 {b : List UInt8} (hb : b.length ≤ 10000) : In2 b (40 :: (b ++ [41])) 1 := ⟨rfl, by simp; omega⟩
theorem in2_2 {b : List UInt8} (hb : b.length ≤ 10000) : In2 b (45 :: 40 :: (b ++ [41])) 2 := ⟨rfl, by simp; omega⟩
theorem read_par {b : List UInt8} {new : List Tp} (hb : b.length ≤ 10000) (ho : Over b 0 new) : (∃ a : Nat, token_Read (40 :: (b ++ [41])) = some ([], (a : Int), 6)) ∨ ((new.length ≤ 4000) ∧ token_Read (40 :: (b ++ [41])) = some (opT 0 :: (new.map (tb 1) ++ [clT (b.length + 1)]) ++ [endT (b.length + 2)], 0, 0)) := by
  have hi := in2_1 hb
  have hlen : (40 :: (b ++ [41])).length = b.length + 2 := by simp
  have h := one_step (b := 40 :: (b ++ [41])) (a := 0) (l := []) kd40 (two40 _) ones40 rfl (by omega) (by simp)
  simp only [List.length_nil, List.nil_append] at h
  have hs := loopM_next (rdF_next (by omega) h)
  rcases ho _ 1 [opT 0] hi (by simp) with ⟨a', h1⟩ | ⟨h1, h2⟩
  · exact .inl ⟨a', read_err (by omega) (hs.trans h1)⟩
  · rcases read_tail hi h1 with ⟨a', h3⟩ | ⟨h3, h4⟩
    · exact .inl ⟨a', read_err (by omega) (hs.trans (h2.trans h3))⟩
    · have := read_of (by omega) (by simp at h3 ⊢; omega) (hs.trans (h2.trans h4))
      refine .inr ⟨by simp at h3; omega, ?_⟩
      rw [this, hlen]
      simp
theorem read_neg {b : List UInt8} {new : List Tp} (hb : b.length ≤ 10000) (ho : Over b 0 new) : (∃ a : Nat, token_Read (45 :: 40 :: (b ++ [41])) = some ([], (a : Int), 6)) ∨ token_Read (45 :: 40 :: (b ++ [41])) = some (mnT 0 :: opT 1 :: (new.map (tb 2) ++ [clT (b.length + 2)]) ++ [endT (b.length + 3)], 0, 0) := by
  have hi := in2_2 hb
  have hlen : (45 :: 40 :: (b ++ [41])).length = b.length + 3 := by simp
  have h := one_step (b := 45 :: 40 :: (b ++ [41])) (a := 0) (l := []) kd45 (two45 _) ones45 rfl (by omega) (by simp)
  simp only [List.length_nil, List.nil_append] at h
  have hs := loopM_next (rdF_next (by omega) h)
  have h' := one_step (b := 45 :: 40 :: (b ++ [41])) (a := 1) (l := [mnT 0]) kd40 (two40 _) ones40 rfl (by omega) (by simp)
  simp only [List.length_cons, List.length_nil] at h'
  have hs' := loopM_next (rdF_next (by omega) h')
  rcases ho _ 2 [mnT 0, opT 1] hi (by simp) with ⟨a', h1⟩ | ⟨h1, h2⟩
  · exact .inl ⟨a', read_err (by omega) (hs.trans (hs'.trans h1))⟩
  · rcases read_tail hi h1 with ⟨a', h3⟩ | ⟨h3, h4⟩
    · exact .inl ⟨a', read_err (by omega) (hs.trans (hs'.trans (h2.trans h3)))⟩
    · have := read_of (by omega) (by simp at h3 ⊢; omega) (hs.trans (hs'.trans (h2.trans h4)))
      refine .inr ?_
      rw [this, hlen]
      simp
/-! ### Texts -/
theorem row_ab (L : List Tok) (hL : L.length ≤ 100000) : AB L 0 1 0 ((pg (10 * L.length + 8)).1 (mk L 0 0) 0) (fun L2 d p => (pg (10 * L.length + 8)).1 (mk L2 (0 + d) 0) 0) :=
  (ab (10 * L.length + 8)).1 L 0 0 hL (Nat.zero_le _) (by omega) (by omega)
theorem row_any {L : List Tok} {n : Nat} {k : Int} {r : Xp × Rdr} (h : (pg n).1 (mk L 0 0) k = some r) : parse_reader_row (mk L 0 0) k = some r := parse_reader_row_of _ _ n h
theorem text_eq {b : List UInt8} {L : List Tok} {x : Xp} {i : Nat} {e : Int} (hr : token_Read b = some (L, 0, 0)) (h1 : 1 ≤ L.length) (h2 : L.length ≤ 100000) (hrow : parse_reader_row (mk L 0 0) 0 = some (x, mk L i e)) :
    ∃ y n, parse_Text b = some (y, n, bif e == 0 then (bif (lk L (min i (L.length - 1))).gKind == 0 then 0 else 3) else e) ∧ (e = 0 → (lk L (min i (L.length - 1))).gKind = 0 → y = x) := by
  unfold parse_Text
  rw [hr, Option.bind_some]
  have hex : parse_Expr L 0 = some (bif e == 0 then (x, (i : Int), 0) else (ex0, (i : Int), e)) := by
    unfold parse_Expr
    rw [decide_eq_false (by omega), cond_false, decide_eq_false (by omega), Option.bind_some, cond_false]
    change Option.bind (parse_reader_row (mk L 0 0) 0) _ = _
    rw [hrow, Option.bind_some]
    show (bif e != 0 then _ else _) = _
    cases h : e == 0
    · simp only [bne, h, Bool.not_false, cond_true, cond_false]; rfl
    · simp only [bne, h, Bool.not_true, cond_true, cond_false]; rfl
  have hidx : idx L (min (i : Int) (IntKind.i64.wrap ((L.length : Int) - 1))) = some (lk L (min i (L.length - 1))) := by
    rw [wrap_id (by omega) (by omega), show min (i : Int) ((L.length : Int) - 1) = ((min i (L.length - 1) : Nat) : Int) by omega, idx_nat]
    unfold lk
    rw [List.getD_eq_getElem?_getD, List.getElem?_eq_getElem (by omega)]; rfl
  simp only []
  rw [show ((0 : Int) != 0) = false from rfl, cond_false, hex, Option.bind_some]
  by_cases he : e = 0
  · subst he
    simp only [beq_self_eq_true, cond_true, hidx, Option.bind_some]
    by_cases hk : (lk L (min i (L.length - 1))).gKind = 0
    · rw [hk]
      exact ⟨_, _, rfl, fun _ _ => rfl⟩
    · rw [show ((lk L (min i (L.length - 1))).gKind == 0) = false by simp [hk], show ((lk L (min i (L.length - 1))).gKind != 0) = true by simp [hk]]
      exact ⟨_, _, rfl, fun _ h => absurd h hk⟩
  · rw [show (e == 0) = false by simp [he], cond_false]
    simp only []
    rw [show (e == 0) = false by simp [he], cond_false, Option.bind_some, cond_false, Option.bind_some, show (e != 0) = true by simp [he], cond_true, hidx]
    exact ⟨_, _, rfl, fun h => absurd h he⟩
theorem text_err {b : List UInt8} {a e : Int} (he : e ≠ 0) (h : token_Read b = some ([], a, e)) : parse_Text b = some (ex0, a, e) := by
  unfold parse_Text
  rw [h, Option.bind_some]
  simp only []
  rw [show (e != 0) = true by simp [he], cond_true]; rfl
/-- Each text has an answer. -/
theorem text_tot (b : List UInt8) (hb : b.length ≤ 20000) : ∃ y n e, parse_Text b = some (y, n, e) := by
  rcases read_cases b hb with ⟨a, e, he, h⟩ | ⟨new, h, h2, _⟩
  · exact ⟨_, _, _, text_err he h⟩
  · obtain ⟨x, i, e, h3, _⟩ := row_ab (new.map (tb 0) ++ [endT b.length]) (by simp; omega)
    obtain ⟨y, n, h4, _⟩ := text_eq h (by simp) (by simp; omega) (row_any h3)
    exact ⟨_, _, _, h4⟩
/-- Rows over a unit behind which there is nothing. -/
theorem rows_up {L : List Tok} {n j : Nat} {y : Xp} (hL : L.length ≤ 100000) (hu : (pg n).2.1 (mk L 0 0) = some (y, mk L j 0)) (hj : j ≤ 1000000) (hend : (lk L j).gKind = 0) : ∀ q : Nat, q ≤ 6 → (pg (n + 1 + q)).1 (mk L 0 0) ((6 - q : Nat) : Int) = some (y, mk L j 0)
  | 0, _ => (row6 n _).trans hu
  | q + 1, hq => by
    have ih := rows_up hL hu hj hend q (by omega)
    have h := rowK (n := n + 1 + q) (k := 6 - (q + 1)) (mk L 0 0) (by omega)
    rw [wIdx (by omega), show 6 - (q + 1) + 1 = 6 - q by omega, ih, Option.bind_some] at h
    change _ = Option.bind (loopM (rowF (pg (n + 1 + q)).1 ((6 - (q + 1) : Nat) : Int)) (st8 L j 0 y)) _ at h
    rw [loopM_done (rowF_eq (by omega) |>.trans (by unfold opAt; rw [hend]; rfl)), Option.bind_some] at h
    simp only [st8, xp_eta] at h
    exact h
theorem lk_cons_succ {t : Tok} {L : List Tok} {i : Nat} : lk (t :: L) (i + 1) = lk L i := by simp [lk]
theorem lk_map {L : List Tok} {f : Tok → Tok} {R : List Tok} {i : Nat} (h : i < L.length) : lk (L.map f ++ R) i = f (lk L i) := by
  unfold lk
  rw [List.getD_eq_getElem?_getD, List.getElem?_append_left (by simpa using h), List.getElem?_map, List.getD_eq_getElem?_getD, List.getElem?_eq_getElem h]; rfl
theorem lk_app {L R : List Tok} {i : Nat} (h : i < L.length) : lk (L ++ R) i = lk L i := by
  unfold lk
  rw [List.getD_eq_getElem?_getD, List.getElem?_append_left h, List.getD_eq_getElem?_getD]
theorem lk_at {L R : List Tok} {t : Tok} : lk (L ++ t :: R) L.length = t := by unfold lk; simp
theorem tb_sh (d : Nat) (x : Tp) : tb d x = shT (d : Int) (tb 0 x) := by
  unfold tb ta shT
  simp only [Nat.add_zero]
  congr 1
theorem tb_map (d : Nat) (new : List Tp) : new.map (tb d) = (new.map (tb 0)).map (shT (d : Int)) := by rw [List.map_map]; exact List.map_congr_left fun x _ => tb_sh d x
theorem mt_of {T pre : List Tok} {t e : Tok} {d : Nat} {p : Int} (ht : t.gKind = 0) (hd : pre.length = d) {c : Tok} (hc : c.gKind = 3 ∧ c.gText = ByteArray.mk #[41]) (hl : T.length + d ≤ 1000000) : Mt (T ++ [t]) (pre ++ (T.map (shT p) ++ [c] ++ [e])) d p T.length := by
  have hlk : ∀ i, lk (pre ++ (T.map (shT p) ++ [c] ++ [e])) (i + d) = lk (T.map (shT p) ++ [c] ++ [e]) i := by
    intro i
    unfold lk
    rw [List.getD_eq_getElem?_getD, List.getElem?_append_right (by omega), List.getD_eq_getElem?_getD, hd, Nat.add_sub_cancel]
  refine ⟨fun i hi => ?_, ?_, ?_, hl⟩
  · rw [hlk, List.append_assoc, lk_map hi, lk_app hi]
  · rw [lk_at]; exact ht
  · rw [hlk, List.append_assoc]
    have : lk (T.map (shT p) ++ ([c] ++ [e])) T.length = c := by
      have := lk_at (L := T.map (shT p)) (t := c) (R := [e])
      simpa using this
    rw [this]; exact hc
end Go.Proofs.Ytbfbipcjdiipaaa.Ab.Pq
