/- Layer 12: the law of brackets. -/
import Derived.Test.YtbfbipcjdiipaaaPk4
namespace Go.Proofs.Ytbfbipcjdiipaaa.Ab.Pq
open Go
set_option linter.all false
theorem unit_sign {n i : Nat} {L : List Tok} (hi : i ≤ 4000000) (hk : (lk L i).gKind = 3) : (pg (n + 1)).2.1 (mk L i 0) = (pg n).2.2.2.2 (mk L (i + 1) 0) (lk L i) (i : Int) := by
  rw [unit_eq hi, hk]; rfl
theorem sign_par {n i a : Nat} {L : List Tok} {t : Tok} (ht : t.gText = ByteArray.mk #[40]) : (pg (n + 1)).2.2.2.2 (mk L i 0) t (a : Int) = (pg n).2.2.2.1 (mk L i 0) (ByteArray.mk #[41]) := by
  rw [sign_eq, ht]; rfl
theorem sign_neg {n i a : Nat} {L : List Tok} {t : Tok} (ht : t.gText = ByteArray.mk #[45]) : (pg (n + 1)).2.2.2.2 (mk L i 0) t (a : Int) = ((pg n).2.1 (mk L i 0)).bind fun y => parse_reader_sound y.2 ⟨5, 0, ByteArray.empty, [y.1], t.gAt⟩ (a : Int) := by
  rw [sign_eq, ht]; rfl
theorem all_ok {n i j : Nat} {L : List Tok} {x : Xp} (h : (pg n).1 (mk L i 0) 0 = some (x, mk L j 0)) (hj : j ≤ 1000000) (hc : isS L j (ByteArray.mk #[41]) = true) : (pg (n + 1)).2.2.2.1 (mk L i 0) (ByteArray.mk #[41]) = some (x, mk L (j + 1) 0) := by
  rw [all_eq, h, Option.bind_some]
  change Option.bind (parse_reader_eat (mk L j 0) _) _ = _
  rw [eat_eq _ (by omega), Option.bind_some, hc, cond_true]
theorem isS_cl {L : List Tok} {j a : Nat} (h : lk L j = clT a) : isS L j (ByteArray.mk #[41]) = true := by unfold isS; rw [h]; rfl
/-- A unit in brackets. -/
theorem unit_par {n i j : Nat} {L : List Tok} {x : Xp} {a b : Nat} (hi : i ≤ 100000) (hj : j ≤ 100000) (ho : lk L i = opT a) (h : (pg n).1 (mk L (i + 1) 0) 0 = some (x, mk L j 0)) (hc : lk L j = clT b) : (pg (n + 3)).2.1 (mk L i 0) = some (x, mk L (j + 1) 0) := by
  rw [unit_sign (by omega) (by rw [ho]; rfl), ho, sign_par rfl]
  exact all_ok h (by omega) (isS_cl hc)
theorem lk_len {A : List Tok} {t : Tok} {B : List Tok} {n : Nat} (h : A.length = n) : lk (A ++ t :: B) n = t := by subst h; exact lk_at
theorem cat_par (b : List UInt8) (hb : b.length ≤ 10000) : ∃ s, catS (ByteArray.mk #[40]) (ByteArray.mk b.toArray) = some s ∧ ∃ t, catS s (ByteArray.mk #[41]) = some t ∧ t.data.toList = 40 :: (b ++ [41]) := by
  have e : (ByteArray.mk b.toArray).size = b.length := by simp [ByteArray.size]
  refine ⟨_, catS_of ?_, _, catS_of ?_, ?_⟩
  · rw [e]; show 1 + _ ≤ _; omega
  · rw [ByteArray.size_append, e]; show 1 + _ + 1 ≤ _; omega
  · simp [ByteArray.data_append]
theorem cat_neg (b : List UInt8) (hb : b.length ≤ 10000) : ∃ s, catS (ByteArray.mk #[45, 40]) (ByteArray.mk b.toArray) = some s ∧ ∃ t, catS s (ByteArray.mk #[41]) = some t ∧ t.data.toList = 45 :: 40 :: (b ++ [41]) := by
  have e : (ByteArray.mk b.toArray).size = b.length := by simp [ByteArray.size]
  refine ⟨_, catS_of ?_, _, catS_of ?_, ?_⟩
  · rw [e]; show 2 + _ ≤ _; omega
  · rw [ByteArray.size_append, e]; show 2 + _ + 1 ≤ _; omega
  · simp [ByteArray.data_append]
theorem same_eq {a b : Xp} (h : szE a ≤ 1048576) : r11_Same a b = some (eqE false a b) := by
  unfold r11_Same
  rw [rexps_eq (by simp [szEs]; omega), Option.bind_some]
  simp [eqEs]
/-- What stands in brackets. -/
theorem around (b : List UInt8) (hb : b.length ≤ 10000) : ∃ x n e, parse_Text b = some (x, n, e) ∧ (e = 0 →
    szE x ≤ 1048576 ∧ dpE x ≤ 24 ∧ (∃ y m f, parse_Text (40 :: (b ++ [41])) = some (y, m, f) ∧ (f = 6 ∨ f = 0 ∧ y = shE 1 x)) ∧
      ∃ z k g, parse_Text (45 :: 40 :: (b ++ [41])) = some (z, k, g) ∧ (g = 6 ∨ (g = 5 ∧ dpE x = 24) ∨ g = 0 ∧ z.gOp = 5 ∧ z.gKids = [shE 2 x])) := by
  rcases read_cases b (by omega) with ⟨a, e, he, h⟩ | ⟨new, h, hn, hk, ho⟩
  · exact ⟨_, _, _, text_err he h, fun q => absurd q he⟩
  · have hTl : (new.map (tb 0)).length = new.length := by simp
    obtain ⟨x, i, e, h3, hab⟩ := row_ab (new.map (tb 0) ++ [endT b.length]) (by simp; omega)
    obtain ⟨y, n, h4, h5⟩ := text_eq h (by simp) (by simp; omega) (row_any h3)
    refine ⟨_, _, _, h4, fun hz => ?_⟩
    by_cases he : e = 0
    rotate_left
    · rw [show (e == 0) = false by simp [he], cond_false] at hz; exact absurd hz he
    subst he
    obtain ⟨g1, g2, g3, g4, g5⟩ := hab rfl
    have hkk : (lk (new.map (tb 0) ++ [endT b.length]) (min i ((new.map (tb 0) ++ [endT b.length]).length - 1))).gKind = 0 := by
      rw [show ((0 : Int) == 0) = true from rfl, cond_true] at hz
      cases hq : (lk (new.map (tb 0) ++ [endT b.length]) (min i ((new.map (tb 0) ++ [endT b.length]).length - 1))).gKind == 0
      · rw [hq] at hz; cases hz
      · simpa using hq
    have hy := h5 rfl hkk
    subst hy
    simp only [List.length_append, hTl, List.length_cons, List.length_nil, Nat.zero_add] at g2 hkk
    -- where it ends
    have him : new.length ≤ i := by
      rcases Nat.lt_or_ge i new.length with q | q
      · rw [show min i (new.length + 1 - 1) = i by omega, lk_app (by rw [hTl]; exact q)] at hkk
        have : lk (new.map (tb 0)) i = tb 0 new[i] := by
          unfold lk
          rw [List.getD_eq_getElem?_getD, List.getElem?_map, List.getElem?_eq_getElem q]; rfl
        rw [this] at hkk
        exact absurd hkk (hk _ (List.getElem_mem q))
      · exact q
    have hsz : szE y ≤ 1048576 := by omega
    have hms : Mt (new.map (tb 0) ++ [endT b.length]) (opT 0 :: (new.map (tb 1) ++ [clT (b.length + 1)]) ++ [endT (b.length + 2)]) 1 1 new.length := by
      have := mt_of (T := new.map (tb 0)) (pre := [opT 0]) (t := endT b.length) (e := endT (b.length + 2)) (p := 1) (c := clT (b.length + 1)) rfl rfl ⟨rfl, rfl⟩ (by simp; omega)
      rw [hTl] at this
      rw [tb_map 1]; simpa using this
    obtain ⟨hi1, hr1⟩ := g5 _ 1 1 _ hms (Nat.zero_le _)
    have hie : i = new.length := by omega
    subst hie
    have hms2 : Mt (new.map (tb 0) ++ [endT b.length]) (mnT 0 :: opT 1 :: (new.map (tb 2) ++ [clT (b.length + 2)]) ++ [endT (b.length + 3)]) 2 2 new.length := by
      have := mt_of (T := new.map (tb 0)) (pre := [mnT 0, opT 1]) (t := endT b.length) (e := endT (b.length + 3)) (p := 2) (c := clT (b.length + 2)) rfl rfl ⟨rfl, rfl⟩ (by simp; omega)
      rw [hTl] at this
      rw [tb_map 2]; simpa using this
    obtain ⟨_, hr2⟩ := g5 _ 2 2 _ hms2 (Nat.zero_le _)
    simp only [Nat.zero_add] at hr1 hr2
    have l1 : lk (opT 0 :: (new.map (tb 1) ++ [clT (b.length + 1)]) ++ [endT (b.length + 2)]) (new.length + 1) = clT (b.length + 1) := by
      have := lk_len (A := opT 0 :: new.map (tb 1)) (t := clT (b.length + 1)) (B := [endT (b.length + 2)]) (n := new.length + 1) (by simp)
      simpa using this
    have l2 : lk (opT 0 :: (new.map (tb 1) ++ [clT (b.length + 1)]) ++ [endT (b.length + 2)]) (new.length + 2) = endT (b.length + 2) := by
      have := lk_len (A := opT 0 :: (new.map (tb 1) ++ [clT (b.length + 1)])) (t := endT (b.length + 2)) (B := []) (n := new.length + 2) (by simp)
      simpa using this
    have m1 : lk (mnT 0 :: opT 1 :: (new.map (tb 2) ++ [clT (b.length + 2)]) ++ [endT (b.length + 3)]) (new.length + 2) = clT (b.length + 2) := by
      have := lk_len (A := mnT 0 :: opT 1 :: new.map (tb 2)) (t := clT (b.length + 2)) (B := [endT (b.length + 3)]) (n := new.length + 2) (by simp)
      simpa using this
    have m2 : lk (mnT 0 :: opT 1 :: (new.map (tb 2) ++ [clT (b.length + 2)]) ++ [endT (b.length + 3)]) (new.length + 3) = endT (b.length + 3) := by
      have := lk_len (A := mnT 0 :: opT 1 :: (new.map (tb 2) ++ [clT (b.length + 2)])) (t := endT (b.length + 3)) (B := []) (n := new.length + 3) (by simp)
      simpa using this
    refine ⟨hsz, g3, ?_, ?_⟩
    · rcases read_par hb ho with ⟨a, ha⟩ | ⟨_, ha⟩
      · exact ⟨_, _, _, text_err (by decide) ha, .inl rfl⟩
      · have hu := unit_par (i := 0) (a := 0) (by omega) (by omega) rfl hr1 l1
        have hrow := rows_up (by simp; omega) hu (by omega) (by rw [l2]; rfl) 6 (Nat.le_refl _)
        obtain ⟨z, m, h6, h7⟩ := text_eq ha (by simp) (by simp; omega) (row_any hrow)
        have hkz : (lk (opT 0 :: (new.map (tb 1) ++ [clT (b.length + 1)]) ++ [endT (b.length + 2)]) (min (new.length + 1 + 1) ((opT 0 :: (new.map (tb 1) ++ [clT (b.length + 1)]) ++ [endT (b.length + 2)]).length - 1))).gKind = 0 := by
          rw [show min (new.length + 1 + 1) ((opT 0 :: (new.map (tb 1) ++ [clT (b.length + 1)]) ++ [endT (b.length + 2)]).length - 1) = new.length + 2 by simp, l2]; rfl
        rw [hkz] at h6
        exact ⟨z, m, _, h6, .inr ⟨rfl, h7 rfl hkz⟩⟩
    · rcases read_neg hb ho with ⟨a, ha⟩ | ha
      · exact ⟨_, _, _, text_err (by decide) ha, .inl rfl⟩
      · have hu := unit_par (i := 1) (a := 1) (by omega) (by omega) rfl hr2 m1
        have hun : ∀ N, (pg (N + 2)).2.1 (mk (mnT 0 :: opT 1 :: (new.map (tb 2) ++ [clT (b.length + 2)]) ++ [endT (b.length + 3)]) 0 0) = ((pg N).2.1 (mk (mnT 0 :: opT 1 :: (new.map (tb 2) ++ [clT (b.length + 2)]) ++ [endT (b.length + 3)]) 1 0)).bind fun y => parse_reader_sound y.2 ⟨5, 0, ByteArray.empty, [y.1], 0⟩ ((0 : Nat) : Int) := fun N => by
          rw [unit_sign (by omega) rfl]
          exact sign_neg rfl
        have hu2 := hun (10 * (new.map (tb 0) ++ [endT b.length]).length + 8 + 3)
        have hszz : szE (⟨5, 0, ByteArray.empty, [shE 2 y], 0⟩ : Xp) = 1 + szE y := by rw [szE_eq]; simp [szEs, szE_sh]
        have hdpz : dpE (⟨5, 0, ByteArray.empty, [shE 2 y], 0⟩ : Xp) = 1 + dpE y := by rw [dpE_eq]; simp [dpEs, dpE_sh]
        rw [hu, Option.bind_some, sound_eq (fun _ => by simp only []; rw [hszz]; omega)] at hu2
        simp only [beq_self_eq_true, cond_true] at hu2
        rw [hdpz] at hu2
        by_cases hd : 24 < 1 + dpE y
        · rw [decide_eq_true hd, cond_true] at hu2
          -- too deep
          have hbad : ∀ q : Nat, q ≤ 6 → ∃ N, (pg N).1 (mk (mnT 0 :: opT 1 :: (new.map (tb 2) ++ [clT (b.length + 2)]) ++ [endT (b.length + 3)]) 0 0) ((6 - q : Nat) : Int) = some (ex0, mk (mnT 0 :: opT 1 :: (new.map (tb 2) ++ [clT (b.length + 2)]) ++ [endT (b.length + 3)]) 0 5) := by
            intro q
            induction q with
            | zero => intro _; exact ⟨_, (row6 _ _).trans hu2⟩
            | succ q ih =>
              intro hq
              obtain ⟨N, hN⟩ := ih (by omega)
              refine ⟨N + 1, ?_⟩
              have h := rowK (n := N) (k := 6 - (q + 1)) (mk (mnT 0 :: opT 1 :: (new.map (tb 2) ++ [clT (b.length + 2)]) ++ [endT (b.length + 3)]) 0 0) (by omega)
              rw [wIdx (by omega), show 6 - (q + 1) + 1 = 6 - q by omega, hN, Option.bind_some] at h
              change _ = Option.bind (loopM (rowF (pg N).1 ((6 - (q + 1) : Nat) : Int)) (st8 _ 0 5 ex0)) _ at h
              rw [loopM_done (rowF_bad (by decide)), Option.bind_some] at h
              exact h
          obtain ⟨N, hN⟩ := hbad 6 (Nat.le_refl _)
          obtain ⟨z, m, h6, _⟩ := text_eq ha (by simp) (by simp; omega) (row_any hN)
          exact ⟨z, m, _, h6, .inr (.inl ⟨rfl, by omega⟩)⟩
        · rw [decide_eq_false hd, cond_false] at hu2
          have hrow := rows_up (by simp; omega) hu2 (by omega) (by rw [m2]; rfl) 6 (Nat.le_refl _)
          obtain ⟨z, m, h6, h7⟩ := text_eq ha (by simp) (by simp; omega) (row_any hrow)
          have hkz : (lk (mnT 0 :: opT 1 :: (new.map (tb 2) ++ [clT (b.length + 2)]) ++ [endT (b.length + 3)]) (min (new.length + 2 + 1) ((mnT 0 :: opT 1 :: (new.map (tb 2) ++ [clT (b.length + 2)]) ++ [endT (b.length + 3)]).length - 1))).gKind = 0 := by
            rw [show min (new.length + 2 + 1) ((mnT 0 :: opT 1 :: (new.map (tb 2) ++ [clT (b.length + 2)]) ++ [endT (b.length + 3)]).length - 1) = new.length + 3 by simp, m2]; rfl
          rw [hkz] at h6
          have hz := h7 rfl hkz
          subst hz
          exact ⟨_, m, _, h6, .inr (.inr ⟨rfl, rfl, rfl⟩)⟩
theorem around_law (b : List UInt8) : l12_ParseAround b = some true := by
  unfold l12_ParseAround
  by_cases hb : 10000 < b.length
  · rw [decide_eq_true (by omega), cond_true, lives12, Option.bind_some]
  · rw [decide_eq_false (by omega), cond_false]
    obtain ⟨s1, c1, t1, c2, c3⟩ := cat_par b (by omega)
    obtain ⟨s2, c4, t2, c5, c6⟩ := cat_neg b (by omega)
    obtain ⟨x, n, e, h1, h2⟩ := around b (by omega)
    rw [h1, Option.bind_some, c1, Option.bind_some, c2, Option.bind_some, c3, c4]
    by_cases he : e = 0
    · subst he
      obtain ⟨hsz, hdp, ⟨y, m, f, h3, h4⟩, z, k, g, h5, h6⟩ := h2 rfl
      rw [h3, Option.bind_some, Option.bind_some, c5, Option.bind_some, c6, h5, Option.bind_some]
      simp only []
      rw [lives12, Option.bind_some, show ((0 : Int) != 0) = false from rfl, cond_false]
      rcases h4 with h4 | ⟨h4, hy⟩
      · subst h4
        rw [show ((6 : Int) == 6) = true from rfl, cond_true]
      · subst h4; subst hy
        rw [show ((0 : Int) == 6) = false from rfl, cond_false, show ((0 : Int) != 0) = false from rfl, cond_false, same_eq hsz, eqE_sh]
        simp only [Option.bind_some, Bool.not_true, cond_false]
        rcases h6 with h6 | ⟨h6, hd⟩ | ⟨h6, h7, h8⟩
        · subst h6
          rw [show ((6 : Int) != 0) = true from rfl, cond_true, show ((6 : Int) == 0) = false from rfl, cond_false, show ((6 : Int) == 6) = true from rfl, cond_true]
        · subst h6
          rw [rdeep_eq hsz, hd]
          rw [show ((5 : Int) != 0) = true from rfl, cond_true, show ((5 : Int) == 0) = false from rfl, cond_false, show ((5 : Int) == 6) = false from rfl, cond_false, show ((5 : Int) == 5) = true from rfl, cond_true, Option.bind_some, show (((24 : Nat) : Int) == 24) = true from rfl, cond_true]
        · subst h6
          rw [show ((0 : Int) != 0) = false from rfl, cond_false, h7, h8]
          have hi : idx [shE 2 x] 0 = some (shE 2 x) := rfl
          simp only [hi, Option.bind_some]
          rw [same_eq (by rw [szE_sh]; exact hsz), eqE_sh']
          rfl
    · obtain ⟨y, m, f, h3⟩ := text_tot (40 :: (b ++ [41])) (by simp only [List.length_cons, List.length_append, List.length_nil]; omega)
      obtain ⟨z, k, g, h4⟩ := text_tot (45 :: 40 :: (b ++ [41])) (by simp only [List.length_cons, List.length_append, List.length_nil]; omega)
      rw [h3, Option.bind_some, Option.bind_some, c5, Option.bind_some, c6, h4, Option.bind_some]
      simp only []
      rw [show (e != 0) = true by simp [he], cond_true, lives12, Option.bind_some]
end Go.Proofs.Ytbfbipcjdiipaaa.Ab.Pq
