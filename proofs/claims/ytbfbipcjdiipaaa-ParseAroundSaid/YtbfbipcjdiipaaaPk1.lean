/- Layer 10: tokens; the same elsewhere. -/
import Derived.Test.YtbfbipcjdiipaaaPp1
namespace Go.Proofs.Ytbfbipcjdiipaaa.Ab.Pq
open Go
set_option linter.all false
def Tot {α : Type} (m : Option α) : Prop := ∃ r, m = some r
theorem Tot.some {α : Type} (a : α) : Tot (Option.some a) := ⟨a, rfl⟩
theorem Tot.bind {α β : Type} {m : Option α} {f : α → Option β} (h : Tot m) (k : ∀ a, Tot (f a)) : Tot (m.bind f) := by
  obtain ⟨a, rfl⟩ := h
  exact k a
theorem Tot.cond {α : Type} {c : Bool} {m n : Option α} (h : Tot m) (k : Tot n) : Tot (bif c then m else n) := by
  cases c
  · exact k
  · exact h
theorem Tot.get {α : Type} {m : Option α} (h : Tot m) (z : α) : m = Option.some (m.getD z) := by obtain ⟨a, rfl⟩ := h; rfl
theorem kind_tot (c : Int) : Tot (token_kind c) := by
  unfold token_kind
  repeat (first | exact Tot.some _ | refine Tot.bind ?_ (fun _ => ?_) | refine Tot.cond ?_ ?_)
noncomputable def kd (c : UInt8) : Int := (token_kind (IntKind.i32.wrap (c.toNat : Int))).getD 0
theorem kind_eq (c : UInt8) : token_kind (IntKind.i32.wrap (c.toNat : Int)) = some (kd c) := (kind_tot _).get 0
theorem kd41 : kd 41 = 0 := by unfold kd; rfl
noncomputable def dg (w : Bool) (c : UInt8) : Bool := kd c == 3 || (w && kd c == 2)
noncomputable def spn (w : Bool) (r : List UInt8) : Nat := (r.takeWhile (dg w)).length
theorem spn_le (w : Bool) (r : List UInt8) : spn w r ≤ r.length := by unfold spn; exact (List.takeWhile_sublist _).length_le
theorem dg41 (w : Bool) : dg w 41 = false := by unfold dg; rw [kd41]; cases w <;> rfl
theorem spn_more (w : Bool) : ∀ r, spn w (r ++ [41]) = spn w r
  | [] => by unfold spn; simp [dg41]
  | c :: r => by
    have ih := spn_more w r
    unfold spn at ih ⊢
    rw [List.cons_append, List.takeWhile_cons, List.takeWhile_cons]
    cases dg w c
    · rfl
    · simp only [if_true, List.length_cons, ih]
def rt (b : List UInt8) (a : Nat) (l : List Tok) : TTokenReader := ⟨b, (a : Int), l⟩
theorem drop_at {b : List UInt8} {a : Nat} {c : UInt8} {r : List UInt8} (h : b.drop a = c :: r) : b[a]? = some c ∧ a < b.length ∧ b.drop (a + 1) = r := by
  have h1 := congrArg List.head? h
  rw [List.head?_drop] at h1
  refine ⟨h1, (List.getElem?_eq_some_iff.1 h1).1, ?_⟩
  have h2 := congrArg (List.drop 1) h
  rw [List.drop_drop] at h2
  simpa using h2
theorem span_eq {b : List UInt8} {a : Nat} {l : List Tok} (w : Bool) (hb : b.length ≤ 100000) (ha : a ≤ b.length) : token_reader_span (rt b a l) w = some ((spn w (b.drop a) : Nat) : Int) := by
  unfold token_reader_span rt
  have key : ∀ (post pre : List UInt8), b.drop a = pre ++ post → loopM (fun (s24 : Int) => (bif (decide ((IntKind.i64.wrap ((a : Int) + s24)) < (b.length : Int))) then ((idx b (IntKind.i64.wrap ((a : Int) + s24))).bind fun x40 => ((token_kind (IntKind.i32.wrap (x40.toNat : Int))).bind fun x41 => (bif (x41 != (3 : Int)) then (bif (x41 != (2 : Int)) then some (.done s24) else (bif (!w) then some (.done s24) else some (.next (IntKind.i64.wrap (s24 + (1 : Int)))))) else some (.next (IntKind.i64.wrap (s24 + (1 : Int))))))) else some (.done s24))) ((pre.length : Nat) : Int) = some (((pre.length + spn w post : Nat)) : Int) := by
    intro post
    induction post with
    | nil =>
      intro pre h
      refine loopM_done ?_
      have hl := congrArg List.length h
      simp only [List.length_drop, List.append_nil] at hl
      rw [wrap_id (n := (a : Int) + (pre.length : Int)) (by omega) (by omega), decide_eq_false (by omega), cond_false]
      simp [spn]
    | cons c post ih =>
      intro pre h
      have hl := congrArg List.length h
      simp only [List.length_drop, List.length_append, List.length_cons] at hl
      have hc : b[a + pre.length]? = some c := by
        have := congrArg (fun z => z[pre.length]?) h
        simpa [List.getElem?_drop] using this
      have step : ∀ x, x = (bif (kd c != 3) then (bif (kd c != 2) then some (Step.done ((pre.length : Nat) : Int)) else (bif (!w) then some (.done ((pre.length : Nat) : Int)) else some (.next (IntKind.i64.wrap (((pre.length : Nat) : Int) + 1))))) else some (.next (IntKind.i64.wrap (((pre.length : Nat) : Int) + 1))) : Option (Step Int Int)) → (dg w c = true → x = some (.next ((pre.length + 1 : Nat) : Int))) ∧ (dg w c = false → x = some (.done ((pre.length : Nat) : Int))) := by
        rintro x rfl
        have hw := winc (i := pre.length) (by omega)
        unfold dg
        cases h3 : kd c == 3 <;> cases h2 : kd c == 2 <;> cases w <;> simp [bne, h3, h2, hw]
      obtain ⟨s1, s2⟩ := step _ rfl
      have hw := wrap_id (n := (a : Int) + (pre.length : Int)) (by omega) (by omega)
      have hidx : idx b ((a : Int) + (pre.length : Int)) = some c := by
        rw [show (a : Int) + (pre.length : Int) = ((a + pre.length : Nat) : Int) by omega, idx_nat]; exact hc
      cases hd : dg w c
      · rw [loopM_done (t := ((pre.length : Nat) : Int)) ?_]
        · simp [spn, hd]
        · rw [hw, decide_eq_true (by omega), cond_true, hidx, Option.bind_some, kind_eq, Option.bind_some]
          exact s2 hd
      · rw [loopM_next (s' := ((pre.length + 1 : Nat) : Int)) ?_]
        · have := ih (pre ++ [c]) (by simp [h])
          simp only [List.length_append, List.length_cons, List.length_nil, Nat.zero_add] at this
          rw [this]
          congr 2
          simp [spn, hd]; omega
        · rw [hw, decide_eq_true (by omega), cond_true, hidx, Option.bind_some, kind_eq, Option.bind_some]
          exact s1 hd
  have := key (b.drop a) [] rfl
  simp only [List.length_nil, Nat.zero_add] at this
  rw [show ((0 : Nat) : Int) = 0 from rfl] at this
  rw [this]; rfl
def txt (r : List UInt8) (n : Nat) : ByteArray := ByteArray.mk (r.take n).toArray
theorem txt_more {r : List UInt8} {n : Nat} (h : n ≤ r.length) : txt (r ++ [41]) n = txt r n := by unfold txt; rw [List.take_append_of_le_length h]
theorem cut_eq {b : List UInt8} {a n : Nat} (h : n ≤ (b.drop a).length) (ha : a ≤ b.length) (hb : b.length ≤ 100000) : cutL b (a : Int) (IntKind.i64.wrap ((a : Int) + (n : Int))) = some ((b.drop a).take n) := by
  rw [List.length_drop] at h
  rw [wrap_id (by omega) (by omega), show (a : Int) + (n : Int) = ((a + n : Nat) : Int) by omega, cutL_nat]
  · rw [Nat.add_sub_cancel_left]
  · omega
  · omega
theorem add_eq {b : List UInt8} {a n : Nat} {l : List Tok} {k v : Int} (h : n ≤ (b.drop a).length) (ha : a ≤ b.length) (hb : b.length ≤ 100000) (hl : l.length ≤ 100000) : token_reader_add (rt b a l) k (n : Int) v = some (bif decide (4000 ≤ l.length) then (6, rt b a l) else (0, rt b (a + n) (l ++ [⟨k, txt (b.drop a) n, v, (a : Int)⟩]))) := by
  unfold token_reader_add
  change (bif decide ((4000 : Int) ≤ (l.length : Int)) then _ else Option.bind (cutL b (a : Int) (IntKind.i64.wrap ((a : Int) + (n : Int)))) _) = _
  by_cases q : 4000 ≤ l.length
  · rw [decide_eq_true (by omega), cond_true, decide_eq_true q, cond_true]
  · rw [decide_eq_false (by omega), cond_false, decide_eq_false q, cond_false, cut_eq h ha hb, Option.bind_some]
    rw [app_len (by omega) (by simp [rt]; omega), Option.bind_some]
    have h2 := h
    rw [List.length_drop] at h2
    unfold rt txt
    simp only []
    rw [wrap_id (by omega) (by omega), show (a : Int) + (n : Int) = ((a + n : Nat) : Int) by omega]
def hasS (s : ByteArray) (l : List ByteArray) : Bool := l.any fun x => decide (s = x)
theorem index_eq (s : ByteArray) (l : List ByteArray) (hl : l.length ≤ 1000) : ∃ i, slices_Index_string_string l s = some i ∧ decide ((0 : Int) ≤ i) = hasS s l := by
  unfold slices_Index_string_string
  have key : ∀ (post pre : List ByteArray), l = pre ++ post → hasS s pre = false → ∃ r, loopM (fun (s15 : Int) => (bif (decide (s15 < (l.length : Int))) then ((idx l s15).bind fun x25 => (bif (decide (s = x25)) then some (Step.done (Sum.inr (α := Unit) s15)) else some (.next (IntKind.i64.wrap (s15 + (1 : Int)))))) else some (.done (.inl ())))) ((pre.length : Nat) : Int) = some r ∧ decide ((0 : Int) ≤ Sum.elim (fun _ => -1) id r) = hasS s l := by
    intro post
    induction post with
    | nil =>
      intro pre h hs
      rw [List.append_nil] at h; subst h
      refine ⟨.inl (), loopM_done (by rw [lt_end, cond_false]), ?_⟩
      rw [hs]; rfl
    | cons x post ih =>
      intro pre h hs
      have hf : (bif (decide (((pre.length : Nat) : Int) < (l.length : Int))) then ((idx l ((pre.length : Nat) : Int)).bind fun x25 => (bif (decide (s = x25)) then some (Step.done (Sum.inr (α := Unit) ((pre.length : Nat) : Int))) else some (.next (IntKind.i64.wrap (((pre.length : Nat) : Int) + (1 : Int)))))) else some (.done (.inl ()))) = (bif decide (s = x) then some (Step.done (Sum.inr (α := Unit) ((pre.length : Nat) : Int))) else some (.next ((pre.length + 1 : Nat) : Int))) := by
        rw [lt_pre h, cond_true, idx_pre2 h rfl, Option.bind_some, inc_pre h (by omega)]
      by_cases q : s = x
      · rw [decide_eq_true q, cond_true] at hf
        refine ⟨_, loopM_done hf, ?_⟩
        rw [show hasS s l = true by rw [h, q]; simp [hasS], decide_eq_true (by show (0 : Int) ≤ (pre.length : Int); omega)]
      · rw [decide_eq_false q, cond_false] at hf
        rw [loopM_next hf]
        have := ih (pre ++ [x]) (by simp [h]) (by unfold hasS at hs ⊢; rw [List.any_append, hs]; simp [q])
        simpa using this
  obtain ⟨r, h1, h2⟩ := key l [] rfl rfl
  simp only [List.length_nil] at h1
  rw [show ((0 : Nat) : Int) = 0 from rfl] at h1
  rw [h1, Option.bind_some]
  cases r with
  | inl u => exact ⟨-1, rfl, h2⟩
  | inr i => exact ⟨i, rfl, h2⟩
theorem contains_eq (s : ByteArray) (l : List ByteArray) (hl : l.length ≤ 1000) : slices_Contains_string_string l s = some (hasS s l) := by
  unfold slices_Contains_string_string
  obtain ⟨i, h1, h2⟩ := index_eq s l hl
  rw [h1, Option.bind_some, h2]
noncomputable def wd (s : ByteArray) : Bool := (token_Word s).getD false
theorem word_eq (s : ByteArray) : token_Word s = some (wd s) := by
  have : Tot (token_Word s) := by
    unfold token_Word
    rw [contains_eq _ _ (by decide)]
    exact Tot.some _
  exact this.get false
theorem name2_eq {b : List UInt8} {a : Nat} {l : List Tok} (ha : a ≤ b.length) (hb : b.length ≤ 100000) (hl : l.length ≤ 100000) : token_reader_name (rt b a l) =
    some (bif decide (20 < spn true (b.drop a)) then (6, rt b a l) else bif decide (4000 ≤ l.length) then (6, rt b a l) else (0, rt b (a + spn true (b.drop a)) (l ++ [⟨bif wd (txt (b.drop a) (spn true (b.drop a))) then 3 else 1, txt (b.drop a) (spn true (b.drop a)), 0, (a : Int)⟩]))) := by
  unfold token_reader_name
  rw [span_eq true hb ha, Option.bind_some]
  change Option.bind (cutL b (a : Int) (IntKind.i64.wrap ((a : Int) + (((spn true (b.drop a)) : Nat) : Int)))) _ = _
  have hn := spn_le true (b.drop a)
  rw [cut_eq hn ha hb, Option.bind_some]
  by_cases q : 20 < spn true (b.drop a)
  · rw [decide_eq_true (by omega), cond_true, decide_eq_true q, cond_true]
  · rw [decide_eq_false (by omega), cond_false, decide_eq_false q, cond_false, word_eq, Option.bind_some]
    rw [show (ByteArray.mk ((b.drop a).take (spn true (b.drop a))).toArray) = txt (b.drop a) (spn true (b.drop a)) from rfl]
    cases wd (txt (b.drop a) (spn true (b.drop a)))
    · simp only [cond_false, add_eq hn ha hb hl, Option.bind_some]
    · simp only [cond_true, add_eq hn ha hb hl, Option.bind_some]
end Go.Proofs.Ytbfbipcjdiipaaa.Ab.Pq
