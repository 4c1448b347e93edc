/- Layer 10: bytes' kinds, words of the language. -/
import Derived.Test.YtnjeklpjjceppaaTb
import Derived.Test.YtnjeklpjjceppaaFa
import Derived.Test.YtnjeklpjjceppaaAb17
namespace Go.Proofs.Ytnjeklpjjceppaa.Ab
open Go
set_option linter.all false
def strD (s : ByteArray) : D := .v (.string s)
def hasB (l : List ByteArray) (s : ByteArray) : Bool := l.any fun x => decide (x = s)
theorem wrapS {k : Nat} (h : k < 9223372036854775807) : IntKind.i64.wrap ((k : Int) + 1) = ((k + 1 : Nat) : Int) := by
  rw [IntKind.wrap_i64]; omega
theorem hasB_take {l : List ByteArray} {s x : ByteArray} {k : Nat} (h : hasB (l.take k) s = false) (hx : l[k]? = some x) (hne : decide (x = s) = false) : hasB (l.take (k + 1)) s = false := by
  unfold hasB at *
  rw [List.take_add_one, hx]
  simp_all
theorem hasB_hit {l : List ByteArray} {s x : ByteArray} {k : Nat} (hx : l[k]? = some x) (he : decide (x = s) = true) : hasB l s = true := by
  unfold hasB
  rw [List.any_eq_true]
  exact ⟨x, List.mem_of_getElem? hx, he⟩
theorem map_get {α : Type} {f : α → D} {l : List α} {k : Nat} {x : α} (h : l[k]? = some x) : (l.map f)[((k : Nat) : Int).toNat]? = some (f x) := by simp [h]
theorem in_any (l : List ByteArray) (s : ByteArray) (hl : l.length ≤ 140737488355328) : CallsD Try.prog 23 [.lst 1 (l.map strD) .no, strD s] [] [] (fun d h k => d = .v (.bool (hasB l s)) ∧ h = [] ∧ k = []) := by
  refine enter htab Try.func23 rfl rfl rfl rfl rfl (fun C => ?_)
  refine wpD_seq ?_
  refine wpD_region ?_
  refine p_pure htab rfl rfl rfl rfl ?_
  refine ops_nil ?_
  refine then_normal ?_
  refine wpD_seq ?_
  refine wpD_seq ?_
  refine wpD_region ?_
  refine p_pure htab rfl rfl rfl rfl ?_
  refine ops_nil ?_
  refine then_normal ?_
  refine wpD_block ?_
  refine loop_ind (α := Nat) (fun k => k ≤ l.length ∧ hasB (l.take k) s = false) (fun k => ⟨[(0, .lst 1 (l.map strD) .no), (1, strD s), (4, .v (.bool false)), (5, .v (.int .i64 k))], _, []⟩) (fun k => l.length - k) 0 ⟨Nat.zero_le _, by simp [hasB]⟩ (WkS.slots (WkS.cons rfl (Wk.refl _) (WkS.cons rfl (Wk.refl _) (WkS.cons rfl (Wk.refl _) (WkS.cons rfl (Wk.refl _) (WkS.nil))))) (List.Sublist.refl _) (List.Sublist.refl _)) ?_
  rintro k ⟨hk, hn⟩
  refine wpD_seq ?_
  refine wpD_seq ?_
  refine wpD_region ?_
  refine p_pure htab rfl rfl rfl rfl ?_
  refine p_pure htab rfl rfl rfl rfl ?_
  refine p_lenL htab rfl rfl rfl rfl rfl rfl rfl (by first | exact List.length_map _ | rfl) ?_
  refine p_pure htab rfl rfl rfl rfl ?_
  refine ops_nil ?_
  refine then_normal ?_
  refine wpD_cond rfl (fun hc1 => ?_) (fun hc1 => ?_)
  · skip
    refine wpD_skip ?_
    refine then_normal ?_
    refine wpD_seq ?_
    refine wpD_block ?_
    refine wpD_seq ?_
    refine wpD_region ?_
    refine p_pure htab rfl rfl rfl rfl ?_
    refine p_pure htab rfl rfl rfl rfl ?_
    have hlt : k < l.length := (by simpa using hc1); obtain ⟨x, hx⟩ : ∃ x, l[k]? = some x := ⟨l[k]'hlt, by simp⟩
    refine p_elem htab rfl rfl rfl rfl rfl rfl rfl rfl rfl rfl (by omega) (map_get hx) ?_
    refine p_loadEl htab rfl rfl rfl rfl rfl rfl rfl rfl ?_
    refine p_pure htab rfl rfl rfl rfl ?_
    refine p_pure htab rfl rfl rfl rfl ?_
    refine ops_nil ?_
    refine then_normal ?_
    refine wpD_cond rfl (fun hc2 => ?_) (fun hc2 => ?_)
    · skip
      refine wpD_seq ?_
      refine wpD_region ?_
      refine p_pure htab rfl rfl rfl rfl ?_
      refine ops_nil ?_
      refine then_normal ?_
      refine wpD_ret ?_
      refine block_ret ?_
      refine then_ret ?_
      refine then_ret ?_
      refine block_ret ?_
      refine then_ret ?_
      refine ret1 (.inl rfl) rfl ?_
      first | (rw [hasB_hit hx (by assumption)]; rfl) | (rw [List.take_of_length_le (by simpa using hc1)] at hn; rw [hn]; rfl)
    · skip
      refine wpD_skip ?_
      refine block_normal ?_
      refine then_normal ?_
      refine wpD_region ?_
      refine p_pure htab rfl rfl rfl rfl ?_
      refine p_pure htab rfl rfl rfl rfl ?_
      refine p_pure htab rfl rfl rfl rfl ?_
      refine ops_nil ?_
      refine then_normal ?_
      refine ⟨(k + 1), WkS.slots (WkS.cons rfl (Wk.refl _) (WkS.cons rfl (Wk.refl _) (WkS.cons rfl (Wk.refl _) (WkS.cons rfl (Wk.of_eq (by rw [wrapS (by omega)])) (WkS.nil))))) (List.Sublist.refl _) (List.Sublist.refl _), ⟨by omega, hasB_take hn hx (by assumption)⟩, by omega⟩
  · skip
    refine wpD_exit ?_
    refine then_exit ?_
    refine then_exit ?_
    refine block_hit ?_
    refine then_normal ?_
    refine wpD_seq ?_
    refine wpD_region ?_
    refine p_pure htab rfl rfl rfl rfl ?_
    refine ops_nil ?_
    refine then_normal ?_
    refine wpD_ret ?_
    refine ret1 (.inl rfl) rfl ?_
    first | (rw [hasB_hit hx (by assumption)]; rfl) | (rw [List.take_of_length_le (by simpa using hc1)] at hn; rw [hn]; rfl)
def idxB (l : List ByteArray) (s : ByteArray) : Int := if hasB l s = true then ((l.findIdx fun x => decide (x = s) : Nat) : Int) else -1
theorem idx_hit {l : List ByteArray} {s x : ByteArray} {k : Nat} (hn : hasB (l.take k) s = false) (hx : l[k]? = some x) (he : decide (x = s) = true) : ((k : Nat) : Int) = idxB l s := by
  unfold idxB
  rw [if_pos (hasB_hit hx he)]
  have : l.findIdx (fun x => decide (x = s)) = k := by
    rw [List.findIdx_eq (by exact (List.getElem?_eq_some_iff.1 hx).1)]
    refine ⟨by rw [(List.getElem?_eq_some_iff.1 hx).2]; exact he, fun j hj => ?_⟩
    unfold hasB at hn
    rw [List.any_eq_false] at hn
    have hjl : j < l.length := Nat.lt_trans hj (List.getElem?_eq_some_iff.1 hx).1
    have := hn l[j] (List.mem_take_iff_getElem.2 ⟨j, by omega, rfl⟩)
    simpa using this
  rw [this]
theorem index_any (l : List ByteArray) (s : ByteArray) (hl : l.length ≤ 140737488355328) : CallsD Try.prog 33 [.lst 1 (l.map strD) .no, strD s] [] [] (fun d h k => d = .v (.int .i64 (idxB l s)) ∧ h = [] ∧ k = []) := by
  refine enter htab Try.func33 rfl rfl rfl rfl rfl (fun C => ?_)
  refine wpD_seq ?_
  refine wpD_region ?_
  refine p_pure htab rfl rfl rfl rfl ?_
  refine ops_nil ?_
  refine then_normal ?_
  refine wpD_seq ?_
  refine wpD_seq ?_
  refine wpD_region ?_
  refine p_pure htab rfl rfl rfl rfl ?_
  refine p_lenL htab rfl rfl rfl rfl rfl rfl rfl (by first | exact List.length_map _ | rfl) ?_
  refine p_pure htab rfl rfl rfl rfl ?_
  refine ops_nil ?_
  refine then_normal ?_
  refine wpD_block ?_
  refine loop_ind (α := Nat) (fun k => k ≤ l.length ∧ hasB (l.take k) s = false) (fun k => ⟨[(0, .lst 1 (l.map strD) .no), (1, strD s), (7, .v (.int .i64 l.length)), (8, .v (.int .i64 k))], _, []⟩) (fun k => l.length - k) 0 ⟨Nat.zero_le _, by simp [hasB]⟩ (WkS.slots (WkS.cons rfl (Wk.refl _) (WkS.cons rfl (Wk.refl _) (WkS.cons rfl (Wk.refl _) (WkS.cons rfl (Wk.refl _) (WkS.nil))))) (List.Sublist.refl _) (List.Sublist.refl _)) ?_
  rintro k ⟨hk, hn⟩
  refine wpD_seq ?_
  refine wpD_region ?_
  refine p_pure htab rfl rfl rfl rfl ?_
  refine ops_nil ?_
  refine then_normal ?_
  refine wpD_seq ?_
  refine wpD_cond rfl (fun hc1 => ?_) (fun hc1 => ?_)
  · skip
    refine wpD_skip ?_
    refine then_normal ?_
    refine wpD_seq ?_
    refine wpD_block ?_
    refine wpD_seq ?_
    refine wpD_region ?_
    refine p_pure htab rfl rfl rfl rfl ?_
    refine p_pure htab rfl rfl rfl rfl ?_
    refine ops_nil ?_
    refine then_normal ?_
    refine wpD_seq ?_
    refine wpD_region ?_
    refine p_pure htab rfl rfl rfl rfl ?_
    refine p_pure htab rfl rfl rfl rfl ?_
    refine p_pure htab rfl rfl rfl rfl ?_
    have hlt : k < l.length := (by simpa using hc1); obtain ⟨x, hx⟩ : ∃ x, l[k]? = some x := ⟨l[k]'hlt, by simp⟩
    refine p_elem htab rfl rfl rfl rfl rfl rfl rfl rfl rfl rfl (by omega) (map_get hx) ?_
    refine p_loadEl htab rfl rfl rfl rfl rfl rfl rfl rfl ?_
    refine p_pure htab rfl rfl rfl rfl ?_
    refine ops_nil ?_
    refine then_normal ?_
    refine wpD_cond rfl (fun hc2 => ?_) (fun hc2 => ?_)
    · skip
      refine wpD_seq ?_
      refine wpD_region ?_
      refine p_pure htab rfl rfl rfl rfl ?_
      refine p_pure htab rfl rfl rfl rfl ?_
      refine ops_nil ?_
      refine then_normal ?_
      refine wpD_ret ?_
      refine block_ret ?_
      refine then_ret ?_
      refine then_ret ?_
      refine block_ret ?_
      refine then_ret ?_
      refine ret1 (.inl rfl) rfl ?_
      first | (rw [idx_hit hn hx (by simpa [eq_comm] using hc2)]) | (rw [List.take_of_length_le (by simpa using hc1)] at hn; unfold idxB; rw [hn]; rfl)
    · skip
      refine wpD_skip ?_
      refine block_normal ?_
      refine then_normal ?_
      refine wpD_region ?_
      refine p_pure htab rfl rfl rfl rfl ?_
      refine p_pure htab rfl rfl rfl rfl ?_
      refine ops_nil ?_
      refine then_normal ?_
      refine ⟨(k + 1), WkS.slots (WkS.cons rfl (Wk.refl _) (WkS.cons rfl (Wk.refl _) (WkS.cons rfl (Wk.refl _) (WkS.cons rfl (Wk.of_eq (by rw [wrapS (by omega)])) (WkS.nil))))) (List.Sublist.refl _) (List.Sublist.refl _), ⟨by omega, hasB_take hn hx (by simpa [eq_comm] using hc2)⟩, by omega⟩
  · skip
    refine wpD_exit ?_
    refine then_exit ?_
    refine then_exit ?_
    refine block_hit ?_
    refine then_normal ?_
    refine wpD_seq ?_
    refine wpD_region ?_
    refine p_pure htab rfl rfl rfl rfl ?_
    refine ops_nil ?_
    refine then_normal ?_
    refine wpD_ret ?_
    refine ret1 (.inl rfl) rfl ?_
    first | (rw [idx_hit hn hx (by simpa [eq_comm] using hc2)]) | (rw [List.take_of_length_le (by simpa using hc1)] at hn; unfold idxB; rw [hn]; rfl)
theorem contains_any (l : List ByteArray) (s : ByteArray) (hl : l.length ≤ 140737488355328) : CallsD Try.prog 22 [.lst 1 (l.map strD) .no, strD s] [] [] (fun d h k => d = .v (.bool (hasB l s)) ∧ h = [] ∧ k = []) := by
  have e : decide (0 ≤ idxB l s) = hasB l s := by
    unfold idxB
    cases hb : hasB l s <;> simp
  refine enter htab Try.func22 rfl rfl rfl rfl rfl (fun C => ?_)
  refine wpD_seq ?_
  refine wpD_region ?_
  refine p_pure htab rfl rfl rfl rfl ?_
  refine ops_nil ?_
  refine then_normal ?_
  refine wpD_seq ?_
  refine wpD_region ?_
  refine p_pure htab rfl rfl rfl rfl ?_
  refine p_pure htab rfl rfl rfl rfl ?_
  refine p_call0 (index_any l s hl) rfl rfl rfl rfl rfl (WkL.refl _) ?_
  rintro _ rfl
  refine p_pure htab rfl rfl rfl rfl ?_
  refine p_pure htab rfl rfl rfl rfl ?_
  refine ops_nil ?_
  refine then_normal ?_
  refine wpD_ret ?_
  refine ret1 (.inl rfl) rfl ?_
  rw [← e]
def isLet (c : Int) : Bool := decide (97 ≤ c) && decide (c ≤ 122) || decide (65 ≤ c) && decide (c ≤ 90) || c == 95
def isDig (c : Int) : Bool := decide (48 ≤ c) && decide (c ≤ 57)
def isBla (c : Int) : Bool := c == 32 || c == 9 || c == 10 || c == 13
def kindI (c : Int) : Int := if isBla c = true then 1 else if isLet c = true then 2 else if isDig c = true then 3 else 0
theorem letter_any (c : Int) : CallsD Try.prog 21 [.v (.int .u8 c)] [] [] (fun d h k => d = .v (.bool (isLet c)) ∧ h = [] ∧ k = []) := by
  refine enter htab Try.func21 rfl rfl rfl rfl rfl (fun C => ?_)
  refine wpD_seq ?_
  refine wpD_region ?_
  refine p_pure htab rfl rfl rfl rfl ?_
  refine ops_nil ?_
  refine then_normal ?_
  refine wpD_seq ?_
  refine wpD_region ?_
  refine p_pure htab rfl rfl rfl rfl ?_
  refine p_pure htab rfl rfl rfl rfl ?_
  refine p_pure htab rfl rfl rfl rfl ?_
  refine p_split (i := 5) rfl (fun hg1 => ?_) (fun hg1 => ?_)
  · skip
    refine p_pure htab rfl rfl rfl rfl ?_
    refine p_pure htab rfl rfl rfl rfl ?_
    refine p_pickT rfl rfl rfl rfl rfl rfl ?_
    refine p_pure htab rfl rfl rfl rfl ?_
    refine p_split (i := 9) rfl (fun hg2 => ?_) (fun hg2 => ?_)
    · skip
      refine p_skip rfl rfl rfl ?_
      refine p_skip rfl rfl rfl ?_
      refine p_skip rfl rfl rfl ?_
      refine p_skip rfl rfl rfl ?_
      refine p_skip rfl rfl rfl ?_
      refine p_skip rfl rfl rfl ?_
      refine p_pickT rfl rfl rfl rfl rfl rfl ?_
      refine p_pure htab rfl rfl rfl rfl ?_
      refine p_skip rfl rfl rfl ?_
      refine p_skip rfl rfl rfl ?_
      refine p_pickT rfl rfl rfl rfl rfl rfl ?_
      refine p_pure htab rfl rfl rfl rfl ?_
      refine ops_nil ?_
      refine then_normal ?_
      refine wpD_ret ?_
      refine ret1 (.inl rfl) rfl ?_
      first | (simp_all [isLet, ofVal]; done) | (simp_all [isLet, ofVal]; omega)
    · skip
      refine p_pure htab rfl rfl rfl rfl ?_
      refine p_pure htab rfl rfl rfl rfl ?_
      refine p_pure htab rfl rfl rfl rfl ?_
      refine p_split (i := 12) rfl (fun hg3 => ?_) (fun hg3 => ?_)
      · skip
        refine p_pure htab rfl rfl rfl rfl ?_
        refine p_pure htab rfl rfl rfl rfl ?_
        refine p_pickT rfl rfl rfl rfl rfl rfl ?_
        refine p_pickF rfl rfl rfl rfl rfl rfl ?_
        refine p_pure htab rfl rfl rfl rfl ?_
        refine p_split (i := 17) rfl (fun hg4 => ?_) (fun hg4 => ?_)
        · skip
          refine p_skip rfl rfl rfl ?_
          refine p_skip rfl rfl rfl ?_
          refine p_pickT rfl rfl rfl rfl rfl rfl ?_
          refine p_pure htab rfl rfl rfl rfl ?_
          refine ops_nil ?_
          refine then_normal ?_
          refine wpD_ret ?_
          refine ret1 (.inl rfl) rfl ?_
          first | (simp_all [isLet, ofVal]; done) | (simp_all [isLet, ofVal]; omega)
        · skip
          refine p_pure htab rfl rfl rfl rfl ?_
          refine p_pure htab rfl rfl rfl rfl ?_
          refine p_pickF rfl rfl rfl rfl rfl rfl ?_
          refine p_pure htab rfl rfl rfl rfl ?_
          refine ops_nil ?_
          refine then_normal ?_
          refine wpD_ret ?_
          refine ret1 (.inl rfl) rfl ?_
          first | (simp_all [isLet, ofVal]; done) | (simp_all [isLet, ofVal]; omega)
      · skip
        refine p_skip rfl rfl rfl ?_
        refine p_skip rfl rfl rfl ?_
        refine p_pickF rfl rfl rfl rfl rfl rfl ?_
        refine p_pickF rfl rfl rfl rfl rfl rfl ?_
        refine p_pure htab rfl rfl rfl rfl ?_
        refine p_pure htab rfl rfl rfl rfl ?_
        refine p_pure htab rfl rfl rfl rfl ?_
        refine p_pickF rfl rfl rfl rfl rfl rfl ?_
        refine p_pure htab rfl rfl rfl rfl ?_
        refine ops_nil ?_
        refine then_normal ?_
        refine wpD_ret ?_
        refine ret1 (.inl rfl) rfl ?_
        first | (simp_all [isLet, ofVal]; done) | (simp_all [isLet, ofVal]; omega)
  · skip
    refine p_skip rfl rfl rfl ?_
    refine p_skip rfl rfl rfl ?_
    refine p_pickF rfl rfl rfl rfl rfl rfl ?_
    refine p_pure htab rfl rfl rfl rfl ?_
    refine p_pure htab rfl rfl rfl rfl ?_
    refine p_pure htab rfl rfl rfl rfl ?_
    refine p_pure htab rfl rfl rfl rfl ?_
    refine p_split (i := 12) rfl (fun hg5 => ?_) (fun hg5 => ?_)
    · skip
      refine p_pure htab rfl rfl rfl rfl ?_
      refine p_pure htab rfl rfl rfl rfl ?_
      refine p_pickT rfl rfl rfl rfl rfl rfl ?_
      refine p_pickF rfl rfl rfl rfl rfl rfl ?_
      refine p_pure htab rfl rfl rfl rfl ?_
      refine p_split (i := 17) rfl (fun hg6 => ?_) (fun hg6 => ?_)
      · skip
        refine p_skip rfl rfl rfl ?_
        refine p_skip rfl rfl rfl ?_
        refine p_pickT rfl rfl rfl rfl rfl rfl ?_
        refine p_pure htab rfl rfl rfl rfl ?_
        refine ops_nil ?_
        refine then_normal ?_
        refine wpD_ret ?_
        refine ret1 (.inl rfl) rfl ?_
        first | (simp_all [isLet, ofVal]; done) | (simp_all [isLet, ofVal]; omega)
      · skip
        refine p_pure htab rfl rfl rfl rfl ?_
        refine p_pure htab rfl rfl rfl rfl ?_
        refine p_pickF rfl rfl rfl rfl rfl rfl ?_
        refine p_pure htab rfl rfl rfl rfl ?_
        refine ops_nil ?_
        refine then_normal ?_
        refine wpD_ret ?_
        refine ret1 (.inl rfl) rfl ?_
        first | (simp_all [isLet, ofVal]; done) | (simp_all [isLet, ofVal]; omega)
    · skip
      refine p_skip rfl rfl rfl ?_
      refine p_skip rfl rfl rfl ?_
      refine p_pickF rfl rfl rfl rfl rfl rfl ?_
      refine p_pickF rfl rfl rfl rfl rfl rfl ?_
      refine p_pure htab rfl rfl rfl rfl ?_
      refine p_pure htab rfl rfl rfl rfl ?_
      refine p_pure htab rfl rfl rfl rfl ?_
      refine p_pickF rfl rfl rfl rfl rfl rfl ?_
      refine p_pure htab rfl rfl rfl rfl ?_
      refine ops_nil ?_
      refine then_normal ?_
      refine wpD_ret ?_
      refine ret1 (.inl rfl) rfl ?_
      first | (simp_all [isLet, ofVal]; done) | (simp_all [isLet, ofVal]; omega)
theorem digit_any (c : Int) : CallsD Try.prog 20 [.v (.int .u8 c)] [] [] (fun d h k => d = .v (.bool (isDig c)) ∧ h = [] ∧ k = []) := by
  refine enter htab Try.func20 rfl rfl rfl rfl rfl (fun C => ?_)
  refine wpD_seq ?_
  refine wpD_region ?_
  refine p_pure htab rfl rfl rfl rfl ?_
  refine ops_nil ?_
  refine then_normal ?_
  refine wpD_seq ?_
  refine wpD_region ?_
  refine p_pure htab rfl rfl rfl rfl ?_
  refine p_pure htab rfl rfl rfl rfl ?_
  refine p_pure htab rfl rfl rfl rfl ?_
  refine p_split (i := 5) rfl (fun hg1 => ?_) (fun hg1 => ?_)
  · skip
    refine p_pure htab rfl rfl rfl rfl ?_
    refine p_pure htab rfl rfl rfl rfl ?_
    refine p_pickT rfl rfl rfl rfl rfl rfl ?_
    refine p_pure htab rfl rfl rfl rfl ?_
    refine ops_nil ?_
    refine then_normal ?_
    refine wpD_ret ?_
    refine ret1 (.inl rfl) rfl ?_
    first | (simp_all [isDig, ofVal]; done) | (simp_all [isDig, ofVal]; omega)
  · skip
    refine p_skip rfl rfl rfl ?_
    refine p_skip rfl rfl rfl ?_
    refine p_pickF rfl rfl rfl rfl rfl rfl ?_
    refine p_pure htab rfl rfl rfl rfl ?_
    refine ops_nil ?_
    refine then_normal ?_
    refine wpD_ret ?_
    refine ret1 (.inl rfl) rfl ?_
    first | (simp_all [isDig, ofVal]; done) | (simp_all [isDig, ofVal]; omega)
theorem kind_any (c : Int) : CallsD Try.prog 24 [.v (.int .i32 c)] [] [] (fun d h k => d = .v (.int .i64 (kindI c)) ∧ h = [] ∧ k = []) := by
  refine enter htab Try.func24 rfl rfl rfl rfl rfl (fun C => ?_)
  refine wpD_seq ?_
  refine wpD_region ?_
  refine p_pure htab rfl rfl rfl rfl ?_
  refine ops_nil ?_
  refine then_normal ?_
  refine wpD_seq ?_
  refine wpD_block ?_
  refine wpD_seq ?_
  refine wpD_region ?_
  refine p_pure htab rfl rfl rfl rfl ?_
  refine p_pure htab rfl rfl rfl rfl ?_
  refine p_pure htab rfl rfl rfl rfl ?_
  refine p_split (i := 6) rfl (fun hg1 => ?_) (fun hg1 => ?_)
  · skip
    refine p_skip rfl rfl rfl ?_
    refine p_skip rfl rfl rfl ?_
    refine p_pickT rfl rfl rfl rfl rfl rfl ?_
    refine p_pure htab rfl rfl rfl rfl ?_
    refine p_skip rfl rfl rfl ?_
    refine p_skip rfl rfl rfl ?_
    refine p_pickT rfl rfl rfl rfl rfl rfl ?_
    refine p_pure htab rfl rfl rfl rfl ?_
    refine p_skip rfl rfl rfl ?_
    refine p_skip rfl rfl rfl ?_
    refine p_pickT rfl rfl rfl rfl rfl rfl ?_
    refine p_pure htab rfl rfl rfl rfl ?_
    refine ops_nil ?_
    refine then_normal ?_
    refine wpD_true rfl ?_
    refine wpD_seq ?_
    refine wpD_region ?_
    refine p_pure htab rfl rfl rfl rfl ?_
    refine ops_nil ?_
    refine then_normal ?_
    refine wpD_ret ?_
    refine block_ret ?_
    refine then_ret ?_
    refine ret1 (.inl rfl) rfl ?_
    first | (simp_all [kindI, isBla, isLet, isDig, ofVal]; done) | (simp_all [kindI, isBla, isLet, isDig, ofVal]; omega) | (exfalso; simp_all; omega)
  · skip
    refine p_pure htab rfl rfl rfl rfl ?_
    refine p_pure htab rfl rfl rfl rfl ?_
    refine p_pickF rfl rfl rfl rfl rfl rfl ?_
    refine p_pure htab rfl rfl rfl rfl ?_
    refine p_split (i := 10) rfl (fun hg2 => ?_) (fun hg2 => ?_)
    · skip
      refine p_skip rfl rfl rfl ?_
      refine p_skip rfl rfl rfl ?_
      refine p_pickT rfl rfl rfl rfl rfl rfl ?_
      refine p_pure htab rfl rfl rfl rfl ?_
      refine p_skip rfl rfl rfl ?_
      refine p_skip rfl rfl rfl ?_
      refine p_pickT rfl rfl rfl rfl rfl rfl ?_
      refine p_pure htab rfl rfl rfl rfl ?_
      refine ops_nil ?_
      refine then_normal ?_
      refine wpD_true rfl ?_
      refine wpD_seq ?_
      refine wpD_region ?_
      refine p_pure htab rfl rfl rfl rfl ?_
      refine ops_nil ?_
      refine then_normal ?_
      refine wpD_ret ?_
      refine block_ret ?_
      refine then_ret ?_
      refine ret1 (.inl rfl) rfl ?_
      first | (simp_all [kindI, isBla, isLet, isDig, ofVal]; done) | (simp_all [kindI, isBla, isLet, isDig, ofVal]; omega) | (exfalso; simp_all; omega)
    · skip
      refine p_pure htab rfl rfl rfl rfl ?_
      refine p_pure htab rfl rfl rfl rfl ?_
      refine p_pickF rfl rfl rfl rfl rfl rfl ?_
      refine p_pure htab rfl rfl rfl rfl ?_
      refine p_split (i := 14) rfl (fun hg3 => ?_) (fun hg3 => ?_)
      · skip
        refine p_skip rfl rfl rfl ?_
        refine p_skip rfl rfl rfl ?_
        refine p_pickT rfl rfl rfl rfl rfl rfl ?_
        refine p_pure htab rfl rfl rfl rfl ?_
        refine ops_nil ?_
        refine then_normal ?_
        refine wpD_true rfl ?_
        refine wpD_seq ?_
        refine wpD_region ?_
        refine p_pure htab rfl rfl rfl rfl ?_
        refine ops_nil ?_
        refine then_normal ?_
        refine wpD_ret ?_
        refine block_ret ?_
        refine then_ret ?_
        refine ret1 (.inl rfl) rfl ?_
        first | (simp_all [kindI, isBla, isLet, isDig, ofVal]; done) | (simp_all [kindI, isBla, isLet, isDig, ofVal]; omega) | (exfalso; simp_all; omega)
      · skip
        refine p_pure htab rfl rfl rfl rfl ?_
        refine p_pure htab rfl rfl rfl rfl ?_
        refine p_pickF rfl rfl rfl rfl rfl rfl ?_
        refine p_pure htab rfl rfl rfl rfl ?_
        refine ops_nil ?_
        refine then_normal ?_
        refine wpD_cond rfl (fun hc4 => ?_) (fun hc4 => ?_)
        · skip
          refine wpD_seq ?_
          refine wpD_region ?_
          refine p_pure htab rfl rfl rfl rfl ?_
          refine ops_nil ?_
          refine then_normal ?_
          refine wpD_ret ?_
          refine block_ret ?_
          refine then_ret ?_
          refine ret1 (.inl rfl) rfl ?_
          first | (simp_all [kindI, isBla, isLet, isDig, ofVal]; done) | (simp_all [kindI, isBla, isLet, isDig, ofVal]; omega) | (exfalso; simp_all; omega)
        · skip
          refine wpD_seq ?_
          refine wpD_region ?_
          refine p_pure htab rfl rfl rfl rfl ?_
          refine p_pure htab rfl rfl rfl rfl ?_
          refine p_pure htab rfl rfl rfl rfl ?_
          refine p_split (i := 21) rfl (fun hg5 => ?_) (fun hg5 => ?_)
          · skip
            refine p_pure htab rfl rfl rfl rfl ?_
            refine p_pure htab rfl rfl rfl rfl ?_
            refine p_pickT rfl rfl rfl rfl rfl rfl ?_
            refine p_pure htab rfl rfl rfl rfl ?_
            refine p_split (i := 25) rfl (fun hg6 => ?_) (fun hg6 => ?_)
            · skip
              refine p_skip rfl rfl rfl ?_
              refine p_skip rfl rfl rfl ?_
              refine p_skip rfl rfl rfl ?_
              refine p_skip rfl rfl rfl ?_
              refine p_skip rfl rfl rfl ?_
              refine p_skip rfl rfl rfl ?_
              refine p_pickT rfl rfl rfl rfl rfl rfl ?_
              refine p_pure htab rfl rfl rfl rfl ?_
              refine p_skip rfl rfl rfl ?_
              refine p_skip rfl rfl rfl ?_
              refine p_pickT rfl rfl rfl rfl rfl rfl ?_
              refine p_pure htab rfl rfl rfl rfl ?_
              refine ops_nil ?_
              refine then_normal ?_
              refine wpD_true rfl ?_
              refine wpD_seq ?_
              refine wpD_region ?_
              refine p_pure htab rfl rfl rfl rfl ?_
              refine ops_nil ?_
              refine then_normal ?_
              refine wpD_ret ?_
              refine block_ret ?_
              refine then_ret ?_
              refine ret1 (.inl rfl) rfl ?_
              first | (simp_all [kindI, isBla, isLet, isDig, ofVal]; done) | (simp_all [kindI, isBla, isLet, isDig, ofVal]; omega) | (exfalso; simp_all; omega)
            · skip
              refine p_pure htab rfl rfl rfl rfl ?_
              refine p_pure htab rfl rfl rfl rfl ?_
              refine p_pure htab rfl rfl rfl rfl ?_
              refine p_split (i := 28) rfl (fun hg7 => ?_) (fun hg7 => ?_)
              · skip
                refine p_pure htab rfl rfl rfl rfl ?_
                refine p_pure htab rfl rfl rfl rfl ?_
                refine p_pickT rfl rfl rfl rfl rfl rfl ?_
                refine p_pickF rfl rfl rfl rfl rfl rfl ?_
                refine p_pure htab rfl rfl rfl rfl ?_
                refine p_split (i := 33) rfl (fun hg8 => ?_) (fun hg8 => ?_)
                · skip
                  refine p_skip rfl rfl rfl ?_
                  refine p_skip rfl rfl rfl ?_
                  refine p_pickT rfl rfl rfl rfl rfl rfl ?_
                  refine p_pure htab rfl rfl rfl rfl ?_
                  refine ops_nil ?_
                  refine then_normal ?_
                  refine wpD_true rfl ?_
                  refine wpD_seq ?_
                  refine wpD_region ?_
                  refine p_pure htab rfl rfl rfl rfl ?_
                  refine ops_nil ?_
                  refine then_normal ?_
                  refine wpD_ret ?_
                  refine block_ret ?_
                  refine then_ret ?_
                  refine ret1 (.inl rfl) rfl ?_
                  first | (simp_all [kindI, isBla, isLet, isDig, ofVal]; done) | (simp_all [kindI, isBla, isLet, isDig, ofVal]; omega) | (exfalso; simp_all; omega)
                · skip
                  refine p_pure htab rfl rfl rfl rfl ?_
                  refine p_pure htab rfl rfl rfl rfl ?_
                  refine p_pickF rfl rfl rfl rfl rfl rfl ?_
                  refine p_pure htab rfl rfl rfl rfl ?_
                  refine ops_nil ?_
                  refine then_normal ?_
                  refine wpD_cond rfl (fun hc9 => ?_) (fun hc9 => ?_)
                  · skip
                    refine wpD_seq ?_
                    refine wpD_region ?_
                    refine p_pure htab rfl rfl rfl rfl ?_
                    refine ops_nil ?_
                    refine then_normal ?_
                    refine wpD_ret ?_
                    refine block_ret ?_
                    refine then_ret ?_
                    refine ret1 (.inl rfl) rfl ?_
                    first | (simp_all [kindI, isBla, isLet, isDig, ofVal]; done) | (simp_all [kindI, isBla, isLet, isDig, ofVal]; omega) | (exfalso; simp_all; omega)
                  · skip
                    refine wpD_seq ?_
                    refine wpD_region ?_
                    refine p_pure htab rfl rfl rfl rfl ?_
                    refine p_pure htab rfl rfl rfl rfl ?_
                    refine p_pure htab rfl rfl rfl rfl ?_
                    refine p_split (i := 40) rfl (fun hg10 => ?_) (fun hg10 => ?_)
                    · skip
                      refine p_pure htab rfl rfl rfl rfl ?_
                      refine p_pure htab rfl rfl rfl rfl ?_
                      refine p_pickT rfl rfl rfl rfl rfl rfl ?_
                      refine p_pure htab rfl rfl rfl rfl ?_
                      refine ops_nil ?_
                      refine then_normal ?_
                      refine wpD_cond rfl (fun hc11 => ?_) (fun hc11 => ?_)
                      · skip
                        refine wpD_seq ?_
                        refine wpD_region ?_
                        refine p_pure htab rfl rfl rfl rfl ?_
                        refine ops_nil ?_
                        refine then_normal ?_
                        refine wpD_ret ?_
                        refine block_ret ?_
                        refine then_ret ?_
                        refine ret1 (.inl rfl) rfl ?_
                        first | (simp_all [kindI, isBla, isLet, isDig, ofVal]; done) | (simp_all [kindI, isBla, isLet, isDig, ofVal]; omega) | (exfalso; simp_all; omega)
                      · skip
                        refine wpD_skip ?_
                        refine block_normal ?_
                        refine then_normal ?_
                        refine wpD_seq ?_
                        refine wpD_region ?_
                        refine p_pure htab rfl rfl rfl rfl ?_
                        refine ops_nil ?_
                        refine then_normal ?_
                        refine wpD_ret ?_
                        refine ret1 (.inl rfl) rfl ?_
                        first | (simp_all [kindI, isBla, isLet, isDig, ofVal]; done) | (simp_all [kindI, isBla, isLet, isDig, ofVal]; omega) | (exfalso; simp_all; omega)
                    · skip
                      refine p_skip rfl rfl rfl ?_
                      refine p_skip rfl rfl rfl ?_
                      refine p_pickF rfl rfl rfl rfl rfl rfl ?_
                      refine p_pure htab rfl rfl rfl rfl ?_
                      refine ops_nil ?_
                      refine then_normal ?_
                      refine wpD_false rfl ?_
                      refine wpD_skip ?_
                      refine block_normal ?_
                      refine then_normal ?_
                      refine wpD_seq ?_
                      refine wpD_region ?_
                      refine p_pure htab rfl rfl rfl rfl ?_
                      refine ops_nil ?_
                      refine then_normal ?_
                      refine wpD_ret ?_
                      refine ret1 (.inl rfl) rfl ?_
                      first | (simp_all [kindI, isBla, isLet, isDig, ofVal]; done) | (simp_all [kindI, isBla, isLet, isDig, ofVal]; omega) | (exfalso; simp_all; omega)
              · skip
                refine p_skip rfl rfl rfl ?_
                refine p_skip rfl rfl rfl ?_
                refine p_pickF rfl rfl rfl rfl rfl rfl ?_
                refine p_pickF rfl rfl rfl rfl rfl rfl ?_
                refine p_pure htab rfl rfl rfl rfl ?_
                refine p_pure htab rfl rfl rfl rfl ?_
                refine p_pure htab rfl rfl rfl rfl ?_
                refine p_pickF rfl rfl rfl rfl rfl rfl ?_
                refine p_pure htab rfl rfl rfl rfl ?_
                refine ops_nil ?_
                refine then_normal ?_
                refine wpD_cond rfl (fun hc12 => ?_) (fun hc12 => ?_)
                · skip
                  refine wpD_seq ?_
                  refine wpD_region ?_
                  refine p_pure htab rfl rfl rfl rfl ?_
                  refine ops_nil ?_
                  refine then_normal ?_
                  refine wpD_ret ?_
                  refine block_ret ?_
                  refine then_ret ?_
                  refine ret1 (.inl rfl) rfl ?_
                  first | (simp_all [kindI, isBla, isLet, isDig, ofVal]; done) | (simp_all [kindI, isBla, isLet, isDig, ofVal]; omega) | (exfalso; simp_all; omega)
                · skip
                  refine wpD_seq ?_
                  refine wpD_region ?_
                  refine p_pure htab rfl rfl rfl rfl ?_
                  refine p_pure htab rfl rfl rfl rfl ?_
                  refine p_pure htab rfl rfl rfl rfl ?_
                  refine p_split (i := 40) rfl (fun hg13 => ?_) (fun hg13 => ?_)
                  · skip
                    refine p_pure htab rfl rfl rfl rfl ?_
                    refine p_pure htab rfl rfl rfl rfl ?_
                    refine p_pickT rfl rfl rfl rfl rfl rfl ?_
                    refine p_pure htab rfl rfl rfl rfl ?_
                    refine ops_nil ?_
                    refine then_normal ?_
                    refine wpD_cond rfl (fun hc14 => ?_) (fun hc14 => ?_)
                    · skip
                      refine wpD_seq ?_
                      refine wpD_region ?_
                      refine p_pure htab rfl rfl rfl rfl ?_
                      refine ops_nil ?_
                      refine then_normal ?_
                      refine wpD_ret ?_
                      refine block_ret ?_
                      refine then_ret ?_
                      refine ret1 (.inl rfl) rfl ?_
                      first | (simp_all [kindI, isBla, isLet, isDig, ofVal]; done) | (simp_all [kindI, isBla, isLet, isDig, ofVal]; omega) | (exfalso; simp_all; omega)
                    · skip
                      refine wpD_skip ?_
                      refine block_normal ?_
                      refine then_normal ?_
                      refine wpD_seq ?_
                      refine wpD_region ?_
                      refine p_pure htab rfl rfl rfl rfl ?_
                      refine ops_nil ?_
                      refine then_normal ?_
                      refine wpD_ret ?_
                      refine ret1 (.inl rfl) rfl ?_
                      first | (simp_all [kindI, isBla, isLet, isDig, ofVal]; done) | (simp_all [kindI, isBla, isLet, isDig, ofVal]; omega) | (exfalso; simp_all; omega)
                  · skip
                    refine p_skip rfl rfl rfl ?_
                    refine p_skip rfl rfl rfl ?_
                    refine p_pickF rfl rfl rfl rfl rfl rfl ?_
                    refine p_pure htab rfl rfl rfl rfl ?_
                    refine ops_nil ?_
                    refine then_normal ?_
                    refine wpD_false rfl ?_
                    refine wpD_skip ?_
                    refine block_normal ?_
                    refine then_normal ?_
                    refine wpD_seq ?_
                    refine wpD_region ?_
                    refine p_pure htab rfl rfl rfl rfl ?_
                    refine ops_nil ?_
                    refine then_normal ?_
                    refine wpD_ret ?_
                    refine ret1 (.inl rfl) rfl ?_
                    first | (simp_all [kindI, isBla, isLet, isDig, ofVal]; done) | (simp_all [kindI, isBla, isLet, isDig, ofVal]; omega) | (exfalso; simp_all; omega)
          · skip
            refine p_skip rfl rfl rfl ?_
            refine p_skip rfl rfl rfl ?_
            refine p_pickF rfl rfl rfl rfl rfl rfl ?_
            refine p_pure htab rfl rfl rfl rfl ?_
            refine p_pure htab rfl rfl rfl rfl ?_
            refine p_pure htab rfl rfl rfl rfl ?_
            refine p_pure htab rfl rfl rfl rfl ?_
            refine p_split (i := 28) rfl (fun hg15 => ?_) (fun hg15 => ?_)
            · skip
              refine p_pure htab rfl rfl rfl rfl ?_
              refine p_pure htab rfl rfl rfl rfl ?_
              refine p_pickT rfl rfl rfl rfl rfl rfl ?_
              refine p_pickF rfl rfl rfl rfl rfl rfl ?_
              refine p_pure htab rfl rfl rfl rfl ?_
              refine p_split (i := 33) rfl (fun hg16 => ?_) (fun hg16 => ?_)
              · skip
                refine p_skip rfl rfl rfl ?_
                refine p_skip rfl rfl rfl ?_
                refine p_pickT rfl rfl rfl rfl rfl rfl ?_
                refine p_pure htab rfl rfl rfl rfl ?_
                refine ops_nil ?_
                refine then_normal ?_
                refine wpD_true rfl ?_
                refine wpD_seq ?_
                refine wpD_region ?_
                refine p_pure htab rfl rfl rfl rfl ?_
                refine ops_nil ?_
                refine then_normal ?_
                refine wpD_ret ?_
                refine block_ret ?_
                refine then_ret ?_
                refine ret1 (.inl rfl) rfl ?_
                first | (simp_all [kindI, isBla, isLet, isDig, ofVal]; done) | (simp_all [kindI, isBla, isLet, isDig, ofVal]; omega) | (exfalso; simp_all; omega)
              · skip
                refine p_pure htab rfl rfl rfl rfl ?_
                refine p_pure htab rfl rfl rfl rfl ?_
                refine p_pickF rfl rfl rfl rfl rfl rfl ?_
                refine p_pure htab rfl rfl rfl rfl ?_
                refine ops_nil ?_
                refine then_normal ?_
                refine wpD_cond rfl (fun hc17 => ?_) (fun hc17 => ?_)
                · skip
                  refine wpD_seq ?_
                  refine wpD_region ?_
                  refine p_pure htab rfl rfl rfl rfl ?_
                  refine ops_nil ?_
                  refine then_normal ?_
                  refine wpD_ret ?_
                  refine block_ret ?_
                  refine then_ret ?_
                  refine ret1 (.inl rfl) rfl ?_
                  first | (simp_all [kindI, isBla, isLet, isDig, ofVal]; done) | (simp_all [kindI, isBla, isLet, isDig, ofVal]; omega) | (exfalso; simp_all; omega)
                · skip
                  refine wpD_seq ?_
                  refine wpD_region ?_
                  refine p_pure htab rfl rfl rfl rfl ?_
                  refine p_pure htab rfl rfl rfl rfl ?_
                  refine p_pure htab rfl rfl rfl rfl ?_
                  refine p_split (i := 40) rfl (fun hg18 => ?_) (fun hg18 => ?_)
                  · skip
                    refine p_pure htab rfl rfl rfl rfl ?_
                    refine p_pure htab rfl rfl rfl rfl ?_
                    refine p_pickT rfl rfl rfl rfl rfl rfl ?_
                    refine p_pure htab rfl rfl rfl rfl ?_
                    refine ops_nil ?_
                    refine then_normal ?_
                    refine wpD_cond rfl (fun hc19 => ?_) (fun hc19 => ?_)
                    · skip
                      refine wpD_seq ?_
                      refine wpD_region ?_
                      refine p_pure htab rfl rfl rfl rfl ?_
                      refine ops_nil ?_
                      refine then_normal ?_
                      refine wpD_ret ?_
                      refine block_ret ?_
                      refine then_ret ?_
                      refine ret1 (.inl rfl) rfl ?_
                      first | (simp_all [kindI, isBla, isLet, isDig, ofVal]; done) | (simp_all [kindI, isBla, isLet, isDig, ofVal]; omega) | (exfalso; simp_all; omega)
                    · skip
                      refine wpD_skip ?_
                      refine block_normal ?_
                      refine then_normal ?_
                      refine wpD_seq ?_
                      refine wpD_region ?_
                      refine p_pure htab rfl rfl rfl rfl ?_
                      refine ops_nil ?_
                      refine then_normal ?_
                      refine wpD_ret ?_
                      refine ret1 (.inl rfl) rfl ?_
                      first | (simp_all [kindI, isBla, isLet, isDig, ofVal]; done) | (simp_all [kindI, isBla, isLet, isDig, ofVal]; omega) | (exfalso; simp_all; omega)
                  · skip
                    refine p_skip rfl rfl rfl ?_
                    refine p_skip rfl rfl rfl ?_
                    refine p_pickF rfl rfl rfl rfl rfl rfl ?_
                    refine p_pure htab rfl rfl rfl rfl ?_
                    refine ops_nil ?_
                    refine then_normal ?_
                    refine wpD_false rfl ?_
                    refine wpD_skip ?_
                    refine block_normal ?_
                    refine then_normal ?_
                    refine wpD_seq ?_
                    refine wpD_region ?_
                    refine p_pure htab rfl rfl rfl rfl ?_
                    refine ops_nil ?_
                    refine then_normal ?_
                    refine wpD_ret ?_
                    refine ret1 (.inl rfl) rfl ?_
                    first | (simp_all [kindI, isBla, isLet, isDig, ofVal]; done) | (simp_all [kindI, isBla, isLet, isDig, ofVal]; omega) | (exfalso; simp_all; omega)
            · skip
              refine p_skip rfl rfl rfl ?_
              refine p_skip rfl rfl rfl ?_
              refine p_pickF rfl rfl rfl rfl rfl rfl ?_
              refine p_pickF rfl rfl rfl rfl rfl rfl ?_
              refine p_pure htab rfl rfl rfl rfl ?_
              refine p_pure htab rfl rfl rfl rfl ?_
              refine p_pure htab rfl rfl rfl rfl ?_
              refine p_pickF rfl rfl rfl rfl rfl rfl ?_
              refine p_pure htab rfl rfl rfl rfl ?_
              refine ops_nil ?_
              refine then_normal ?_
              refine wpD_cond rfl (fun hc20 => ?_) (fun hc20 => ?_)
              · skip
                refine wpD_seq ?_
                refine wpD_region ?_
                refine p_pure htab rfl rfl rfl rfl ?_
                refine ops_nil ?_
                refine then_normal ?_
                refine wpD_ret ?_
                refine block_ret ?_
                refine then_ret ?_
                refine ret1 (.inl rfl) rfl ?_
                first | (simp_all [kindI, isBla, isLet, isDig, ofVal]; done) | (simp_all [kindI, isBla, isLet, isDig, ofVal]; omega) | (exfalso; simp_all; omega)
              · skip
                refine wpD_seq ?_
                refine wpD_region ?_
                refine p_pure htab rfl rfl rfl rfl ?_
                refine p_pure htab rfl rfl rfl rfl ?_
                refine p_pure htab rfl rfl rfl rfl ?_
                refine p_split (i := 40) rfl (fun hg21 => ?_) (fun hg21 => ?_)
                · skip
                  refine p_pure htab rfl rfl rfl rfl ?_
                  refine p_pure htab rfl rfl rfl rfl ?_
                  refine p_pickT rfl rfl rfl rfl rfl rfl ?_
                  refine p_pure htab rfl rfl rfl rfl ?_
                  refine ops_nil ?_
                  refine then_normal ?_
                  refine wpD_cond rfl (fun hc22 => ?_) (fun hc22 => ?_)
                  · skip
                    refine wpD_seq ?_
                    refine wpD_region ?_
                    refine p_pure htab rfl rfl rfl rfl ?_
                    refine ops_nil ?_
                    refine then_normal ?_
                    refine wpD_ret ?_
                    refine block_ret ?_
                    refine then_ret ?_
                    refine ret1 (.inl rfl) rfl ?_
                    first | (simp_all [kindI, isBla, isLet, isDig, ofVal]; done) | (simp_all [kindI, isBla, isLet, isDig, ofVal]; omega) | (exfalso; simp_all; omega)
                  · skip
                    refine wpD_skip ?_
                    refine block_normal ?_
                    refine then_normal ?_
                    refine wpD_seq ?_
                    refine wpD_region ?_
                    refine p_pure htab rfl rfl rfl rfl ?_
                    refine ops_nil ?_
                    refine then_normal ?_
                    refine wpD_ret ?_
                    refine ret1 (.inl rfl) rfl ?_
                    first | (simp_all [kindI, isBla, isLet, isDig, ofVal]; done) | (simp_all [kindI, isBla, isLet, isDig, ofVal]; omega) | (exfalso; simp_all; omega)
                · skip
                  refine p_skip rfl rfl rfl ?_
                  refine p_skip rfl rfl rfl ?_
                  refine p_pickF rfl rfl rfl rfl rfl rfl ?_
                  refine p_pure htab rfl rfl rfl rfl ?_
                  refine ops_nil ?_
                  refine then_normal ?_
                  refine wpD_false rfl ?_
                  refine wpD_skip ?_
                  refine block_normal ?_
                  refine then_normal ?_
                  refine wpD_seq ?_
                  refine wpD_region ?_
                  refine p_pure htab rfl rfl rfl rfl ?_
                  refine ops_nil ?_
                  refine then_normal ?_
                  refine wpD_ret ?_
                  refine ret1 (.inl rfl) rfl ?_
                  first | (simp_all [kindI, isBla, isLet, isDig, ofVal]; done) | (simp_all [kindI, isBla, isLet, isDig, ofVal]; omega) | (exfalso; simp_all; omega)
end Go.Proofs.Ytnjeklpjjceppaa.Ab
