/- Layer 10: the reader's methods. -/
import Derived.Test.YtnjeklpjjceppaaTk1
import Derived.Test.YtnjeklpjjceppaaShelf
namespace Go.Proofs.Ytnjeklpjjceppaa.Ab
open Go
set_option linter.all false
theorem wrapI {x : Int} (h1 : -9223372036854775808 ≤ x) (h2 : x ≤ 9223372036854775807) : IntKind.i64.wrap x = x := by
  rw [IntKind.wrap_i64]; omega
theorem wrap32B (c : UInt8) : IntKind.i32.wrap (c.toNat : Int) = (c.toNat : Int) := by
  have := c.toNat_lt
  rw [IntKind.wrap_i32]; omega
/-- A token. -/
structure Tok where
  kind : Int
  text : ByteArray
  n : Int
  at_ : Nat
def tokD (x : Tok) : D := .agg [.v (.int .i64 x.kind), .v (.string x.text), .v (.int .i64 x.n), .v (.int .i64 x.at_)]
/-- The bytes that are letters or digits, or digits alone. -/
def spanB (lets : Bool) (c : UInt8) : Bool := kindI (c.toNat : Int) == 3 || (lets && kindI (c.toNat : Int) == 2)
def spanN (lets : Bool) (s : List UInt8) : Nat := (s.takeWhile (spanB lets)).length
theorem span_step {lets : Bool} {s : List UInt8} {at_ k : Nat} {c : UInt8} (hc : s[at_ + k]? = some c) (h : k ≤ spanN lets (s.drop at_)) (hb : spanB lets c = true) : k + 1 ≤ spanN lets (s.drop at_) := by
  unfold spanN at *
  rcases Nat.lt_or_ge k ((s.drop at_).takeWhile (spanB lets)).length with hl | hl
  · omega
  exfalso
  have hk : ((s.drop at_).takeWhile (spanB lets)).length = k := by omega
  have h2 : (s.drop at_)[k]? = some c := by rw [List.getElem?_drop]; exact hc
  have h3 := List.takeWhile_append_dropWhile (p := spanB lets) (l := s.drop at_)
  rw [← h3, List.getElem?_append_right (by omega), hk, Nat.sub_self] at h2
  have h4 : (s.drop at_).dropWhile (spanB lets) ≠ [] := by intro q; rw [q] at h2; cases h2
  have h5 := List.head_dropWhile_not (spanB lets) h4
  rw [List.head_eq_getElem] at h5
  have h6 := (List.getElem?_eq_some_iff.1 h2).2
  rw [h6, hb] at h5; cases h5
theorem span_end {lets : Bool} {s : List UInt8} {at_ k : Nat} {c : UInt8} (hc : s[at_ + k]? = some c) (h : k ≤ spanN lets (s.drop at_)) (hb : spanB lets c = false) : k = spanN lets (s.drop at_) := by
  unfold spanN at *
  rcases Nat.lt_or_ge k ((s.drop at_).takeWhile (spanB lets)).length with hl | hl
  · exfalso
    have h3 := List.takeWhile_append_dropWhile (p := spanB lets) (l := s.drop at_)
    have h2 : (s.drop at_)[k]? = some c := by rw [List.getElem?_drop]; exact hc
    rw [← h3, List.getElem?_append_left hl] at h2
    have := List.all_takeWhile (p := spanB lets) (l := s.drop at_)
    rw [List.all_eq_true] at this
    rw [this c (List.mem_of_getElem? h2)] at hb; cases hb
  · omega
theorem span_out {lets : Bool} {s : List UInt8} {at_ k : Nat} (hl : s.length ≤ at_ + k) (h : k ≤ spanN lets (s.drop at_)) : k = spanN lets (s.drop at_) := by
  unfold spanN at *
  have : ((s.drop at_).takeWhile (spanB lets)).length ≤ (s.drop at_).length := (List.takeWhile_sublist _).length_le
  simp only [List.length_drop] at this
  omega
theorem kindB (c : UInt8) : CallsD Try.prog 24 [.v (.int .i32 (IntKind.i32.wrap (c.toNat : Int)))] [] [] (fun d h k => d = .v (.int .i64 (kindI c.toNat)) ∧ h = [] ∧ k = []) := by
  rw [wrap32B]; exact kind_any _
/-- The reader's cells. -/
abbrev rdC (s : List UInt8) (at_ : Nat) (L : D) : List D := [.lst 1 (s.map byteD) .no, .v (.int .i64 (at_)), L]
theorem span_any (s : List UInt8) (at_ : Nat) (L : D) (lets : Bool) (b : Nat) (T : TypeId) (hs : s.length ≤ 140737488355328) (ha : at_ ≤ s.length) :
    CallsD Try.prog 34 [.ptr b 0, .v (.bool lets)] [(b, .cells (rdC s at_ L) T)] [] (fun d h k => d = .v (.int .i64 (spanN lets (s.drop at_))) ∧ h = [(b, .cells (rdC s at_ L) T)] ∧ k = []) := by
  refine enter htab Try.func34 rfl rfl rfl rfl rfl (fun C => ?_)
  refine wpD_seq ?_
  refine wpD_region ?_
  refine p_pure htab rfl rfl rfl rfl ?_
  refine ops_nil ?_
  refine then_normal ?_
  refine wpD_seq ?_
  refine wpD_region ?_
  refine p_pure htab rfl rfl rfl rfl ?_
  refine ops_nil ?_
  refine then_normal ?_
  refine wpD_seq ?_
  refine wpD_block ?_
  refine loop_ind (α := Nat) (fun k => k ≤ spanN lets (s.drop at_) ∧ at_ + k ≤ s.length) (fun k => ⟨[(0, .ptr b 0), (1, .v (.bool lets)), (5, .v (.int .i64 (k)))], _, []⟩) (fun k => s.length - k) 0 ⟨Nat.zero_le _, by simpa using ha⟩ (WkS.slots (WkS.cons rfl (Wk.refl _) (WkS.cons rfl (Wk.refl _) (WkS.cons rfl (Wk.refl _) (WkS.nil)))) (List.Sublist.refl _) (List.Sublist.refl _)) ?_
  rintro k ⟨hk, hl⟩
  have hw : IntKind.i64.wrap ((at_ : Int) + (k : Int)) = ((at_ + k : Nat) : Int) := by rw [wrapI] <;> omega
  refine wpD_seq ?_
  refine wpD_seq ?_
  refine wpD_draws 11 [] [[],[0],[0,1],[0,1,2],[],[0,1,2],[],[6],[6,7],[6,7,8],[6,7,8,9]] [0,1,2,6,7,8,9] [[],[0],[0,1],[0,1,2],[],[0,1,2,3,4],[],[6],[6,7],[6,7,8],[6,7,8,9],[0,1,2,3,4,5,6,7,8,9,10]] (by kernel_rfl) (by kernel_rfl) (by kernel_rfl) (by rfl) (by rfl) (by kernel_rfl) ?_
  apply Exists.intro
  apply Exists.intro
  apply Exists.intro
  apply Exists.intro
  apply Exists.intro
  apply Exists.intro
  apply Exists.intro
  intro bs
  refine z_e rfl rfl (ex_pure htab rfl) rfl rfl rfl rfl rfl rfl ?_
  refine z_e rfl rfl (ex_pure htab rfl) rfl rfl rfl rfl rfl rfl ?_
  refine z_e rfl rfl (ex_pure htab rfl) rfl rfl rfl rfl rfl rfl ?_
  refine z_qM rfl rfl (xm_load 0 htab rfl rfl rfl rfl rfl) rfl rfl rfl rfl rfl rfl ?_
  refine z_q rfl rfl (ex_pure htab rfl) rfl rfl rfl rfl rfl rfl ?_
  refine z_q rfl rfl (ex_pure htab rfl) rfl rfl rfl rfl rfl rfl ?_
  refine z_e rfl rfl (ex_pure htab rfl) rfl rfl rfl rfl rfl rfl ?_
  refine z_e rfl rfl (ex_pure htab rfl) rfl rfl rfl rfl rfl rfl ?_
  refine z_e rfl rfl (ex_pure htab rfl) rfl rfl rfl rfl rfl rfl ?_
  refine z_eM rfl rfl (xm_load 0 htab rfl rfl rfl rfl rfl) rfl rfl rfl rfl rfl rfl ?_
  refine z_q rfl rfl (x_lenL htab rfl rfl rfl rfl (by first | exact List.length_map _ | rfl)) rfl rfl rfl rfl rfl rfl ?_
  refine z_nil rfl rfl (fun e he => by simp [isAl] at he) ?_
  refine p_pure htab rfl rfl rfl rfl ?_
  refine ops_nil ?_
  refine then_normal ?_
  refine wpD_cond rfl (fun hc1 => ?_) (fun hc1 => ?_)
  · skip
    refine wpD_skip ?_
    refine then_normal ?_
    refine wpD_block ?_
    refine wpD_seq ?_
    refine wpD_draws 10 [] [[],[0],[0,1],[0,1,2],[],[4],[4,5],[4,5,6],[],[4,5,6]] [0,1,2,3,4,5,6] [[],[0],[0,1],[0,1,2],[],[4],[4,5],[4,5,6],[],[4,5,6,7,8],[0,1,2,3,4,5,6,7,8,9],[0,1,2,3,4,5,6,7,8,9,10],[0,1,2,3,4,5,6,7,8,9,10,11],[0,1,2,3,4,5,6,7,8,9,10,11,12],[0,1,2,3,4,5,6,7,8,9,10,11,12,13]] (by kernel_rfl) (by kernel_rfl) (by kernel_rfl) (by rfl) (by rfl) (by kernel_rfl) ?_
    apply Exists.intro
    apply Exists.intro
    apply Exists.intro
    apply Exists.intro
    apply Exists.intro
    apply Exists.intro
    apply Exists.intro
    intro bs
    refine z_e rfl rfl (ex_pure htab rfl) rfl rfl rfl rfl rfl rfl ?_
    refine z_e rfl rfl (ex_pure htab rfl) rfl rfl rfl rfl rfl rfl ?_
    refine z_e rfl rfl (ex_pure htab rfl) rfl rfl rfl rfl rfl rfl ?_
    refine z_eM rfl rfl (xm_load 0 htab rfl rfl rfl rfl rfl) rfl rfl rfl rfl rfl rfl ?_
    refine z_e rfl rfl (ex_pure htab rfl) rfl rfl rfl rfl rfl rfl ?_
    refine z_e rfl rfl (ex_pure htab rfl) rfl rfl rfl rfl rfl rfl ?_
    refine z_e rfl rfl (ex_pure htab rfl) rfl rfl rfl rfl rfl rfl ?_
    refine z_qM rfl rfl (xm_load 0 htab rfl rfl rfl rfl rfl) rfl rfl rfl rfl rfl rfl ?_
    refine z_q rfl rfl (ex_pure htab rfl) rfl rfl rfl rfl rfl rfl ?_
    refine z_q rfl rfl (ex_pure htab rfl) rfl rfl rfl rfl rfl rfl ?_
    refine z_nil rfl rfl (fun e he => by simp [isAl] at he) ?_
    have hlt : at_ + k < s.length := (by rw [hw] at hc1; simp at hc1; omega); obtain ⟨c, hc⟩ : ∃ c, s[at_ + k]? = some c := ⟨s[at_ + k]'hlt, by simp⟩
    refine p_elem htab rfl rfl rfl rfl rfl rfl rfl rfl rfl rfl (by omega) (by rw [hw]; exact map_get hc) ?_
    refine p_loadEl htab rfl rfl rfl rfl rfl rfl rfl rfl ?_
    refine p_pure htab rfl rfl rfl rfl ?_
    refine p_call0 (kindB c) rfl rfl rfl rfl rfl (WkL.refl _) ?_
    rintro _ rfl
    refine p_pure htab rfl rfl rfl rfl ?_
    refine ops_nil ?_
    refine then_normal ?_
    refine wpD_seq ?_
    refine wpD_seq ?_
    refine wpD_region ?_
    refine p_pure htab rfl rfl rfl rfl ?_
    refine p_pure htab rfl rfl rfl rfl ?_
    refine p_pure htab rfl rfl rfl rfl ?_
    refine p_split (i := 35) rfl (fun hg2 => ?_) (fun hg2 => ?_)
    · skip
      refine p_pure htab rfl rfl rfl rfl ?_
      refine p_pure htab rfl rfl rfl rfl ?_
      refine p_pure htab rfl rfl rfl rfl ?_
      refine p_split (i := 38) rfl (fun hg3 => ?_) (fun hg3 => ?_)
      · skip
        refine p_skip rfl rfl rfl ?_
        refine p_skip rfl rfl rfl ?_
        refine p_pickT rfl rfl rfl rfl rfl rfl ?_
        refine p_pickT rfl rfl rfl rfl rfl rfl ?_
        refine ops_nil ?_
        refine then_normal ?_
        refine wpD_true rfl ?_
        refine wpD_exit ?_
        refine then_exit ?_
        refine block_miss rfl ?_
        refine then_exit ?_
        refine block_hit ?_
        refine then_normal ?_
        refine wpD_seq ?_
        refine wpD_region ?_
        refine p_pure htab rfl rfl rfl rfl ?_
        refine p_pure htab rfl rfl rfl rfl ?_
        refine ops_nil ?_
        refine then_normal ?_
        refine wpD_ret ?_
        refine ret1m (.inl rfl) rfl (List.Sublist.cons_cons _ (List.nil_sublist _)) (List.nil_sublist _) ?_
        first | exact ⟨congrArg (fun n : Nat => D.v (.int .i64 (n : Int))) (span_out (by rw [hw] at hc1; simp at hc1; omega) hk), rfl, rfl⟩ | exact ⟨congrArg (fun n : Nat => D.v (.int .i64 (n : Int))) (span_end hc hk (by simp_all [spanB])), rfl, rfl⟩
      · skip
        refine p_pure htab rfl rfl rfl rfl ?_
        refine p_pure htab rfl rfl rfl rfl ?_
        refine p_pickF rfl rfl rfl rfl rfl rfl ?_
        refine p_pickT rfl rfl rfl rfl rfl rfl ?_
        refine ops_nil ?_
        refine then_normal ?_
        refine wpD_cond rfl (fun hc4 => ?_) (fun hc4 => ?_)
        · skip
          refine wpD_exit ?_
          refine then_exit ?_
          refine block_miss rfl ?_
          refine then_exit ?_
          refine block_hit ?_
          refine then_normal ?_
          refine wpD_seq ?_
          refine wpD_region ?_
          refine p_pure htab rfl rfl rfl rfl ?_
          refine p_pure htab rfl rfl rfl rfl ?_
          refine ops_nil ?_
          refine then_normal ?_
          refine wpD_ret ?_
          refine ret1m (.inl rfl) rfl (List.Sublist.cons_cons _ (List.nil_sublist _)) (List.nil_sublist _) ?_
          first | exact ⟨congrArg (fun n : Nat => D.v (.int .i64 (n : Int))) (span_out (by rw [hw] at hc1; simp at hc1; omega) hk), rfl, rfl⟩ | exact ⟨congrArg (fun n : Nat => D.v (.int .i64 (n : Int))) (span_end hc hk (by simp_all [spanB])), rfl, rfl⟩
        · skip
          refine wpD_skip ?_
          refine then_normal ?_
          refine wpD_region ?_
          refine p_pure htab rfl rfl rfl rfl ?_
          refine p_pure htab rfl rfl rfl rfl ?_
          refine p_pure htab rfl rfl rfl rfl ?_
          refine ops_nil ?_
          refine block_normal ?_
          refine then_normal ?_
          refine ⟨(k + 1), WkS.slots (WkS.cons rfl (Wk.refl _) (WkS.cons rfl (Wk.refl _) (WkS.cons rfl (Wk.of_eq (by rw [wrapS (by omega)])) (WkS.nil)))) (List.Sublist.refl _) (List.Sublist.refl _), ⟨span_step hc hk (by simp_all [spanB]), by omega⟩, by omega⟩
    · skip
      refine p_skip rfl rfl rfl ?_
      refine p_skip rfl rfl rfl ?_
      refine p_skip rfl rfl rfl ?_
      refine p_skip rfl rfl rfl ?_
      refine p_skip rfl rfl rfl ?_
      refine p_skip rfl rfl rfl ?_
      refine p_pickF rfl rfl rfl rfl rfl rfl ?_
      refine ops_nil ?_
      refine then_normal ?_
      refine wpD_false rfl ?_
      refine wpD_skip ?_
      refine then_normal ?_
      refine wpD_region ?_
      refine p_pure htab rfl rfl rfl rfl ?_
      refine p_pure htab rfl rfl rfl rfl ?_
      refine p_pure htab rfl rfl rfl rfl ?_
      refine ops_nil ?_
      refine block_normal ?_
      refine then_normal ?_
      refine ⟨(k + 1), WkS.slots (WkS.cons rfl (Wk.refl _) (WkS.cons rfl (Wk.refl _) (WkS.cons rfl (Wk.of_eq (by rw [wrapS (by omega)])) (WkS.nil)))) (List.Sublist.refl _) (List.Sublist.refl _), ⟨span_step hc hk (by simp_all [spanB]), by omega⟩, by omega⟩
  · skip
    refine wpD_exit ?_
    refine then_exit ?_
    refine then_exit ?_
    refine block_hit ?_
    refine then_normal ?_
    refine wpD_seq ?_
    refine wpD_region ?_
    refine p_pure htab rfl rfl rfl rfl ?_
    refine p_pure htab rfl rfl rfl rfl ?_
    refine ops_nil ?_
    refine then_normal ?_
    refine wpD_ret ?_
    refine ret1m (.inl rfl) rfl (List.Sublist.cons_cons _ (List.nil_sublist _)) (List.nil_sublist _) ?_
    first | exact ⟨congrArg (fun n : Nat => D.v (.int .i64 (n : Int))) (span_out (by rw [hw] at hc1; simp at hc1; omega) hk), rfl, rfl⟩ | exact ⟨congrArg (fun n : Nat => D.v (.int .i64 (n : Int))) (span_end hc hk (by simp_all [spanB])), rfl, rfl⟩
end Go.Proofs.Ytnjeklpjjceppaa.Ab
