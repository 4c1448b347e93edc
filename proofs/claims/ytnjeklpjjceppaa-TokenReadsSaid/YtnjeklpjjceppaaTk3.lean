/- Layer 10: a token is read. -/
import Derived.Test.YtnjeklpjjceppaaTk2
namespace Go.Proofs.Ytnjeklpjjceppaa.Ab
open Go
set_option linter.all false
/-- What comes of a step: an error, a blank, a token of so many bytes. -/
inductive Out where
  | err (e : Int)
  | skip
  | tok (kind : Int) (n : Nat) (num : Int)
def errOf : Out → Int
  | .err e => e
  | _ => 0
def subS (r : List UInt8) (n : Nat) : ByteArray := ⟨(r.take n).toArray⟩
def advA (at_ : Nat) : Out → Nat
  | .err _ => at_
  | .skip => at_ + 1
  | .tok _ n _ => at_ + n
def advT (s : List UInt8) (at_ : Nat) (l : List Tok) : Out → List Tok
  | .tok kd n num => l ++ [⟨kd, subS (s.drop at_) n, num, at_⟩]
  | _ => l
def addO (l : List Tok) (kd : Int) (n : Nat) (num : Int) : Out := if 4000 ≤ l.length then .err 6 else .tok kd n num
abbrev tkL (l : List Tok) (y : Value) : D := .lst 4 (l.map tokD) (.cur y)
/-- What a method gives. -/
abbrev Gv (s : List UInt8) (at_ : Nat) (l : List Tok) (b : Nat) (T : TypeId) (o : Out) : D → List (Nat × Blk) → List (Nat × Value) → Prop :=
  fun d h k => ∃ y, d = .v (.int .i64 (errOf o)) ∧ h = [(b, .cells (rdC s (advA at_ o) (tkL (advT s at_ l o) y)) T)] ∧ k = [(4, y)]
theorem bytesD {s : List UInt8} {l n : Nat} {c : Cap} : some (D.lst 1 (((s.map byteD).drop l).take n) c) = some (D.lst 1 (((s.drop l).take n).map byteD) c) := by simp
theorem add_any (s : List UInt8) (at_ : Nat) (l : List Tok) (y : Value) (b : Nat) (T : TypeId) (kd num : Int) (n : Nat) (hs : s.length ≤ 140737488355328) (ha : at_ + n ≤ s.length) (hl : l.length ≤ 4000) :
    CallsD Try.prog 28 [.ptr b 0, .v (.int .i64 (kd)), .v (.int .i64 (n)), .v (.int .i64 (num))] [(b, .cells (rdC s at_ (tkL l y)) T)] [(4, y)] (Gv s at_ l b T (addO l kd n num)) := by
  have hw : IntKind.i64.wrap ((at_ : Int) + (n : Int)) = ((at_ + n : Nat) : Int) := by rw [wrapI] <;> omega
  have hn : at_ + n - at_ = n := by omega
  refine enter htab Try.func28 rfl rfl rfl rfl rfl (fun C => ?_)
  refine wpD_seq ?_
  refine wpD_region ?_
  refine p_pure htab rfl rfl rfl rfl ?_
  refine ops_nil ?_
  refine then_normal ?_
  refine wpD_seq ?_
  refine wpD_seq ?_
  refine wpD_region ?_
  refine p_pure htab rfl rfl rfl rfl ?_
  refine p_pure htab rfl rfl rfl rfl ?_
  refine p_pure htab rfl rfl rfl rfl ?_
  refine p_load 0 htab rfl rfl rfl rfl rfl rfl rfl rfl ?_
  refine p_lenL htab rfl rfl rfl rfl rfl rfl rfl (by first | exact List.length_map _ | rfl) ?_
  refine p_pure htab rfl rfl rfl rfl ?_
  refine ops_nil ?_
  refine then_normal ?_
  refine wpD_cond rfl (fun hc1 => ?_) (fun hc1 => ?_)
  · skip
    refine wpD_seq ?_
    refine wpD_region ?_
    refine p_pure htab rfl rfl rfl rfl ?_
    refine ops_nil ?_
    refine then_normal ?_
    refine wpD_ret ?_
    refine then_ret ?_
    refine ret1m (.inl rfl) rfl (List.Sublist.cons_cons _ (List.nil_sublist _)) (List.Sublist.cons_cons _ (List.nil_sublist _)) ?_
    first | (have e : addO l kd n num = .err 6 := if_pos (by simp at hc1; omega)) | (have e : addO l kd n num = .tok kd n num := if_neg (by simp at hc1; omega))
    rw [e]
    first
    | exact ⟨_, rfl, rfl, rfl⟩
    | (refine ⟨_, rfl, ?_, rfl⟩
       show [(b, Blk.cells [_, .v (.int .i64 (IntKind.i64.wrap ((at_ : Int) + (n : Int)))), .lst 4 (l.map tokD ++ [tokD ⟨kd, ⟨((s.drop at_).take (at_ + n - at_)).toArray⟩, num, at_⟩]) (.cur _)] T)] = _
       rw [hw, hn]
       simp only [advA, advT, tkL, List.map_append, List.map_cons, List.map_nil, subS])
  · skip
    refine wpD_skip ?_
    refine then_normal ?_
    refine wpD_seq ?_
    refine wpD_app 30 [] [[],[],[1],[1,2],[1,2,3],[],[],[6],[6,7],[6,7,8],[],[10],[10,11],[10,11,12],[],[14],[14,15],[14,15,16],[],[14,15,16,17],[6,7,8,9,10,11,12,13,14,15,16,17],[6,7,8,9,10,11,12,13,14,15,16,17,20],[],[],[23],[23,24],[23,24,25],[6,7,8,9,10,11,12,13,14,15,16,17,20,21,23,24,25,26],[6,7,8,9,10,11,12,13,14,15,16,17,20,21,23,24,25,26,27],[1,2,3,4,6,7,8,9,10,11,12,13,14,15,16,17,20,21,23,24,25,26,27,28]] [0,1,2,3,4,6,7,8,9,10,11,12,13,14,15,16,17,20,21,23,24,25,26,27,28,29] [[],[],[1],[1,2],[1,2,3],[],[],[6],[6,7],[6,7,8],[],[10],[10,11],[10,11,12],[],[14],[14,15],[14,15,16],[],[14,15,16,17,18],[6,7,8,9,10,11,12,13,14,15,16,17,18,19],[6,7,8,9,10,11,12,13,14,15,16,17,18,19,20],[],[],[23],[23,24],[23,24,25],[5,6,7,8,9,10,11,12,13,14,15,16,17,18,19,20,21,22,23,24,25,26],[5,6,7,8,9,10,11,12,13,14,15,16,17,18,19,20,21,22,23,24,25,26,27],[1,2,3,4,5,6,7,8,9,10,11,12,13,14,15,16,17,18,19,20,21,22,23,24,25,26,27,28],[0,1,2,3,4,5,6,7,8,9,10,11,12,13,14,15,16,17,18,19,20,21,22,23,24,25,26,27,28,29],[0,1,2,3,4,5,6,7,8,9,10,11,12,13,14,15,16,17,18,19,20,21,22,23,24,25,26,27,28,29,30],[0,1,2,3,4,5,6,7,8,9,10,11,12,13,14,15,16,17,18,19,20,21,22,23,24,25,26,27,28,29,30,31]] 29 4 0 (by kernel_rfl) (by kernel_rfl) (by kernel_rfl) (by rfl) (by rfl) (by kernel_rfl) rfl ?_
    apply Exists.intro
    apply Exists.intro
    apply Exists.intro
    apply Exists.intro
    apply Exists.intro
    apply Exists.intro
    apply Exists.intro
    apply Exists.intro
    apply Exists.intro
    apply Exists.intro
    apply Exists.intro
    apply Exists.intro
    apply Exists.intro
    apply Exists.intro
    apply Exists.intro
    apply Exists.intro
    apply Exists.intro
    apply Exists.intro
    apply Exists.intro
    apply Exists.intro
    apply Exists.intro
    apply Exists.intro
    apply Exists.intro
    apply Exists.intro
    apply Exists.intro
    apply Exists.intro
    refine ⟨.any, ?_⟩
    intro bs v2
    refine zh_e rfl rfl (ex_pure htab rfl) rfl rfl rfl rfl rfl rfl rfl rfl ?_
    refine zh_e rfl rfl (ex_pure htab rfl) rfl rfl rfl rfl rfl rfl rfl rfl ?_
    refine zh_e rfl rfl (ex_pure htab rfl) rfl rfl rfl rfl rfl rfl rfl rfl ?_
    refine zh_e rfl rfl (ex_pure htab rfl) rfl rfl rfl rfl rfl rfl rfl rfl ?_
    refine zh_M rfl rfl (fun _ => xm_load 0 htab rfl rfl rfl rfl rfl) (offB rfl) rfl rfl rfl rfl rfl rfl rfl rfl ?_
    refine zh_q rfl rfl (ex_pure htab rfl) rfl rfl rfl rfl rfl rfl ?_
    refine zh_e rfl rfl (ex_pure htab rfl) rfl rfl rfl rfl rfl rfl rfl rfl ?_
    refine zh_e rfl rfl (ex_pure htab rfl) rfl rfl rfl rfl rfl rfl rfl rfl ?_
    refine zh_e rfl rfl (ex_pure htab rfl) rfl rfl rfl rfl rfl rfl rfl rfl ?_
    refine zh_M rfl rfl (fun _ => xm_load 0 htab rfl rfl rfl rfl rfl) (offB rfl) rfl rfl rfl rfl rfl rfl rfl rfl ?_
    refine zh_e rfl rfl (ex_pure htab rfl) rfl rfl rfl rfl rfl rfl rfl rfl ?_
    refine zh_e rfl rfl (ex_pure htab rfl) rfl rfl rfl rfl rfl rfl rfl rfl ?_
    refine zh_e rfl rfl (ex_pure htab rfl) rfl rfl rfl rfl rfl rfl rfl rfl ?_
    refine zh_M rfl rfl (fun _ => xm_load 0 htab rfl rfl rfl rfl rfl) (offB rfl) rfl rfl rfl rfl rfl rfl rfl rfl ?_
    refine zh_e rfl rfl (ex_pure htab rfl) rfl rfl rfl rfl rfl rfl rfl rfl ?_
    refine zh_e rfl rfl (ex_pure htab rfl) rfl rfl rfl rfl rfl rfl rfl rfl ?_
    refine zh_e rfl rfl (ex_pure htab rfl) rfl rfl rfl rfl rfl rfl rfl rfl ?_
    refine zh_M rfl rfl (fun _ => xm_load 0 htab rfl rfl rfl rfl rfl) (offB rfl) rfl rfl rfl rfl rfl rfl rfl rfl ?_
    refine zh_q rfl rfl (ex_pure htab rfl) rfl rfl rfl rfl rfl rfl ?_
    refine zh_q rfl rfl (ex_pure htab rfl) rfl rfl rfl rfl rfl rfl ?_
    refine zh_e rfl rfl (x_part htab rfl rfl rfl rfl rfl rfl rfl rfl rfl hw (by omega) (by simpa using ha)) rfl rfl rfl rfl rfl rfl rfl rfl ?_
    refine zh_E rfl rfl (x_toStr htab rfl (bytesD) rfl rfl rfl rfl rfl rfl) rfl rfl rfl rfl rfl rfl rfl rfl ?_
    refine zh_q rfl rfl (ex_pure htab rfl) rfl rfl rfl rfl rfl rfl ?_
    refine zh_e rfl rfl (ex_pure htab rfl) rfl rfl rfl rfl rfl rfl rfl rfl ?_
    refine zh_e rfl rfl (ex_pure htab rfl) rfl rfl rfl rfl rfl rfl rfl rfl ?_
    refine zh_e rfl rfl (ex_pure htab rfl) rfl rfl rfl rfl rfl rfl rfl rfl ?_
    refine zh_M rfl rfl (fun _ => xm_load 0 htab rfl rfl rfl rfl rfl) (offB rfl) rfl rfl rfl rfl rfl rfl rfl rfl ?_
    refine zh_e rfl rfl (x_build htab rfl rfl rfl rfl rfl rfl) rfl rfl rfl rfl rfl rfl rfl rfl ?_
    refine zh_E rfl rfl (x_lit htab rfl rfl rfl rfl rfl rfl rfl rfl rfl rfl rfl) rfl rfl rfl rfl rfl rfl rfl rfl ?_
    refine zh_app htab rfl rfl rfl rfl rfl rfl rfl rfl (rep_of rfl) rfl (app_kC rfl) (perm_at (j := 0) rfl) rfl rfl rfl rfl rfl rfl rfl rfl rfl (by simp [chunk_length]; omega) rfl ?_
    refine zh_nil rfl rfl rfl rfl (fun e he => by simp [isAl] at he) ?_
    refine p_pure htab rfl rfl rfl rfl ?_
    refine p_pure htab rfl rfl rfl rfl ?_
    refine p_store 0 htab rfl rfl rfl rfl rfl rfl rfl rfl rfl rfl rfl rfl ?_
    refine ops_nil ?_
    refine then_normal ?_
    refine wpD_seq ?_
    refine wpD_region ?_
    refine p_pure htab rfl rfl rfl rfl ?_
    refine p_pure htab rfl rfl rfl rfl ?_
    refine p_pure htab rfl rfl rfl rfl ?_
    refine p_load 0 htab rfl rfl rfl rfl rfl rfl rfl rfl ?_
    refine p_pure htab rfl rfl rfl rfl ?_
    refine p_pure htab rfl rfl rfl rfl ?_
    refine p_pure htab rfl rfl rfl rfl ?_
    refine p_pure htab rfl rfl rfl rfl ?_
    refine p_store 0 htab rfl rfl rfl rfl rfl rfl rfl rfl rfl rfl rfl rfl ?_
    refine ops_nil ?_
    refine then_normal ?_
    refine wpD_seq ?_
    refine wpD_region ?_
    refine p_pure htab rfl rfl rfl rfl ?_
    refine ops_nil ?_
    refine then_normal ?_
    refine wpD_ret ?_
    refine ret1m (.inl rfl) rfl (List.Sublist.cons_cons _ (List.nil_sublist _)) (List.Sublist.cons_cons _ (List.nil_sublist _)) ?_
    first | (have e : addO l kd n num = .err 6 := if_pos (by simp at hc1; omega)) | (have e : addO l kd n num = .tok kd n num := if_neg (by simp at hc1; omega))
    rw [e]
    first
    | exact ⟨_, rfl, rfl, rfl⟩
    | (refine ⟨_, rfl, ?_, rfl⟩
       show [(b, Blk.cells [_, .v (.int .i64 (IntKind.i64.wrap ((at_ : Int) + (n : Int)))), .lst 4 (l.map tokD ++ [tokD ⟨kd, ⟨((s.drop at_).take (at_ + n - at_)).toArray⟩, num, at_⟩]) (.cur _)] T)] = _
       rw [hw, hn]
       simp only [advA, advT, tkL, List.map_append, List.map_cons, List.map_nil, subS])
def wordsA : List ByteArray := [⟨#[105, 110, 116]⟩, ⟨#[105, 102]⟩, ⟨#[101, 108, 115, 101]⟩, ⟨#[119, 104, 105, 108, 101]⟩, ⟨#[114, 101, 116, 117, 114, 110]⟩, ⟨#[97, 115, 115, 101, 114, 116]⟩, ⟨#[105, 110, 112, 117, 116]⟩, ⟨#[110, 117, 108, 108]⟩]
def isWord (s : ByteArray) : Bool := hasB wordsA s
theorem word_any (s : ByteArray) : CallsD Try.prog 13 [strD s] [] [] (fun d h k => d = .v (.bool (isWord s)) ∧ h = [] ∧ k = []) := by
  refine enter htab Try.func13 rfl rfl rfl rfl rfl (fun C => ?_)
  refine wpD_seq ?_
  refine wpD_region ?_
  refine p_pure htab rfl rfl rfl rfl ?_
  refine ops_nil ?_
  refine then_normal ?_
  refine wpD_seq ?_
  refine wpD_region ?_
  refine p_lit htab rfl rfl rfl rfl rfl rfl rfl rfl rfl rfl rfl rfl rfl rfl ?_
  refine p_pure htab rfl rfl rfl rfl ?_
  refine p_call0 (contains_any wordsA s (by decide)) rfl rfl rfl rfl rfl (WkL.cons Wk.no (WkL.refl _)) ?_
  rintro _ rfl
  refine p_pure htab rfl rfl rfl rfl ?_
  refine ops_nil ?_
  refine then_normal ?_
  refine wpD_ret ?_
  refine ret1 (.inl rfl) rfl ?_
  rfl
def nameO (r : List UInt8) (l : List Tok) : Out :=
  if 20 < spanN true r then .err 6 else if isWord (subS r (spanN true r)) = true then addO l 3 (spanN true r) 0 else addO l 1 (spanN true r) 0
theorem spanN_le (lets : Bool) (r : List UInt8) : spanN lets r ≤ r.length := (List.takeWhile_sublist _).length_le
theorem spanN_at (lets : Bool) {s : List UInt8} {at_ : Nat} (ha : at_ ≤ s.length) : at_ + spanN lets (s.drop at_) ≤ s.length := by
  have := spanN_le lets (s.drop at_)
  simp only [List.length_drop] at this
  omega
theorem name_any (s : List UInt8) (at_ : Nat) (l : List Tok) (y : Value) (b : Nat) (T : TypeId) (hs : s.length ≤ 140737488355328) (ha : at_ ≤ s.length) (hl : l.length ≤ 4000) :
    CallsD Try.prog 25 [.ptr b 0] [(b, .cells (rdC s at_ (tkL l y)) T)] [(4, y)] (Gv s at_ l b T (nameO (s.drop at_) l)) := by
  have hsp := spanN_at true ha
  have hw : IntKind.i64.wrap ((at_ : Int) + (spanN true (s.drop at_) : Nat)) = ((at_ + spanN true (s.drop at_) : Nat) : Int) := by rw [wrapI] <;> omega
  have hn : at_ + spanN true (s.drop at_) - at_ = spanN true (s.drop at_) := by omega
  refine enter htab Try.func25 rfl rfl rfl rfl rfl (fun C => ?_)
  refine wpD_seq ?_
  refine wpD_region ?_
  refine p_pure htab rfl rfl rfl rfl ?_
  refine ops_nil ?_
  refine then_normal ?_
  refine wpD_seq ?_
  refine wpD_region ?_
  refine p_pure htab rfl rfl rfl rfl ?_
  refine ops_call (s := ⟨_, _, _⟩) (span_any s at_ (tkL l y) true b T hs ha) rfl rfl rfl rfl rfl (WkL.refl _) (perm_at (j := 0) rfl) (List.Perm.refl _) ?_
  rintro _ _ _ ⟨rfl, rfl, rfl⟩
  refine p_pure htab rfl rfl rfl rfl ?_
  refine ops_nil ?_
  refine then_normal ?_
  refine wpD_seq ?_
  refine wpD_draws 14 [] [[],[0],[0,1],[0,1,2],[],[4],[4,5],[4,5,6],[],[8],[8,9],[8,9,10],[],[8,9,10]] [0,1,2,3,4,5,6,8,9,10] [[],[0],[0,1],[0,1,2],[],[4],[4,5],[4,5,6],[],[8],[8,9],[8,9,10],[],[8,9,10,11,12],[0,1,2,3,4,5,6,7,8,9,10,11,12,13],[0,1,2,3,4,5,6,7,8,9,10,11,12,13,14],[0,1,2,3,4,5,6,7,8,9,10,11,12,13,14,15]] (by kernel_rfl) (by kernel_rfl) (by kernel_rfl) (by rfl) (by rfl) (by kernel_rfl) ?_
  apply Exists.intro
  apply Exists.intro
  apply Exists.intro
  apply Exists.intro
  apply Exists.intro
  apply Exists.intro
  apply Exists.intro
  apply Exists.intro
  apply Exists.intro
  apply Exists.intro
  intro bs
  refine z_e rfl rfl (ex_pure htab rfl) rfl rfl rfl rfl rfl rfl ?_
  refine z_e rfl rfl (ex_pure htab rfl) rfl rfl rfl rfl rfl rfl ?_
  refine z_e rfl rfl (ex_pure htab rfl) rfl rfl rfl rfl rfl rfl ?_
  refine z_eM rfl rfl (xm_load 0 htab rfl rfl rfl rfl rfl) rfl rfl rfl rfl rfl rfl ?_
  refine z_e rfl rfl (ex_pure htab rfl) rfl rfl rfl rfl rfl rfl ?_
  refine z_e rfl rfl (ex_pure htab rfl) rfl rfl rfl rfl rfl rfl ?_
  refine z_e rfl rfl (ex_pure htab rfl) rfl rfl rfl rfl rfl rfl ?_
  refine z_qM rfl rfl (xm_load 0 htab rfl rfl rfl rfl rfl) rfl rfl rfl rfl rfl rfl ?_
  refine z_e rfl rfl (ex_pure htab rfl) rfl rfl rfl rfl rfl rfl ?_
  refine z_e rfl rfl (ex_pure htab rfl) rfl rfl rfl rfl rfl rfl ?_
  refine z_e rfl rfl (ex_pure htab rfl) rfl rfl rfl rfl rfl rfl ?_
  refine z_qM rfl rfl (xm_load 0 htab rfl rfl rfl rfl rfl) rfl rfl rfl rfl rfl rfl ?_
  refine z_q rfl rfl (ex_pure htab rfl) rfl rfl rfl rfl rfl rfl ?_
  refine z_q rfl rfl (ex_pure htab rfl) rfl rfl rfl rfl rfl rfl ?_
  refine z_nil rfl rfl (fun e he => by simp [isAl] at he) ?_
  refine p_part htab rfl rfl rfl rfl rfl rfl rfl rfl rfl rfl rfl rfl hw (by omega) (by simpa using hsp) ?_
  refine p_toStr htab rfl rfl rfl rfl (bytesD) rfl rfl rfl rfl rfl rfl ?_
  refine p_pure htab rfl rfl rfl rfl ?_
  refine ops_nil ?_
  refine then_normal ?_
  refine wpD_seq ?_
  refine wpD_block ?_
  refine wpD_seq ?_
  refine wpD_region ?_
  refine p_pure htab rfl rfl rfl rfl ?_
  refine p_pure htab rfl rfl rfl rfl ?_
  refine p_pure htab rfl rfl rfl rfl ?_
  refine ops_nil ?_
  refine then_normal ?_
  refine wpD_cond rfl (fun hc1 => ?_) (fun hc1 => ?_)
  · skip
    refine wpD_seq ?_
    refine wpD_region ?_
    refine p_pure htab rfl rfl rfl rfl ?_
    refine ops_nil ?_
    refine then_normal ?_
    refine wpD_ret ?_
    refine block_ret ?_
    refine then_ret ?_
    refine ret1m (.inl rfl) rfl (List.Sublist.cons_cons _ (List.nil_sublist _)) (List.Sublist.cons_cons _ (List.nil_sublist _)) ?_
    first
    | (have e : nameO (s.drop at_) l = .err 6 := if_pos (by simp at hc1; omega)
       rw [e]
       exact ⟨_, rfl, rfl, rfl⟩)
    | (have e : nameO (s.drop at_) l = addO l 3 (spanN true (s.drop at_)) 0 := by
         unfold nameO subS
         rw [hn] at hc2
         rw [if_neg (by simp at hc1; omega), if_pos hc2]
       rw [e]
       exact ⟨_, rfl, rfl, rfl⟩)
    | (have e : nameO (s.drop at_) l = addO l 1 (spanN true (s.drop at_)) 0 := by
         unfold nameO subS
         rw [hn] at hc2
         rw [if_neg (by simp at hc1; omega), if_neg (by rw [hc2]; simp)]
       rw [e]
       exact ⟨_, rfl, rfl, rfl⟩)
  · skip
    refine wpD_seq ?_
    refine wpD_region ?_
    refine p_pure htab rfl rfl rfl rfl ?_
    refine p_call0 (word_any _) rfl rfl rfl rfl rfl (WkL.refl _) ?_
    rintro _ rfl
    refine p_pure htab rfl rfl rfl rfl ?_
    refine ops_nil ?_
    refine then_normal ?_
    refine wpD_cond rfl (fun hc2 => ?_) (fun hc2 => ?_)
    · skip
      refine wpD_seq ?_
      refine wpD_region ?_
      refine p_pure htab rfl rfl rfl rfl ?_
      refine p_pure htab rfl rfl rfl rfl ?_
      refine ops_call (s := ⟨_, _, _⟩) (add_any s at_ l y b T _ _ _ hs hsp hl) rfl rfl rfl rfl rfl (WkL.refl _) (perm_at (j := 0) rfl) (perm_at (j := 0) rfl) ?_
      rintro _ _ _ ⟨v3, rfl, rfl, rfl⟩
      refine p_pure htab rfl rfl rfl rfl ?_
      refine ops_nil ?_
      refine then_normal ?_
      refine wpD_ret ?_
      refine block_ret ?_
      refine then_ret ?_
      refine ret1m (.inl rfl) rfl (List.Sublist.cons_cons _ (List.nil_sublist _)) (List.Sublist.cons_cons _ (List.nil_sublist _)) ?_
      first
      | (have e : nameO (s.drop at_) l = .err 6 := if_pos (by simp at hc1; omega)
         rw [e]
         exact ⟨_, rfl, rfl, rfl⟩)
      | (have e : nameO (s.drop at_) l = addO l 3 (spanN true (s.drop at_)) 0 := by
           unfold nameO subS
           rw [hn] at hc2
           rw [if_neg (by simp at hc1; omega), if_pos hc2]
         rw [e]
         exact ⟨_, rfl, rfl, rfl⟩)
      | (have e : nameO (s.drop at_) l = addO l 1 (spanN true (s.drop at_)) 0 := by
           unfold nameO subS
           rw [hn] at hc2
           rw [if_neg (by simp at hc1; omega), if_neg (by rw [hc2]; simp)]
         rw [e]
         exact ⟨_, rfl, rfl, rfl⟩)
    · skip
      refine wpD_skip ?_
      refine block_normal ?_
      refine then_normal ?_
      refine wpD_seq ?_
      refine wpD_region ?_
      refine p_pure htab rfl rfl rfl rfl ?_
      refine p_pure htab rfl rfl rfl rfl ?_
      refine ops_call (s := ⟨_, _, _⟩) (add_any s at_ l y b T _ _ _ hs hsp hl) rfl rfl rfl rfl rfl (WkL.refl _) (perm_at (j := 0) rfl) (perm_at (j := 0) rfl) ?_
      rintro _ _ _ ⟨v4, rfl, rfl, rfl⟩
      refine p_pure htab rfl rfl rfl rfl ?_
      refine ops_nil ?_
      refine then_normal ?_
      refine wpD_ret ?_
      refine ret1m (.inl rfl) rfl (List.Sublist.cons_cons _ (List.nil_sublist _)) (List.Sublist.cons_cons _ (List.nil_sublist _)) ?_
      first
      | (have e : nameO (s.drop at_) l = .err 6 := if_pos (by simp at hc1; omega)
         rw [e]
         exact ⟨_, rfl, rfl, rfl⟩)
      | (have e : nameO (s.drop at_) l = addO l 3 (spanN true (s.drop at_)) 0 := by
           unfold nameO subS
           rw [hn] at hc2
           rw [if_neg (by simp at hc1; omega), if_pos hc2]
         rw [e]
         exact ⟨_, rfl, rfl, rfl⟩)
      | (have e : nameO (s.drop at_) l = addO l 1 (spanN true (s.drop at_)) 0 := by
           unfold nameO subS
           rw [hn] at hc2
           rw [if_neg (by simp at hc1; omega), if_neg (by rw [hc2]; simp)]
         rw [e]
         exact ⟨_, rfl, rfl, rfl⟩)
end Go.Proofs.Ytnjeklpjjceppaa.Ab
