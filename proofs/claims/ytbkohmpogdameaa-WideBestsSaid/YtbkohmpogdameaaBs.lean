/- Layer 1: the least and the greatest. -/
import Derived.Test.YtbkohmpogdameaaWl1
import Derived.Test.YtbkohmpogdameaaTb
import Derived.Test.YtbkohmpogdameaaFa
namespace Go.Proofs.Ytbkohmpogdameaa.Ab
open Go Go.RowKit Go.Shelf Go.Proofs.Ytbkohmpogdameaa
abbrev WP := Int × Int
def wD (p : WP) : D := .agg [.v (.int .i64 p.1), .v (.int .u64 p.2)]
def val (p : WP) : Int := V p.1 p.2
def ok (p : WP) : Prop := Ok2 p.1 p.2
theorem cmpE (p q : WP) (kp : ok p) (kq : ok q) : CallsD Try.prog 15 [wD p, wD q] [] [] (fun d h k => d = .v (.int .i64 (cmpI (val p) (val q))) ∧ h = [] ∧ k = []) :=
  of_calls (us := #[.agg #[.int .i64 p.1, .int .u64 p.2], .agg #[.int .i64 q.1, .int .u64 q.2]]) (v := .int .i64 (cmpI (val p) (val q))) ⟨_, Try.func15, rfl, rfl⟩ rfl (fun _ => rep_v rfl) (fun w => wcmp_any p.1 p.2 q.1 q.2 w kp kq)
theorem rcmpE (p q : WP) (kp : ok p) (kq : ok q) : CallsD Try.prog 16 [wD p, wD q] [] [] (fun d h k => d = .v (.int .i64 (cmpI (val p) (val q))) ∧ h = [] ∧ k = []) :=
  of_calls (us := #[.agg #[.int .i64 p.1, .int .u64 p.2], .agg #[.int .i64 q.1, .int .u64 q.2]]) (v := .int .i64 (cmpI (val p) (val q))) ⟨_, Try.func16, rfl, rfl⟩ rfl (fun _ => rep_v rfl) (fun w => rcmp_any p.1 p.2 q.1 q.2 w kp kq)
theorem livesE : CallsD Try.prog 12 [] [] [] (fun d h k => d = .v (.bool true) ∧ h = [] ∧ k = []) :=
  of_calls (us := #[]) (v := .bool true) ⟨_, Try.func12, rfl, rfl⟩ rfl (fun _ => rep_v rfl) (fun w => lives_any w)
def stepB (sign : Int) (a b : WP) : WP := bif cmpI (val b) (val a) == sign then b else a
def bestF (sign : Int) (a : WP) (l : List WP) : WP := l.foldl (stepB sign) a
theorem best_succ {sign : Int} {a x : WP} {l : List WP} {k : Nat} (h : l[k]? = some x) : bestF sign a (l.take (k + 1)) = stepB sign (bestF sign a (l.take k)) x := by
  unfold bestF
  rw [List.take_add_one, h]; simp
theorem best_hit {sign : Int} {a x : WP} {l : List WP} {k : Nat} (h : l[k]? = some x) (hc : (cmpI (val x) (val (bestF sign a (l.take k))) == sign) = true) : bestF sign a (l.take (k + 1)) = x := by
  rw [best_succ h, stepB, hc]; rfl
theorem best_miss {sign : Int} {a x : WP} {l : List WP} {k : Nat} (h : l[k]? = some x) (hc : (cmpI (val x) (val (bestF sign a (l.take k))) == sign) = false) : bestF sign a (l.take (k + 1)) = bestF sign a (l.take k) := by
  rw [best_succ h, stepB, hc]; rfl
theorem best_ok {sign : Int} : ∀ {l : List WP} {a : WP}, ok a → (∀ b ∈ l, ok b) → ok (bestF sign a l)
  | [], a, ha, _ => ha
  | b :: l, a, ha, hl => by
    show ok (bestF sign (stepB sign a b) l)
    refine best_ok ?_ fun x hx => hl x (by simp [hx])
    unfold stepB
    cases (cmpI (val b) (val a) == sign)
    · exact ha
    · exact hl b (by simp)
theorem wrapS {k : Nat} (h : k < 9223372036854775807) : IntKind.i64.wrap ((k : Int) + 1) = ((k + 1 : Nat) : Int) := by
  rw [IntKind.wrap_i64]; omega
theorem map_get {α : Type} {f : α → D} {l : List α} {k : Nat} {x : α} (h : l[k]? = some x) : (l.map f)[((k : Nat) : Int).toNat]? = some (f x) := by simp [h]
theorem best_any (a : WP) (sign : Int) (l : List WP) (ha : ok a) (hl : ∀ b ∈ l, ok b) (hlen : l.length ≤ 9223372036854775807) : CallsD Try.prog 35 [wD a, .v (.int .i64 (sign)), .lst 2 (l.map wD) .no] [] [] (fun d h k => d = wD (bestF sign a l) ∧ h = [] ∧ k = []) := by
  refine enter htab Try.func35 rfl rfl rfl rfl rfl (fun C => ?_)
  refine wpD_seq ?_
  refine wpD_region ?_
  refine p_box rfl rfl rfl rfl rfl rfl rfl (fun b1 => ?_)
  refine p_alloc htab rfl rfl rfl rfl rfl rfl rfl (fun b2 => ?_)
  refine ops_nil ?_
  refine then_normal ?_
  refine wpD_seq ?_
  refine wpD_seq ?_
  refine wpD_region ?_
  refine p_pure htab rfl rfl rfl rfl ?_
  refine p_lenL htab rfl rfl rfl rfl rfl rfl rfl (by first | exact List.length_map _ | rfl) ?_
  refine p_pure htab rfl rfl rfl rfl ?_
  refine ops_nil ?_
  refine then_normal ?_
  refine wpD_block ?_
  refine loop_ind (α := Nat) (fun k => k ≤ l.length) (fun k => ⟨[(1, .v (.int .i64 sign)), (3, .ptr b1 0), (6, .ptr b2 0), (9, .lst 2 (l.map wD) .no), (10, .v (.int .i64 l.length)), (11, .v (.int .i64 k))], [(b1, .cells [.v (.int .i64 (bestF sign a (l.take k)).1), .v (.int .u64 (bestF sign a (l.take k)).2)] 24), (b2, .cells [.v (.int .i64 0), .v (.int .u64 0)] 24)], []⟩) (fun k => l.length - k) 0 (Nat.zero_le _) (WkS.slots (WkS.cons rfl (Wk.refl _) (WkS.cons rfl (Wk.refl _) (WkS.cons rfl (Wk.refl _) (WkS.cons rfl (Wk.refl _) (WkS.cons rfl (Wk.refl _) (WkS.cons rfl (Wk.refl _) (WkS.nil))))))) (List.Sublist.refl _) (List.Sublist.refl _)) ?_
  intro k hk
  have kb := best_ok (sign := sign) (l := l.take k) ha (fun b hb => hl b (List.mem_of_mem_take hb))
  refine wpD_seq ?_
  refine wpD_region ?_
  refine p_pure htab rfl rfl rfl rfl ?_
  refine ops_nil ?_
  refine then_normal ?_
  refine wpD_seq ?_
  refine wpD_cond rfl (fun hc3 => ?_) (fun hc3 => ?_)
  · skip
    refine wpD_skip ?_
    refine then_normal ?_
    refine wpD_seq ?_
    refine wpD_block ?_
    refine wpD_seq ?_
    refine wpD_region ?_
    have hlt : k < l.length := (by simpa using hc3); obtain ⟨x, hx⟩ : ∃ x, l[k]? = some x := ⟨l[k]'hlt, by simp⟩; have kx : ok x := hl x (List.mem_of_getElem? hx)
    refine p_elem htab rfl rfl rfl rfl rfl rfl rfl rfl rfl rfl (by omega) (map_get hx) ?_
    refine p_loadEl htab rfl rfl rfl rfl rfl rfl rfl rfl ?_
    refine p_alloc htab rfl rfl rfl rfl rfl rfl rfl (fun b4 => ?_)
    refine p_store 2 htab rfl rfl rfl rfl rfl rfl rfl rfl rfl rfl rfl rfl ?_
    refine ops_nil ?_
    refine then_normal ?_
    refine wpD_seq ?_
    refine wpD_region ?_
    refine p_load 2 htab rfl rfl rfl rfl rfl rfl rfl rfl ?_
    refine p_load 0 htab rfl rfl rfl rfl rfl rfl rfl rfl ?_
    refine p_call0 (cmpE x (bestF sign a (l.take k)) kx kb) rfl rfl rfl rfl rfl (WkL.refl _) ?_
    rintro _ rfl
    refine p_pure htab rfl rfl rfl rfl ?_
    refine p_pure htab rfl rfl rfl rfl ?_
    refine ops_nil ?_
    refine then_normal ?_
    refine wpD_cond rfl (fun hc5 => ?_) (fun hc5 => ?_)
    · skip
      refine wpD_region ?_
      refine p_load 2 htab rfl rfl rfl rfl rfl rfl rfl rfl ?_
      refine p_store 0 htab rfl rfl rfl rfl rfl rfl rfl rfl rfl rfl rfl rfl ?_
      refine ops_nil ?_
      refine block_normal ?_
      refine then_normal ?_
      refine wpD_region ?_
      refine p_pure htab rfl rfl rfl rfl ?_
      refine p_pure htab rfl rfl rfl rfl ?_
      refine ops_nil ?_
      refine then_normal ?_
      refine ⟨(k + 1), WkS.slots (WkS.cons rfl (Wk.refl _) (WkS.cons rfl (Wk.refl _) (WkS.cons rfl (Wk.refl _) (WkS.cons rfl (Wk.refl _) (WkS.cons rfl (Wk.refl _) (WkS.cons rfl (Wk.of_eq (by rw [wrapS (by omega)])) (WkS.nil))))))) (by first | (rw [best_hit hx hc5]; exact List.Sublist.cons_cons _ (List.Sublist.cons_cons _ (List.nil_sublist _))) | (rw [best_miss hx hc5]; exact List.Sublist.cons_cons _ (List.Sublist.cons_cons _ (List.nil_sublist _)))) (List.Sublist.refl _), (by omega), by omega⟩
    · skip
      refine wpD_skip ?_
      refine block_normal ?_
      refine then_normal ?_
      refine wpD_region ?_
      refine p_pure htab rfl rfl rfl rfl ?_
      refine p_pure htab rfl rfl rfl rfl ?_
      refine ops_nil ?_
      refine then_normal ?_
      refine ⟨(k + 1), WkS.slots (WkS.cons rfl (Wk.refl _) (WkS.cons rfl (Wk.refl _) (WkS.cons rfl (Wk.refl _) (WkS.cons rfl (Wk.refl _) (WkS.cons rfl (Wk.refl _) (WkS.cons rfl (Wk.of_eq (by rw [wrapS (by omega)])) (WkS.nil))))))) (by first | (rw [best_hit hx hc5]; exact List.Sublist.cons_cons _ (List.Sublist.cons_cons _ (List.nil_sublist _))) | (rw [best_miss hx hc5]; exact List.Sublist.cons_cons _ (List.Sublist.cons_cons _ (List.nil_sublist _)))) (List.Sublist.refl _), (by omega), by omega⟩
  · skip
    refine wpD_exit ?_
    refine then_exit ?_
    refine then_exit ?_
    refine block_hit ?_
    refine then_normal ?_
    refine wpD_seq ?_
    refine wpD_region ?_
    refine p_load 0 htab rfl rfl rfl rfl rfl rfl rfl rfl ?_
    refine p_store 1 htab rfl rfl rfl rfl rfl rfl rfl rfl rfl rfl rfl rfl ?_
    refine ops_nil ?_
    refine then_normal ?_
    refine wpD_ret ?_
    refine ret_cell 1 (.inl rfl) rfl rfl rfl rfl ?_
    rw [List.take_of_length_le (show l.length ≤ k by simpa using hc3)]; rfl
theorem min_any (a : WP) (l : List WP) (ha : ok a) (hl : ∀ b ∈ l, ok b) (hlen : l.length ≤ 9223372036854775807) : CallsD Try.prog 27 [wD a, .lst 2 (l.map wD) .no] [] [] (fun d h k => d = wD (bestF (-1) a l) ∧ h = [] ∧ k = []) := by
  refine enter htab Try.func27 rfl rfl rfl rfl rfl (fun C => ?_)
  refine wpD_seq ?_
  refine wpD_region ?_
  refine p_box rfl rfl rfl rfl rfl rfl rfl (fun b1 => ?_)
  refine p_alloc htab rfl rfl rfl rfl rfl rfl rfl (fun b2 => ?_)
  refine ops_nil ?_
  refine then_normal ?_
  refine wpD_seq ?_
  refine wpD_region ?_
  refine p_load 0 htab rfl rfl rfl rfl rfl rfl rfl rfl ?_
  refine p_pure htab rfl rfl rfl rfl ?_
  refine p_call0 (best_any a (-1) l ha hl hlen) rfl rfl rfl rfl rfl (WkL.refl _) ?_
  rintro _ rfl
  refine p_store 1 htab rfl rfl rfl rfl rfl rfl rfl rfl rfl rfl rfl rfl ?_
  refine ops_nil ?_
  refine then_normal ?_
  refine wpD_ret ?_
  refine ret_cell 1 (.inl rfl) rfl rfl rfl rfl ?_
  rfl
theorem max_any (a : WP) (l : List WP) (ha : ok a) (hl : ∀ b ∈ l, ok b) (hlen : l.length ≤ 9223372036854775807) : CallsD Try.prog 28 [wD a, .lst 2 (l.map wD) .no] [] [] (fun d h k => d = wD (bestF 1 a l) ∧ h = [] ∧ k = []) := by
  refine enter htab Try.func28 rfl rfl rfl rfl rfl (fun C => ?_)
  refine wpD_seq ?_
  refine wpD_region ?_
  refine p_box rfl rfl rfl rfl rfl rfl rfl (fun b1 => ?_)
  refine p_alloc htab rfl rfl rfl rfl rfl rfl rfl (fun b2 => ?_)
  refine ops_nil ?_
  refine then_normal ?_
  refine wpD_seq ?_
  refine wpD_region ?_
  refine p_load 0 htab rfl rfl rfl rfl rfl rfl rfl rfl ?_
  refine p_pure htab rfl rfl rfl rfl ?_
  refine p_call0 (best_any a 1 l ha hl hlen) rfl rfl rfl rfl rfl (WkL.refl _) ?_
  rintro _ rfl
  refine p_store 1 htab rfl rfl rfl rfl rfl rfl rfl rfl rfl rfl rfl rfl ?_
  refine ops_nil ?_
  refine then_normal ?_
  refine wpD_ret ?_
  refine ret_cell 1 (.inl rfl) rfl rfl rfl rfl ?_
  rfl
end Go.Proofs.Ytbkohmpogdameaa.Ab
