/- The texts that webNoneUpto_holds leans on, part 3. -/
import Derived.Test.YtpdekcfeecdlbaaWn2
namespace Go.Proofs.Ytpdekcfeecdlbaa.Ab
open Go Go.RowKit Go.Shelf Go.Proofs Go.Proofs.Ytpdekcfeecdlbaa.Ab.Pq
set_option linter.all false
theorem slk_first {P : Program} {n₀ : Nat} {w : World} {v : Value} {l : List TApiKey} (h : SlK n₀ w v l) : (Builtin.firstCells 2 l.length v).run P w = .ok (l.flatMap kc2).toArray w := by
  obtain ⟨a, cap, rfl, hc⟩ := h
  cases l with
  | nil =>
    cases a with
    | none => rfl
    | some a => simp only [Builtin.firstCells, List.length_nil, Nat.zero_mul]; rfl
  | cons x xs =>
    obtain ⟨b, off, rfl, _⟩ := hc 0 x rfl
    have hl := kc2_len (x :: xs)
    have hr : RowAt w b off ((x :: xs).flatMap kc2) := fun j u e => by
      have hj := (List.getElem?_eq_some_iff.1 e).1
      have hq : j / 2 < (x :: xs).length := by omega
      obtain ⟨b', off', e1, _, e3, e4⟩ := hc (j / 2) (x :: xs)[j / 2] (List.getElem?_eq_getElem hq)
      simp only [Option.some.injEq, Addr.mk.injEq] at e1
      obtain ⟨rfl, rfl, _⟩ := e1
      have key : ∀ (zs : List TApiKey) (j : Nat) (y : TApiKey), zs[j / 2]? = some y → (zs.flatMap kc2)[j]? = (if j % 2 = 0 then some (.string y.gName) else some (.int .i64 y.gNode)) := by
        intro zs
        induction zs with
        | nil => intro j y hy; simp at hy
        | cons z zs ih =>
          intro j y hy
          match j, hy with
          | 0, hy => simp at hy; subst hy; simp [kc2]
          | 1, hy => simp at hy; subst hy; simp [kc2]
          | j + 2, hy =>
            have := ih j y (by rw [show (j + 2) / 2 = j / 2 + 1 by omega] at hy; simpa using hy)
            simp only [List.flatMap_cons, kc2, List.cons_append, List.nil_append, List.getElem?_cons_succ]
            rw [show (j + 2) % 2 = j % 2 by omega]; exact this
      have hk := key _ j _ (List.getElem?_eq_getElem hq)
      rw [e] at hk
      by_cases hm : j % 2 = 0
      · rw [if_pos hm] at hk
        rw [hk, show off + j = off + j / 2 * 2 by omega]; exact e3
      · rw [if_neg hm] at hk
        rw [hk, show off + j = off + j / 2 * 2 + 1 by omega]; exact e4
    have := run_loadCells (P := P) ((x :: xs).length * 2) hr (by omega)
    rw [← hl, List.take_length] at this
    simp only [Builtin.firstCells]
    rw [← hl]; exact this
theorem eq_nil (ad : Option Addr) (n m : Nat) (w : World) : (binOp .eql 23 (.slice ad n m) (.slice none 0 0)).run Try.prog w = .ok (.bool ad.isNone) w := by
  obtain ⟨d0, u0, u1⟩ := run_underlying (P := Try.prog) (w := w) (ti_ok htab (t := 23) rfl)
  have e0 : d0 = .slice 34 := td_slice (u1.trans rfl)
  subst e0
  show (do pure (.bool (← Op.equal 23 (.slice ad n m) (.slice none 0 0))) : Sem Value).run Try.prog w = _
  have h2 : (Op.equal 23 (.slice ad n m) (.slice none 0 0)).run Try.prog w = .ok ad.isNone w := by
    show (Op.equalIn (9999 + 1) 23 _ _).run Try.prog w = _
    rw [Op.equalIn, run_bind_ok u0]
    cases ad <;> rfl
  rw [run_bind_ok h2]; rfl
set_option maxRecDepth 100000 in
set_option maxHeartbeats 4000000 in
theorem Clone_calls (H : Hp) (w : World) (hA : Ag H w) (l : List TApiKey) (v : Value) (hv : SlK w.heap.size w v l) (hl : l.length < 4398046511104) :
    Calls Try.prog 28 #[v] w fun e w' => ∃ z : Z3, e = .returned (SL z) ∧ Core ⟨H, w, []⟩ H [(0, .row 2 (l.map eTApiKey) (SL z))] [] w' := by
  obtain ⟨W1, hW1⟩ : ∃ W1, W1 = w.alloc (Obj.cells #[] 34) := ⟨_, rfl⟩
  have hb1 : Below w.heap.size w W1 := by rw [hW1]; exact (Below.refl _ w).alloc (Nat.le_refl _) _
  have hA1 : Ag H W1 := fun a u e => by rw [hb1.cell (p := a) (hA.lt e)]; exact hA a u e
  obtain ⟨a, cap, rfl, hc⟩ := hv
  have hst : ∀ w', (∀ b, b < W1.heap.size → w'.heap[b]? = W1.heap[b]?) → SlK w.heap.size w' (.slice a l.length cap) l := fun w' hw' => by
    refine ⟨a, cap, rfl, fun j x hj => ?_⟩
    obtain ⟨b, off, g1, g2, g3, g4⟩ := hc j x hj
    have q : ∀ o, w'.cell? ⟨b, o, none⟩ = w.cell? ⟨b, o, none⟩ := fun o => by
      simp only [World.cell?]
      rw [hw' b (Nat.lt_of_lt_of_le g2 hb1.size), hb1.block b g2]
    exact ⟨b, off, g1, g2, (q _).trans g3, (q _).trans g4⟩
  have happ : ∀ ty, ∃ (z' : Z3) (w' : World), (Builtin.append_ #[23, 23] ty #[SL (some ⟨w.heap.size, 0, none⟩, 0, 0), .slice a l.length cap]).run Try.prog W1 = .ok (SL z') w' ∧ Core ⟨H, W1, claims [(0, .row 2 ([].map eTApiKey) (SL (some ⟨w.heap.size, 0, none⟩, 0, 0)))] []⟩ H [(0, .row 2 ([].map eTApiKey ++ l.map eTApiKey) (SL z'))] [] w' := fun ty =>
    app_runR (bb := 24) (kk := 2) htab hA1 (.inl ⟨_, rfl, rfl⟩) (by simp [claims, blkClaim, sliceClaim]) (by rw [List.length_map]; rfl) (fun w' hw' => ⟨l.flatMap kc2, by rw [List.length_map]; exact kc2_len l, k_flat l, by rw [List.length_map]; exact slk_first (hst w' hw')⟩) rfl rfl rfl rfl rfl rfl rfl rfl (by omega) (by simp only [List.length_map, List.length_nil]; omega)
  obtain ⟨z', w', hrun, hcore⟩ := happ 23
  have hrun' : ∀ ty, (Builtin.append_ #[23, 23] ty #[.slice (some ⟨w.heap.size, 0, none⟩) 0 0, .slice a l.length cap]).run Try.prog W1 = .ok (SL z') w' := fun ty => hrun
  go_enter Try.func28, Try.ntmps28
  cases a with
  | none =>
    have hnil : l = [] := by
      cases l with
      | nil => rfl
      | cons x xs => obtain ⟨b, off, e, _⟩ := hc 0 x rfl; cases e
    subst hnil
    have hq := eq_nil none 0 cap w
    simp only [List.length_nil, Option.isNone_none] at hq ⊢
    go_wp2
    go_ret
    refine ⟨(none, 0, 0), rfl, hA, Hp.le_refl H, fun _ _ x => .inl x, fun _ _ _ => rfl, Nat.le_refl _, ?_, by simp, by simp [claims, blkClaim, sliceClaim], by simp [claims, blkClaim, sliceClaim], Env.refl w⟩
    intro p hp
    simp at hp; subst hp
    exact .inl ⟨none, rfl, rfl⟩
  | some a =>
    obtain ⟨ab, ao, sq⟩ := a
    have hq := eq_nil (some ⟨ab, ao, sq⟩) l.length cap w
    simp only [Option.isNone_some] at hq
    go_wp2_with (at_builtin; rw [← hW1]; refine Lib.wpList_append_run _ rfl _ _ _ _ rfl _ _ rfl rfl _ _ (hrun' _) ?_)
    go_ret
    refine ⟨z', rfl, ?_⟩
    have c0 := Core.call (h1 := []) (k1 := []) (h2 := []) (k2 := []) (core_below0 hA hb1) (hcore.wid (M' := claims [] []) (by simp [claims, blkClaim, sliceClaim]))
    simpa using c0
end Go.Proofs.Ytpdekcfeecdlbaa.Ab
namespace Go.Proofs.Ytpdekcfeecdlbaa.Ab
open Go Go.RowKit Go.Shelf Go.Proofs Go.Proofs.Ytpdekcfeecdlbaa.Ab.Pq
set_option linter.all false
abbrev Tm := List (TApiKey × List TApiKey)
def univ (m : Tm) (l : List TApiKey) : List TApiKey := l.map clK ++ m.flatMap (·.2)
def AllP (m : Tm) (l out : List TApiKey) : Prop := RowC out ∧ (∀ k ∈ l.map clK, k ∈ out) ∧ (∀ x ∈ out, ∀ y ∈ mgetD m x [], y ∈ out) ∧ ∀ S : TApiKey → Prop, (∀ k ∈ l.map clK, S k) → (∀ x, S x → ∀ y ∈ mgetD m x [], S y) → ∀ k ∈ out, S k
def AJ (m : Tm) (l out todo : List TApiKey) (op : TApiKey → Prop) : Prop := RowC out ∧ (∀ k ∈ l.map clK, k ∈ out) ∧ (∀ k ∈ todo, k ∈ out) ∧ (∀ x ∈ out, x ∈ todo ∨ op x ∨ ∀ y ∈ mgetD m x [], y ∈ out) ∧ (∀ S : TApiKey → Prop, (∀ k ∈ l.map clK, S k) → (∀ x, S x → ∀ y ∈ mgetD m x [], S y) → ∀ k ∈ out, S k) ∧ ∀ k ∈ out, k ∈ univ m l
theorem mget_mem {m : Tm} {x y : TApiKey} (h : y ∈ mgetD m x []) : y ∈ m.flatMap (·.2) := by
  unfold mgetD at h
  induction m with
  | nil => simp [mget] at h
  | cons p m ih =>
    obtain ⟨a, v⟩ := p
    simp only [mget] at h
    by_cases q : a = x
    · rw [if_pos q] at h; exact List.mem_flatMap.2 ⟨(a, v), by simp, by simpa using h⟩
    · rw [if_neg q] at h
      rw [List.flatMap_cons]; exact List.mem_append_right _ (ih h)
theorem nodup_le {α : Type} [DecidableEq α] : ∀ {l U : List α}, l.Nodup → (∀ x ∈ l, x ∈ U) → l.length ≤ U.length
  | [], U, _, _ => Nat.zero_le _
  | x :: l, U, hn, hs => by
    rw [List.nodup_cons] at hn
    have := nodup_le (l := l) (U := U.erase x) hn.2 (fun y hy => (List.mem_erase_of_ne (fun e => hn.1 (by rw [← e]; exact hy))).2 (hs y (by simp [hy])))
    have h2 := List.length_erase_of_mem (hs x (by simp))
    have h3 : 0 < U.length := List.length_pos_of_mem (hs x (by simp))
    simp only [List.length_cons]; omega
theorem rise_nodup {l : List TApiKey} (h : Rise leK l) : l.Nodup := List.Pairwise.imp (fun h => h.2) h
theorem AJ.le {m : Tm} {l out todo : List TApiKey} {op : TApiKey → Prop} (h : AJ m l out todo op) : out.length ≤ (univ m l).length := nodup_le (rise_nodup h.1.1) h.2.2.2.2.2
theorem AJ.put {m : Tm} {l out todo : List TApiKey} {x y : TApiKey} (h : AJ m l out todo (· = x)) (hx : x ∈ out) (hy : y ∈ mgetD m x []) (hc : clK y = y) : AJ m l (insT ltK y out) (todo ++ [y]) (· = x) := by
  obtain ⟨h1, h2, h3, h4, h5, h6⟩ := h
  have hm : ∀ k, k ∈ insT ltK y out ↔ k = y ∨ k ∈ out := insT_mem ltK y out
  refine ⟨rowC_ins h1 hc, fun k hk => (hm k).2 (.inr (h2 k hk)), fun k hk => ?_, fun k hk => ?_, fun S s1 s2 k hk => ?_, fun k hk => ?_⟩
  · rcases List.mem_append.1 hk with hk | hk
    · exact (hm k).2 (.inr (h3 k hk))
    · simp at hk; exact (hm k).2 (.inl hk)
  · rcases (hm k).1 hk with rfl | hk
    · exact .inl (by simp)
    · rcases h4 k hk with q | q | q
      · exact .inl (by simp [q])
      · exact .inr (.inl q)
      · exact .inr (.inr fun z hz => (hm z).2 (.inr (q z hz)))
  · rcases (hm k).1 hk with rfl | hk
    · exact s2 x (h5 S s1 s2 x hx) _ hy
    · exact h5 S s1 s2 k hk
  · rcases (hm k).1 hk with rfl | hk
    · exact List.mem_append_right _ (mget_mem hy)
    · exact h6 k hk
theorem AJ.shut {m : Tm} {l out todo : List TApiKey} {x : TApiKey} (h : AJ m l out todo (· = x)) (hp : ∀ y ∈ mgetD m x [], y ∈ out) : AJ m l out todo (fun _ => False) := by
  obtain ⟨h1, h2, h3, h4, h5, h6⟩ := h
  refine ⟨h1, h2, h3, fun k hk => ?_, h5, h6⟩
  rcases h4 k hk with q | q | q
  · exact .inl q
  · subst q; exact .inr (.inr hp)
  · exact .inr (.inr q)
theorem AJ.pop {m : Tm} {l out todo : List TApiKey} {x : TApiKey} (h : AJ m l out (todo ++ [x]) (fun _ => False)) : AJ m l out todo (· = x) ∧ x ∈ out := by
  obtain ⟨h1, h2, h3, h4, h5, h6⟩ := h
  refine ⟨⟨h1, h2, fun k hk => h3 k (by simp [hk]), fun k hk => ?_, h5, h6⟩, h3 x (by simp)⟩
  rcases h4 k hk with q | q | q
  · rcases List.mem_append.1 q with q | q
    · exact .inl q
    · simp at q; exact .inr (.inl q)
  · exact q.elim
  · exact .inr (.inr q)
theorem AJ.done {m : Tm} {l out : List TApiKey} (h : AJ m l out [] (fun _ => False)) : AllP m l out := by
  obtain ⟨h1, h2, h3, h4, h5, h6⟩ := h
  refine ⟨h1, h2, fun x hx => ?_, h5⟩
  rcases h4 x hx with q | q | q
  · cases q
  · exact q.elim
  · exact q
theorem AJ.first (m : Tm) (l : List TApiKey) : AJ m l (rowK l) (rowK l) (fun _ => False) :=
  ⟨rowC_row l, fun k hk => ((rowK_all l).2.1 k).2 hk, fun k hk => hk, fun k hk => .inl hk, fun S s1 _ k hk => s1 k (((rowK_all l).2.1 k).1 hk), fun k hk => List.mem_append_left _ (((rowK_all l).2.1 k).1 hk)⟩
theorem ins_core {C : Ctx} {H : Hp} {W : World} {rest : List (Nat × Blk)} {y : TApiKey} {xs : List TApiKey} {z : Z3} {i : Nat} (hrest : Core C H ((0, .row 2 (xs.map eTApiKey) (SL z)) :: rest) [] W) (hi : i ≤ xs.length) (hl : xs.length < 4398046511104) :
    Calls Try.prog 37 #[SL z, .int .i64 i, .slice (some ⟨W.heap.size, 0, none⟩) 1 1] (W.alloc (.cells #[Value.string y.gName, Value.int IntKind.i64 y.gNode] 34)) fun e w' => ∃ z' : Z3, e = .returned (SL z') ∧ Core C H ((0, .row 2 ((insAt xs i y).map eTApiKey) (SL z')) :: rest) [] w' := by
  have c3 := Core.newRow hrest (xs := [y].map eTApiKey) (us := kc2 y) (rest := []) (kk := 2) (m := 1) (T := 34) (k_flat [y]) (by simp) (by simp [kc2]) (by simp)
  simp only [List.append_nil, List.length_map, List.length_cons, List.length_nil] at c3
  have c3' : Core C H ([(0, .row 2 (xs.map eTApiKey) (SL z)), (0, .row 2 ([y].map eTApiKey) (SL (some ⟨W.heap.size, 0, none⟩, 1, 1)))] ++ rest) ([] ++ []) (W.alloc (.cells (kc2 y).toArray 34)) :=
    c3.perm (List.Perm.swap _ _ _) (List.Perm.refl _)
  refine (insert_calls y i hi hl c3'.ag (c3'.blks (0, .row 2 (xs.map eTApiKey) (SL z)) (by simp)) (c3'.blks (0, .row 2 ([y].map eTApiKey) (SL (some ⟨W.heap.size, 0, none⟩, 1, 1))) (by simp)) (by
        have := (claims_append [(0, Blk.row 2 (xs.map eTApiKey) (SL z)), (0, Blk.row 2 ([y].map eTApiKey) (SL (some ⟨W.heap.size, 0, none⟩, 1, 1)))] rest [] []).nodup_iff.1 c3'.nd
        exact (List.nodup_append.1 this).1)).mono ?_
  rintro e w' ⟨z', he, hc⟩
  exact ⟨z', he, Core.call c3' hc⟩
theorem app_core {C : Ctx} {H : Hp} {W : World} {rest : List (Nat × Blk)} (y : TApiKey) {xs : List TApiKey} {z : Z3} (hrest : Core C H ((0, .row 2 (xs.map eTApiKey) (SL z)) :: rest) [] W) (hl : xs.length < 4398046511104) :
    ∃ (z' : Z3) (w' : World), (∀ ty, (Builtin.append_ #[23, 23] ty #[SL z, .slice (some ⟨W.heap.size, 0, none⟩) 1 1]).run Try.prog (W.alloc (.cells #[Value.string y.gName, Value.int IntKind.i64 y.gNode] 34)) = .ok (SL z') w') ∧ Core C H ((0, .row 2 ((xs ++ [y]).map eTApiKey) (SL z')) :: rest) [] w' := by
  have c3 := Core.newRow hrest (xs := [y].map eTApiKey) (us := kc2 y) (rest := []) (kk := 2) (m := 1) (T := 34) (k_flat [y]) (by simp) (by simp [kc2]) (by simp)
  simp only [List.append_nil, List.length_map, List.length_cons, List.length_nil] at c3
  have c4 : Core C H ([(0, .row 2 (xs.map eTApiKey) (SL z))] ++ rest) ([] ++ []) (W.alloc (.cells (kc2 y).toArray 34)) := c3.drop (List.sublist_cons_self _ _) (List.Sublist.refl _)
  have hnw : (W.alloc (.cells (kc2 y).toArray 34)).heap[W.heap.size]? = some (.cells (kc2 y).toArray 34 (0, 0)) := by rw [heap_alloc, if_pos rfl]
  have app : ∀ ty, ∃ (z' : Z3) (w' : World), (Builtin.append_ #[23, 23] ty #[SL z, SL (some ⟨W.heap.size, 0, none⟩, 1, 1)]).run Try.prog (W.alloc (.cells (kc2 y).toArray 34)) = .ok (SL z') w' ∧ Core ⟨H, W.alloc (.cells (kc2 y).toArray 34), claims [(0, .row 2 (xs.map eTApiKey) (SL z))] []⟩ H [(0, .row 2 (xs.map eTApiKey ++ [y].map eTApiKey) (SL z'))] [] w' := fun ty =>
      app_runR (bb := 24) (kk := 2) htab c4.ag (c4.blks _ (List.mem_cons_self ..)) (fun b hb => claims_lt (h := [(0, .row 2 (xs.map eTApiKey) (SL z))]) (k := []) (by simpa using c4.blks _ (List.mem_cons_self ..)) (by simp) b hb) rfl
        (fun w' hw' => ⟨kc2 y, rfl, k_flat [y], by
          have hr : RowAt w' W.heap.size 0 (kc2 y) := fun j u e => by
            have := row_block ((hw' W.heap.size (by simp)).trans hnw) j u e
            simpa using this
          have := run_loadCells (P := Try.prog) 2 hr (by simp [kc2])
          rw [List.take_of_length_le (by simp [kc2])] at this
          simp only [Builtin.firstCells]
          exact this⟩) rfl rfl rfl rfl rfl rfl rfl rfl (by omega) (by simp only [List.length_map, List.length_cons, List.length_nil]; omega)
  obtain ⟨z', w', hrun, hcore⟩ := app 0
  refine ⟨z', w', fun ty => hrun, ?_⟩
  rw [List.map_append]
  exact Core.call c4 hcore
theorem row_cut {C : Ctx} {H : Hp} {W : World} {rest : List (Nat × Blk)} {xs : List TApiKey} {x : TApiKey} {z : Z3} (c : Core C H ((0, .row 2 ((xs ++ [x]).map eTApiKey) (SL z)) :: rest) [] W) : ∃ b m, z = (some ⟨b, 0, none⟩, xs.length + 1, m) ∧ xs.length + 1 ≤ m ∧ W.cell? ⟨b, xs.length * 2, none⟩ = some (.string x.gName) ∧ W.cell? ⟨b, xs.length * 2 + 1, none⟩ = some (.int .i64 x.gNode) ∧
    Core C H ((0, .row 2 (xs.map eTApiKey) (SL (some ⟨b, 0, none⟩, xs.length, m))) :: rest) [] W := by
  rcases key_row (c.blks _ (List.mem_cons_self ..)) with ⟨_, _, e⟩ | ⟨b, m, rs, T, rfl, h0, hm, h1, h3, h4, h5⟩
  · simp at e
  · have hlen : (xs ++ [x]).length = xs.length + 1 := by simp
    rw [hlen] at h0
    obtain ⟨k1, k2⟩ := cells_at h1 (j := xs.length) (x := x) (by simp)
    refine ⟨b, m, by rw [hlen], h0, k1, k2, c.ag, c.le, c.new, c.same, c.size, fun p hp => ?_, by simp, ?_, ?_, c.env⟩
    · rcases List.mem_cons.1 hp with rfl | hp
      · refine .inr ⟨b, m, xs.flatMap kc2, kc2 x ++ rs, T, by simp [SL], by rw [List.length_map]; omega, hm, ?_, k_flat xs, ?_, h4⟩
        · rw [h1]; congr 3; simp
        · simp only [List.flatMap_append, List.length_append] at h3 ⊢; simpa [Nat.add_assoc] using h3
      · exact c.blks p (by simp [hp])
    · have := c.nd; simpa [claims, blkClaim, sliceClaim, hm] using this
    · have := c.own; simpa [claims, blkClaim, sliceClaim, hm] using this
end Go.Proofs.Ytpdekcfeecdlbaa.Ab
namespace Go.Proofs.Ytpdekcfeecdlbaa.Ab
open Go Go.RowKit Go.Shelf Go.Proofs Go.Proofs.Ytpdekcfeecdlbaa.Ab.Pq
set_option linter.all false
def lenOfS : Value → Nat | .slice _ n _ => n | _ => 0
structure AllAt (H : Hp) (w : World) (b : Nat) (es : Ties) (l out todo : List TApiKey) (zo zt : Z3) (op : TApiKey → Prop) (W : World) : Prop where
  core : Core ⟨H, w, []⟩ H ((0, .row 2 (out.map eTApiKey) (SL zo)) :: (0, .row 2 (todo.map eTApiKey) (SL zt)) :: []) [] W
  aj : AJ (tieL es) l out todo op
  tn : todo.Nodup
theorem AllAt.lens {H : Hp} {w : World} {b : Nat} {es : Ties} {l out todo : List TApiKey} {zo zt : Z3} {op : TApiKey → Prop} {W : World} (h : AllAt H w b es l out todo zo zt op W) : zo.2.1 = out.length ∧ zt.2.1 = todo.length := by
  obtain ⟨a1, m1, e1⟩ := row_len (h.core.blks (0, .row 2 (out.map eTApiKey) (SL zo)) (by simp))
  obtain ⟨a2, m2, e2⟩ := row_len (h.core.blks (0, .row 2 (todo.map eTApiKey) (SL zt)) (by simp))
  simp only [SL, Value.slice.injEq, List.length_map] at e1 e2
  exact ⟨e1.2.1, e2.2.1⟩
theorem jump_weak {l : Nat} {J : Act → World → Prop} {μ : Act → World → Nat} {a0 : Act} {w0 : World} {Q : Exit → Act → World → Prop} : ∀ e a w, Exit.jump l (fun a' w' => J a' w' ∧ μ a' w' < μ a0 w0) Q e a w → Exit.jump l J Q e a w
  | .goto _, _, _, h => ⟨h.1, h.2.1⟩
  | .normal, _, _, h => h
  | .exit _, _, _, h => h
  | .ret, _, _, h => h
  | .panic _, _, _, h => h
  | .outgrown, _, _, h => h
theorem scope_loop {P : Program} {c rest : Code} {Q : Exit → Act → World → Prop} {a : Act} {w : World} (l : Nat) (J : Act → World → Prop) (μ : Act → World → Nat) (hf : findLabel c l = some (Code.skip.seq rest))
    (first : (∀ a w, J a w → rest.wp P (Exit.jump l J Q) a w) → c.wp P (Exit.jump l J Q) a w) (pass : ∀ a w, J a w → rest.wp P (Exit.jump l (fun a' w' => J a' w' ∧ μ a' w' < μ a w) Q) a w) : (Code.scope c).wp P Q a w :=
  wp_scope_jumps l J μ hf (first fun a w h => wp_mono (pass a w h) jump_weak) (fun a w h => wp_seq (wp_skip (pass a w h)))
def allJ (H : Hp) (w : World) (b : Nat) (es : Ties) (l : List TApiKey) (va : Option Addr) (vn vm : Nat) (a' : Act) (w' : World) : Prop := ∃ (out todo : List TApiKey) (zo zt : Z3) (u7 u8 u9 u10 u11 u12 u13 u14 u15 u16 u17 u18 u19 u20 u21 u22 u23 u24 u25 u26 u27 u28 u29 u30 u31 u32 u33 u34 u35 u36 u37 u38 u39 u40 u41 u42 u43 u44 u45 u46 u47 u48 u49 u50 u51 u52 u53 u54 u55 u56 : Value), a' = { tmps := #[.map (some b), .slice va vn vm, undef, undef, .slice none 0 0, SL zo, SL zt, u7, u8, u9, u10, u11, u12, u13, u14, u15, u16, u17, u18, u19, u20, u21, u22, u23, u24, u25, u26, u27, u28, u29, u30, u31, u32, u33, u34, u35, u36, u37, u38, u39, u40, u41, u42, u43, u44, u45, u46, u47, u48, u49, u50, u51, u52, u53, u54, u55, u56], defers := [] } ∧ AllAt H w b es l out todo zo zt (fun _ => False) w'
def allMu (N : Nat) (a' : Act) (_ : World) : Nat := lenOfS (a'.tmps.getD 6 undef) + 2 * (N - lenOfS (a'.tmps.getD 5 undef))
theorem row_in {es : Ties} {x : TApiKey} {row : List TApiKey} {zx : Z3} (h : mgetD es x zr0 = (row, zx)) (hr : row ≠ []) {b : Nat} : (0, Blk.row 2 (row.map eTApiKey) (SL zx)) ∈ tieH b es := by
  rcases mget_split (l := es) (k := x) with ⟨h1, _, _⟩ | ⟨l1, l2, v, h1, h2, _, _⟩
  · unfold mgetD at h; rw [h1] at h; exact absurd (by cases h; rfl) hr
  · have : v = (row, zx) := by unfold mgetD at h; rw [h1] at h; exact h
    subst this
    refine List.mem_cons_of_mem _ (List.mem_map.2 ⟨(x, (row, zx)), by rw [h2]; simp, rfl⟩)
theorem row_lenT {C : Ctx} {H : Hp} {W : World} {b : Nat} {es : Ties} {x : TApiKey} {row : List TApiKey} {zx : Z3} (h : mgetD es x zr0 = (row, zx)) (hs : ∀ p ∈ tieH b es, BlkOK H W p) : zx.2.1 = row.length := by
  by_cases hr : row = []
  · subst hr
    rcases mget_split (l := es) (k := x) with ⟨h1, _, _⟩ | ⟨l1, l2, v, h1, h2, _, _⟩
    · unfold mgetD at h; rw [h1] at h; cases h; rfl
    · have : v = ([], zx) := by unfold mgetD at h; rw [h1] at h; exact h
      subst this
      obtain ⟨a2, m2, e2⟩ := row_len (hs (0, Blk.row 2 (([] : List TApiKey).map eTApiKey) (SL zx)) (List.mem_cons_of_mem _ (List.mem_map.2 ⟨(x, ([], zx)), by rw [h2]; simp, rfl⟩)))
      simp only [SL, Value.slice.injEq, List.length_map] at e2
      exact e2.2.1
  · obtain ⟨a2, m2, e2⟩ := row_len (hs _ (row_in h hr))
    simp only [SL, Value.slice.injEq, List.length_map] at e2
    exact e2.2.1
set_option maxRecDepth 100000 in
set_option maxHeartbeats 16000000 in
theorem all_calls (H : Hp) (w : World) (hA : Ag H w) (b : Nat) (es : Ties) (l : List TApiKey) (v : Value) (hv : SlK w.heap.size w v l) (hb : ∀ p ∈ tieH b es, BlkOK H w p) (hr : ∀ x, RowC (mgetD (tieL es) x [])) (hN : (univ (tieL es) l).length < 4398046511104) :
    Calls Try.prog 26 #[.map (some b), v] w fun e w' => ∃ (out : List TApiKey) (z : Z3), e = .returned (SL z) ∧ Core ⟨H, w, []⟩ H ((0, .row 2 (out.map eTApiKey) (SL z)) :: []) [] w' ∧ AllP (tieL es) l out := by
  have hll : l.length < 4398046511104 := by
    have : l.length ≤ (univ (tieL es) l).length := by unfold univ; rw [List.length_append, List.length_map]; omega
    omega
  have c0 := Core.here hA
  have hrow := Row_calls H w hA l v hv hll
  obtain ⟨va, vn, vm, rfl⟩ : ∃ a n m, v = .slice a n m := by obtain ⟨a, cap, e1, _⟩ := hv; exact ⟨_, _, _, e1⟩
  go_enter Try.func26, Try.ntmps26
  go_wp2_with fail
  refine scope_loop 0 (allJ H w b es l va vn vm) (allMu (univ (tieL es) l).length) rfl ?_ ?_
  · intro pass
    go_wp2_with fail
    refine hrow.mono ?_
    rintro e W1 ⟨zo, rfl, hc1⟩
    have c1 : Core ⟨H, w, []⟩ H ((0, .row 2 ((rowK l).map eTApiKey) (SL zo)) :: []) [] W1 := Core.call (h1 := []) (k1 := []) c0 hc1
    have hcl := Clone_calls H W1 c1.ag (rowK l) (SL zo) (slk_row c1.ag (c1.blks _ (List.mem_cons_self ..))) (by have := (rowK_all l).2.2; omega)
    go_wp2_with fail
    refine hcl.mono ?_
    rintro e W2 ⟨zt, rfl, hc2⟩
    have c2 : Core ⟨H, w, []⟩ H ((0, .row 2 ((rowK l).map eTApiKey) (SL zt)) :: (0, .row 2 ((rowK l).map eTApiKey) (SL zo)) :: []) [] W2 := Core.call (h1 := []) (k1 := []) c1 hc2
    have hat : AllAt H w b es l (rowK l) (rowK l) zo zt (fun _ => False) W2 := ⟨c2.perm (List.Perm.swap _ _ _) (List.Perm.refl _), AJ.first _ _, rise_nodup (rowK_all l).1⟩
    clear hrow hcl
    go_wp2_with fail
    refine wp_label ?_
    rename_i K hK
    exact hK _ _ (pass _ _ ⟨rowK l, rowK l, zo, zt, _, _, _, _, _, _, _, _, _, _, _, _, _, _, _, _, _, _, _, _, _, _, _, _, _, _, _, _, _, _, _, _, _, _, _, _, _, _, _, _, _, _, _, _, _, _, _, _, _, _, rfl, hat⟩)
  · clear hrow
    rintro a' W ⟨out, todo, zo, zt, u7, u8, u9, u10, u11, u12, u13, u14, u15, u16, u17, u18, u19, u20, u21, u22, u23, u24, u25, u26, u27, u28, u29, u30, u31, u32, u33, u34, u35, u36, u37, u38, u39, u40, u41, u42, u43, u44, u45, u46, u47, u48, u49, u50, u51, u52, u53, u54, u55, u56, rfl, hat⟩
    obtain ⟨hzo, hzt⟩ := hat.lens
    obtain ⟨hc, haj, htn⟩ := hat
    rcases List.eq_nil_or_concat todo with rfl | ⟨ts, x, hts⟩
    · have hz0 : ((zt.2.1 : Int) == 0) = true := by rw [hzt]; rfl
      have hz1 : (zt.2.1 : Int) = 0 := by rw [hzt]; rfl
      clear hzt
      go_wp2
      simp only [Exit.jump]
      go_ret
      refine ⟨out, zo, rfl, ?_, haj.done⟩
      exact hc.drop ((List.sublist_cons_self _ _).cons_cons _) (List.Sublist.refl _)
    · rw [List.concat_eq_append] at hts
      subst hts
      have hN2 := haj.le
      have hct : Core ⟨H, w, []⟩ H ((0, .row 2 ((ts ++ [x]).map eTApiKey) (SL zt)) :: (0, .row 2 (out.map eTApiKey) (SL zo)) :: []) [] W := hc.perm (List.Perm.swap _ _ _) (List.Perm.refl _)
      obtain ⟨tb, tm, rfl, htm, k1, k2, ct⟩ := row_cut hct
      have hts : (ts ++ [x]).length ≤ out.length := nodup_le htn (fun k hk => haj.2.2.1 k hk)
      obtain ⟨haj, hxo⟩ := haj.pop
      have htn' : ts.Nodup := (List.nodup_append.1 htn).1
      have hts2 : ts.length < 4398046511104 := by simp at hts; omega
      have hq0 : ((((ts.length + 1 : Nat) : Int)) == 0) = false := by rw [beq_eq_false_iff_ne]; omega
      have hq1 : IntKind.i64.wrap (((ts.length + 1 : Nat) : Int) - 1) = (ts.length : Int) := by rw [IntKind.wrap_i64]; omega
      have hq2 : ts.length < ts.length + 1 := Nat.lt_succ_self _
      have hq3 : ts.length ≤ tm := by omega
      have hq4 : ¬ (((ts.length + 1 : Nat) : Int) = 0) := by omega
      have hwW := hc.size
      obtain ⟨W1, hW1⟩ : ∃ W1, W1 = W.alloc (Obj.cells #[.string x.gName, .int .i64 x.gNode] 34) := ⟨_, rfl⟩
      have c1 : Core ⟨H, w, []⟩ H (((0, .row 2 (ts.map eTApiKey) (SL (some ⟨tb, 0, none⟩, ts.length, tm))) :: (0, .row 2 (out.map eTApiKey) (SL zo)) :: []) ++ [(W.heap.size, .cells ((kc2 x).map .v) 34)]) [] W1 := by
        rw [hW1]; exact Core.alloc ct (ds := (kc2 x).map .v) (us := kc2 x) 34 (reps_v H (kc2 x) rfl)
      obtain ⟨x0, x1⟩ := key_box (c1.blks (W.heap.size, .cells ((kc2 x).map .v) 34) (by simp))
      have c2 : Core ⟨H, w, []⟩ H ((0, .row 2 (out.map eTApiKey) (SL zo)) :: (0, .row 2 (ts.map eTApiKey) (SL (some ⟨tb, 0, none⟩, ts.length, tm))) :: []) [] W1 :=
        (c1.drop (List.sublist_append_left _ _) (List.Sublist.refl _)).perm (List.Perm.swap _ _ _) (List.Perm.refl _)
      have hlk := run_lkp (BlkOK.later c2 (hb (b, .mp (tieM es)) (by simp [tieH])) (by simp)) x
      obtain ⟨⟨row, zx⟩, hrz⟩ : ∃ q, mgetD es x zr0 = q := ⟨_, rfl⟩
      rw [hrz] at hlk
      have hrow : mgetD (tieL es) x [] = row := by rw [mgetL, hrz]
      have hrc := hr x
      rw [hrow] at hrc
      have hzl := row_lenT (C := ⟨H, w, []⟩) hrz (fun p hp => BlkOK.later c2 (hb p hp) (by simp))
      have hzl' : (zx.2.1 : Int) = (row.length : Int) := by rw [hzl]
      have hrlen : row.length < 4398046511104 := by
        have : row.length ≤ (univ (tieL es) l).length := nodup_le (rise_nodup hrc.1) (fun y hy => List.mem_append_right _ (mget_mem (x := x) (by rw [hrow]; exact hy)))
        omega
      clear hct ct hc
      obtain ⟨zx1, zx2, hzlS⟩ : ∃ a m, SL zx = .slice a row.length m := ⟨zx.1, zx.2.2, by unfold SL; rw [hzl]⟩
      rw [hzlS] at hlk
      dsimp only [SL]
      go_wp2_with fail
      rw [← hW1]
      clear hW1
      go_wp2_with fail
      rw [hlk]
      go_wp2_with fail
      have hmu0 : allMu (univ (tieL es) l).length { tmps := #[.map (some b), .slice va vn vm, undef, undef, .slice none 0 0, SL zo, SL (some ⟨tb, 0, none⟩, ts.length + 1, tm), u7, u8, u9, u10, u11, u12, u13, u14, u15, u16, u17, u18, u19, u20, u21, u22, u23, u24, u25, u26, u27, u28, u29, u30, u31, u32, u33, u34, u35, u36, u37, u38, u39, u40, u41, u42, u43, u44, u45, u46, u47, u48, u49, u50, u51, u52, u53, u54, u55, u56], defers := [] } W = ts.length + 1 + 2 * ((univ (tieL es) l).length - out.length) := by
        show (ts.length + 1) + 2 * (_ - zo.2.1) = _
        rw [hzo]
      go_loopw [5, 6, 35] (fun s5 s6 s35 wr => ∃ (out' ts' : List TApiKey) (zo' zt' : Z3) (i : Nat), s5 = SL zo' ∧ s6 = SL zt' ∧ s35 = .int .i64 i ∧ i ≤ row.length ∧ AllAt H w b es l out' ts' zo' zt' (· = x) wr ∧ x ∈ out' ∧ (∀ y ∈ row.take i, y ∈ out') ∧ ts'.length + 2 * ((univ (tieL es) l).length - out'.length) ≤ ts.length + 2 * ((univ (tieL es) l).length - out.length)) (fun _ _ s35 _ => row.length - (intOf s35).toNat)
      case atStart => exact ⟨out, ts, zo, (some ⟨tb, 0, none⟩, ts.length, tm), 0, by unfold SL; rw [hzo], rfl, rfl, Nat.zero_le _, ⟨c2, haj, htn'⟩, hxo, by simp, Nat.le_refl _⟩
      case round =>
        obtain ⟨out', ts', zo', zt', i, rfl, rfl, rfl, hi, ⟨c3, aj3, tn3⟩, hx3, hp3, hmu⟩ := hrel
        by_cases hlt : i < row.length
        · have hne : row ≠ [] := fun e => by rw [e] at hlt; simp at hlt
          have hrb := BlkOK.later c3 (hb _ (row_in hrz hne (b := b))) (by simp)
          rcases key_row hrb with ⟨_, _, e⟩ | ⟨rb, rm, rs, T, hzx, g0, gm, g1, g3, g4, g5⟩
          · exact absurd e hne
          rw [hzx] at hzlS
          simp only [SL, Value.slice.injEq] at hzlS
          obtain ⟨q1, _, q2⟩ := hzlS
          subst q1; subst q2
          have hkk := List.getElem?_eq_getElem hlt
          obtain ⟨y0, y1⟩ := cells_at g1 hkk
          have hym : row[i] ∈ row := List.getElem_mem _
          have htk := take_snoc hkk
          generalize row[i] = y at hkk y0 y1 hym htk
          have hyc : clK y = y := hrc.2 y hym
          have hym' : y ∈ mgetD (tieL es) x [] := by rw [hrow]; exact hym
          have hi42 : i < 4398046511104 := by omega
          have hN3 := aj3.le
          have hol : out'.length < 4398046511104 := by omega
          obtain ⟨V1, hV1⟩ : ∃ V1, V1 = wr.alloc (Obj.cells #[.string y.gName, .int .i64 y.gNode] 34) := ⟨_, rfl⟩
          have d1 : Core ⟨H, w, []⟩ H (((0, .row 2 (out'.map eTApiKey) (SL zo')) :: (0, .row 2 (ts'.map eTApiKey) (SL zt')) :: []) ++ [(wr.heap.size, .cells ((kc2 y).map .v) 34)]) [] V1 := by
            rw [hV1]; exact Core.alloc c3 (ds := (kc2 y).map .v) (us := kc2 y) 34 (reps_v H (kc2 y) rfl)
          obtain ⟨v0, v1⟩ := key_box (d1.blks (wr.heap.size, .cells ((kc2 y).map .v) 34) (by simp))
          obtain ⟨q, hq, q3, q4, hbs⟩ := bs_calls y d1.ag (d1.blks _ (List.mem_cons_self ..)) hyc aj3.1 hol
          simp only [encK] at hbs
          have hw1 := wrap_smallK i hi42
          clear g1 g3 g4 g5 hrb
          by_cases hm : y ∈ out'
          · rw [decide_eq_true hm] at hbs
            dsimp only [SL] at hbs ⊢
            go_wp2_with fail
            rw [← hV1]
            clear hV1
            refine hbs.mono ?_
            rintro e V2 ⟨rfl, hb2⟩
            have d2 : Core ⟨H, w, []⟩ H (((0, .row 2 (out'.map eTApiKey) (SL zo')) :: (0, .row 2 (ts'.map eTApiKey) (SL zt')) :: []) ++ [(wr.heap.size, .cells ((kc2 y).map .v) 34)]) [] V2 := Core.call (h1 := []) (k1 := []) d1 (core_below0 d1.ag hb2)
            dsimp only
            go_wp2
            refine ⟨⟨out', ts', zo', zt', i + 1, rfl, rfl, rfl, hlt, ⟨d2.drop (List.sublist_append_left _ _) (List.Sublist.refl _), aj3, tn3⟩, hx3, fun k hk => ?_, hmu⟩, meas_p hlt⟩
            rw [htk] at hk
            rcases List.mem_append.1 hk with hk | hk
            · exact hp3 k hk
            · simp at hk; subst hk; exact hm
          · rw [decide_eq_false hm] at hbs
            dsimp only [SL] at hbs ⊢
            go_wp2_with fail
            rw [← hV1]
            clear hV1
            refine hbs.mono ?_
            rintro e V2 ⟨rfl, hb2⟩
            have d2 : Core ⟨H, w, []⟩ H (((0, .row 2 (out'.map eTApiKey) (SL zo')) :: (0, .row 2 (ts'.map eTApiKey) (SL zt')) :: []) ++ [(wr.heap.size, .cells ((kc2 y).map .v) 34)]) [] V2 := Core.call (h1 := []) (k1 := []) d1 (core_below0 d1.ag hb2)
            obtain ⟨v2, v3⟩ := key_box (d2.blks (wr.heap.size, .cells ((kc2 y).map .v) 34) (by simp))
            have hins := ins_core (y := y) d2 hq hol
            dsimp only [SL] at hins
            clear hbs v0 v1 hw1
            dsimp only
            go_wp2_with fail
            refine hins.mono ?_
            rintro e V3 ⟨zo2, rfl, d3⟩
            obtain ⟨v4, v5⟩ := key_box (d3.blks (wr.heap.size, .cells ((kc2 y).map .v) 34) (by simp))
            have htl : ts'.length < 4398046511104 := Nat.lt_of_le_of_lt (nodup_le tn3 (fun k hk => aj3.2.2.1 k hk)) hol
            obtain ⟨zt2, V4, hrun, d4⟩ := app_core y (d3.perm (List.Perm.swap _ _ _) (List.Perm.refl _)) htl
            have hrun' : ∀ ty, (Builtin.append_ #[23, 23] ty #[.slice zt'.1 zt'.2.1 zt'.2.2, .slice (some ⟨V3.heap.size, 0, none⟩) 1 1]).run Try.prog (V3.alloc (.cells #[Value.string y.gName, Value.int IntKind.i64 y.gNode] 34)) = .ok (.slice zt2.1 zt2.2.1 zt2.2.2) V4 := hrun
            have hw1 := wrap_smallK i hi42
            clear hins hrun v2 v3
            dsimp only
            go_wp2_with (at_builtin; refine Lib.wpList_append_run _ rfl _ _ _ _ rfl _ _ rfl rfl _ _ (hrun' _) ?_)
            have haj4 := aj3.put hx3 hym' hyc
            rw [← ins_eq hq q3 q4 hm] at haj4
            have hN4 := haj4.le
            have hil4 : (insAt out' q y).length = out'.length + 1 := by simp [insAt]; omega
            have hmem : ∀ k, k ∈ insAt out' q y ↔ k = y ∨ k ∈ out' := fun k => by rw [ins_eq hq q3 q4 hm]; exact insT_mem ltK y out' k
            clear hw1
            refine ⟨⟨insAt out' q y, ts' ++ [y], zo2, zt2, i + 1, rfl, rfl, rfl, hlt, ⟨(d4.drop (h' := (0, .row 2 ((ts' ++ [y]).map eTApiKey) (SL zt2)) :: (0, .row 2 ((insAt out' q y).map eTApiKey) (SL zo2)) :: []) (((List.sublist_append_left _ _).cons_cons _).cons_cons _) (List.Sublist.refl _)).perm (List.Perm.swap _ _ _) (List.Perm.refl _), haj4, ?_⟩, (hmem x).2 (.inr hx3), fun k hk => ?_, ?_⟩, meas_p hlt⟩
            · refine List.nodup_append.2 ⟨tn3, by simp, fun k hk k2 hk2 e => ?_⟩
              simp at hk2; subst hk2; subst e
              exact hm (aj3.2.2.1 _ hk)
            · rw [htk] at hk
              rcases List.mem_append.1 hk with hk | hk
              · exact (hmem k).2 (.inr (hp3 k hk))
              · simp at hk; exact (hmem k).2 (.inl hk)
            · rw [hil4] at hN4 ⊢
              simp only [List.length_append, List.length_cons, List.length_nil]
              omega
        · obtain rfl : i = row.length := Nat.le_antisymm hi (Nat.le_of_not_lt hlt)
          have hat2 : AllAt H w b es l out' ts' zo' zt' (fun _ => False) wr := ⟨c3, aj3.shut (fun y hy => hp3 y (by rw [hrow] at hy; simpa using hy)), tn3⟩
          obtain ⟨g1, g2⟩ := hat2.lens
          clear hmu0
          dsimp only [SL]
          go_wp2
          refine wp_goto ?_
          refine ⟨rfl, ⟨out', ts', zo', zt', _, _, _, _, _, _, _, _, _, _, _, _, _, _, _, _, _, _, _, _, _, _, _, _, _, _, _, _, _, _, _, _, _, _, _, _, _, _, _, _, _, _, _, _, _, _, _, _, _, _, rfl, hat2⟩, ?_⟩
          show zt'.2.1 + 2 * ((univ (tieL es) l).length - zo'.2.1) < (ts.length + 1) + 2 * ((univ (tieL es) l).length - zo.2.1)
          rw [g1, g2, hzo]
          omega
end Go.Proofs.Ytpdekcfeecdlbaa.Ab
namespace Go.Proofs.Ytpdekcfeecdlbaa.Ab
open Go Go.RowKit Go.Shelf Go.Proofs Go.Proofs.Ytpdekcfeecdlbaa.Ab.Pq
set_option linter.all false
structure YW where
  p : Nat
  b1 : Nat
  b2 : Nat
  T : TypeId
  e1 : Ties
  e2 : Ties
def webH (z : YW) : List (Nat × Blk) := (z.p, .cells [.v (.map (some z.b1)), .v (.map (some z.b2))] z.T) :: (tieH z.b1 z.e1 ++ tieH z.b2 z.e2)
theorem mk_map (T : TypeId) (w : World) : (Instr.makeMap T none).run Try.prog w = .ok (.map (some w.heap.size)) (w.alloc (.map #[] 0)) := rfl
set_option maxRecDepth 100000 in
set_option maxHeartbeats 4000000 in
theorem New_calls (H : Hp) (w : World) (hA : Ag H w) : Calls Try.prog 7 #[] w fun e w' => ∃ z : YW, e = .returned (.pointer (some ⟨z.p, 0, none⟩)) ∧ Core ⟨H, w, []⟩ H (webH z) [] w' ∧ z.e1 = [] ∧ z.e2 = [] := by
  have c1 := Core.allocMap (Core.here hA)
  have c2 := Core.allocMap c1
  have c3 := Core.alloc c2 (ds := [.v (.map (some w.heap.size)), .v (.map (some (w.heap.size + 1)))]) (us := [.map (some w.heap.size), .map (some (w.heap.size + 1))]) 46 (reps_v H [.map (some w.heap.size), .map (some (w.heap.size + 1))] rfl)
  go_enter Try.func7, Try.ntmps7
  go_wp2_with fail
  rw [mk_map]
  go_wp2_with fail
  rw [mk_map]
  go_wp2
  go_ret
  refine ⟨⟨w.heap.size + 1 + 1, w.heap.size, w.heap.size + 1, 46, [], []⟩, rfl, ?_, rfl, rfl⟩
  simp only [World.size_alloc] at c3
  refine Core.perm c3 ?_ (List.Perm.refl _)
  show ([(w.heap.size + 1, Blk.mp []), (w.heap.size, Blk.mp [])] ++ [_]).Perm (_ :: [(w.heap.size, Blk.mp []), (w.heap.size + 1, Blk.mp [])])
  exact (List.perm_append_singleton _ _).trans (List.Perm.cons _ (List.Perm.swap _ _ _))
theorem web_box {H : Hp} {W : World} {z : YW} (h : ∀ p ∈ webH z, BlkOK H W p) : W.cell? ⟨z.p, 0, none⟩ = some (.map (some z.b1)) ∧ W.cell? ⟨z.p, 1, none⟩ = some (.map (some z.b2)) := by
  obtain ⟨us, h1, h2, _⟩ := h (z.p, .cells [.v (.map (some z.b1)), .v (.map (some z.b2))] z.T) (by simp [webH])
  have := reps_v_inv (us := [.map (some z.b1), .map (some z.b2)]) h2; subst this
  simp [World.cell?, h1]
theorem web_t1 {H : Hp} {W : World} {z : YW} (h : ∀ p ∈ webH z, BlkOK H W p) : ∀ p ∈ tieH z.b1 z.e1, BlkOK H W p := fun p hp => h p (List.mem_cons_of_mem _ (List.mem_append_left _ hp))
theorem web_t2 {H : Hp} {W : World} {z : YW} (h : ∀ p ∈ webH z, BlkOK H W p) : ∀ p ∈ tieH z.b2 z.e2, BlkOK H W p := fun p hp => h p (List.mem_cons_of_mem _ (List.mem_append_right _ hp))
theorem slk_mget {H : Hp} {w : World} {b : Nat} {es : Ties} (hA : Ag H w) (hs : ∀ p ∈ tieH b es, BlkOK H w p) (x : TApiKey) : SlK w.heap.size w (SL (mgetD es x zr0).2) (mgetD es x zr0).1 := by
  rcases mget_split (l := es) (k := x) with ⟨h1, _, _⟩ | ⟨l1, l2, v, h1, h2, _, _⟩
  · have : mgetD es x zr0 = zr0 := by unfold mgetD; rw [h1]; rfl
    rw [this]
    exact ⟨none, 0, rfl, fun j x hj => by simp at hj⟩
  · have : mgetD es x zr0 = v := by unfold mgetD; rw [h1]; rfl
    rw [this]
    exact slk_row hA (hs (0, Blk.row 2 (v.1.map eTApiKey) (SL v.2)) (List.mem_cons_of_mem _ (List.mem_map.2 ⟨(x, v), by rw [h2]; simp, rfl⟩)))
set_option maxRecDepth 100000 in
set_option maxHeartbeats 4000000 in
theorem On_calls (H : Hp) (w : World) (hA : Ag H w) (z : YW) (hs : ∀ p ∈ webH z, BlkOK H w p) (x : TApiKey) (hl : (mgetD z.e1 (clK x) zr0).1.length < 4398046511104) :
    Calls Try.prog 14 #[.pointer (some ⟨z.p, 0, none⟩), encK x] w fun e w' => ∃ y : Z3, e = .returned (SL y) ∧ Core ⟨H, w, []⟩ H [(0, .row 2 ((mgetD z.e1 (clK x) zr0).1.map eTApiKey) (SL y))] [] w' := by
  have mixed : Try.prog.follows .mixedOrders = true := by kernel_rfl
  obtain ⟨W1, hW1⟩ : ∃ W1, W1 = w.alloc (Obj.cells #[Value.string x.gName, Value.int IntKind.i64 x.gNode] 34) := ⟨_, rfl⟩
  have hb1 : Below w.heap.size w W1 := by rw [hW1]; exact (Below.refl _ w).alloc (Nat.le_refl _) _
  have hnx : W1.heap[w.heap.size]? = some (Obj.cells #[Value.string x.gName, Value.int IntKind.i64 x.gNode] 34 (0, 0)) := by rw [hW1, heap_alloc, if_pos rfl]
  have x0 : W1.cell? ⟨w.heap.size, 0, none⟩ = some (.string x.gName) := by simp [World.cell?, hnx]
  have x1 : W1.cell? ⟨w.heap.size, 1, none⟩ = some (.int .i64 x.gNode) := by simp [World.cell?, hnx]
  have hs1 : ∀ p ∈ webH z, BlkOK H W1 p := fun p hp => blk_bel hA hb1 (hs p hp)
  obtain ⟨m0, m1⟩ := web_box hs1
  have hpl : z.p < W1.heap.size := cell_lt m0
  have hcl := clean_calls x W1.drew
  simp only [encK] at hcl ⊢
  have hxl : w.heap.size < W1.heap.size := by rw [hW1]; simp
  have hcl2 : Calls Try.prog 29 #[.agg #[.string x.gName, .int .i64 x.gNode]] W1.drew fun e w3 => e = .returned (.agg #[.string (clK x).gName, .int .i64 (clK x).gNode]) ∧ w3.cell? ⟨z.p, 0, none⟩ = some (.map (some z.b1)) ∧
      (Instr.lookup 44 (.map (some z.b1)) (.agg #[.string (clK x).gName, .int .i64 (clK x).gNode]) false).run Try.prog w3 = .ok (SL (mgetD z.e1 (clK x) zr0).2) w3 ∧
      Calls Try.prog 28 #[SL (mgetD z.e1 (clK x) zr0).2] w3 fun e w' => ∃ y : Z3, e = .returned (SL y) ∧ Core ⟨H, w, []⟩ H [(0, .row 2 ((mgetD z.e1 (clK x) zr0).1.map eTApiKey) (SL y))] [] w' := by
    refine hcl.mono ?_
    rintro e w3 ⟨rfl, hb3⟩
    have hb13 : Below w.heap.size w w3 := hb1.trans (⟨hb3.os, hb3.tape, hb3.output, hb3.size, fun k hk => hb3.block k (Nat.lt_of_lt_of_le hk hb1.size)⟩ : Below w.heap.size W1 w3)
    have hs3 : ∀ p ∈ webH z, BlkOK H w3 p := fun p hp => blk_bel hA hb13 (hs p hp)
    have hA3 : Ag H w3 := fun a u e => by rw [hb13.cell (p := a) (hA.lt e)]; exact hA a u e
    refine ⟨rfl, (web_box hs3).1, run_lkp (hs3 (z.b1, .mp (tieM z.e1)) (by simp [webH, tieH])) (clK x), (Clone_calls H w3 hA3 _ _ (slk_mget hA3 (web_t1 hs3) (clK x)) hl).mono ?_⟩
    rintro e w4 ⟨y, rfl, hc4⟩
    exact ⟨y, rfl, Core.call (h1 := []) (k1 := []) (h2 := []) (k2 := []) (core_below0 hA hb13) hc4⟩
  go_enter Try.func14, Try.ntmps14
  go_wp2
  rw [← hW1]
  clear hW1 hnx
  go_region_with_o (first
    | (go_at_call 29
       refine hcl2.mono ?_
       rintro e w3 ⟨rfl, m3, hlk, hcn⟩)
    | (go_at_call 28
       refine hcn.mono ?_
       rintro e w4 ⟨y, rfl, hc4⟩))
  all_goals
    go_wp2
    go_ret
    exact ⟨y, rfl, hc4⟩
set_option maxRecDepth 100000 in
set_option maxHeartbeats 4000000 in
theorem Below_calls (H : Hp) (w : World) (hA : Ag H w) (z : YW) (hs : ∀ p ∈ webH z, BlkOK H w p) (l : List TApiKey) (v : Value) (hv : SlK w.heap.size w v l) (hr : ∀ x, RowC (mgetD (tieL z.e2) x [])) (hN : (univ (tieL z.e2) l).length < 4398046511104) :
    Calls Try.prog 10 #[.pointer (some ⟨z.p, 0, none⟩), v] w fun e w' => ∃ (out : List TApiKey) (y : Z3), e = .returned (SL y) ∧ Core ⟨H, w, []⟩ H [(0, .row 2 (out.map eTApiKey) (SL y))] [] w' ∧ AllP (tieL z.e2) l out := by
  have hal := all_calls H w hA z.b2 z.e2 l v hv (web_t2 hs) hr hN
  obtain ⟨m0, m1⟩ := web_box hs
  obtain ⟨va, vn, vm, rfl⟩ : ∃ a n m, v = .slice a n m := by obtain ⟨a, cap, e1, _⟩ := hv; exact ⟨_, _, _, e1⟩
  go_enter Try.func10, Try.ntmps10
  go_wp2_with fail
  refine hal.mono ?_
  rintro e w1 ⟨out, y, rfl, hc, hp⟩
  go_wp2
  go_ret
  exact ⟨out, y, rfl, hc, hp⟩
set_option maxRecDepth 100000 in
set_option maxHeartbeats 4000000 in
theorem Above_calls (H : Hp) (w : World) (hA : Ag H w) (z : YW) (hs : ∀ p ∈ webH z, BlkOK H w p) (l : List TApiKey) (v : Value) (hv : SlK w.heap.size w v l) (hr : ∀ x, RowC (mgetD (tieL z.e1) x [])) (hN : (univ (tieL z.e1) l).length < 4398046511104) :
    Calls Try.prog 12 #[.pointer (some ⟨z.p, 0, none⟩), v] w fun e w' => ∃ (out : List TApiKey) (y : Z3), e = .returned (SL y) ∧ Core ⟨H, w, []⟩ H [(0, .row 2 (out.map eTApiKey) (SL y))] [] w' ∧ AllP (tieL z.e1) l out := by
  have hal := all_calls H w hA z.b1 z.e1 l v hv (web_t1 hs) hr hN
  obtain ⟨m0, m1⟩ := web_box hs
  obtain ⟨va, vn, vm, rfl⟩ : ∃ a n m, v = .slice a n m := by obtain ⟨a, cap, e1, _⟩ := hv; exact ⟨_, _, _, e1⟩
  go_enter Try.func12, Try.ntmps12
  go_wp2_with fail
  refine hal.mono ?_
  rintro e w1 ⟨out, y, rfl, hc, hp⟩
  go_wp2
  go_ret
  exact ⟨out, y, rfl, hc, hp⟩
end Go.Proofs.Ytpdekcfeecdlbaa.Ab
namespace Go.Proofs.Ytpdekcfeecdlbaa.Ab
open Go Go.RowKit Go.Shelf Go.Proofs Go.Proofs.Ytpdekcfeecdlbaa.Ab.Pq
set_option linter.all false
theorem setCell_heap (W : World) (b o : Nat) (v : Value) (c : Array Value) (T : TypeId) (h : W.heap[b]? = some (.cells c T (0, 0))) (i : Nat) : (W.setCell ⟨b, o, none⟩ v).heap[i]? = if i = b then some (.cells (c.setIfInBounds o v) T (0, 0)) else W.heap[i]? := by
  by_cases q : i = b
  · subst q
    rw [if_pos rfl]
    simp only [World.setCell, Array.getElem?_modify, if_pos rfl, h, Option.map_some]
    rfl
  · rw [if_neg q]
    simp only [World.setCell, Array.getElem?_modify]
    rw [if_neg (fun e => q e.symm)]
theorem setCell_size (W : World) (p : Addr) (v : Value) : (W.setCell p v).heap.size = W.heap.size := by simp
theorem key_fro {H : Hp} {W : World} {b : Nat} {T : TypeId} {x : TApiKey} (h : BlkOK H W (b, .cells ((kc2 x).map .v) T)) : W.frozen? ⟨b, 0, none⟩ = false ∧ W.frozen? ⟨b, 1, none⟩ = false := by
  obtain ⟨us, h1, h2, _⟩ := h
  have := reps_v_inv h2; subst this
  simp [World.frozen?, h1]
theorem key_store {C : Ctx} {H : Hp} {h : List (Nat × Blk)} {W : World} (c : Core C H h [] W) {j b : Nat} {x y : TApiKey} {T : TypeId} (hj : h[j]? = some (b, .cells ((kc2 x).map .v) T)) :
    Core C H (h.set j (b, .cells ((kc2 y).map .v) T)) [] ((W.setCell ⟨b, 0, none⟩ (.string y.gName)).setCell ⟨b, 1, none⟩ (.int .i64 y.gNode)) := by
  obtain ⟨us, h1, h2, _⟩ := c.blks _ (List.mem_of_getElem? hj)
  have := reps_v_inv h2; subst this
  have e1 := setCell_heap W b 0 (.string y.gName) _ T h1
  have hb1 : (W.setCell ⟨b, 0, none⟩ (.string y.gName)).heap[b]? = some (.cells #[.string y.gName, .int .i64 x.gNode] T (0, 0)) := by rw [e1, if_pos rfl]; rfl
  have e2 := setCell_heap _ b 1 (.int .i64 y.gNode) _ T hb1
  refine Core.write c hj ⟨rfl, rfl, rfl, Nat.le_refl _⟩ (by rw [setCell_size, setCell_size]) (fun i hi => ?_) (us' := kc2 y) ?_ (reps_v H (kc2 y) rfl)
  · rw [e2, if_neg hi, e1, if_neg hi]
  · rw [e2, if_pos rfl]; rfl
def keepQ (A : Act) (R : World → Prop) : Exit → Act → World → Prop
  | .normal, a', w' => a' = A ∧ R w'
  | _, _, _ => False
theorem wp_keep {P : Program} {c : Code} {Q : Exit → Act → World → Prop} {a A : Act} {w : World} (R : World → Prop) (h : c.wp P (keepQ A R) a w) (k : ∀ w', R w' → Q .normal A w') : c.wp P Q a w :=
  wp_mono h (by
    intro e a' w' hq
    cases e with
    | normal => obtain ⟨rfl, hr⟩ := hq; exact k w' hr
    | _ => exact hq.elim)
theorem web_pm1 (z : YW) (ex : List (Nat × Blk)) : (webH z ++ ex).Perm (tieH z.b1 z.e1 ++ ((z.p, .cells [.v (.map (some z.b1)), .v (.map (some z.b2))] z.T) :: tieH z.b2 z.e2 ++ ex)) := by
  unfold webH
  simp only [List.cons_append, List.append_assoc]
  exact List.perm_middle.symm
theorem web_pm2 (z : YW) (ex : List (Nat × Blk)) : (webH z ++ ex).Perm (tieH z.b2 z.e2 ++ ((z.p, .cells [.v (.map (some z.b1)), .v (.map (some z.b2))] z.T) :: tieH z.b1 z.e1 ++ ex)) := by
  unfold webH
  simp only [List.cons_append, List.append_assoc]
  refine List.Perm.trans ?_ List.perm_middle.symm
  refine List.Perm.cons _ ?_
  rw [← List.append_assoc, ← List.append_assoc]
  exact List.Perm.append_right _ List.perm_append_comm
theorem web_turn1 {C : Ctx} {H : Hp} {z : YW} {ex : List (Nat × Blk)} {W W' : World} {e' : Ties} (c : Core C H (webH z ++ ex) [] W) (c' : Core ⟨H, W, claims (tieH z.b1 z.e1) []⟩ H (tieH z.b1 e') [] W') : Core C H (webH ⟨z.p, z.b1, z.b2, z.T, e', z.e2⟩ ++ ex) [] W' := by
  have q := Core.call (k1 := []) (k2 := []) (c.perm (web_pm1 z ex) (List.Perm.refl _)) c'
  exact q.perm (web_pm1 ⟨z.p, z.b1, z.b2, z.T, e', z.e2⟩ ex).symm (List.Perm.refl _)
theorem web_turn2 {C : Ctx} {H : Hp} {z : YW} {ex : List (Nat × Blk)} {W W' : World} {e' : Ties} (c : Core C H (webH z ++ ex) [] W) (c' : Core ⟨H, W, claims (tieH z.b2 z.e2) []⟩ H (tieH z.b2 e') [] W') : Core C H (webH ⟨z.p, z.b1, z.b2, z.T, z.e1, e'⟩ ++ ex) [] W' := by
  have q := Core.call (k1 := []) (k2 := []) (c.perm (web_pm2 z ex) (List.Perm.refl _)) c'
  exact q.perm (web_pm2 ⟨z.p, z.b1, z.b2, z.T, z.e1, e'⟩ ex).symm (List.Perm.refl _)
theorem web_nd1 {C : Ctx} {H : Hp} {z : YW} {ex : List (Nat × Blk)} {W : World} (c : Core C H (webH z ++ ex) [] W) : (claims (tieH z.b1 z.e1) []).Nodup :=
  (c.perm (web_pm1 z ex) (List.Perm.refl _)).drop (List.sublist_append_left _ _) (List.Sublist.refl _) |>.nd
theorem web_nd2 {C : Ctx} {H : Hp} {z : YW} {ex : List (Nat × Blk)} {W : World} (c : Core C H (webH z ++ ex) [] W) : (claims (tieH z.b2 z.e2) []).Nodup :=
  (c.perm (web_pm2 z ex) (List.Perm.refl _)).drop (List.sublist_append_left _ _) (List.Sublist.refl _) |>.nd
theorem clK_idem (x : TApiKey) : clK (clK x) = clK x := by
  unfold clK; simp
set_option maxRecDepth 100000 in
set_option maxHeartbeats 4000000 in
theorem Add_calls (H : Hp) (w : World) (hA : Ag H w) (z : YW) (hs : ∀ p ∈ webH z, BlkOK H w p) (nd : (claims (webH z) []).Nodup) (x y : TApiKey)
    (hr1 : RowC (mgetD z.e1 (clK x) zr0).1) (hl1 : (mgetD z.e1 (clK x) zr0).1.length < 4398046511104) (hr2 : RowC (mgetD z.e2 (clK y) zr0).1) (hl2 : (mgetD z.e2 (clK y) zr0).1.length < 4398046511104) :
    Calls Try.prog 19 #[.pointer (some ⟨z.p, 0, none⟩), encK x, encK y] w fun e w' => ∃ e1 e2, e = .returned (.tuple #[]) ∧ Core ⟨H, w, claims (webH z) []⟩ H (webH ⟨z.p, z.b1, z.b2, z.T, e1, e2⟩) [] w' ∧ tieL e1 = tieF (tieL z.e1) (clK x) (clK y) ∧ tieL e2 = tieF (tieL z.e2) (clK y) (clK x) := by
  have mixed : Try.prog.follows .mixedOrders = true := by kernel_rfl
  obtain ⟨W1, hW1⟩ : ∃ W1, W1 = (w.alloc (Obj.cells #[Value.string x.gName, Value.int IntKind.i64 x.gNode] 34)).alloc (Obj.cells #[Value.string y.gName, Value.int IntKind.i64 y.gNode] 34) := ⟨_, rfl⟩
  have hs1 : W1.heap.size = w.heap.size + 2 := by rw [hW1]; simp
  have c1 : Core ⟨H, w, claims (webH z) []⟩ H (webH z ++ [(w.heap.size, .cells ((kc2 x).map .v) 34), (w.heap.size + 1, .cells ((kc2 y).map .v) 34)]) [] W1 := by
    rw [hW1]
    have q := Core.alloc (Core.alloc (core_stay hA hs nd (Below.refl _ w)) (ds := (kc2 x).map .v) (us := kc2 x) 34 (reps_v H (kc2 x) rfl)) (ds := (kc2 y).map .v) (us := kc2 y) 34 (reps_v H (kc2 y) rfl)
    simp only [List.append_assoc, List.singleton_append, World.size_alloc] at q
    exact q
  obtain ⟨x0, x1⟩ := key_box (c1.blks (w.heap.size, .cells ((kc2 x).map .v) 34) (by simp))
  obtain ⟨y0, y1⟩ := key_box (c1.blks (w.heap.size + 1, .cells ((kc2 y).map .v) 34) (by simp))
  have hclx : Calls Try.prog 29 #[encK x] W1.drew fun e W2 => e = .returned (encK (clK x)) ∧ Core ⟨H, w, claims (webH z) []⟩ H (webH z ++ [(w.heap.size, .cells ((kc2 x).map .v) 34), (w.heap.size + 1, .cells ((kc2 y).map .v) 34)]) [] W2 :=
    (clean_calls x W1.drew).mono fun e W2 ⟨he, hb⟩ => ⟨he, Core.call (h1 := []) (k1 := []) (Core.drew c1) (core_below0 (Core.drew c1).ag hb)⟩
  have hcly : ∀ W2, Core ⟨H, w, claims (webH z) []⟩ H (webH z ++ [(w.heap.size, .cells ((kc2 x).map .v) 34), (w.heap.size + 1, .cells ((kc2 y).map .v) 34)]) [] W2 → Calls Try.prog 29 #[encK y] W2 fun e W3 => e = .returned (encK (clK y)) ∧ Core ⟨H, w, claims (webH z) []⟩ H (webH z ++ [(w.heap.size, .cells ((kc2 x).map .v) 34), (w.heap.size + 1, .cells ((kc2 y).map .v) 34)]) [] W3 :=
    fun W2 c2 => (clean_calls y W2).mono fun e W3 ⟨he, hb⟩ => ⟨he, Core.call (h1 := []) (k1 := []) c2 (core_below0 c2.ag hb)⟩
  simp only [encK] at hclx hcly ⊢
  have hne1 : ¬ (w.heap.size = w.heap.size + 1) := by omega
  have hne2 : ¬ (w.heap.size + 1 = w.heap.size) := by omega
  go_enter Try.func19, Try.ntmps19
  go_wp2
  rw [← hW1]
  clear hW1
  apply wp_keep (R := fun w' => Core ⟨H, w, claims (webH z) []⟩ H (webH z ++ [(w.heap.size, .cells ((kc2 (clK x)).map .v) 34), (w.heap.size + 1, .cells ((kc2 (clK y)).map .v) 34)]) [] w')
  case h =>
    go_region_with_o (first
      | (go_at_call 29
         refine hclx.mono ?_
         rintro e W2 ⟨rfl, c2⟩
         obtain ⟨x2, x3⟩ := key_box (c2.blks (w.heap.size, .cells ((kc2 x).map .v) 34) (by simp))
         obtain ⟨y2, y3⟩ := key_box (c2.blks (w.heap.size + 1, .cells ((kc2 y).map .v) 34) (by simp)))
      | (go_at_call 29
         refine (hcly _ (by assumption)).mono ?_
         rintro e W3 ⟨rfl, c3⟩
         obtain ⟨x4, x5⟩ := key_box (c3.blks (w.heap.size, .cells ((kc2 x).map .v) 34) (by simp))
         obtain ⟨y4, y5⟩ := key_box (c3.blks (w.heap.size + 1, .cells ((kc2 y).map .v) 34) (by simp))
         obtain ⟨x6, x7⟩ := key_fro (c3.blks (w.heap.size, .cells ((kc2 x).map .v) 34) (by simp))
         obtain ⟨y6, y7⟩ := key_fro (c3.blks (w.heap.size + 1, .cells ((kc2 y).map .v) 34) (by simp))))
    all_goals
      refine ⟨rfl, ?_⟩
      have d1 := key_store (y := clK x) c3 (j := (webH z).length) (b := w.heap.size) (by rw [List.getElem?_append_right (Nat.le_refl _), Nat.sub_self]; rfl)
      have d2 := key_store (y := clK y) d1 (j := (webH z).length + 1) (b := w.heap.size + 1) (x := y) (T := 34) (by
        rw [List.getElem?_set_ne (by omega), List.getElem?_append_right (by omega), Nat.add_sub_cancel_left]; rfl)
      have he : ∀ (p q p' q' : Nat × Blk), (((webH z ++ [p, q]).set (webH z).length p').set ((webH z).length + 1) q') = webH z ++ [p', q'] := by
        intro p q p' q'
        rw [List.set_append_right _ _ (Nat.le_refl _), Nat.sub_self, List.set_append_right _ _ (by omega), Nat.add_sub_cancel_left]; rfl
      rw [he] at d2
      exact d2
  clear hclx hcly x0 x1 y0 y1 c1 hs1
  intro W2 c2
  obtain ⟨x2, x3⟩ := key_box (c2.blks (w.heap.size, .cells ((kc2 (clK x)).map .v) 34) (by simp))
  obtain ⟨y2, y3⟩ := key_box (c2.blks (w.heap.size + 1, .cells ((kc2 (clK y)).map .v) 34) (by simp))
  obtain ⟨m0, m1⟩ := web_box (z := z) (fun p hp => c2.blks p (List.mem_append_left _ hp))
  have ht1 : Calls Try.prog 31 #[.map (some z.b1), encK (clK x), encK (clK y)] W2.drew fun e w' => ∃ e1, e = .returned (.tuple #[]) ∧ Core ⟨H, w, claims (webH z) []⟩ H (webH ⟨z.p, z.b1, z.b2, z.T, e1, z.e2⟩ ++ [(w.heap.size, .cells ((kc2 (clK x)).map .v) 34), (w.heap.size + 1, .cells ((kc2 (clK y)).map .v) 34)]) [] w' ∧ tieL e1 = tieF (tieL z.e1) (clK x) (clK y) :=
    (tie_calls H W2.drew (Core.drew c2).ag z.b1 z.e1 (clK x) (clK y) (fun p hp => (Core.drew c2).blks p (List.mem_append_left _ (List.mem_cons_of_mem _ (List.mem_append_left _ hp)))) (web_nd1 c2) (clK_idem y) hr1 hl1).mono fun e w' ⟨e1, he, hc, hl⟩ => ⟨e1, he, web_turn1 (Core.drew c2) hc, hl⟩
  simp only [encK] at ht1
  go_wp2
  apply wp_keep (R := fun w' => ∃ e1, Core ⟨H, w, claims (webH z) []⟩ H (webH ⟨z.p, z.b1, z.b2, z.T, e1, z.e2⟩ ++ [(w.heap.size, .cells ((kc2 (clK x)).map .v) 34), (w.heap.size + 1, .cells ((kc2 (clK y)).map .v) 34)]) [] w' ∧ tieL e1 = tieF (tieL z.e1) (clK x) (clK y))
  case h =>
    go_region_with_o (
      go_at_call 31
      refine ht1.mono ?_
      rintro e W3 ⟨e1, rfl, c3, he1⟩)
    all_goals
      exact ⟨rfl, e1, c3, he1⟩
  clear ht1 x2 x3 y2 y3 m0 m1 c2
  rintro W3 ⟨e1, c3, he1⟩
  obtain ⟨x2, x3⟩ := key_box (c3.blks (w.heap.size, .cells ((kc2 (clK x)).map .v) 34) (by simp))
  obtain ⟨y2, y3⟩ := key_box (c3.blks (w.heap.size + 1, .cells ((kc2 (clK y)).map .v) 34) (by simp))
  obtain ⟨m0, m1⟩ := web_box (z := ⟨z.p, z.b1, z.b2, z.T, e1, z.e2⟩) (fun p hp => c3.blks p (List.mem_append_left _ hp))
  have ht1 : Calls Try.prog 31 #[.map (some z.b2), encK (clK y), encK (clK x)] W3.drew fun e w' => ∃ e2, e = .returned (.tuple #[]) ∧ Core ⟨H, w, claims (webH z) []⟩ H (webH ⟨z.p, z.b1, z.b2, z.T, e1, e2⟩ ++ [(w.heap.size, .cells ((kc2 (clK x)).map .v) 34), (w.heap.size + 1, .cells ((kc2 (clK y)).map .v) 34)]) [] w' ∧ tieL e2 = tieF (tieL z.e2) (clK y) (clK x) :=
    (tie_calls H W3.drew (Core.drew c3).ag z.b2 z.e2 (clK y) (clK x) (fun p hp => (Core.drew c3).blks p (List.mem_append_left _ (List.mem_cons_of_mem _ (List.mem_append_right _ hp)))) (web_nd2 (z := ⟨z.p, z.b1, z.b2, z.T, e1, z.e2⟩) c3) (clK_idem x) hr2 hl2).mono fun e w' ⟨e2, he, hc, hl⟩ => ⟨e2, he, web_turn2 (z := ⟨z.p, z.b1, z.b2, z.T, e1, z.e2⟩) (Core.drew c3) hc, hl⟩
  simp only [encK] at ht1
  go_wp2
  apply wp_keep (R := fun w' => ∃ e2, Core ⟨H, w, claims (webH z) []⟩ H (webH ⟨z.p, z.b1, z.b2, z.T, e1, e2⟩ ++ [(w.heap.size, .cells ((kc2 (clK x)).map .v) 34), (w.heap.size + 1, .cells ((kc2 (clK y)).map .v) 34)]) [] w' ∧ tieL e2 = tieF (tieL z.e2) (clK y) (clK x))
  case h =>
    go_region_with_o (
      go_at_call 31
      refine ht1.mono ?_
      rintro e W4 ⟨e2, rfl, c4, he2⟩)
    all_goals
      exact ⟨rfl, e2, c4, he2⟩
  rintro W4 ⟨e2, c4, he2⟩
  go_end0
  exact ⟨e1, e2, rfl, c4.drop (List.sublist_append_left _ _) (List.Sublist.refl _), he1, he2⟩
end Go.Proofs.Ytpdekcfeecdlbaa.Ab
namespace Go.Proofs.Ytpdekcfeecdlbaa.Ab
open Go Go.RowKit Go.Shelf Go.Proofs Go.Proofs.Ytpdekcfeecdlbaa.Ab.Pq
set_option linter.all false
theorem mget_none {β : Type} : ∀ {m : List (TApiKey × β)} {k : TApiKey}, (∀ p ∈ m, p.1 ≠ k) → mget m k = none
  | [], _, _ => rfl
  | (a, b) :: m, k, h => by
    unfold mget
    rw [if_neg (h (a, b) (by simp))]
    exact mget_none fun p hp => h p (by simp [hp])
theorem mgetD_put {β : Type} (d v : β) : ∀ (m : List (TApiKey × β)) (k k' : TApiKey), mgetD (mput m k v) k' d = if k' = k then v else mgetD m k' d
  | [], k, k' => by
    unfold mgetD mput
    by_cases q : k' = k
    · subst q; simp [mget]
    · rw [if_neg q]; simp [mget, show ¬ k = k' from fun e => q e.symm]
  | (a, b) :: m, k, k' => by
    have ih := mgetD_put d v m k k'
    unfold mgetD at ih ⊢
    unfold mput
    by_cases q : a = k
    · subst q
      rw [if_pos rfl]
      by_cases q2 : k' = a
      · subst q2; simp [mget]
      · rw [if_neg q2]; simp [mget, show ¬ a = k' from fun e => q2 e.symm]
    · rw [if_neg q]
      by_cases q3 : a = k'
      · subst q3
        rw [if_neg q]; simp [mget]
      · simp only [mget, if_neg q3]; exact ih
theorem mput_keys {β : Type} (v : β) : ∀ (m : List (TApiKey × β)) (k : TApiKey), (m.map (·.1)).Nodup → ((mput m k v).map (·.1)).Nodup ∧ ∀ x ∈ (mput m k v).map (·.1), x = k ∨ x ∈ m.map (·.1)
  | [], k, _ => by simp [mput]
  | (a, b) :: m, k, h => by
    simp only [List.map_cons, List.nodup_cons] at h
    obtain ⟨i1, i2⟩ := mput_keys v m k h.2
    unfold mput
    by_cases q : a = k
    · rw [if_pos q]
      subst q
      exact ⟨by simp only [List.map_cons, List.nodup_cons]; exact h, fun x hx => .inr (by simpa using hx)⟩
    · rw [if_neg q]
      refine ⟨?_, fun x hx => ?_⟩
      · simp only [List.map_cons, List.nodup_cons]
        refine ⟨fun hx => ?_, i1⟩
        rcases i2 _ hx with e | e
        · exact q e
        · exact h.1 e
      · simp only [List.map_cons, List.mem_cons] at hx ⊢
        rcases hx with rfl | hx
        · exact .inr (.inl rfl)
        · rcases i2 x hx with e | e
          · exact .inl e
          · exact .inr (.inr e)
theorem mdel_keys {β : Type} (m : List (TApiKey × β)) (k : TApiKey) (h : (m.map (·.1)).Nodup) : ((mdel m k).map (·.1)).Nodup :=
  ((mdel_sub m k).map _).nodup h
theorem mgetD_del {β : Type} (d : β) : ∀ (m : List (TApiKey × β)) (k k' : TApiKey), (m.map (·.1)).Nodup → mgetD (mdel m k) k' d = if k' = k then d else mgetD m k' d
  | [], k, k', _ => by unfold mgetD; simp [mdel, mget]
  | (a, b) :: m, k, k', h => by
    simp only [List.map_cons, List.nodup_cons] at h
    have ih := mgetD_del d m k k' h.2
    unfold mdel
    by_cases q : a = k
    · subst q
      rw [if_pos rfl]
      by_cases q2 : k' = a
      · subst q2
        rw [if_pos rfl]
        unfold mgetD
        rw [mget_none (fun p hp e => h.1 (by rw [← e]; exact List.mem_map.2 ⟨p, hp, rfl⟩))]; rfl
      · rw [if_neg q2]
        unfold mgetD
        simp [mget, show ¬ a = k' from fun e => q2 e.symm]
    · rw [if_neg q]
      unfold mgetD at ih ⊢
      by_cases q3 : a = k'
      · subst q3
        rw [if_neg q]; simp [mget]
      · simp only [mget, if_neg q3]; exact ih
def GoodM (B : Nat) (m : Tm) : Prop := (m.map (·.1)).Nodup ∧ ∀ k, RowC (mgetD m k []) ∧ (mgetD m k []).length ≤ B
theorem rowK_same {l : List TApiKey} (h : RowC l) : rowK l = l :=
  rise_unique leK_an (rowK_all l).1 h.1 (fun x => ((rowK_all l).2.1 x).trans ⟨fun hx => by obtain ⟨y, hy, rfl⟩ := List.mem_map.1 hx; rw [h.2 y hy]; exact hy, fun hx => List.mem_map.2 ⟨x, hx, h.2 x hx⟩⟩)
theorem rowC_filter {l : List TApiKey} (h : RowC l) (p : TApiKey → Bool) : RowC (l.filter p) :=
  ⟨List.Pairwise.sublist List.filter_sublist h.1, fun x hx => h.2 x (List.mem_filter.1 hx).1⟩
theorem cutF_get {B : Nat} {m : Tm} (h : GoodM B m) (x y k : TApiKey) : mgetD (cutF m x y) k [] = if k = x then (mgetD m x []).filter (fun q => !decide (q = clK y)) else mgetD m k [] := by
  unfold cutF
  rw [rowK_same (h.2 x).1]
  dsimp only
  split
  · rename_i hn
    rw [mgetD_del _ _ _ _ h.1]
    split
    · exact hn.symm
    · rfl
  · rw [mgetD_put]
theorem cutF_good {B : Nat} {m : Tm} (h : GoodM B m) (x y : TApiKey) : GoodM B (cutF m x y) := by
  refine ⟨?_, fun k => ?_⟩
  · unfold cutF
    dsimp only
    split
    · exact mdel_keys m x h.1
    · exact (mput_keys _ m x h.1).1
  · rw [cutF_get h]
    split
    · exact ⟨rowC_filter (h.2 x).1 _, Nat.le_trans (List.length_filter_le _ _) (h.2 x).2⟩
    · exact h.2 k
theorem cutF_mem {B : Nat} {m : Tm} (h : GoodM B m) (x y k z : TApiKey) : z ∈ mgetD (cutF m x y) k [] ↔ z ∈ mgetD m k [] ∧ ¬ (k = x ∧ z = clK y) := by
  rw [cutF_get h]
  split
  · rename_i q
    subst q
    simp
  · rename_i q
    simp [q]
def cutM (m : Tm) (l : List TApiKey) (x : TApiKey) : Tm := l.foldl (fun m y => cutF m y x) m
theorem cutM_good {B : Nat} (x : TApiKey) : ∀ (l : List TApiKey) {m : Tm}, GoodM B m → GoodM B (cutM m l x)
  | [], _, h => h
  | y :: l, m, h => cutM_good x l (cutF_good h y x)
theorem cutM_mem {B : Nat} (x k z : TApiKey) : ∀ (l : List TApiKey) {m : Tm}, GoodM B m → (z ∈ mgetD (cutM m l x) k [] ↔ z ∈ mgetD m k [] ∧ ¬ (k ∈ l ∧ z = clK x))
  | [], _, h => by simp [cutM]
  | y :: l, m, h => by
    have := cutM_mem x k z l (cutF_good h y x)
    rw [cutF_mem h] at this
    show z ∈ mgetD (cutM (cutF m y x) l x) k [] ↔ _
    rw [this]
    simp only [List.mem_cons]
    grind
theorem del_good {B : Nat} {m : Tm} (h : GoodM B m) (x : TApiKey) : GoodM B (mdel m x) := by
  refine ⟨mdel_keys m x h.1, fun k => ?_⟩
  rw [mgetD_del _ _ _ _ h.1]
  split
  · exact ⟨⟨List.Pairwise.nil, by simp⟩, Nat.zero_le _⟩
  · exact h.2 k
def dropM (m1 m2 : Tm) (x : TApiKey) : Tm := cutM m2 (mgetD m1 x []) x
def drop1 (m1 m2 : Tm) (x : TApiKey) : Tm := mdel (cutM m1 (mgetD (dropM m1 m2 x) x []) x) x
def drop2 (m1 m2 : Tm) (x : TApiKey) : Tm := mdel (dropM m1 m2 x) x
end Go.Proofs.Ytpdekcfeecdlbaa.Ab
namespace Go.Proofs.Ytpdekcfeecdlbaa.Ab
open Go Go.RowKit Go.Shelf Go.Proofs Go.Proofs.Ytpdekcfeecdlbaa.Ab.Pq
set_option linter.all false
set_option maxRecDepth 100000 in
theorem Clear_nil (w : World) : Calls Try.prog 21 #[.pointer none] w fun e w' => e = .returned (.tuple #[]) ∧ Below w.heap.size w w' := by
  go_enter Try.func21, Try.ntmps21
  go_wp2
  refine bodyPost_ret (results_none rfl _ _ _) rfl ?_
  exact ⟨rfl, Below.refl _ _⟩
set_option maxRecDepth 100000 in
theorem Add_nil (x y : TApiKey) (w : World) : Calls Try.prog 19 #[.pointer none, encK x, encK y] w fun e w' => e = .returned (.tuple #[]) ∧ Below w.heap.size w w' := by
  simp only [encK]
  go_enter Try.func19, Try.ntmps19
  go_wp2
  refine bodyPost_ret (results_none rfl _ _ _) rfl ?_
  exact ⟨rfl, ((Below.refl _ w).alloc (Nat.le_refl _) _).alloc (by simp) _⟩
set_option maxRecDepth 100000 in
theorem Drop_nil (x : TApiKey) (w : World) : Calls Try.prog 20 #[.pointer none, encK x] w fun e w' => e = .returned (.tuple #[]) ∧ Below w.heap.size w w' := by
  simp only [encK]
  go_enter Try.func20, Try.ntmps20
  go_wp2
  refine bodyPost_ret (results_none rfl _ _ _) rfl ?_
  exact ⟨rfl, (Below.refl _ w).alloc (Nat.le_refl _) _⟩
set_option maxRecDepth 100000 in
theorem On_nil (x : TApiKey) (w : World) : Calls Try.prog 14 #[.pointer none, encK x] w fun e w' => e = .returned (.slice none 0 0) ∧ Below w.heap.size w w' := by
  simp only [encK]
  go_enter Try.func14, Try.ntmps14
  go_wp2
  go_ret
  exact ⟨rfl, (Below.refl _ w).alloc (Nat.le_refl _) _⟩
set_option maxRecDepth 100000 in
theorem Of_nil (x : TApiKey) (w : World) : Calls Try.prog 16 #[.pointer none, encK x] w fun e w' => e = .returned (.slice none 0 0) ∧ Below w.heap.size w w' := by
  simp only [encK]
  go_enter Try.func16, Try.ntmps16
  go_wp2
  go_ret
  exact ⟨rfl, (Below.refl _ w).alloc (Nat.le_refl _) _⟩
set_option maxRecDepth 100000 in
theorem Below_nil (H : Hp) (w : World) (hA : Ag H w) (l : List TApiKey) (v : Value) (hv : SlK w.heap.size w v l) (hl : l.length < 4398046511104) :
    Calls Try.prog 10 #[.pointer none, v] w fun e w' => ∃ z : Z3, e = .returned (SL z) ∧ Core ⟨H, w, []⟩ H [(0, .row 2 ((rowK l).map eTApiKey) (SL z))] [] w' := by
  have hr := Row_calls H w hA l v hv hl
  obtain ⟨va, vn, vm, rfl⟩ : ∃ a n m, v = .slice a n m := by obtain ⟨a, cap, e1, _⟩ := hv; exact ⟨_, _, _, e1⟩
  go_enter Try.func10, Try.ntmps10
  go_wp2_with fail
  refine hr.mono ?_
  rintro e w1 ⟨z, rfl, hc⟩
  go_wp2
  go_ret
  exact ⟨z, rfl, hc⟩
set_option maxRecDepth 100000 in
theorem Above_nil (H : Hp) (w : World) (hA : Ag H w) (l : List TApiKey) (v : Value) (hv : SlK w.heap.size w v l) (hl : l.length < 4398046511104) :
    Calls Try.prog 12 #[.pointer none, v] w fun e w' => ∃ z : Z3, e = .returned (SL z) ∧ Core ⟨H, w, []⟩ H [(0, .row 2 ((rowK l).map eTApiKey) (SL z))] [] w' := by
  have hr := Row_calls H w hA l v hv hl
  obtain ⟨va, vn, vm, rfl⟩ : ∃ a n m, v = .slice a n m := by obtain ⟨a, cap, e1, _⟩ := hv; exact ⟨_, _, _, e1⟩
  go_enter Try.func12, Try.ntmps12
  go_wp2_with fail
  refine hr.mono ?_
  rintro e w1 ⟨z, rfl, hc⟩
  go_wp2
  go_ret
  exact ⟨z, rfl, hc⟩
end Go.Proofs.Ytpdekcfeecdlbaa.Ab
namespace Go.Proofs.Ytpdekcfeecdlbaa.Ab
open Go
set_option linter.all false
noncomputable def r26_Clean (a0 : TApiKey) : Option (TApiKey) :=
  (bif (decide (a0.gNode < (0 : Int))) then some (⟨a0.gName, (-1 : Int)⟩ : TApiKey) else some a0)
set_option maxRecDepth 100000 in
set_option maxHeartbeats 2000000 in
theorem r26_Clean_ok (a0 : TApiKey) (r : TApiKey) (h0 : r26_Clean a0 = some r) : CallsD Try.prog 30 [eTApiKey a0] [] [] (fun d h k => d = eTApiKey r ∧ h = [] ∧ k = []) := by
  have hm := yes_of h0
  unfold r26_Clean at hm
  clear h0
  refine enterX htab Try.func30 rfl rfl rfl rfl rfl (fun C => ?_)
  refine wpD_sr ?_
  refine p_box rfl rfl rfl rfl rfl rfl rfl (fun b1 => ?_)
  refine p_alloc htab rfl rfl rfl rfl rfl rfl rfl (fun b2 => ?_)
  refine ops_nt ?_
  refine wpD_seq ?_
  refine wpD_sr ?_
  refine pu ?_
  refine pL 0 ?_
  refine pu ?_
  refine ops_nt ?_
  refine wpD_cond rfl (fun hc3 => ?_) (fun hc3 => ?_)
  ·replace hm := yes_t hc3 hm
   refine wpD_sr ?_
   refine pu ?_
   refine pL 0 ?_
   refine p_build (r := [.v (.string a0.gName), .v (.int .i64 (-1 : Int))]) htab rfl rfl rfl rfl rfl rfl rfl rfl rfl ?_
   refine pS1 (ds' := [.v (.string a0.gName), .v (.int .i64 (-1 : Int))]) ?_
   refine ops_nt ?_
   refine wpD_ret ?_
   refine then_ret ?_
   have er4 := yes_eq hm; subst er4
   refine rP (t' := [(2, .ptr b2 0)]) [1] [] 0 (wC wN) (lC 0 lN) ?_
   exact ⟨rfl, rfl, rfl⟩
  ·replace hm := yes_f hc3 hm
   refine wpD_skip ?_
   refine then_normal ?_
   refine wpD_sr ?_
   refine p_load (d := eTApiKey a0) 0 htab rfl rfl rfl rfl rfl rfl rfl rfl ?_
   refine pS1 (ds' := [.v (.string a0.gName), .v (.int .i64 a0.gNode)]) ?_
   refine ops_nt ?_
   refine wpD_ret ?_
   have er5 := yes_eq hm; subst er5
   refine rP (t' := [(2, .ptr b2 0)]) [1] [] 0 (wC wN) (lC 0 lN) ?_
   exact ⟨rfl, rfl, rfl⟩
structure TSondageref29Pair where
  gX : TApiKey
  gY : TApiKey
def eTSondageref29Pair (x : TSondageref29Pair) : D := .agg [.v (.string x.gX.gName), .v (.int .i64 x.gX.gNode), .v (.string x.gY.gName), .v (.int .i64 x.gY.gNode)]
noncomputable def r26_Less (a0 : TApiKey) (a1 : TApiKey) : Option (Bool) :=
  (bif (!decide (a0.gName = a1.gName)) then some (ltB a0.gName a1.gName) else some (decide (a0.gNode < a1.gNode)))
set_option maxRecDepth 100000 in
set_option maxHeartbeats 2000000 in
theorem r26_Less_ok (a0 : TApiKey) (a1 : TApiKey) (r : Bool) (h0 : r26_Less a0 a1 = some r) : CallsD Try.prog 38 [eTApiKey a0, eTApiKey a1] [] [] (fun d h k => d = .v (.bool r) ∧ h = [] ∧ k = []) := by
  have hm := yes_of h0
  unfold r26_Less at hm
  clear h0
  refine enterX htab Try.func38 rfl rfl rfl rfl rfl (fun C => ?_)
  refine wpD_sr ?_
  refine p_box rfl rfl rfl rfl rfl rfl rfl (fun b1 => ?_)
  refine p_box rfl rfl rfl rfl rfl rfl rfl (fun b2 => ?_)
  refine pu ?_
  refine ops_nt ?_
  refine wpD_seq ?_
  refine wpD_sr ?_
  refine pu ?_
  refine pL 0 ?_
  refine pu ?_
  refine pL 1 ?_
  refine pu ?_
  refine ops_nt ?_
  refine wpD_cond rfl (fun hc4 => ?_) (fun hc4 => ?_)
  ·replace hm := yes_t hc4 hm
   refine wpD_sr ?_
   refine pu ?_
   refine pL 0 ?_
   refine pu ?_
   refine pL 1 ?_
   refine p_ltS rfl rfl rfl rfl rfl rfl rfl ?_
   refine pu ?_
   refine ops_nt ?_
   refine wpD_ret ?_
   refine then_ret ?_
   have er5 := yes_eq hm; subst er5
   refine rP (t' := [(4, .v (.bool (ltB a0.gName a1.gName)))]) [] [] 0 (wC wN) (lT lN) ?_
   exact ⟨rfl, rfl, rfl⟩
  ·replace hm := yes_f hc4 hm
   refine wpD_skip ?_
   refine then_normal ?_
   refine wpD_sr ?_
   refine pu ?_
   refine pL 0 ?_
   refine pu ?_
   refine pL 1 ?_
   refine pu ?_
   refine pu ?_
   refine ops_nt ?_
   refine wpD_ret ?_
   have er6 := yes_eq hm; subst er6
   refine rP (t' := [(4, .v (.bool (decide (a0.gNode < a1.gNode))))]) [] [] 0 (wC wN) (lT lN) ?_
   exact ⟨rfl, rfl, rfl⟩
noncomputable def r26_Put (a0 : List TApiKey) (a1 : TApiKey) : Option (List TApiKey) :=
  ((r26_Clean a1).bind fun x2 => (Option.bind (α := List TApiKey) (loopM (fun (s39 : List TApiKey × Int) => (Option.bind (α := Bool) (bif (decide (s39.2 < (a0.length : Int))) then ((idx a0 s39.2).bind fun x68 => ((r26_Less x68 x2).bind fun x69 => some x69)) else some false) fun y66 => (bif y66 then ((idx a0 s39.2).bind fun x71 => ((app 24 s39.1 ([x71] : List TApiKey)).bind fun x72 => some (.next (x72, (IntKind.i64.wrap (s39.2 + (1 : Int))))))) else some (.done s39.1)))) (([] : List TApiKey), (0 : Int))) fun y38 => ((app 24 y38 ([x2] : List TApiKey)).bind fun x73 => (Option.bind (α := List TApiKey) (loopM (fun (s94 : List TApiKey × Int) => (bif (decide (s94.2 < (a0.length : Int))) then ((idx a0 s94.2).bind fun x108 => (bif (!(decide (x108.gName = x2.gName) && (x108.gNode == x2.gNode && true))) then ((idx a0 s94.2).bind fun x110 => ((app 24 s94.1 ([x110] : List TApiKey)).bind fun x111 => some (.next (x111, (IntKind.i64.wrap (s94.2 + (1 : Int))))))) else some (.next (s94.1, (IntKind.i64.wrap (s94.2 + (1 : Int))))))) else some (.done s94.1))) (x73, (y38.length : Int))) fun y93 => some y93))))
set_option maxRecDepth 100000 in
set_option maxHeartbeats 2000000 in
theorem r26_Put_ok (a0 : List TApiKey) (a1 : TApiKey) (r : List TApiKey) (h0 : r26_Put a0 a1 = some r) : CallsD Try.prog 27 [.lst 2 (a0.map eTApiKey) .no, eTApiKey a1] [] [] (fun d h k => ∃ y0, d = .lst 2 (r.map eTApiKey) (.cur y0) ∧ h = [] ∧ k = [(2, y0)]) := by
  have hm := yes_of h0
  unfold r26_Put at hm
  clear h0
  refine enterX htab Try.func27 rfl rfl rfl rfl rfl (fun C => ?_)
  refine wpD_sr ?_
  refine p_box rfl rfl rfl rfl rfl rfl rfl (fun b1 => ?_)
  refine pu ?_
  refine ops_n2 ?_
  refine p_load (d := eTApiKey a1) 0 htab rfl rfl rfl rfl rfl rfl rfl rfl ?_
  obtain ⟨x2, q2, hm⟩ := yes_bind hm
  refine p_call0 (r26_Clean_ok a1 x2 q2) rfl rfl rfl rfl rfl Wl ?_
  rintro _ rfl
  refine pS0 (ds' := [.v (.string x2.gName), .v (.int .i64 x2.gNode)]) ?_
  refine ops_n2 ?_
  refine pu ?_
  refine ops_nt ?_
  refine wpD_seq ?_
  refine wpD_sr ?_
  refine pu ?_
  refine ops_nt ?_
  obtain ⟨y38, q38, ho38⟩ := yes_bind hm
  refine wpD_mid (Y := Value) (fun z38 => (⟨[(0, .lst 2 (a0.map eTApiKey) .no), (3, .ptr b1 0), (5, .lst 2 (y38.map eTApiKey) (.cur z38))], [(b1, Blk.cells [.v (.string x2.gName), .v (.int .i64 x2.gNode)] 34)], [(2, z38)]⟩ : S)) ?_ ?_
  ·clear hm; have hm := yes_of q38
   refine wpD_block ?_
   obtain ⟨u39, hl39, hq39⟩ := yes_m hm
   refine loop_M (Y := Value) hl39 (fun s39 z39 => (⟨[(0, .lst 2 (a0.map eTApiKey) .no), (3, .ptr b1 0), (5, .lst 2 (s39.1.map eTApiKey) (.cur z39)), (6, .v (.int .i64 s39.2))], [(b1, Blk.cells [.v (.string x2.gName), .v (.int .i64 x2.gNode)] 34)], [(2, z39)]⟩ : S)) ?_ ?_
   ·skip
    refine WkX.tokN (i := 5) 2 rfl (fun w62 => ?_)
    exact WkX.of w62 (WkS.perm (WkS.cons rfl (Wk.refl _) (WkS.cons rfl (Wk.refl _) (WkS.cons rfl (Wk.refl _) (WkS.cons rfl (Wk.refl _) (WkS.nil))))) Pf Pf)
   ·intro G39 s39 z39 hm
    refine wpD_seq ?_
    refine wpD_seq ?_
    obtain ⟨y66, q66, ho66⟩ := yes_bind hm
    refine wpD_mid (Y := Unit) (fun z66 => (⟨[(0, .lst 2 (a0.map eTApiKey) .no), (3, .ptr b1 0), (5, .lst 2 (s39.1.map eTApiKey) (.cur z39)), (6, .v (.int .i64 s39.2)), (22, .v (.bool y66))], [(b1, Blk.cells [.v (.string x2.gName), .v (.int .i64 x2.gNode)] 34)], [(2, z39)]⟩ : S)) ?_ ?_
    ·clear hm; have hm := yes_of q66
     refine bycB (decide (s39.2 < (a0.length : Int))) (fun hs67 => ?_) (fun hs67 => ?_)
     ·replace hm := yes_t hs67 hm
      obtain ⟨x68, q68, hm⟩ := yes_bind hm
      refine wpD_draws 10 [] [[],[],[1],[1],[1],[1],[1],[1,5],[1,5,7],[1]] [1,5,7,8,9] [[],[],[1],[0,1,2],[0,1,2,3],[0,1,2,3,4],[0,1,2,3,4],[0,1,2,3,4,5,6],[0,1,2,3,4,5,6,7],[0,1,2,3,4],[0,1,2,3,4,5,6,7,8,9],[0,1,2,3,4,5,6,7,8,9,10]] (by kernel_rfl) (by kernel_rfl) (by kernel_rfl) (by rfl) (by rfl) (by kernel_rfl) ?_
      iterate 5 apply Exists.intro
      intro bs
      refine zqp ?_
      refine zep ?_
      refine z_q rfl rfl (x_lenL htab rfl rfl rfl rfl (by first | exact map_len | rfl)) rfl rfl rfl rfl rfl rfl ?_
      refine zqp ?_
      refine zqp ?_
      refine z_known (j := 15) (b' := true) rfl hs67 ?_
      refine zep ?_
      refine zqp ?_
      refine z_e rfl rfl (x_elem htab rfl rfl rfl rfl rfl rfl rfl (idx_nonneg q68) (idx_map q68)) rfl rfl rfl rfl rfl rfl ?_
      refine z_eM rfl rfl (xm_loadEl (d := eTApiKey x68) htab rfl rfl rfl rfl rfl) rfl rfl rfl rfl rfl rfl ?_
      refine z_eM rfl rfl (xm_load (d := eTApiKey x2) 0 htab rfl rfl rfl rfl rfl) rfl rfl rfl rfl rfl rfl ?_
      refine z_nil rfl rfl (fun e he => by simp [isAl] at he) ?_
      obtain ⟨x69, q69, hm⟩ := yes_bind hm
      refine p_call0 (r26_Less_ok x68 x2 x69 q69) rfl rfl rfl rfl rfl Wl ?_
      rintro _ rfl
      refine p_pickT rfl rfl rfl rfl rfl rfl ?_
      refine ops_nil ?_
      have e66 := yes_eq hm; subst e66
      refine ⟨rfl, ?_⟩
      exact WkX.of () (WkS.perm (WkS.cons rfl (Wk.refl _) (WkS.cons rfl (Wk.refl _) (WkS.cons rfl (Wk.refl _) (WkS.cons rfl (Wk.refl _) (WkS.cons rfl (Wk.refl _) (WkS.nil)))))) Pf Pf)
     ·replace hm := yes_f hs67 hm
      refine wpD_draws 10 [] [[],[],[1],[1],[1],[1],[1],[1],[1],[1]] [1] [[],[],[1],[0,1,2],[0,1,2,3],[0,1,2,3,4],[0,1,2,3,4],[0,1,2,3,4,5,6],[0,1,2,3,4,5,6,7],[0,1,2,3,4],[0,1,2,3,4,5,6,7,8,9],[0,1,2,3,4,5,6,7,8,9,10]] (by kernel_rfl) (by kernel_rfl) (by kernel_rfl) (by rfl) (by rfl) (by kernel_rfl) ?_
      apply Exists.intro
      intro bs
      refine zqp ?_
      refine zep ?_
      refine z_q rfl rfl (x_lenL htab rfl rfl rfl rfl (by first | exact map_len | rfl)) rfl rfl rfl rfl rfl rfl ?_
      refine zqp ?_
      refine zqp ?_
      refine z_known (j := 15) (b' := false) rfl hs67 ?_
      iterate 5 refine zK ?_
      refine z_nil rfl rfl (fun e he => by simp [isAl] at he) ?_
      refine pK ?_
      refine p_pickF rfl rfl rfl rfl rfl rfl ?_
      refine ops_nil ?_
      have e66 := yes_eq hm; subst e66
      refine ⟨rfl, ?_⟩
      exact WkX.of () (WkS.perm (WkS.cons rfl (Wk.refl _) (WkS.cons rfl (Wk.refl _) (WkS.cons rfl (Wk.refl _) (WkS.cons rfl (Wk.refl _) (WkS.cons rfl (Wk.refl _) (WkS.nil)))))) Pf Pf)
    ·intro s66 hw66; clear hm; have hm := ho66; clear q66 ho66
     refine then_normal ?_
     refine wpD_wkX hw66 (fun z66 => ?_)
     refine wpD_cond rfl (fun hc70 => ?_) (fun hc70 => ?_)
     ·replace hm := yes_t hc70 hm
      refine wpD_skip ?_
      refine then_normal ?_
      refine wpD_seq ?_
      refine wpD_block ?_
      refine wpD_region ?_
      iterate 3 refine pu ?_
      obtain ⟨x71, q71, hm⟩ := yes_bind hm
      refine p_elem htab rfl rfl rfl rfl rfl rfl rfl rfl rfl rfl (idx_nonneg q71) (idx_map q71) ?_
      refine p_loadEl (d := eTApiKey x71) htab rfl rfl rfl rfl rfl rfl rfl rfl ?_
      refine p_lit htab rfl rfl rfl rfl rfl rfl rfl rfl rfl rfl rfl rfl rfl rfl ?_
      refine p_eq (i := 30) (d' := .lst 2 (([x71] : List TApiKey).map eTApiKey) .full) rfl (Wk.lst0 (.cons (WkC.refl _) (.nil))) ?_
      obtain ⟨x72, q72, hm⟩ := yes_bind hm
      refine p_appC 0 htab rfl rfl rfl rfl rfl rfl rfl rfl rfl rfl rfl rfl rfl rfl rfl rfl rfl (app_bound q72) (fun v72 => ?_)
      refine p_mapD (i := 31) q72 rfl ?_
      refine pu ?_
      refine ops_nil ?_
      refine block_normal ?_
      refine then_normal ?_
      refine wpD_region ?_
      iterate 3 refine pu ?_
      refine ops_nil ?_
      refine then_normal ⟨_, lp_next hm, ?_⟩
      exact WkX.of v72 (WkS.perm (WkS.cons rfl (Wk.refl _) (WkS.cons rfl (Wk.refl _) (WkS.cons rfl (Wk.refl _) (WkS.cons rfl (Wk.refl _) (WkS.nil))))) Pf Pf)
     ·replace hm := yes_f hc70 hm
      refine wpD_exit ?_
      refine then_exit ?_
      have e39 := lp_done hm; subst e39; clear hm; have hm := hq39
      refine then_exit ?_
      refine block_hit ?_
      have e38 := yes_eq hm; subst e38
      refine ⟨rfl, ?_⟩
      exact WkX.of z39 (WkS.perm (WkS.cons rfl (Wk.refl _) (WkS.cons rfl (Wk.refl _) (WkS.cons rfl (Wk.refl _) (WkS.nil)))) Pf Pf)
  ·intro s38 hw38; clear hm; have hm := ho38; clear q38 ho38
   refine then_normal ?_
   refine wpD_wkX hw38 (fun z38 => ?_)
   refine wpD_sr ?_
   refine pu ?_
   refine p_lenL htab rfl rfl rfl rfl rfl rfl rfl (by first | exact map_len | rfl) ?_
   refine pu ?_
   refine ops_n2 ?_
   refine pu ?_
   refine p_load (d := eTApiKey x2) 0 htab rfl rfl rfl rfl rfl rfl rfl rfl ?_
   refine p_lit htab rfl rfl rfl rfl rfl rfl rfl rfl rfl rfl rfl rfl rfl rfl ?_
   refine p_eq (i := 36) (d' := .lst 2 (([x2] : List TApiKey).map eTApiKey) .full) rfl (Wk.lst0 (.cons (WkC.refl _) (.nil))) ?_
   obtain ⟨x73, q73, hm⟩ := yes_bind hm
   refine p_appC 0 htab rfl rfl rfl rfl rfl rfl rfl rfl rfl rfl rfl rfl rfl rfl rfl rfl rfl (app_bound q73) (fun v73 => ?_)
   refine p_mapD (i := 37) q73 rfl ?_
   refine pu ?_
   refine ops_nt ?_
   refine wpD_seq ?_
   refine wpD_sr ?_
   refine pu ?_
   refine pu ?_
   refine ops_nt ?_
   obtain ⟨y93, q93, ho93⟩ := yes_bind hm
   refine wpD_mid (Y := Value) (fun z93 => (⟨[(5, .lst 2 (y93.map eTApiKey) (.cur z93))], [], [(2, z93)]⟩ : S)) ?_ ?_
   ·clear hm; have hm := yes_of q93
    refine wpD_block ?_
    obtain ⟨u94, hl94, hq94⟩ := yes_m hm
    refine loop_M (Y := Value) hl94 (fun s94 z94 => (⟨[(0, .lst 2 (a0.map eTApiKey) .no), (3, .ptr b1 0), (5, .lst 2 (s94.1.map eTApiKey) (.cur z94)), (8, .v (.int .i64 s94.2))], [(b1, Blk.cells [.v (.string x2.gName), .v (.int .i64 x2.gNode)] 34)], [(2, z94)]⟩ : S)) ?_ ?_
    ·skip
     exact WkX.of v73 (WkS.perm (WkS.cons rfl (Wk.refl _) (WkS.cons rfl (Wk.refl _) (WkS.cons rfl (Wk.refl _) (WkS.cons rfl (Wk.refl _) (WkS.nil))))) Pf Pf)
    ·intro G94 s94 z94 hm
     refine wpD_seq ?_
     refine wpD_sr ?_
     refine pu ?_
     refine pu ?_
     refine p_lenL htab rfl rfl rfl rfl rfl rfl rfl (by first | exact map_len | rfl) ?_
     refine pu ?_
     refine ops_nt ?_
     refine wpD_cond rfl (fun hc107 => ?_) (fun hc107 => ?_)
     ·replace hm := yes_t hc107 hm
      refine wpD_skip ?_
      refine then_normal ?_
      refine wpD_seq ?_
      refine wpD_block ?_
      refine wpD_seq ?_
      obtain ⟨x108, q108, hm⟩ := yes_bind hm
      refine wpD_draws 5 [] [[],[],[0],[0,2],[]] [0,2,3,4] [[],[],[0,1],[0,1,2],[],[0,1,2,3,4]] (by kernel_rfl) (by kernel_rfl) (by kernel_rfl) (by rfl) (by rfl) (by kernel_rfl) ?_
      iterate 4 apply Exists.intro
      intro bs
      refine zep ?_
      refine zqp ?_
      refine z_e rfl rfl (x_elem htab rfl rfl rfl rfl rfl rfl rfl (idx_nonneg q108) (idx_map q108)) rfl rfl rfl rfl rfl rfl ?_
      refine z_eM rfl rfl (xm_loadEl (d := eTApiKey x108) htab rfl rfl rfl rfl rfl) rfl rfl rfl rfl rfl rfl ?_
      refine z_eM rfl rfl (xm_load (d := eTApiKey x2) 0 htab rfl rfl rfl rfl rfl) rfl rfl rfl rfl rfl rfl ?_
      refine z_nil rfl rfl (fun e he => by simp [isAl] at he) ?_
      refine p_eqS htab rfl rfl rfl rfl rfl eqt34 rfl rfl rfl rfl rfl ?_
      refine ops_nt ?_
      refine wpD_cond rfl (fun hc109 => ?_) (fun hc109 => ?_)
      ·replace hm := yes_t hc109 hm
       refine wpD_region ?_
       iterate 3 refine pu ?_
       obtain ⟨x110, q110, hm⟩ := yes_bind hm
       refine p_elem htab rfl rfl rfl rfl rfl rfl rfl rfl rfl rfl (idx_nonneg q110) (idx_map q110) ?_
       refine p_loadEl (d := eTApiKey x110) htab rfl rfl rfl rfl rfl rfl rfl rfl ?_
       refine p_lit htab rfl rfl rfl rfl rfl rfl rfl rfl rfl rfl rfl rfl rfl rfl ?_
       refine p_eq (i := 56) (d' := .lst 2 (([x110] : List TApiKey).map eTApiKey) .full) rfl (Wk.lst0 (.cons (WkC.refl _) (.nil))) ?_
       obtain ⟨x111, q111, hm⟩ := yes_bind hm
       refine p_appC 0 htab rfl rfl rfl rfl rfl rfl rfl rfl rfl rfl rfl rfl rfl rfl rfl rfl rfl (app_bound q111) (fun v111 => ?_)
       refine p_mapD (i := 57) q111 rfl ?_
       refine pu ?_
       refine ops_nil ?_
       refine block_normal ?_
       refine then_normal ?_
       refine wpD_region ?_
       iterate 3 refine pu ?_
       refine ops_nil ?_
       refine then_normal ⟨_, lp_next hm, ?_⟩
       exact WkX.of v111 (WkS.perm (WkS.cons rfl (Wk.refl _) (WkS.cons rfl (Wk.refl _) (WkS.cons rfl (Wk.refl _) (WkS.cons rfl (Wk.refl _) (WkS.nil))))) Pf Pf)
      ·replace hm := yes_f hc109 hm
       refine wpD_skip ?_
       refine block_normal ?_
       refine then_normal ?_
       refine wpD_region ?_
       iterate 3 refine pu ?_
       refine ops_nil ?_
       refine then_normal ⟨_, lp_next hm, ?_⟩
       exact WkX.of z94 (WkS.perm (WkS.cons rfl (Wk.refl _) (WkS.cons rfl (Wk.refl _) (WkS.cons rfl (Wk.refl _) (WkS.cons rfl (Wk.refl _) (WkS.nil))))) Pf Pf)
     ·replace hm := yes_f hc107 hm
      refine wpD_exit ?_
      refine then_exit ?_
      have e94 := lp_done hm; subst e94; clear hm; have hm := hq94
      refine then_exit ?_
      refine block_hit ?_
      have e93 := yes_eq hm; subst e93
      refine ⟨rfl, ?_⟩
      exact WkX.of z94 (WkS.perm (WkS.cons rfl (Wk.refl _) (WkS.nil)) Pf Pf)
   ·intro s93 hw93; clear hm; have hm := ho93; clear q93 ho93
    refine then_normal ?_
    refine wpD_wkX hw93 (fun z93 => ?_)
    refine wpD_sr ?_
    refine pu ?_
    refine pu ?_
    refine ops_nt ?_
    refine wpD_ret ?_
    have er112 := yes_eq hm; subst er112
    refine rP (t' := [(4, .lst 2 (y93.map eTApiKey) (.cur z93))]) [] [0] 0 (wC wN) (lT lN) ?_
    exact ⟨z93, rfl, rfl, rfl⟩
noncomputable def r26_Row (a0 : List TApiKey) : Option (List TApiKey) :=
  (Option.bind (α := List TApiKey) (loopM (fun (s19 : List TApiKey × Int) => (bif (decide (s19.2 < (a0.length : Int))) then ((idx a0 s19.2).bind fun x32 => ((r26_Put s19.1 x32).bind fun x34 => some (.next (x34, (IntKind.i64.wrap (s19.2 + (1 : Int))))))) else some (.done s19.1))) (([] : List TApiKey), (0 : Int))) fun y18 => some y18)
set_option maxRecDepth 100000 in
set_option maxHeartbeats 2000000 in
theorem r26_Row_ok (a0 : List TApiKey) (r : List TApiKey) (h0 : r26_Row a0 = some r) : CallsD Try.prog 22 [.lst 2 (a0.map eTApiKey) .no] [] [] (fun d h k => ∃ y0, d = .lst 2 (r.map eTApiKey) (.cur y0) ∧ h = [] ∧ k = [(2, y0)]) := by
  have hm := yes_of h0
  unfold r26_Row at hm
  clear h0
  refine enterX htab Try.func22 rfl rfl rfl rfl rfl (fun C => ?_)
  refine wpD_sr ?_
  refine pu ?_
  refine ops_n2 ?_
  refine pu ?_
  refine ops_nt ?_
  refine wpD_seq ?_
  refine wpD_sr ?_
  refine pu ?_
  refine ops_nt ?_
  obtain ⟨y18, q18, ho18⟩ := yes_bind hm
  refine wpD_mid (Y := Value) (fun z18 => (⟨[(3, .lst 2 (y18.map eTApiKey) (.cur z18))], [], [(2, z18)]⟩ : S)) ?_ ?_
  ·clear hm; have hm := yes_of q18
   refine wpD_block ?_
   obtain ⟨u19, hl19, hq19⟩ := yes_m hm
   refine loop_M (Y := Value) hl19 (fun s19 z19 => (⟨[(0, .lst 2 (a0.map eTApiKey) .no), (3, .lst 2 (s19.1.map eTApiKey) (.cur z19)), (4, .v (.int .i64 s19.2))], [], [(2, z19)]⟩ : S)) ?_ ?_
   ·skip
    refine WkX.tokN (i := 3) 2 rfl (fun w30 => ?_)
    exact WkX.of w30 (WkS.perm (WkS.cons rfl (Wk.refl _) (WkS.cons rfl (Wk.refl _) (WkS.cons rfl (Wk.refl _) (WkS.nil)))) Pf Pf)
   ·intro G19 s19 z19 hm
    refine wpD_seq ?_
    refine wpD_sr ?_
    refine pu ?_
    refine pu ?_
    refine p_lenL htab rfl rfl rfl rfl rfl rfl rfl (by first | exact map_len | rfl) ?_
    refine pu ?_
    refine ops_nt ?_
    refine wpD_cond rfl (fun hc31 => ?_) (fun hc31 => ?_)
    ·replace hm := yes_t hc31 hm
     refine wpD_skip ?_
     refine then_normal ?_
     refine wpD_seq ?_
     refine wpD_block ?_
     refine wpD_region ?_
     iterate 3 refine pu ?_
     obtain ⟨x32, q32, hm⟩ := yes_bind hm
     refine p_elem htab rfl rfl rfl rfl rfl rfl rfl rfl rfl rfl (idx_nonneg q32) (idx_map q32) ?_
     refine p_loadEl (d := eTApiKey x32) htab rfl rfl rfl rfl rfl rfl rfl rfl ?_
     obtain ⟨x34, q34, hm⟩ := yes_bind hm
     refine p_callG (r26_Put_ok s19.1 x32 x34 q34) rfl rfl rfl rfl rfl (WkL.cons (Wk.no) (WkL.cons (Wk.refl _) Wl)) Pf Pf ?_
     rintro _ _ _ ⟨w33, rfl, rfl, rfl⟩
     refine pu ?_
     refine ops_nil ?_
     refine block_normal ?_
     refine then_normal ?_
     refine wpD_region ?_
     iterate 3 refine pu ?_
     refine ops_nil ?_
     refine then_normal ⟨_, lp_next hm, ?_⟩
     exact WkX.of w33 (WkS.perm (WkS.cons rfl (Wk.refl _) (WkS.cons rfl (Wk.refl _) (WkS.cons rfl (Wk.refl _) (WkS.nil)))) Pf Pf)
    ·replace hm := yes_f hc31 hm
     refine wpD_exit ?_
     refine then_exit ?_
     have e19 := lp_done hm; subst e19; clear hm; have hm := hq19
     refine then_exit ?_
     refine block_hit ?_
     have e18 := yes_eq hm; subst e18
     refine ⟨rfl, ?_⟩
     exact WkX.of z19 (WkS.perm (WkS.cons rfl (Wk.refl _) (WkS.nil)) Pf Pf)
  ·intro s18 hw18; clear hm; have hm := ho18; clear q18 ho18
   refine then_normal ?_
   refine wpD_wkX hw18 (fun z18 => ?_)
   refine wpD_sr ?_
   refine pu ?_
   refine pu ?_
   refine ops_nt ?_
   refine wpD_ret ?_
   have er35 := yes_eq hm; subst er35
   refine rP (t' := [(2, .lst 2 (y18.map eTApiKey) (.cur z18))]) [] [0] 0 (wC wN) (lT lN) ?_
   exact ⟨z18, rfl, rfl, rfl⟩
noncomputable def r23_Keys (a0 : List TApiKey) (a1 : List TApiKey) : Option (Bool) :=
  (bif ((a0.length : Int) != (a1.length : Int)) then some false else (Option.bind (α := (Unit) ⊕ (Bool)) (loopM (fun (s21 : Int) => (bif (decide (s21 < (a0.length : Int))) then ((idx a0 s21).bind fun x33 => ((idx a1 s21).bind fun x34 => (bif (!(decide (x33.gName = x34.gName) && (x33.gNode == x34.gNode && true))) then some (.done (.inr false)) else some (.next (IntKind.i64.wrap (s21 + (1 : Int))))))) else some (.done (.inl ())))) (0 : Int)) (Sum.elim (fun y20 => some true) (fun r => some r))))
set_option maxRecDepth 100000 in
set_option maxHeartbeats 2000000 in
theorem r23_Keys_ok (a0 : List TApiKey) (a1 : List TApiKey) (r : Bool) (h0 : r23_Keys a0 a1 = some r) : CallsD Try.prog 9 [.lst 2 (a0.map eTApiKey) .no, .lst 2 (a1.map eTApiKey) .no] [] [] (fun d h k => d = .v (.bool r) ∧ h = [] ∧ k = []) := by
  have hm := yes_of h0
  unfold r23_Keys at hm
  clear h0
  refine enterX htab Try.func9 rfl rfl rfl rfl rfl (fun C => ?_)
  refine wpD_sr ?_
  refine pu ?_
  refine ops_nt ?_
  refine wpD_seq ?_
  refine wpD_sr ?_
  refine pu ?_
  refine p_lenL htab rfl rfl rfl rfl rfl rfl rfl (by first | exact map_len | rfl) ?_
  refine pu ?_
  refine p_lenL htab rfl rfl rfl rfl rfl rfl rfl (by first | exact map_len | rfl) ?_
  refine pu ?_
  refine ops_nt ?_
  refine wpD_cond rfl (fun hc2 => ?_) (fun hc2 => ?_)
  ·replace hm := yes_t hc2 hm
   refine wpD_sr ?_
   refine pu ?_
   refine ops_nt ?_
   refine wpD_ret ?_
   refine then_ret ?_
   have er3 := yes_eq hm; subst er3
   refine rP (t' := [(4, .v (.bool false))]) [] [] 0 (wC wN) (lT lN) ?_
   exact ⟨rfl, rfl, rfl⟩
  ·replace hm := yes_f hc2 hm
   refine wpD_skip ?_
   refine then_normal ?_
   refine wpD_seq ?_
   refine wpD_sr ?_
   refine pu ?_
   refine ops_nt ?_
   obtain ⟨x20, q20, ho20⟩ := yes_bind hm
   refine wpD_midX (τ := Unit) (Y := Unit) (fun y20 z20 => (⟨[], [], []⟩ : S)) x20 ?_ ?_
   ·clear hm; have hm := yes_of q20
    refine wpD_block ?_
    obtain ⟨u21, hl21, hq21⟩ := yes_m hm
    refine loop_M (Y := Unit) hl21 (fun s21 z21 => (⟨[(0, .lst 2 (a0.map eTApiKey) .no), (1, .lst 2 (a1.map eTApiKey) .no), (5, .v (.int .i64 s21))], [], []⟩ : S)) ?_ ?_
    ·skip
     exact WkX.of () (WkS.perm (WkS.cons rfl (Wk.refl _) (WkS.cons rfl (Wk.refl _) (WkS.cons rfl (Wk.refl _) (WkS.nil)))) Pf Pf)
    ·intro G21 s21 z21 hm
     refine wpD_seq ?_
     refine wpD_sr ?_
     refine pu ?_
     refine pu ?_
     refine p_lenL htab rfl rfl rfl rfl rfl rfl rfl (by first | exact map_len | rfl) ?_
     refine pu ?_
     refine ops_nt ?_
     refine wpD_cond rfl (fun hc32 => ?_) (fun hc32 => ?_)
     ·replace hm := yes_t hc32 hm
      refine wpD_skip ?_
      refine then_normal ?_
      refine wpD_seq ?_
      refine wpD_block ?_
      refine wpD_seq ?_
      obtain ⟨x33, q33, hm⟩ := yes_bind hm
      obtain ⟨x34, q34, hm⟩ := yes_bind hm
      refine wpD_draws 8 [] [[],[],[0],[0,2],[],[],[4],[4,6]] [0,2,3,4,6,7] [[],[],[0,1],[0,1,2],[],[],[4,5],[4,5,6],[0,1,2,3,4,5,6,7]] (by kernel_rfl) (by kernel_rfl) (by kernel_rfl) (by rfl) (by rfl) (by kernel_rfl) ?_
      iterate 6 apply Exists.intro
      intro bs
      refine zep ?_
      refine zqp ?_
      refine z_e rfl rfl (x_elem htab rfl rfl rfl rfl rfl rfl rfl (idx_nonneg q33) (idx_map q33)) rfl rfl rfl rfl rfl rfl ?_
      refine z_eM rfl rfl (xm_loadEl (d := eTApiKey x33) htab rfl rfl rfl rfl rfl) rfl rfl rfl rfl rfl rfl ?_
      refine zep ?_
      refine zqp ?_
      refine z_e rfl rfl (x_elem htab rfl rfl rfl rfl rfl rfl rfl (idx_nonneg q34) (idx_map q34)) rfl rfl rfl rfl rfl rfl ?_
      refine z_eM rfl rfl (xm_loadEl (d := eTApiKey x34) htab rfl rfl rfl rfl rfl) rfl rfl rfl rfl rfl rfl ?_
      refine z_nil rfl rfl (fun e he => by simp [isAl] at he) ?_
      refine p_eqS htab rfl rfl rfl rfl rfl eqt34 rfl rfl rfl rfl rfl ?_
      refine ops_nt ?_
      refine wpD_cond rfl (fun hc35 => ?_) (fun hc35 => ?_)
      ·replace hm := yes_t hc35 hm
       refine wpD_sr ?_
       refine pu ?_
       refine ops_nt ?_
       refine wpD_ret ?_
       refine block_ret ?_
       refine then_ret ?_
       have e21 := lp_done hm; subst e21; clear hm; have hm := hq21
       refine then_ret ?_
       refine block_ret ?_
       have e20 := yes_eq hm; subst e20; refine midX_inr ?_; clear hm; have hm := ho20; simp only [Sum.elim_inr] at hm
       refine then_ret ?_
       have er36 := yes_eq hm; subst er36
       refine rP (t' := [(4, .v (.bool false))]) [] [] 0 (wC wN) (lT lN) ?_
       exact ⟨rfl, rfl, rfl⟩
      ·replace hm := yes_f hc35 hm
       refine wpD_skip ?_
       refine block_normal ?_
       refine then_normal ?_
       refine wpD_region ?_
       iterate 3 refine pu ?_
       refine ops_nil ?_
       refine then_normal ⟨_, lp_next hm, ?_⟩
       exact WkX.of () (WkS.perm (WkS.cons rfl (Wk.refl _) (WkS.cons rfl (Wk.refl _) (WkS.cons rfl (Wk.refl _) (WkS.nil)))) Pf Pf)
     ·replace hm := yes_f hc32 hm
      refine wpD_exit ?_
      refine then_exit ?_
      have e21 := lp_done hm; subst e21; clear hm; have hm := hq21
      refine then_exit ?_
      refine block_hit ?_
      have e20 := yes_eq hm; subst e20
      refine midX_inl ?_
      exact WkX.of () (WkS.perm (WkS.nil) Pf Pf)
   ·intro y20 s20 hx20 hw20; subst hx20; clear hm; have hm := ho20; simp only [Sum.elim_inl] at hm; clear q20 ho20
    refine then_normal ?_
    refine wpD_wkX hw20 (fun z20 => ?_)
    refine wpD_sr ?_
    refine pu ?_
    refine ops_nt ?_
    refine wpD_ret ?_
    have er37 := yes_eq hm; subst er37
    refine rP (t' := [(4, .v (.bool true))]) [] [] 0 (wC wN) (lT lN) ?_
    exact ⟨rfl, rfl, rfl⟩
def wfTApiKey (x : TApiKey) : Prop := x.gName.size ≤ maxLen ∧ (Lit.int .i64 x.gNode).wf = true
theorem goodTApiKey {n : Nat} {d : D} (g : GoodT tab n 34 d) : ∃ x : TApiKey, d = eTApiKey x ∧ wfTApiKey x := by
  obtain ⟨n', ds, _, rfl, hl, h⟩ := good_struct ti34 rfl g
  match ds, hl with
  | [d0, d1], _ =>
    obtain ⟨x1, rfl, w1⟩ := good_str ti9 rfl (h 0 _ _ rfl rfl)
    obtain ⟨x2, rfl, w2⟩ := good_int ti3 rfl (h 1 _ _ rfl rfl)
    exact ⟨⟨x1, x2⟩, rfl, w1, w2⟩
def wfL23 : List TApiKey → Prop := (fun y => (y.length ≤ maxLen ∧ ∀ z ∈ y, wfTApiKey z))
theorem goodL23 {n : Nat} {d : D} (g : GoodT tab n 23 d) : ∃ x : List TApiKey, d = .lst 2 (x.map eTApiKey) .no ∧ wfL23 x := by
  obtain ⟨n1, zs1, _, rfl, hl1, hz1⟩ := good_slice ti23 rfl ti34 (g)
  obtain ⟨x1, rfl, w1⟩ := good_list (f := eTApiKey) (K := (fun y => wfTApiKey y)) (p := fun x => GoodT tab n1 34 x) (fun x hx => by obtain ⟨x2, rfl, w2⟩ := goodTApiKey (hx); exact ⟨x2, rfl, w2⟩) zs1 hz1
  exact ⟨x1, rfl, ⟨by simpa using hl1, w1⟩⟩
end Go.Proofs.Ytpdekcfeecdlbaa.Ab
namespace Go.Proofs.Ytpdekcfeecdlbaa.Ab
open Go Go.RowKit Go.Shelf Go.Proofs Go.Proofs.Ytpdekcfeecdlbaa.Ab.Pq
set_option linter.all false
abbrev KL (H : Hp) (l : List TApiKey) (v : Value) : Prop := Rep H (.lst 2 (l.map eTApiKey) .no) v
abbrev PL (H : Hp) (l : List TSondageref29Pair) (v : Value) : Prop := Rep H (.lst 4 (l.map eTSondageref29Pair) .no) v
theorem rep_no {H : Hp} {k : Nat} {xs : List D} {c : Cap} {v : Value} (h : Rep H (.lst k xs c) v) : Rep H (.lst k xs .no) v := by
  obtain ⟨h1, h2⟩ := h
  refine ⟨?_, by cases v <;> simpa [D.shape] using h2⟩
  simp only [RepC] at h1 ⊢
  obtain ⟨y, g1, _, g3⟩ := h1
  exact ⟨y, g1, trivial, g3⟩
theorem rep_sl {H : Hp} {k : Nat} {xs : List D} {c : Cap} {v : Value} (h : Rep H (.lst k xs c) v) : ∃ a m, v = .slice a xs.length m := by
  obtain ⟨_, h⟩ := rep_lst_inv h
  rcases h with ⟨e, a, m, rfl, _⟩ | ⟨b, off, m, rfl, _, _⟩
  · exact ⟨a, m, by rw [e]; rfl⟩
  · exact ⟨_, m, rfl⟩
theorem rep_slm {α : Type} {f : α → D} {H : Hp} {k : Nat} {xs : List α} {c : Cap} {v : Value} (h : Rep H (.lst k (xs.map f) c) v) : ∃ a m, v = .slice a xs.length m := by
  obtain ⟨a, m, e⟩ := rep_sl h
  exact ⟨a, m, by rw [e, List.length_map]⟩
theorem core_tell {C : Ctx} {H : Hp} {h : List (Nat × Blk)} {W : World} {r : Nat} {l : List TApiKey} {z : Z3} (c : Core C H ((r, .row 2 (l.map eTApiKey) (SL z)) :: h) [] W) : ∃ H', H.le H' ∧ Core C H' h [] W ∧ KL H' l (SL z) := by
  obtain ⟨H', hle, c'⟩ := row_told c.ag (c.blks _ (List.mem_cons_self ..))
  have hto := rep_no (told_sl (c'.blks _ (List.mem_singleton.2 rfl)))
  have q := Core.call (h1 := [(r, .row 2 (l.map eTApiKey) (SL z))]) (h2 := h) (k1 := []) (k2 := []) c c'
  exact ⟨H', hle, q.drop (List.sublist_cons_self _ _) (List.nil_sublist _), hto⟩
theorem doc_calls {f : FuncId} {ds : List D} {us : Array Value} {kk : Nat} {xs : List D} (c : CallsD Try.prog f ds [] [] (fun d h k => ∃ y0, d = .lst kk xs (.cur y0) ∧ h = [] ∧ k = [(kk, y0)])) {C : Ctx} {H : Hp} {h : List (Nat × Blk)} {W : World} (cW : Core C H h [] W) (hv : RepsV H ds us.toList) :
    Calls Try.prog f us W fun e w' => ∃ H' v, e = .returned v ∧ H.le H' ∧ Core C H' h [] w' ∧ Rep H' (.lst kk xs .no) v := by
  refine (c.2 H W us.toList hv cW.ag (by simp) (by simp) (by simp [claims])).mono fun e w' ⟨v, H', d, h', k', he, hr, hc, y0, e1, e2, e3⟩ => ?_
  subst e1; subst e2; subst e3
  exact ⟨H', v, he, hc.le, (Core.call (h1 := []) (k1 := []) (k2 := []) cW hc).drop (List.Sublist.refl _) (List.nil_sublist _), rep_no hr⟩
theorem val_calls {f : FuncId} {ds : List D} {us : Array Value} {x : Value} (c : CallsD Try.prog f ds [] [] (fun d h k => d = .v x ∧ h = [] ∧ k = [])) {C : Ctx} {H : Hp} {h : List (Nat × Blk)} {W : World} (cW : Core C H h [] W) (hv : RepsV H ds us.toList) :
    Calls Try.prog f us W fun e w' => e = .returned x ∧ Core C H h [] w' :=
  (to_calls c cW.ag hv).mono fun e w' ⟨he, hb⟩ => ⟨he, Core.call (h1 := []) (k1 := []) cW (core_below0 cW.ag hb)⟩
theorem bel_calls {f : FuncId} {us : Array Value} {E : Ending} {C : Ctx} {H : Hp} {h : List (Nat × Blk)} {W : World} (cW : Core C H h [] W) (c : Calls Try.prog f us W fun e w' => e = E ∧ Below W.heap.size W w') :
    Calls Try.prog f us W fun e w' => e = E ∧ Core C H h [] w' :=
  c.mono fun e w' ⟨he, hb⟩ => ⟨he, Core.call (h1 := []) (k1 := []) cW (core_below0 cW.ag hb)⟩
theorem row_callsT {f : FuncId} {us : Array Value} {l : List TApiKey} {C : Ctx} {H : Hp} {h : List (Nat × Blk)} {W : World} (cW : Core C H h [] W) (c : Calls Try.prog f us W fun e w' => ∃ z : Z3, e = .returned (SL z) ∧ Core ⟨H, W, []⟩ H [(0, .row 2 (l.map eTApiKey) (SL z))] [] w') :
    Calls Try.prog f us W fun e w' => ∃ H' v, e = .returned v ∧ H.le H' ∧ Core C H' h [] w' ∧ KL H' l v :=
  c.mono fun e w' ⟨z, he, hc⟩ => by
    obtain ⟨H', hle, c', hk⟩ := core_tell (Core.call (h1 := []) (k1 := []) (k2 := []) cW hc)
    exact ⟨H', SL z, he, hle, c', hk⟩
end Go.Proofs.Ytpdekcfeecdlbaa.Ab
namespace Go.Proofs.Ytpdekcfeecdlbaa.Ab
open Go Go.Proofs.Ytpdekcfeecdlbaa.Ab.Pq
set_option linter.all false
abbrev Pr := TSondageref29Pair
def dP (p q : Pr) : Bool := (decide (p.gX.gName = q.gX.gName) && (p.gX.gNode == q.gX.gNode && true)) && ((decide (p.gY.gName = q.gY.gName) && (p.gY.gNode == q.gY.gNode && true)) && true)
theorem dK_iff {a b : TApiKey} : (decide (a.gName = b.gName) && (a.gNode == b.gNode && true)) = true ↔ a = b := by
  obtain ⟨a0, a1⟩ := a
  obtain ⟨b0, b1⟩ := b
  simp
theorem dK_dec (a b : TApiKey) : (decide (a.gName = b.gName) && (a.gNode == b.gNode && true)) = decide (a = b) := by
  rw [Bool.eq_iff_iff, dK_iff, decide_eq_true_iff]
theorem dP_iff {p q : Pr} : dP p q = true ↔ p = q := by
  obtain ⟨a, b⟩ := p
  obtain ⟨c, d⟩ := q
  unfold dP
  rw [dK_dec, dK_dec]
  simp
theorem rclean_eq (x : TApiKey) : r26_Clean x = some (clK x) := by
  obtain ⟨a, b⟩ := x
  unfold r26_Clean clK
  by_cases h : b < 0
  · rw [decide_eq_true h, cond_true]; congr 2; simp only; omega
  · rw [decide_eq_false h, cond_false]; congr 2; simp only; omega
theorem less_eq (x y : TApiKey) : r26_Less x y = some (ltK x y) := by
  unfold r26_Less ltK
  by_cases h : x.gName = y.gName
  · simp only [h, decide_true, Bool.not_true, cond_false, ltB_irr, Bool.false_or, Bool.true_and]
  · simp only [h, decide_false, Bool.not_false, cond_true, Bool.false_and, Bool.or_false]
theorem loop_tw {β : Type} {f : List β × Int → Option (Step (List β × Int) (List β))} (l : List β) (P : β → Bool)
    (h1 : ∀ p x q, l = p ++ x :: q → P x = true → f (p, (p.length : Int)) = some (.next (p ++ [x], ((p.length + 1 : Nat) : Int))))
    (h2 : ∀ p x q, l = p ++ x :: q → P x = false → f (p, (p.length : Int)) = some (.done p)) (h3 : f (l, (l.length : Int)) = some (.done l)) : loopM f ([], (0 : Int)) = some (l.takeWhile P) := by
  have key : ∀ q p : List β, l = p ++ q → loopM f (p, (p.length : Int)) = some (p ++ q.takeWhile P) := by
    intro q
    induction q with
    | nil => intro p e; rw [List.append_nil] at e; subst e; rw [loopM_done h3]; simp
    | cons x q ih =>
      intro p e
      cases hp : P x with
      | true =>
        rw [loopM_next (h1 p x q e hp)]
        have := ih (p ++ [x]) (by simp [e])
        simp only [List.length_append, List.length_cons, List.length_nil, Nat.zero_add] at this
        rw [this]; simp [List.takeWhile_cons, hp]
      | false => rw [loopM_done (h2 p x q e hp)]; simp [List.takeWhile_cons, hp]
  simpa using key l [] rfl
theorem loop_from {σ τ α β ρ : Type} {f : σ → Option (Step σ τ)} {s0 : σ} {k : τ → Option ρ} {r : Option ρ} {l p0 q0 : List β} (hl : l = p0 ++ q0) (g : List β → α) (st : α → Nat → σ) (fin : α → τ) (h0 : st (g []) p0.length = s0)
    (h1 : ∀ pre x post, q0 = pre ++ x :: post → f (st (g pre) (p0 ++ pre).length) = some (.next (st (g (pre ++ [x])) ((p0 ++ pre).length + 1))))
    (h2 : f (st (g q0) l.length) = some (.done (fin (g q0)))) (hk : k (fin (g q0)) = r) : Option.bind (loopM f s0) k = r := by
  refine loop_list q0 g (fun a n => st a (p0.length + n)) fin (by simpa using h0) (fun pre x post e => ?_) ?_ hk
  · have := h1 pre x post e
    rw [List.length_append, Nat.add_assoc] at this; exact this
  · have := h2
    rw [hl, List.length_append] at this; exact this
def putR (k : TApiKey) (l : List TApiKey) : List TApiKey := (l.takeWhile fun x => ltK x k) ++ [k] ++ (l.drop (l.takeWhile fun x => ltK x k).length).filter fun x => !decide (x = k)
theorem putR_eq (k : TApiKey) : ∀ l, Rise leK l → putR k l = insT ltK k l
  | [], _ => rfl
  | x :: l, h => by
    have hr := List.pairwise_cons.1 h
    have ih := putR_eq k l hr.2
    unfold putR at ih ⊢
    unfold insT
    cases hx : ltK x k with
    | true =>
      have hne : ¬ k = x := fun e => by subst e; rw [ltK_irr] at hx; cases hx
      have hnl : ¬ ltK k x = true := fun e => by have := ltK_tr hx e; rw [ltK_irr] at this; cases this
      rw [if_neg hne, if_neg hnl, ← ih]
      simp [List.takeWhile_cons, hx]
    | false =>
      have gt : ∀ y ∈ l, ltK x y = true := fun y hy => (leK_lt x y).2 (hr.1 y hy)
      have keep : ∀ (z : TApiKey), (∀ y ∈ l, ltK z y = true) → l.filter (fun y => !decide (y = z)) = l := fun z hz => List.filter_eq_self.2 fun y hy => by
        rw [Bool.not_eq_true', decide_eq_false_iff_not]
        intro e; subst e
        have := hz _ hy; rw [ltK_irr] at this; cases this
      by_cases hk : k = x
      · subst hk
        rw [if_pos rfl]
        simp [List.takeWhile_cons, hx, keep k gt]
      · have hkx : ltK k x = true := by
          rcases ltK_tot k x with q | q | q
          · exact q
          · exact absurd q hk
          · rw [hx] at q; cases q
        rw [if_neg hk, if_pos hkx]
        have := keep k (fun y hy => ltK_tr hkx (gt y hy))
        simp [List.takeWhile_cons, hx, List.filter_cons, show ¬ x = k from fun e => hk e.symm, this]
theorem tw_pre (P : TApiKey → Bool) : ∀ l : List TApiKey, l = l.takeWhile P ++ l.drop (l.takeWhile P).length
  | [] => rfl
  | x :: l => by
    have := tw_pre P l
    cases h : P x with
    | true => simp only [List.takeWhile_cons, h, if_true, List.cons_append, List.length_cons, List.drop_succ_cons]; rw [← this]
    | false => simp [List.takeWhile_cons, h]
theorem rput_eq {l : List TApiKey} (hr : Rise leK l) (k : TApiKey) (hb : l.length ≤ 4194303) : r26_Put l k = some (insT ltK (clK k) l) := by
  rw [← putR_eq _ _ hr]
  unfold r26_Put
  rw [rclean_eq, Option.bind_some]
  have hpl : ∀ {p : List TApiKey} {x q}, l = p ++ x :: q → p.length < l.length := fun e => by rw [e]; simp
  refine (congrArg (fun o => Option.bind o _) (loop_tw l (fun x => ltK x (clK k)) ?_ ?_ ?_)).trans ?_
  · intro p x q e hp
    rw [lt_pre e, cond_true, idx_pre2 e rfl, Option.bind_some, less_eq, Option.bind_some, Option.bind_some, hp, cond_true, Option.bind_some, app_len (by omega) (by have := hpl e; simp; omega), Option.bind_some, inc_pre e (by omega)]
  · intro p x q e hp
    rw [lt_pre e, cond_true, idx_pre2 e rfl, Option.bind_some, less_eq, Option.bind_some, Option.bind_some, hp, cond_false]
  · rw [lt_end, cond_false, Option.bind_some, cond_false]
  · rw [Option.bind_some]
    generalize hT : l.takeWhile (fun x => ltK x (clK k)) = T
    have hs : l = T ++ l.drop T.length := by rw [← hT]; exact tw_pre _ l
    have hTl : T.length ≤ l.length := by rw [hs]; simp
    have hd : (l.drop T.length).length ≤ l.length := by simp
    rw [app_len (by omega) (by simp; omega), Option.bind_some]
    refine loop_from hs (fun pre => T ++ [clK k] ++ pre.filter fun x => !decide (x = clK k)) (fun a n => (a, (n : Int))) (fun a => a) (by simp) (fun pre x post e => ?_) ?_ ?_
    · have hl2 : l = (T ++ pre) ++ x :: post := by rw [List.append_assoc, ← e]; exact hs
      have h1 := List.length_filter_le (fun x => !decide (x = clK k)) pre
      have h2 := hpl hl2
      simp only [List.length_append] at h2
      show (bif decide (((T ++ pre).length : Int) < (l.length : Int)) then _ else _) = _
      rw [lt_pre hl2, cond_true, idx_pre2 hl2 rfl, Option.bind_some, inc_pre hl2 (by omega), dK_dec]
      by_cases q : x = clK k
      · rw [decide_eq_true q, Bool.not_true, cond_false]
        simp [List.filter_append, q]
      · rw [decide_eq_false q, Bool.not_false, cond_true, Option.bind_some, app_len (by omega) (by simp; omega), Option.bind_some]
        simp [List.filter_append, q]
    · rw [lt_end, cond_false]
    · unfold putR; rw [hT]
theorem rrow_eq (l : List TApiKey) (hb : l.length ≤ 4194303) : r26_Row l = some (rowK l) := by
  unfold r26_Row
  refine loop_list l rowK (fun a n => (a, (n : Int))) (fun a => a) rfl (fun pre x post e => ?_) ?_ rfl
  · have h1 := (rowK_all pre).2.2
    have h2 : pre.length < l.length := by rw [e]; simp
    rw [lt_pre e, cond_true, idx_pre2 e rfl, Option.bind_some, rput_eq (rowK_all pre).1 x (by omega), Option.bind_some, inc_pre e (by omega), rowK_snoc]
  · rw [lt_end, cond_false]
def hasK (l : List TApiKey) (k : TApiKey) : Bool := l.any fun x => decide (clK x = clK k)
theorem hasK_iff {l : List TApiKey} (hl : ∀ x ∈ l, clK x = x) (k : TApiKey) : hasK l k = true ↔ clK k ∈ l := by
  unfold hasK
  rw [List.any_eq_true]
  constructor
  · rintro ⟨x, hx, e⟩
    rw [decide_eq_true_iff, hl x hx] at e
    rw [← e]; exact hx
  · intro h
    exact ⟨_, h, by rw [decide_eq_true_iff, clK_cl]⟩
def addP (ps : List Pr) (x y : TApiKey) : List Pr := (ps.filter fun p => !dP p ⟨x, y⟩) ++ [⟨x, y⟩]
theorem addP_mem {ps : List Pr} {x y : TApiKey} (p : Pr) : p ∈ addP ps x y ↔ p = ⟨x, y⟩ ∨ p ∈ ps := by
  unfold addP
  rw [List.mem_append, List.mem_filter, List.mem_singleton, Bool.not_eq_true']
  constructor
  · rintro (h | h)
    · exact .inr h.1
    · exact .inl h
  · rintro (h | h)
    · exact .inr h
    · by_cases q : dP p ⟨x, y⟩ = true
      · exact .inr (dP_iff.1 q)
      · exact .inl ⟨h, by simpa using q⟩
def dropP (ps : List Pr) (x : TApiKey) : List Pr := ps.filter fun p => !decide (p.gX = x) && !decide (p.gY = x)
def onP (ps : List Pr) (x : TApiKey) : List TApiKey := rowK ((ps.filter fun p => decide (p.gX = x)).map (·.gY))
theorem keys_same (l : List TApiKey) (hb : l.length ≤ 4611686018427387904) : r23_Keys l l = some true := by
  unfold r23_Keys
  have h0 : ((l.length : Int) != (l.length : Int)) = false := by simp
  rw [h0, cond_false]
  refine (congrArg (fun o => Option.bind o _) (loop_all (l := l) ?_ ?_)).trans rfl
  · intro p x q e
    rw [lt_pre e, cond_true, idx_pre2 e rfl, Option.bind_some, Option.bind_some, inc_pre e hb, dK_iff.2 rfl, Bool.not_true, cond_false]
  · rw [lt_end, cond_false]
end Go.Proofs.Ytpdekcfeecdlbaa.Ab
namespace Go.Proofs.Ytpdekcfeecdlbaa.Ab
open Go Go.Proofs.Ytpdekcfeecdlbaa.Ab.Pq
set_option linter.all false
def AllR (R : TApiKey → TApiKey → Prop) (l out : List TApiKey) : Prop := RowC out ∧ (∀ k ∈ l.map clK, k ∈ out) ∧ (∀ x ∈ out, ∀ y, R x y → y ∈ out) ∧ ∀ S : TApiKey → Prop, (∀ k ∈ l.map clK, S k) → (∀ x, S x → ∀ y, R x y → S y) → ∀ k ∈ out, S k
theorem AllR.unique {R : TApiKey → TApiKey → Prop} {l o1 o2 : List TApiKey} (h1 : AllR R l o1) (h2 : AllR R l o2) : o1 = o2 :=
  rise_unique leK_an h1.1.1 h2.1.1 fun x => ⟨h1.2.2.2 (· ∈ o2) h2.2.1 h2.2.2.1 x, h2.2.2.2 (· ∈ o1) h1.2.1 h1.2.2.1 x⟩
theorem AllR.congr {R R' : TApiKey → TApiKey → Prop} {l o : List TApiKey} (h : AllR R l o) (e : ∀ x y, R x y ↔ R' x y) : AllR R' l o :=
  ⟨h.1, h.2.1, fun x hx y hy => h.2.2.1 x hx y ((e x y).2 hy), fun S s1 s2 => h.2.2.2 S s1 fun x hx y hy => s2 x hx y ((e x y).1 hy)⟩
theorem AllP.toR {m : Tm} {l out : List TApiKey} (h : AllP m l out) : AllR (fun x y => y ∈ mgetD m x []) l out := h
def upR (ps : List Pr) (up : Bool) (x y : TApiKey) : Prop := if up = true then (⟨x, y⟩ : Pr) ∈ ps else (⟨y, x⟩ : Pr) ∈ ps
def fromP (up : Bool) (p : Pr) : TApiKey := bif up then p.gX else p.gY
def toP (up : Bool) (p : Pr) : TApiKey := bif up then p.gY else p.gX
theorem upR_iff {ps : List Pr} {up : Bool} {x y : TApiKey} : upR ps up x y ↔ ∃ p ∈ ps, fromP up p = x ∧ toP up p = y := by
  unfold upR fromP toP
  cases up
  · simp only [Bool.false_eq_true, if_false, cond_false]
    exact ⟨fun h => ⟨_, h, rfl, rfl⟩, fun ⟨p, h, e1, e2⟩ => by subst e1; subst e2; exact h⟩
  · simp only [if_true, cond_true]
    exact ⟨fun h => ⟨_, h, rfl, rfl⟩, fun ⟨p, h, e1, e2⟩ => by subst e1; subst e2; exact h⟩
def stA (up : Bool) (out : List TApiKey) (p : Pr) : List TApiKey := if hasK out (fromP up p) = true then insT ltK (clK (toP up p)) out else out
def rdA (up : Bool) (ps : List Pr) (out : List TApiKey) : List TApiKey := ps.foldl (stA up) out
def allA (up : Bool) (ps : List Pr) : Nat → List TApiKey → List TApiKey
  | 0, out => out
  | n + 1, out => if (rdA up ps out).length = out.length then rdA up ps out else allA up ps n (rdA up ps out)
def CP (ps : List Pr) : Prop := ∀ p ∈ ps, clK p.gX = p.gX ∧ clK p.gY = p.gY
theorem CP.to {ps : List Pr} (h : CP ps) (up : Bool) {p : Pr} (hp : p ∈ ps) : clK (toP up p) = toP up p ∧ clK (fromP up p) = fromP up p := by
  obtain ⟨a, b⟩ := h p hp
  cases up <;> exact ⟨by assumption, by assumption⟩
theorem stA_row {up : Bool} {out : List TApiKey} {p : Pr} (h : RowC out) : RowC (stA up out p) := by
  unfold stA
  split
  · exact rowC_ins h (clK_cl _)
  · exact h
theorem stA_sub {up : Bool} {out : List TApiKey} {p : Pr} : ∀ k ∈ out, k ∈ stA up out p := by
  intro k hk
  unfold stA
  split
  · exact (insT_mem ltK _ _ _).2 (.inr hk)
  · exact hk
theorem stA_new {up : Bool} {out : List TApiKey} {p : Pr} (h : RowC out) (hp : clK (toP up p) = toP up p ∧ clK (fromP up p) = fromP up p) {k : TApiKey} (hk : k ∈ stA up out p) : k ∈ out ∨ (k = toP up p ∧ fromP up p ∈ out) := by
  unfold stA at hk
  split at hk
  · rename_i hh
    rw [hasK_iff h.2, hp.2] at hh
    rcases (insT_mem ltK _ _ _).1 hk with e | e
    · rw [hp.1] at e; exact .inr ⟨e, hh⟩
    · exact .inl e
  · exact .inl hk
theorem stA_got {up : Bool} {out : List TApiKey} {p : Pr} (h : RowC out) (hp : clK (toP up p) = toP up p ∧ clK (fromP up p) = fromP up p) (hf : fromP up p ∈ out) : toP up p ∈ stA up out p := by
  unfold stA
  rw [if_pos ((hasK_iff h.2 _).2 (by rw [hp.2]; exact hf))]
  exact (insT_mem ltK _ _ _).2 (.inl hp.1.symm)
theorem rdA_all {up : Bool} : ∀ {ps : List Pr} {out : List TApiKey}, CP ps → RowC out → RowC (rdA up ps out) ∧ (∀ k ∈ out, k ∈ rdA up ps out) ∧ (∀ p ∈ ps, fromP up p ∈ out → toP up p ∈ rdA up ps out) ∧
    (∀ S : TApiKey → Prop, (∀ k ∈ out, S k) → (∀ p ∈ ps, S (fromP up p) → S (toP up p)) → ∀ k ∈ rdA up ps out, S k) ∧ ∀ k ∈ rdA up ps out, k ∈ out ∨ ∃ p ∈ ps, k = toP up p
  | [], out, _, h => ⟨h, fun k hk => hk, by simp, fun S s _ => s, fun k hk => .inl hk⟩
  | p :: ps, out, hc, h => by
    have hp := hc.to up (List.mem_cons_self ..)
    obtain ⟨i1, i2, i3, i4, i5⟩ := rdA_all (up := up) (ps := ps) (out := stA up out p) (fun q hq => hc q (List.mem_cons_of_mem _ hq)) (stA_row h)
    refine ⟨i1, fun k hk => i2 k (stA_sub k hk), fun q hq hf => ?_, fun S s1 s2 => ?_, fun k hk => ?_⟩
    · rcases List.mem_cons.1 hq with rfl | hq
      · exact i2 _ (stA_got h hp hf)
      · exact i3 q hq (stA_sub _ hf)
    · refine i4 S (fun k hk => ?_) fun q hq => s2 q (List.mem_cons_of_mem _ hq)
      rcases stA_new h hp hk with e | ⟨e, f⟩
      · exact s1 k e
      · subst e; exact s2 p (List.mem_cons_self ..) (s1 _ f)
    · rcases i5 k hk with e | ⟨q, hq, e⟩
      · rcases stA_new h hp e with e | ⟨e, _⟩
        · exact .inl e
        · exact .inr ⟨p, List.mem_cons_self .., e⟩
      · exact .inr ⟨q, List.mem_cons_of_mem _ hq, e⟩
theorem same_of_len {α : Type} [DecidableEq α] {l m : List α} (hl : l.Nodup) (hm : m.Nodup) (hs : ∀ x ∈ l, x ∈ m) (he : m.length ≤ l.length) : ∀ x ∈ m, x ∈ l := by
  intro x hx
  refine Decidable.byContradiction fun hn => ?_
  have := nodup_le (l := x :: l) (U := m) (List.nodup_cons.2 ⟨hn, hl⟩) (fun y hy => by
    rcases List.mem_cons.1 hy with rfl | hy
    · exact hx
    · exact hs y hy)
  simp at this; omega
theorem allA_all {up : Bool} {ps : List Pr} (hc : CP ps) (b : List TApiKey) : ∀ (n : Nat) (out : List TApiKey), RowC out → (∀ k ∈ out, k ∈ b ∨ ∃ p ∈ ps, k = toP up p) → b.length + ps.length ≤ out.length + n →
    RowC (allA up ps n out) ∧ (∀ k ∈ out, k ∈ allA up ps n out) ∧ (∀ p ∈ ps, fromP up p ∈ allA up ps n out → toP up p ∈ allA up ps n out) ∧
    (∀ S : TApiKey → Prop, (∀ k ∈ out, S k) → (∀ p ∈ ps, S (fromP up p) → S (toP up p)) → ∀ k ∈ allA up ps n out, S k)
  | 0, out, h, hb, hn => by
    refine ⟨h, fun k hk => hk, fun p hp _ => ?_, fun S s _ => s⟩
    change toP up p ∈ out
    refine Decidable.byContradiction fun hx => ?_
    have hq : ∀ k ∈ toP up p :: out, k ∈ b ++ ps.map (toP up) := by
      intro k hk
      rcases List.mem_cons.1 hk with rfl | hk
      · exact List.mem_append_right _ (List.mem_map.2 ⟨p, hp, rfl⟩)
      · rcases hb k hk with e | ⟨q, hq, e⟩
        · exact List.mem_append_left _ e
        · exact List.mem_append_right _ (List.mem_map.2 ⟨q, hq, e.symm⟩)
    have := nodup_le (List.nodup_cons.2 ⟨hx, rise_nodup h.1⟩) hq
    simp at this; omega
  | n + 1, out, h, hb, hn => by
    obtain ⟨i1, i2, i3, i4, i5⟩ := rdA_all (up := up) (ps := ps) (out := out) hc h
    unfold allA
    split
    · rename_i he
      have hs := same_of_len (rise_nodup h.1) (rise_nodup i1.1) i2 (by omega)
      exact ⟨i1, i2, fun p hp hf => i3 p hp (hs _ hf), i4⟩
    · rename_i he
      have hlt : out.length < (rdA up ps out).length := by
        have := nodup_le (rise_nodup h.1) i2
        omega
      obtain ⟨j1, j2, j3, j4⟩ := allA_all hc b n (rdA up ps out) i1 (fun k hk => by
        rcases i5 k hk with e | e
        · exact hb k e
        · exact .inr e) (by omega)
      exact ⟨j1, fun k hk => j2 k (i2 k hk), j3, fun S s1 s2 => j4 S (i4 S s1 s2) s2⟩
theorem allA_spec {ps : List Pr} (hc : CP ps) (l : List TApiKey) (up : Bool) : AllR (upR ps up) l (allA up ps ps.length (rowK l)) := by
  have hrow := rowK_all l
  obtain ⟨j1, j2, j3, j4⟩ := allA_all (up := up) hc (rowK l) ps.length (rowK l) (rowC_row l) (fun k hk => .inl hk) (Nat.le_refl _)
  refine ⟨j1, fun k hk => j2 k ((hrow.2.1 k).2 hk), fun x hx y hy => ?_, fun S s1 s2 => j4 S (fun k hk => s1 k ((hrow.2.1 k).1 hk)) fun p hp hf => s2 _ hf _ (upR_iff.2 ⟨p, hp, rfl, rfl⟩)⟩
  obtain ⟨p, hp, rfl, rfl⟩ := upR_iff.1 hy
  exact j3 p hp hx
structure WR (B : Nat) (ps : List Pr) (m1 m2 : Tm) : Prop where
  g1 : GoodM B m1
  g2 : GoodM B m2
  cp : CP ps
  on : ∀ x y, y ∈ mgetD m1 x [] ↔ (⟨x, y⟩ : Pr) ∈ ps
  of : ∀ x y, x ∈ mgetD m2 y [] ↔ (⟨x, y⟩ : Pr) ∈ ps
theorem WR.nil (B : Nat) : WR B [] [] [] := by
  have g : GoodM B [] := ⟨List.nodup_nil, fun k => ⟨⟨List.Pairwise.nil, by simp [mgetD, mget]⟩, Nat.zero_le _⟩⟩
  exact ⟨g, g, by simp [CP], by simp [mgetD, mget], by simp [mgetD, mget]⟩
theorem tieF_get (m : Tm) (x y k : TApiKey) : mgetD (tieF m x y) k [] = if k = x ∧ y ∉ mgetD m x [] then insT ltK y (mgetD m x []) else mgetD m k [] := by
  unfold tieF
  by_cases h : y ∈ mgetD m x []
  · rw [if_pos h, if_neg (fun q => q.2 h)]
  · rw [if_neg h, mgetD_put]
    by_cases q : k = x
    · rw [if_pos q, if_pos ⟨q, h⟩]
    · rw [if_neg q, if_neg (fun e => q e.1)]
theorem tieF_mem (m : Tm) (x y k z : TApiKey) : z ∈ mgetD (tieF m x y) k [] ↔ z ∈ mgetD m k [] ∨ (k = x ∧ z = y) := by
  rw [tieF_get]
  split
  · rename_i h
    obtain ⟨rfl, h⟩ := h
    rw [insT_mem]
    constructor
    · rintro (e | e)
      · exact .inr ⟨rfl, e⟩
      · exact .inl e
    · rintro (e | ⟨_, e⟩)
      · exact .inr e
      · exact .inl e
  · rename_i h
    constructor
    · exact .inl
    · rintro (e | ⟨rfl, rfl⟩)
      · exact e
      · exact Decidable.byContradiction fun q => h ⟨rfl, q⟩
theorem tieF_good {B : Nat} {m : Tm} (h : GoodM B m) {x y : TApiKey} (hy : clK y = y) : GoodM (B + 1) (tieF m x y) := by
  refine ⟨?_, fun k => ?_⟩
  · unfold tieF
    split
    · exact h.1
    · exact (mput_keys _ m x h.1).1
  · rw [tieF_get]
    split
    · exact ⟨rowC_ins (h.2 x).1 hy, by have := insT_len ltK y (mgetD m x []); have := (h.2 x).2; omega⟩
    · exact ⟨(h.2 k).1, Nat.le_succ_of_le (h.2 k).2⟩
theorem GoodM.mono {B B' : Nat} {m : Tm} (h : GoodM B m) (hb : B ≤ B') : GoodM B' m := ⟨h.1, fun k => ⟨(h.2 k).1, Nat.le_trans (h.2 k).2 hb⟩⟩
theorem WR.mono {B B' : Nat} {ps : List Pr} {m1 m2 : Tm} (h : WR B ps m1 m2) (hb : B ≤ B') : WR B' ps m1 m2 := ⟨h.g1.mono hb, h.g2.mono hb, h.cp, h.on, h.of⟩
theorem WR.add {B : Nat} {ps : List Pr} {m1 m2 : Tm} (h : WR B ps m1 m2) {x y : TApiKey} (hx : clK x = x) (hy : clK y = y) : WR (B + 1) (addP ps x y) (tieF m1 x y) (tieF m2 y x) := by
  refine ⟨tieF_good h.g1 hy, tieF_good h.g2 hx, fun p hp => ?_, fun a b => ?_, fun a b => ?_⟩
  · rcases (addP_mem p).1 hp with rfl | hp
    · exact ⟨hx, hy⟩
    · exact h.cp p hp
  · rw [tieF_mem, addP_mem, h.on, TSondageref29Pair.mk.injEq]
    exact Or.comm
  · rw [tieF_mem, addP_mem, h.of, TSondageref29Pair.mk.injEq]
    constructor
    · rintro (e | ⟨e, f⟩)
      · exact .inr e
      · exact .inl ⟨f, e⟩
    · rintro (⟨e, f⟩ | e)
      · exact .inr ⟨f, e⟩
      · exact .inl e
theorem WR.drop {B : Nat} {ps : List Pr} {m1 m2 : Tm} (h : WR B ps m1 m2) {x : TApiKey} (hx : clK x = x) : WR B (dropP ps x) (drop1 m1 m2 x) (drop2 m1 m2 x) := by
  have gq : GoodM B (dropM m1 m2 x) := cutM_good _ _ h.g2
  have hq : ∀ k z, z ∈ mgetD (dropM m1 m2 x) k [] ↔ (⟨z, k⟩ : Pr) ∈ ps ∧ ¬ z = x := by
    intro k z
    unfold dropM
    rw [cutM_mem _ _ _ _ h.g2, h.of, hx, h.on]
    constructor
    · rintro ⟨a, b⟩
      exact ⟨a, fun e => b ⟨by rw [← e]; exact a, e⟩⟩
    · rintro ⟨a, b⟩
      exact ⟨a, fun e => b e.2⟩
  have g1 : GoodM B (cutM m1 (mgetD (dropM m1 m2 x) x []) x) := cutM_good _ _ h.g1
  refine ⟨del_good g1 x, del_good gq x, fun p hp => h.cp p (List.mem_filter.1 hp).1, fun a b => ?_, fun a b => ?_⟩
  · unfold drop1 dropP
    rw [mgetD_del _ _ _ _ g1.1, List.mem_filter]
    split
    · rename_i e; subst e; simp
    · rename_i e
      rw [cutM_mem _ _ _ _ h.g1, h.on, hq, hx]
      constructor
      · rintro ⟨f, g⟩
        refine ⟨f, ?_⟩
        rw [Bool.and_eq_true, Bool.not_eq_true', Bool.not_eq_true', decide_eq_false_iff_not, decide_eq_false_iff_not]
        exact ⟨e, fun r => g ⟨⟨by rw [← r]; exact f, e⟩, r⟩⟩
      · rintro ⟨f, g⟩
        rw [Bool.and_eq_true, Bool.not_eq_true', Bool.not_eq_true', decide_eq_false_iff_not, decide_eq_false_iff_not] at g
        exact ⟨f, fun r => g.2 r.2⟩
  · unfold drop2 dropP
    rw [mgetD_del _ _ _ _ gq.1, List.mem_filter]
    split
    · rename_i e; subst e; simp
    · rename_i e
      rw [hq]
      constructor
      · rintro ⟨f, g⟩
        refine ⟨f, ?_⟩
        rw [Bool.and_eq_true, Bool.not_eq_true', Bool.not_eq_true', decide_eq_false_iff_not, decide_eq_false_iff_not]
        exact ⟨g, e⟩
      · rintro ⟨f, g⟩
        rw [Bool.and_eq_true, Bool.not_eq_true', Bool.not_eq_true', decide_eq_false_iff_not, decide_eq_false_iff_not] at g
        exact ⟨f, g.1⟩
theorem WR.onE {B : Nat} {ps : List Pr} {m1 m2 : Tm} (h : WR B ps m1 m2) (x : TApiKey) : mgetD m1 x [] = onP ps x := by
  refine rise_unique leK_an (h.g1.2 x).1.1 (rowK_all _).1 fun y => ?_
  unfold onP
  rw [h.on, (rowK_all _).2.1]
  constructor
  · intro e
    exact List.mem_map.2 ⟨y, List.mem_map.2 ⟨⟨x, y⟩, List.mem_filter.2 ⟨e, decide_eq_true rfl⟩, rfl⟩, (h.cp _ e).2⟩
  · intro e
    obtain ⟨z, hz, rfl⟩ := List.mem_map.1 e
    obtain ⟨p, hp, rfl⟩ := List.mem_map.1 hz
    obtain ⟨q1, q2⟩ := List.mem_filter.1 hp
    rw [decide_eq_true_iff] at q2
    subst q2
    rw [(h.cp _ q1).2]; exact q1
theorem flat_pairs : ∀ {m : Tm}, (m.map (·.1)).Nodup → (∀ p ∈ m, p.2.Nodup) → (m.flatMap fun p => p.2.map fun y => (p.1, y)).Nodup
  | [], _, _ => by simp
  | p :: m, hk, hr => by
    simp only [List.map_cons, List.nodup_cons] at hk
    rw [List.flatMap_cons, List.nodup_append]
    refine ⟨?_, flat_pairs hk.2 fun q hq => hr q (List.mem_cons_of_mem _ hq), ?_⟩
    · have := hr p (List.mem_cons_self ..)
      refine List.Pairwise.map _ (fun a b h => ?_) this
      intro e; exact h (Prod.mk.inj e).2
    · intro a ha b hb e
      subst e
      obtain ⟨y, _, rfl⟩ := List.mem_map.1 ha
      obtain ⟨q, hq, h2⟩ := List.mem_flatMap.1 hb
      obtain ⟨z, _, e⟩ := List.mem_map.1 h2
      exact hk.1 (List.mem_map.2 ⟨q, hq, (Prod.mk.inj e).1⟩)
theorem mgetD_at : ∀ {m : Tm}, (m.map (·.1)).Nodup → ∀ p ∈ m, mgetD m p.1 [] = p.2
  | [], _, p, hp => by simp at hp
  | (a, b) :: m, hk, p, hp => by
    simp only [List.map_cons, List.nodup_cons] at hk
    unfold mgetD mget
    rcases List.mem_cons.1 hp with rfl | hp
    · rw [if_pos rfl]; rfl
    · rw [if_neg (fun e => hk.1 (List.mem_map.2 ⟨p, hp, e.symm⟩))]
      exact mgetD_at hk.2 p hp
theorem flat_le {B : Nat} {m : Tm} (g : GoodM B m) (U : List (TApiKey × TApiKey)) (hU : ∀ x y, y ∈ mgetD m x [] → (x, y) ∈ U) : (m.flatMap (·.2)).length ≤ U.length := by
  have h1 := nodup_le (U := U) (flat_pairs g.1 fun p hp => by rw [← mgetD_at g.1 p hp]; exact rise_nodup (g.2 p.1).1.1) (fun q hq => by
    obtain ⟨p, hp, h2⟩ := List.mem_flatMap.1 hq
    obtain ⟨y, hy, rfl⟩ := List.mem_map.1 h2
    exact hU _ _ (by rw [mgetD_at g.1 p hp]; exact hy))
  have h2 : ∀ m : Tm, (m.flatMap fun p => p.2.map fun y => (p.1, y)).length = (m.flatMap (·.2)).length := by
    intro m
    induction m with
    | nil => rfl
    | cons p m ih => simp only [List.flatMap_cons, List.length_append, List.length_map, ih]
  rw [h2] at h1; exact h1
theorem WR.univ1 {B : Nat} {ps : List Pr} {m1 m2 : Tm} (h : WR B ps m1 m2) (l : List TApiKey) : (univ m1 l).length ≤ l.length + ps.length := by
  have := flat_le h.g1 (ps.map fun p => (p.gX, p.gY)) (fun x y hy => List.mem_map.2 ⟨⟨x, y⟩, (h.on x y).1 hy, rfl⟩)
  unfold univ; simp only [List.length_append, List.length_map] at this ⊢; omega
theorem WR.univ2 {B : Nat} {ps : List Pr} {m1 m2 : Tm} (h : WR B ps m1 m2) (l : List TApiKey) : (univ m2 l).length ≤ l.length + ps.length := by
  have := flat_le h.g2 (ps.map fun p => (p.gY, p.gX)) (fun y x hx => List.mem_map.2 ⟨⟨x, y⟩, (h.of x y).1 hx, rfl⟩)
  unfold univ; simp only [List.length_append, List.length_map] at this ⊢; omega
theorem WR.up {B : Nat} {ps : List Pr} {m1 m2 : Tm} (h : WR B ps m1 m2) {l out : List TApiKey} (a : AllP m1 l out) : AllR (upR ps true) l out := AllR.congr a.toR fun x y => by unfold upR; rw [if_pos rfl]; exact h.on x y
theorem WR.down {B : Nat} {ps : List Pr} {m1 m2 : Tm} (h : WR B ps m1 m2) {l out : List TApiKey} (a : AllP m2 l out) : AllR (upR ps false) l out := AllR.congr a.toR fun x y => by unfold upR; rw [if_neg (by simp)]; exact h.of y x
end Go.Proofs.Ytpdekcfeecdlbaa.Ab
namespace Go.Proofs.Ytpdekcfeecdlbaa.Ab
open Go Go.RowKit Go.Shelf Go.Proofs Go.Proofs.Ytpdekcfeecdlbaa.Ab.Pq
set_option linter.all false
theorem web_add {C : Ctx} {H : Hp} {z : YW} {W : World} {B : Nat} {ps : List Pr} (c : Core C H (webH z) [] W) (r : WR B ps (tieL z.e1) (tieL z.e2)) (hB : B < 4398046511104) (x y : TApiKey) :
    Calls Try.prog 19 #[.pointer (some ⟨z.p, 0, none⟩), encK x, encK y] W fun e w' => ∃ z' : YW, e = .returned (.tuple #[]) ∧ z'.p = z.p ∧ Core C H (webH z') [] w' ∧ WR (B + 1) (addP ps (clK x) (clK y)) (tieL z'.e1) (tieL z'.e2) := by
  have q1 := r.g1.2 (clK x)
  have q2 := r.g2.2 (clK y)
  rw [mgetL] at q1 q2
  refine (Add_calls H W c.ag z c.blks c.nd x y q1.1 (Nat.lt_of_le_of_lt q1.2 hB) q2.1 (Nat.lt_of_le_of_lt q2.2 hB)).mono ?_
  rintro e w' ⟨e1, e2, he, hc, h1, h2⟩
  refine ⟨⟨z.p, z.b1, z.b2, z.T, e1, e2⟩, he, rfl, ?_, ?_⟩
  · have := Core.call (h2 := []) (k1 := []) (k2 := []) (by rw [List.append_nil]; exact c) hc
    simpa using this
  · rw [h1, h2]; exact r.add (clK_cl x) (clK_cl y)
theorem web_on {C : Ctx} {H : Hp} {z : YW} {W : World} {B : Nat} {ps : List Pr} (c : Core C H (webH z) [] W) (r : WR B ps (tieL z.e1) (tieL z.e2)) (hB : B < 4398046511104) (x : TApiKey) :
    Calls Try.prog 14 #[.pointer (some ⟨z.p, 0, none⟩), encK x] W fun e w' => ∃ H' v, e = .returned v ∧ H.le H' ∧ Core C H' (webH z) [] w' ∧ KL H' (onP ps (clK x)) v := by
  have q1 := r.g1.2 (clK x)
  have q2 := r.onE (clK x)
  rw [mgetL] at q1 q2
  rw [← q2]
  exact row_callsT c (On_calls H W c.ag z c.blks x (Nat.lt_of_le_of_lt q1.2 hB))
theorem web_below {C : Ctx} {H : Hp} {z : YW} {W : World} {B : Nat} {ps : List Pr} (c : Core C H (webH z) [] W) (r : WR B ps (tieL z.e1) (tieL z.e2)) {l : List TApiKey} {v : Value} (hv : KL H l v) (hl : l.length + ps.length < 4398046511104) :
    Calls Try.prog 10 #[.pointer (some ⟨z.p, 0, none⟩), v] W fun e w' => ∃ H' v' out, e = .returned v' ∧ H.le H' ∧ Core C H' (webH z) [] w' ∧ KL H' out v' ∧ AllR (upR ps false) l out := by
  refine (Below_calls H W c.ag z c.blks l v (slk_told c.ag hv) (fun x => (r.g2.2 x).1) (Nat.lt_of_le_of_lt (r.univ2 l) hl)).mono ?_
  rintro e w' ⟨out, y, rfl, hc, hp⟩
  obtain ⟨H', hle, c', hk⟩ := core_tell (Core.call (h1 := []) (k1 := []) (k2 := []) c hc)
  exact ⟨H', _, out, rfl, hle, c', hk, r.down hp⟩
theorem web_above {C : Ctx} {H : Hp} {z : YW} {W : World} {B : Nat} {ps : List Pr} (c : Core C H (webH z) [] W) (r : WR B ps (tieL z.e1) (tieL z.e2)) {l : List TApiKey} {v : Value} (hv : KL H l v) (hl : l.length + ps.length < 4398046511104) :
    Calls Try.prog 12 #[.pointer (some ⟨z.p, 0, none⟩), v] W fun e w' => ∃ H' v' out, e = .returned v' ∧ H.le H' ∧ Core C H' (webH z) [] w' ∧ KL H' out v' ∧ AllR (upR ps true) l out := by
  refine (Above_calls H W c.ag z c.blks l v (slk_told c.ag hv) (fun x => (r.g1.2 x).1) (Nat.lt_of_le_of_lt (r.univ1 l) hl)).mono ?_
  rintro e w' ⟨out, y, rfl, hc, hp⟩
  obtain ⟨H', hle, c', hk⟩ := core_tell (Core.call (h1 := []) (k1 := []) (k2 := []) c hc)
  exact ⟨H', _, out, rfl, hle, c', hk, r.up hp⟩
end Go.Proofs.Ytpdekcfeecdlbaa.Ab
namespace Go.Proofs.Ytpdekcfeecdlbaa.Ab
open Go Go.RowKit Go.Shelf Go.Proofs Go.Proofs.Ytpdekcfeecdlbaa.Ab.Pq
set_option linter.all false
def kA : TApiKey := ⟨ByteArray.mk #[97], 0⟩
def kB : TApiKey := ⟨ByteArray.mk #[98], -1⟩
theorem kA_cl : clK kA = kA := rfl
theorem kB_cl : clK kB = kB := rfl
theorem lives_add : addP [] (clK kB) (clK kA) = [⟨kB, kA⟩] := rfl
theorem lives_cp : CP [⟨kB, kA⟩] := fun p hp => by simp at hp; subst hp; exact ⟨kB_cl, kA_cl⟩
theorem lives_below {out : List TApiKey} (h : AllR (upR [⟨kB, kA⟩] false) [kA] out) : out = [kA, kB] :=
  (h.unique (allA_spec lives_cp [kA] false)).trans (by kernel_rfl)
theorem lives_above {out : List TApiKey} (h : AllR (upR [⟨kB, kA⟩] true) [kA] out) : out = [kA] :=
  (h.unique (allA_spec lives_cp [kA] true)).trans (by kernel_rfl)
theorem lives_on : onP [⟨kB, kA⟩] (clK kB) = [kA] := by kernel_rfl
theorem kl_cells {H : Hp} {W : World} (hA : Ag H W) {l : List TApiKey} {a : Option Addr} {n m : Nat} (h : KL H l (.slice a n m)) {i : Nat} {x : TApiKey} (hx : l[i]? = some x) :
    ∃ b off, a = some ⟨b, off, none⟩ ∧ W.cell? ⟨b, off + i * 2, none⟩ = some (.string x.gName) ∧ W.cell? ⟨b, off + i * 2 + 1, none⟩ = some (.int .i64 x.gNode) := by
  obtain ⟨a', cap, e1, e2⟩ := slk_told hA h
  simp only [Value.slice.injEq] at e1
  obtain ⟨rfl, _, _⟩ := e1
  obtain ⟨b, off, e, _, g3, g4⟩ := e2 i x hx
  exact ⟨b, off, e, g3, g4⟩
theorem tell_key {C : Ctx} {H : Hp} {h : List (Nat × Blk)} {W : World} (c : Core C H h [] W) (x : TApiKey) (T : TypeId) : ∃ H', H.le H' ∧ Core C H' h [] (W.alloc (.cells #[.string x.gName, .int .i64 x.gNode] T)) ∧ Told H' W.heap.size 0 (kc2 x) :=
  ⟨_, c.allocTold (us := kc2 x) (vs := kc2 x) T (fun _ _ e => e)⟩
theorem told_box {H : Hp} {W : World} {b : Nat} {x : TApiKey} (hA : Ag H W) (h : Told H b 0 (kc2 x)) : W.cell? ⟨b, 0, none⟩ = some (.string x.gName) ∧ W.cell? ⟨b, 1, none⟩ = some (.int .i64 x.gNode) :=
  ⟨hA _ _ (h 0 _ rfl), hA _ _ (h 1 _ rfl)⟩
theorem told_one {H : Hp} {b : Nat} {x : TApiKey} (h : Told H b 0 (kc2 x)) : KL H [x] (.slice (some ⟨b, 0, none⟩) 1 1) := by
  refine ⟨?_, rfl⟩
  have hr : Reps H ((kc2 x).map .v) (kc2 x) := reps_v H (kc2 x) rfl
  show RepC H (.lst 2 [eTApiKey x] .no) _
  simp only [RepC, Value.cells]
  refine ⟨_, rfl, trivial, .inr ⟨b, 0, 1, rfl, Nat.le_refl _, ?_⟩⟩
  simp only [Els]
  exact ⟨⟨kc2 x, rfl, by show RepC H (.agg ((kc2 x).map .v)) _; simpa only [RepC] using hr, h, by simp [kc2, one]⟩, trivial⟩
set_option maxRecDepth 100000 in
set_option maxHeartbeats 1000000 in
theorem lives_calls (H : Hp) (w : World) (hA : Ag H w) : Calls Try.prog 13 #[] w fun e w' => e = .returned (.bool true) ∧ Below w.heap.size w w' := by
  have mixed : Try.prog.follows .mixedOrders = true := by kernel_rfl
  have hnew := New_calls H w hA
  go_enter Try.func13, Try.ntmps13
  go_wp2_with fail
  refine hnew.mono ?_
  rintro e W1 ⟨z, rfl, c1, hz1, hz2⟩
  clear hnew
  obtain ⟨H2, l2, c2, t2⟩ := tell_key c1 kA 34
  obtain ⟨H3, l3, c3, t3⟩ := tell_key c2 kB 34
  obtain ⟨W3, hW3⟩ : ∃ W3, W3 = (W1.alloc (.cells #[.string kA.gName, .int .i64 kA.gNode] 34)).alloc (.cells #[.string kB.gName, .int .i64 kB.gNode] 34) := ⟨_, rfl⟩
  rw [← hW3] at c3
  have hs2 : (W1.alloc (.cells #[.string kA.gName, .int .i64 kA.gNode] 34)).heap.size = W1.heap.size + 1 := by simp
  rw [hs2] at t3
  replace t2 := t2.mono l3
  have r1 : WR 0 [] (tieL z.e1) (tieL z.e2) := by rw [hz1, hz2]; exact WR.nil 0
  have hadd := web_add c3 r1 (by omega) kB kA
  rw [lives_add] at hadd
  simp only [encK, kA, kB] at hadd hW3
  go_wp2_with fail
  rw [← hW3]
  refine hadd.mono ?_
  rintro e W4 ⟨z4, rfl, hp4, c4, r4⟩
  clear hadd hW3 hs2 hz1 hz2 c2 l2 c1
  obtain ⟨a0, a1⟩ := told_box c4.ag t2
  obtain ⟨b0, b1⟩ := told_box c4.ag t3
  simp only [kA, kB] at a0 a1 b0 b1
  obtain ⟨H5, l5, c5, t5⟩ := tell_key c4 kA 34
  have hbel := web_below c5 r4 (told_one t5) (by simp only [List.length_cons, List.length_nil]; omega)
  rw [hp4] at hbel
  simp only [kA] at hbel
  go_wp2_with fail
  refine hbel.mono ?_
  rintro e W6 ⟨H6, v6, out, rfl, l6, c6, k6, hall⟩
  have hout := lives_below hall
  subst hout
  clear hbel hall a0 a1 b0 b1
  obtain ⟨va, vm, rfl⟩ := rep_slm k6
  simp only [List.length_cons, List.length_nil] at k6 ⊢
  obtain ⟨vb, vo, rfl, q0, q1⟩ := kl_cells c6.ag k6 (i := 1) (x := kB) rfl
  obtain ⟨a0, a1⟩ := told_box c6.ag (((t2.mono l5).mono l6))
  obtain ⟨b0, b1⟩ := told_box c6.ag (((t3.mono l5).mono l6))
  obtain ⟨H7, l7, c7, t7⟩ := tell_key (Core.drew c6) kA 34
  have habv : Calls Try.prog 12 #[.pointer (some ⟨z4.p, 0, none⟩), .slice (some ⟨W6.heap.size, 0, none⟩) 1 1] (W6.drew.alloc (.cells #[.string kA.gName, .int .i64 kA.gNode] 34)) fun e w' => ∃ H' v' out, e = .returned v' ∧ H7.le H' ∧ Core ⟨H, w, []⟩ H' (webH z4) [] w' ∧ KL H' out v' ∧ AllR (upR [⟨kB, kA⟩] true) [kA] out :=
    web_above c7 r4 (told_one t7) (by simp only [List.length_cons, List.length_nil]; omega)
  have heq : ∀ WW : World, (binOp .eql 34 (.agg #[.string kB.gName, .int .i64 kB.gNode]) (.agg #[.string kB.gName, .int .i64 kB.gNode])).run Try.prog WW = .ok (.bool true) WW := fun WW => by kernel_rfl
  rw [hp4] at habv
  simp only [kA, kB] at q0 q1 a0 a1 b0 b1 habv heq
  go_wp2_with fail
  go_region_with_o (first
    | (go_at_call 12
       refine habv.mono ?_
       rintro e W8 ⟨H8, v8, out8, rfl, l8, c8, k8, hall8⟩
       have hout8 := lives_above hall8
       subst hout8
       obtain ⟨vc, vn, rfl⟩ := rep_slm k8
       simp only [List.length_cons, List.length_nil]
       obtain ⟨b2, b3⟩ := told_box c8.ag ((((t3.mono l5).mono l6).mono l7).mono l8)
       have hon := web_on c8 r4 (by omega) kB
       rw [hp4] at hon
       simp only [encK, kB] at hon b2 b3)
    | (go_at_call 14
       refine hon.mono ?_
       rintro e W9 ⟨H9, v9, rfl, l9, c9, k9⟩
       have k9' : KL H9 (onP [⟨kB, kA⟩] (clK kB)) v9 := k9
       rw [lives_on] at k9'
       obtain ⟨vd, vm9, rfl⟩ := rep_slm k9'
       simp only [List.length_cons, List.length_nil]))
  all_goals
    go_wp2
    go_ret
    exact ⟨rfl, below_core (c9.drop (List.nil_sublist _) (List.Sublist.refl _))⟩
end Go.Proofs.Ytpdekcfeecdlbaa.Ab
namespace Go.Proofs.Ytpdekcfeecdlbaa.Ab
open Go Go.RowKit Go.Shelf Go.Proofs Go.Proofs.Ytpdekcfeecdlbaa.Ab.Pq
set_option linter.all false
theorem KL.mono {H H' : Hp} {l : List TApiKey} {v : Value} (h : H.le H') (k : KL H l v) : KL H' l v := Rep.mono h k
theorem PL.mono {H H' : Hp} {l : List TSondageref29Pair} {v : Value} (k : PL H l v) (h : H.le H') : PL H' l v := Rep.mono h k
theorem doc_keys {C : Ctx} {H : Hp} {h : List (Nat × Blk)} {W : World} (c : Core C H h [] W) {l : List TApiKey} {u v : Value} (hu : KL H l u) (hv : KL H l v) (h1 : l.length ≤ 4611686018427387904) :
    Calls Try.prog 9 #[u, v] W fun e w' => e = .returned (.bool true) ∧ Core C H h [] w' :=
  val_calls (r23_Keys_ok l l true (keys_same l h1)) c (by simp only [RepsV]; exact ⟨_, _, rfl, hu, _, _, rfl, hv, rfl⟩)
theorem AllR.len {ps : List Pr} {up : Bool} (hc : CP ps) {l out : List TApiKey} (h : AllR (upR ps up) l out) : out.length ≤ l.length + ps.length := by
  rw [h.unique (allA_spec hc l up)]
  have := allA_all (up := up) hc (rowK l) ps.length (rowK l) (rowC_row l) (fun k hk => .inl hk) (Nat.le_refl _)
  have h2 := nodup_le (U := l.map clK ++ ps.map (toP up)) (rise_nodup (allA_spec hc l up).1.1) (fun k hk => by
    refine (allA_spec hc l up).2.2.2 (· ∈ l.map clK ++ ps.map (toP up)) (fun k hk => List.mem_append_left _ hk) (fun x _ y hy => ?_) k hk
    obtain ⟨p, hp, _, rfl⟩ := upR_iff.1 hy
    exact List.mem_append_right _ (List.mem_map.2 ⟨p, hp, rfl⟩))
  simpa using h2
end Go.Proofs.Ytpdekcfeecdlbaa.Ab
namespace Go.Proofs.Ytpdekcfeecdlbaa.Ab
open Go Go.RowKit Go.Shelf Go.Proofs Go.Proofs.Ytpdekcfeecdlbaa.Ab.Pq
set_option linter.all false
theorem doc_row {C : Ctx} {H : Hp} {h : List (Nat × Blk)} {W : World} (c : Core C H h [] W) {l : List TApiKey} {u : Value} (hu : KL H l u) (h1 : l.length ≤ 4194303) :
    Calls Try.prog 22 #[u] W fun e w' => ∃ H' v', e = .returned v' ∧ H.le H' ∧ Core C H' h [] w' ∧ KL H' (rowK l) v' :=
  doc_calls (r26_Row_ok l _ (rrow_eq l h1)) c (by simp only [RepsV]; exact ⟨_, _, rfl, hu, rfl⟩)
set_option maxRecDepth 100000 in
set_option maxHeartbeats 8000000 in
theorem WebNone_D (x y : TApiKey) (l : List TApiKey) (h2 : l.length ≤ 1048576) :
    CallsD Try.prog 6 [eTApiKey x, eTApiKey y, .lst 2 (l.map eTApiKey) .no] [] [] (fun d h k => d = .v (.bool true) ∧ h = [] ∧ k = []) := by
  refine ⟨⟨_, Try.func6, rfl, rfl⟩, fun H w vs hv hA _ _ _ => ?_⟩
  simp only [RepsV] at hv
  obtain ⟨u1, _, rfl, g1, u3, _, rfl, g3, u2, _, rfl, g2, rfl⟩ := hv
  obtain rfl : u1 = encK x := rep_va_inv (us := kc2 x) g1
  obtain rfl : u3 = encK y := rep_va_inv (us := kc2 y) g3
  replace g2 : KL H l u2 := g2
  clear g1 g3
  have mixed : Try.prog.follows .mixedOrders = true := by kernel_rfl
  suffices hs : Calls Try.prog 6 #[encK x, encK y, u2] w fun e w' => e = .returned (.bool true) ∧ Below w.heap.size w w' from
    hs.mono fun e w' ⟨he, hb⟩ => ⟨_, H, .v (.bool true), [], [], he, rep_v rfl, core_below0 hA hb, rfl, rfl, rfl⟩
  obtain ⟨H1, l1, c1, t1⟩ := tell_key (Core.here hA) x 34
  obtain ⟨H2, l2, c2, t2⟩ := tell_key c1 y 34
  obtain ⟨W2, hW2⟩ : ∃ W2, W2 = (w.alloc (.cells #[.string x.gName, .int .i64 x.gNode] 34)).alloc (.cells #[.string y.gName, .int .i64 y.gNode] 34) := ⟨_, rfl⟩
  have hs2 : (w.alloc (.cells #[.string x.gName, .int .i64 x.gNode] 34)).heap.size = w.heap.size + 1 := by simp
  rw [← hW2] at c2
  rw [hs2] at t2
  replace t1 := t1.mono l2
  replace g2 := KL.mono (Hp.le_trans l1 l2) g2
  clear c1 l1 hs2
  obtain ⟨wa, wm, rfl⟩ := rep_slm g2
  obtain ⟨a0, a1⟩ := told_box c2.ag t1
  obtain ⟨b0, b1⟩ := told_box c2.ag t2
  have hadd := bel_calls c2 (Add_nil x y W2)
  simp only [encK] at hadd ⊢
  go_enter Try.func6, Try.ntmps6
  go_wp2_with fail
  rw [← hW2]
  clear hW2
  go_wp2_with fail
  refine hadd.mono ?_
  rintro e W3 ⟨rfl, c3⟩
  clear hadd a0 a1 b0 b1
  obtain ⟨a0, a1⟩ := told_box c3.ag t1
  obtain ⟨b0, b1⟩ := told_box c3.ag t2
  have hdrop := bel_calls c3 (Drop_nil x W3)
  simp only [encK] at hdrop
  go_wp2_with fail
  refine hdrop.mono ?_
  rintro e W4 ⟨rfl, c4⟩
  clear hdrop a0 a1 b0 b1
  have hclr := bel_calls c4 (Clear_nil W4)
  go_wp2_with fail
  refine hclr.mono ?_
  rintro e W5 ⟨rfl, c5⟩
  clear hclr
  obtain ⟨a0, a1⟩ := told_box c5.ag t1
  have hon := bel_calls c5 (On_nil x W5)
  simp only [encK] at hon
  go_wp2_with fail
  refine hon.mono ?_
  rintro e W6 ⟨rfl, c6⟩
  clear hon a0 a1
  obtain ⟨b0, b1⟩ := told_box c6.ag t2
  have hof := bel_calls c6 (Of_nil y W6)
  simp only [encK] at hof
  go_wp2_with fail
  refine hof.mono ?_
  rintro e W7 ⟨rfl, c7⟩
  clear hof b0 b1
  have hbel := row_callsT c7 (Below_nil _ W7 c7.ag l _ (slk_told c7.ag g2) (by omega))
  go_wp2_with fail
  refine hbel.mono ?_
  rintro e W8 ⟨H8, v8, rfl, l8, c8, k8⟩
  clear hbel
  have hdoc := doc_row c8 (KL.mono l8 g2) (by omega)
  obtain ⟨xa, xm, rfl⟩ := rep_slm k8
  go_wp2_with fail
  refine hdoc.mono ?_
  rintro e W9 ⟨H9, v9, rfl, l9, c9, k9⟩
  clear hdoc
  have hrl := (rowK_all l).2.2
  have hky := doc_keys c9 (KL.mono l9 k8) k9 (by omega)
  obtain ⟨ya, ym, rfl⟩ := rep_slm k9
  go_wp2_with fail
  refine hky.mono ?_
  rintro e Wa ⟨rfl, ca⟩
  clear hky
  have g2' := KL.mono (Hp.le_trans l8 l9) g2
  have habv := row_callsT ca (Above_nil _ Wa ca.ag l _ (slk_told ca.ag g2') (by omega))
  go_wp2_with fail
  refine habv.mono ?_
  rintro e Wb ⟨Hb, vb, rfl, lb, cb, kb⟩
  clear habv
  have hdoc := doc_row cb (KL.mono lb g2') (by omega)
  obtain ⟨za, zm, rfl⟩ := rep_slm kb
  go_wp2_with fail
  refine hdoc.mono ?_
  rintro e Wc ⟨Hc, vc, rfl, lc, cc, kc⟩
  clear hdoc
  have hky := doc_keys cc (KL.mono lc kb) kc (by omega)
  obtain ⟨ua, um, rfl⟩ := rep_slm kc
  go_wp2_with fail
  refine hky.mono ?_
  rintro e Wd ⟨rfl, cd⟩
  clear hky
  have hlv := bel_calls cd (lives_calls _ Wd cd.ag)
  go_wp2_with fail
  refine hlv.mono ?_
  rintro e We ⟨rfl, ce⟩
  go_wp2
  go_ret
  exact ⟨rfl, below_core (ce.drop (List.nil_sublist _) (List.Sublist.refl _))⟩
end Go.Proofs.Ytpdekcfeecdlbaa.Ab
namespace Go.Proofs.Ytpdekcfeecdlbaa.Ab
open Go Go.Proofs.Ytpdekcfeecdlbaa.Ab.Pq
set_option linter.all false
theorem wt_keys : ∀ l : List TApiKey, l.length ≤ wts (l.map eTApiKey)
  | [] => Nat.zero_le _
  | x :: l => by
    have := wt_keys l
    simp only [List.map_cons, wts, List.length_cons, eTApiKey, wt, wtv]; omega
theorem WebNone_U (a0 a1 : TApiKey) (a2 : List TApiKey) (h : wt (eTApiKey a0) + wt (eTApiKey a1) + wt (.lst 2 (a2.map eTApiKey) .no) ≤ 1048576) (_ : wfTApiKey a0) (_ : wfTApiKey a1) (_ : wfL23 a2) :
    CallsD Try.prog 6 [eTApiKey a0, eTApiKey a1, .lst 2 (a2.map eTApiKey) .no] [] [] (fun d h k => d = .v (.bool true) ∧ h = [] ∧ k = []) := by
  have h1 := wt_keys a2
  simp only [wt] at h
  exact WebNone_D a0 a1 a2 (by omega)
end Go.Proofs.Ytpdekcfeecdlbaa.Ab
namespace Go.Proofs.Ytpdekcfeecdlbaa
open Go.ChangeShapes Go.WideShapes Go.ChangeAt Go.RowKit Go.Joins
set_option linter.all false
mutual
theorem bulk_leWebNone {H : Type} : ∀ d : DataW H, Ab.bulk d ≤ Rows.uptoBulk d
  | .lit (.string bytes) => by simp [Ab.bulk, Rows.uptoBulk]
  | .lit (.int _ _) => by simp [Ab.bulk, Rows.uptoBulk]
  | .lit (.bool _) => by simp [Ab.bulk, Rows.uptoBulk]
  | .lit l => by cases l <;> simp [Ab.bulk, Rows.uptoBulk]
  | .nil => by simp [Ab.bulk, Rows.uptoBulk]
  | .ptr d => by have := bulk_leWebNone d; simp only [Ab.bulk, Rows.uptoBulk]; omega
  | .slice elems spare => by have h1 := bulkAll_leWebNone elems; have h2 := bulkAll_leWebNone spare; simp only [Ab.bulk, Rows.uptoBulk]; omega
  | .agg parts => by have := bulkAll_leWebNone parts; simp only [Ab.bulk, Rows.uptoBulk]; omega
  | .iface t d => by have := bulk_leWebNone d; simp only [Ab.bulk, Rows.uptoBulk]; omega
  | .map entries => by simp [Ab.bulk, Rows.uptoBulk]
  | .held h => by simp [Ab.bulk, Rows.uptoBulk]
theorem bulkAll_leWebNone {H : Type} : ∀ l : List (DataW H), Ab.bulkAll l ≤ Rows.uptoBulkAll l
  | [] => by simp [Ab.bulkAll, Rows.uptoBulkAll]
  | d :: l => by have h1 := bulk_leWebNone d; have h2 := bulkAll_leWebNone l; simp only [Ab.bulkAll, Rows.uptoBulkAll]; omega
end
set_option maxRecDepth 100000 in
theorem liftedWebNoneUpto (os : Os) (started : os.Started) (H : Type) (enc : TypeId × Value → H) (Fi : Stop.Interp) :
    ReturnsInHanded {} Try.checked os 6 .any ((Rows.OpenSpec.upto Rows.webNoneSpec).pre6 enc Try.prog Try.f6 Rows.webNoneUptoRow.domain false) (((Rows.OpenSpec.upto Rows.webNoneSpec).at Fi).post enc Try.prog Try.f6 false true false false) := by
  refine returnsInHanded_of_cond (C := Try.checked) (s := Rows.OpenSpec.upto Rows.webNoneSpec) (k := Rows.uptoSmall) rfl own started (by kernel_rfl) Try.func6
    (OpenSpec.witness (enc := enc) (C := Try.checked) (s := Rows.OpenSpec.upto Rows.webNoneSpec) (k := Rows.uptoSmall) rfl false ⟨#[], #[.agg #[.string ByteArray.empty, .int .i64 0], .agg #[.string ByteArray.empty, .int .i64 0], .slice none 0 0], []⟩ 8 (by kernel_rfl) (by kernel_rfl) (by kernel_rfl)
      (x := ([.agg [.lit (.string []), .lit (.int .i64 0)], .agg [.lit (.string []), .lit (.int .i64 0)], .nil], [], [])) (by kernel_rfl) rfl (by kernel_rfl)) ?_
  intro W base args ds gs before hval0 hW _ hk _
  have hval : ∀ (j : Nat) t v, Try.f6.params[j]? = some t → args[j]? = some v → Value.okWide Try.prog W .any base t v := hval0
  have hW' := hW
  obtain ⟨p, q, hA0, hV, rfl, hfz, hnd⟩ := hW
  have hA : DataW.TrodAll enc Try.prog W 0 (fun _ => true) true Try.f6.params.toList args.toList ds p := hA0
  obtain ⟨rfl, rfl⟩ := trodVars_none hV
  simp only [List.append_nil] at hW' hk
  have hback := args_back laidOut' (by kernel_rfl) hA (fun x hx => hW'.lt x hx)
  rw [Try.params6] at hA hval
  obtain ⟨v0, vs0, d0, ds0, p0, q0, hargs, rfl, hp0, h0, r0⟩ := trodAll_cons hA
  obtain ⟨v1, vs1, d1, ds1, p1, q1, rfl, rfl, hp1, h1, r1⟩ := trodAll_cons r0
  obtain ⟨v2, vs2, d2, ds2, p2, q2, rfl, rfl, hp2, h2, r2⟩ := trodAll_cons r1
  obtain ⟨rfl, rfl, hpn⟩ := trodAll_nil r2
  obtain rfl : args = #[v0, v1, v2] := by cases args; simp_all
  obtain ⟨n0, x0, g0, rep0, u0⟩ := Ab.rdw_arg (t := 34) Ab.htab [3, 9, 23, 34] (by kernel_rfl) (by kernel_rfl) (hval 0 34 v0 rfl rfl) h0
  obtain ⟨a0, rfl, k0⟩ := Ab.goodTApiKey g0
  obtain ⟨n1, x1, g1, rep1, u1⟩ := Ab.rdw_arg (t := 34) Ab.htab [3, 9, 23, 34] (by kernel_rfl) (by kernel_rfl) (hval 1 34 v1 rfl rfl) h1
  obtain ⟨a1, rfl, k1⟩ := Ab.goodTApiKey g1
  obtain ⟨n2, x2, g2, rep2, u2⟩ := Ab.rdw_arg (t := 23) Ab.htab [3, 9, 23, 34] (by kernel_rfl) (by kernel_rfl) (hval 2 23 v2 rfl rfl) h2
  obtain ⟨a2, rfl, k2⟩ := Ab.goodL23 g2
  have hb0 := of_decide_eq_true hk
  have hb1 := bulkAll_leWebNone [d0, d1, d2]
  simp only [Ab.bulkAll] at hb1
  clear hA0 hval0
  refine (Ab.to_calls (us := #[v0, v1, v2]) (Ab.WebNone_U a0 a1 a2 (by omega) k0 k1 k2) (Ab.ag_all W) (by simp only [Ab.RepsV]; exact ⟨_, _, rfl, rep0, ⟨_, _, rfl, rep1, ⟨_, _, rfl, rep2, rfl⟩⟩⟩)).mono fun e W' ⟨he, hb⟩ => ?_
  subst he
  exact ⟨_, rfl, _, _, _, [], p, [], hW', trodAll_cons_mk (shut_bool Try.underlying4 _) trodAll_mk0, hback W' hb _ (fun x hx => by simpa using hW'.lt x hx), rfl, hb.frame _, fun h => by cases h⟩
theorem webNoneUpto_holds : Rows.WebNoneUptoSaid :=
  OpenClaim.holds_of_cond 6 Try.f6 rfl rfl rfl rfl rfl rfl rfl ⟨rfl, rfl, rfl, rfl, rfl⟩ rfl rfl rfl rfl rfl (by kernel_rfl) Try.func6 (by kernel_rfl)
    (of_decide_eq_true (by kernel_rfl)) (by unfold Func.isWrapper; rw [if_neg (of_decide_eq_false (by kernel_rfl))]; exact ⟨rfl, rfl⟩)
    (fun os started H enc _ Fi => liftedWebNoneUpto os started H enc Fi)
#print axioms webNoneUpto_holds
end Go.Proofs.Ytpdekcfeecdlbaa
