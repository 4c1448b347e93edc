/- The texts that webAllUpto_holds leans on, part 4. -/
import Derived.Test.YtpdekcfeecdlbaaWa3
namespace Go.Proofs.Ytpdekcfeecdlbaa.Ab
open Go Go.RowKit Go.Shelf Go.Proofs Go.Proofs.Ytpdekcfeecdlbaa.Ab.Pq
set_option linter.all false
def kA : TApiKey := ⟨ByteArray.mk #[97], 0⟩
def kB : TApiKey := ⟨ByteArray.mk #[98], -1⟩
theorem kA_cl : clK kA = kA := rfl
theorem kB_cl : clK kB = kB := rfl
theorem lives_add : addP [] (clK kB) (clK kA) = [⟨kB, kA⟩] := rfl
theorem lives_cp : CP [⟨kB, kA⟩] := fun p hp => by simp at hp; subst hp; exact ⟨kB_cl, kA_cl⟩
theorem lives_below {out : List TApiKey} (h : AllR (upR [⟨kB, kA⟩] false) [kA] out) : out = [kA, kB] :=
  (h.unique (allA_spec lives_cp [kA] false)).trans (by kernel_rfl)
theorem lives_above {out : List TApiKey} (h : AllR (upR [⟨kB, kA⟩] true) [kA] out) : out = [kA] :=
  (h.unique (allA_spec lives_cp [kA] true)).trans (by kernel_rfl)
theorem lives_on : onP [⟨kB, kA⟩] (clK kB) = [kA] := by kernel_rfl
theorem kl_cells {H : Hp} {W : World} (hA : Ag H W) {l : List TApiKey} {a : Option Addr} {n m : Nat} (h : KL H l (.slice a n m)) {i : Nat} {x : TApiKey} (hx : l[i]? = some x) :
    ∃ b off, a = some ⟨b, off, none⟩ ∧ W.cell? ⟨b, off + i * 2, none⟩ = some (.string x.gName) ∧ W.cell? ⟨b, off + i * 2 + 1, none⟩ = some (.int .i64 x.gNode) := by
  obtain ⟨a', cap, e1, e2⟩ := slk_told hA h
  simp only [Value.slice.injEq] at e1
  obtain ⟨rfl, _, _⟩ := e1
  obtain ⟨b, off, e, _, g3, g4⟩ := e2 i x hx
  exact ⟨b, off, e, g3, g4⟩
theorem tell_key {C : Ctx} {H : Hp} {h : List (Nat × Blk)} {W : World} (c : Core C H h [] W) (x : TApiKey) (T : TypeId) : ∃ H', H.le H' ∧ Core C H' h [] (W.alloc (.cells #[.string x.gName, .int .i64 x.gNode] T)) ∧ Told H' W.heap.size 0 (kc2 x) :=
  ⟨_, c.allocTold (us := kc2 x) (vs := kc2 x) T (fun _ _ e => e)⟩
theorem told_box {H : Hp} {W : World} {b : Nat} {x : TApiKey} (hA : Ag H W) (h : Told H b 0 (kc2 x)) : W.cell? ⟨b, 0, none⟩ = some (.string x.gName) ∧ W.cell? ⟨b, 1, none⟩ = some (.int .i64 x.gNode) :=
  ⟨hA _ _ (h 0 _ rfl), hA _ _ (h 1 _ rfl)⟩
theorem told_one {H : Hp} {b : Nat} {x : TApiKey} (h : Told H b 0 (kc2 x)) : KL H [x] (.slice (some ⟨b, 0, none⟩) 1 1) := by
  refine ⟨?_, rfl⟩
  have hr : Reps H ((kc2 x).map .v) (kc2 x) := reps_v H (kc2 x) rfl
  show RepC H (.lst 2 [eTApiKey x] .no) _
  simp only [RepC, Value.cells]
  refine ⟨_, rfl, trivial, .inr ⟨b, 0, 1, rfl, Nat.le_refl _, ?_⟩⟩
  simp only [Els]
  exact ⟨⟨kc2 x, rfl, by show RepC H (.agg ((kc2 x).map .v)) _; simpa only [RepC] using hr, h, by simp [kc2, one]⟩, trivial⟩
set_option maxRecDepth 100000 in
set_option maxHeartbeats 1000000 in
theorem lives_calls (H : Hp) (w : World) (hA : Ag H w) : Calls Try.prog 13 #[] w fun e w' => e = .returned (.bool true) ∧ Below w.heap.size w w' := by
  have mixed : Try.prog.follows .mixedOrders = true := by kernel_rfl
  have hnew := New_calls H w hA
  go_enter Try.func13, Try.ntmps13
  go_wp2_with fail
  refine hnew.mono ?_
  rintro e W1 ⟨z, rfl, c1, hz1, hz2⟩
  clear hnew
  obtain ⟨H2, l2, c2, t2⟩ := tell_key c1 kA 34
  obtain ⟨H3, l3, c3, t3⟩ := tell_key c2 kB 34
  obtain ⟨W3, hW3⟩ : ∃ W3, W3 = (W1.alloc (.cells #[.string kA.gName, .int .i64 kA.gNode] 34)).alloc (.cells #[.string kB.gName, .int .i64 kB.gNode] 34) := ⟨_, rfl⟩
  rw [← hW3] at c3
  have hs2 : (W1.alloc (.cells #[.string kA.gName, .int .i64 kA.gNode] 34)).heap.size = W1.heap.size + 1 := by simp
  rw [hs2] at t3
  replace t2 := t2.mono l3
  have r1 : WR 0 [] (tieL z.e1) (tieL z.e2) := by rw [hz1, hz2]; exact WR.nil 0
  have hadd := web_add c3 r1 (by omega) kB kA
  rw [lives_add] at hadd
  simp only [encK, kA, kB] at hadd hW3
  go_wp2_with fail
  rw [← hW3]
  refine hadd.mono ?_
  rintro e W4 ⟨z4, rfl, hp4, c4, r4⟩
  clear hadd hW3 hs2 hz1 hz2 c2 l2 c1
  obtain ⟨a0, a1⟩ := told_box c4.ag t2
  obtain ⟨b0, b1⟩ := told_box c4.ag t3
  simp only [kA, kB] at a0 a1 b0 b1
  obtain ⟨H5, l5, c5, t5⟩ := tell_key c4 kA 34
  have hbel := web_below c5 r4 (told_one t5) (by simp only [List.length_cons, List.length_nil]; omega)
  rw [hp4] at hbel
  simp only [kA] at hbel
  go_wp2_with fail
  refine hbel.mono ?_
  rintro e W6 ⟨H6, v6, out, rfl, l6, c6, k6, hall⟩
  have hout := lives_below hall
  subst hout
  clear hbel hall a0 a1 b0 b1
  obtain ⟨va, vm, rfl⟩ := rep_slm k6
  simp only [List.length_cons, List.length_nil] at k6 ⊢
  obtain ⟨vb, vo, rfl, q0, q1⟩ := kl_cells c6.ag k6 (i := 1) (x := kB) rfl
  obtain ⟨a0, a1⟩ := told_box c6.ag (((t2.mono l5).mono l6))
  obtain ⟨b0, b1⟩ := told_box c6.ag (((t3.mono l5).mono l6))
  obtain ⟨H7, l7, c7, t7⟩ := tell_key (Core.drew c6) kA 34
  have habv : Calls Try.prog 12 #[.pointer (some ⟨z4.p, 0, none⟩), .slice (some ⟨W6.heap.size, 0, none⟩) 1 1] (W6.drew.alloc (.cells #[.string kA.gName, .int .i64 kA.gNode] 34)) fun e w' => ∃ H' v' out, e = .returned v' ∧ H7.le H' ∧ Core ⟨H, w, []⟩ H' (webH z4) [] w' ∧ KL H' out v' ∧ AllR (upR [⟨kB, kA⟩] true) [kA] out :=
    web_above c7 r4 (told_one t7) (by simp only [List.length_cons, List.length_nil]; omega)
  have heq : ∀ WW : World, (binOp .eql 34 (.agg #[.string kB.gName, .int .i64 kB.gNode]) (.agg #[.string kB.gName, .int .i64 kB.gNode])).run Try.prog WW = .ok (.bool true) WW := fun WW => by kernel_rfl
  rw [hp4] at habv
  simp only [kA, kB] at q0 q1 a0 a1 b0 b1 habv heq
  go_wp2_with fail
  go_region_with_o (first
    | (go_at_call 12
       refine habv.mono ?_
       rintro e W8 ⟨H8, v8, out8, rfl, l8, c8, k8, hall8⟩
       have hout8 := lives_above hall8
       subst hout8
       obtain ⟨vc, vn, rfl⟩ := rep_slm k8
       simp only [List.length_cons, List.length_nil]
       obtain ⟨b2, b3⟩ := told_box c8.ag ((((t3.mono l5).mono l6).mono l7).mono l8)
       have hon := web_on c8 r4 (by omega) kB
       rw [hp4] at hon
       simp only [encK, kB] at hon b2 b3)
    | (go_at_call 14
       refine hon.mono ?_
       rintro e W9 ⟨H9, v9, rfl, l9, c9, k9⟩
       have k9' : KL H9 (onP [⟨kB, kA⟩] (clK kB)) v9 := k9
       rw [lives_on] at k9'
       obtain ⟨vd, vm9, rfl⟩ := rep_slm k9'
       simp only [List.length_cons, List.length_nil]))
  all_goals
    go_wp2
    go_ret
    exact ⟨rfl, below_core (c9.drop (List.nil_sublist _) (List.Sublist.refl _))⟩
end Go.Proofs.Ytpdekcfeecdlbaa.Ab
namespace Go.Proofs.Ytpdekcfeecdlbaa.Ab
open Go Go.RowKit Go.Shelf Go.Proofs Go.Proofs.Ytpdekcfeecdlbaa.Ab.Pq
set_option linter.all false
theorem KL.mono {H H' : Hp} {l : List TApiKey} {v : Value} (h : H.le H') (k : KL H l v) : KL H' l v := Rep.mono h k
theorem PL.mono {H H' : Hp} {l : List TSondageref29Pair} {v : Value} (k : PL H l v) (h : H.le H') : PL H' l v := Rep.mono h k
theorem doc_all {C : Ctx} {H : Hp} {h : List (Nat × Blk)} {W : World} (c : Core C H h [] W) {ps : List Pr} {v : Value} (hv : PL H ps v) {l : List TApiKey} {u : Value} (hu : KL H l u) (hc : CP ps) (up : Bool) (h1 : ps.length ≤ 2097152) (h2 : l.length ≤ 2097150) :
    Calls Try.prog 11 #[v, u, .bool up] W fun e w' => ∃ H' v' out, e = .returned v' ∧ H.le H' ∧ Core C H' h [] w' ∧ KL H' out v' ∧ AllR (upR ps up) l out := by
  obtain ⟨out, e1, e2⟩ := rall_eq hc l up h1 h2
  refine (doc_calls (r29_All_ok ps l up out e1) c (us := #[v, u, .bool up]) (by simp only [RepsV]; exact ⟨_, _, rfl, hv, _, _, rfl, hu, _, _, rfl, rep_v rfl, rfl⟩)).mono ?_
  rintro e w' ⟨H', v', he, hl, hc', hk⟩
  exact ⟨H', v', out, he, hl, hc', hk, e2⟩
theorem doc_keys {C : Ctx} {H : Hp} {h : List (Nat × Blk)} {W : World} (c : Core C H h [] W) {l : List TApiKey} {u v : Value} (hu : KL H l u) (hv : KL H l v) (h1 : l.length ≤ 4611686018427387904) :
    Calls Try.prog 9 #[u, v] W fun e w' => e = .returned (.bool true) ∧ Core C H h [] w' :=
  val_calls (r23_Keys_ok l l true (keys_same l h1)) c (by simp only [RepsV]; exact ⟨_, _, rfl, hu, _, _, rfl, hv, rfl⟩)
theorem AllR.len {ps : List Pr} {up : Bool} (hc : CP ps) {l out : List TApiKey} (h : AllR (upR ps up) l out) : out.length ≤ l.length + ps.length := by
  rw [h.unique (allA_spec hc l up)]
  have := allA_all (up := up) hc (rowK l) ps.length (rowK l) (rowC_row l) (fun k hk => .inl hk) (Nat.le_refl _)
  have h2 := nodup_le (U := l.map clK ++ ps.map (toP up)) (rise_nodup (allA_spec hc l up).1.1) (fun k hk => by
    refine (allA_spec hc l up).2.2.2 (· ∈ l.map clK ++ ps.map (toP up)) (fun k hk => List.mem_append_left _ hk) (fun x _ y hy => ?_) k hk
    obtain ⟨p, hp, _, rfl⟩ := upR_iff.1 hy
    exact List.mem_append_right _ (List.mem_map.2 ⟨p, hp, rfl⟩))
  simpa using h2
set_option maxRecDepth 100000 in
set_option maxHeartbeats 8000000 in
theorem WebAll_D (ops : List TSondagelaw29Op) (l : List TApiKey) (h1 : ops.length ≤ 1048576) (h2 : l.length ≤ 1048576) :
    CallsD Try.prog 3 [.lst 5 (ops.map eTSondagelaw29Op) .no, .lst 2 (l.map eTApiKey) .no] [] [] (fun d h k => d = .v (.bool true) ∧ h = [] ∧ k = []) := by
  refine ⟨⟨_, Try.func3, rfl, rfl⟩, fun H w vs hv hA _ _ _ => ?_⟩
  simp only [RepsV] at hv
  obtain ⟨u1, _, rfl, g1, u2, _, rfl, g2, rfl⟩ := hv
  replace g1 : Rep H (.lst 5 (ops.map eTSondagelaw29Op) .no) u1 := g1
  replace g2 : KL H l u2 := g2
  have mixed : Try.prog.follows .mixedOrders = true := by kernel_rfl
  suffices hs : Calls Try.prog 3 #[u1, u2] w fun e w' => e = .returned (.bool true) ∧ Below w.heap.size w w' from
    hs.mono fun e w' ⟨he, hb⟩ => ⟨_, H, .v (.bool true), [], [], he, rep_v rfl, core_below0 hA hb, rfl, rfl, rfl⟩
  have hnew := New_calls H w hA
  obtain ⟨va, vm, rfl⟩ := rep_slm g1
  obtain ⟨wa, wm, rfl⟩ := rep_slm g2
  go_enter Try.func3, Try.ntmps3
  go_wp2_with fail
  refine hnew.mono ?_
  rintro e W1 ⟨z, rfl, c1, hz1, hz2⟩
  clear hnew
  have hplay := play_calls c1 hz1 hz2 g1 h1
  go_wp2_with fail
  refine hplay.mono ?_
  rintro e W2 ⟨v', rfl, ⟨H2, z2, ps, l2, hp2, c2, k2, r2, n2⟩⟩
  clear hplay hz1 hz2 c1
  obtain ⟨pa, pm, rfl⟩ := rep_slm k2
  have hbel := web_below c2 r2 (KL.mono l2 g2) (by omega)
  rw [hp2] at hbel
  go_wp2_with fail
  refine hbel.mono ?_
  rintro e W3 ⟨H3, v3, o3, rfl, l3, c3, k3, a3⟩
  clear hbel
  have hall := doc_all c3 (k2.mono l3) (KL.mono (Hp.le_trans l2 l3) g2) r2.cp false (by omega) (by omega)
  obtain ⟨ua, um, rfl⟩ := rep_slm k3
  go_wp2_with fail
  refine hall.mono ?_
  rintro e W4 ⟨H4, v4, o4, rfl, l4, c4, k4, a4⟩
  clear hall
  have he := a3.unique a4
  subst he
  have hln := a3.len r2.cp
  have hky := doc_keys c4 (KL.mono l4 k3) k4 (by omega)
  obtain ⟨xa, xm, rfl⟩ := rep_slm k4
  go_wp2_with fail
  refine hky.mono ?_
  rintro e W5 ⟨rfl, c5⟩
  clear hky
  have l25 := Hp.le_trans l3 l4
  have hab := web_above c5 r2 (KL.mono (Hp.le_trans l2 l25) g2) (by omega)
  rw [hp2] at hab
  go_wp2_with fail
  refine hab.mono ?_
  rintro e W6 ⟨H6, v6, o6, rfl, l6, c6, k6, a6⟩
  clear hab
  have hall := doc_all c6 (k2.mono (Hp.le_trans l25 l6)) (KL.mono (Hp.le_trans l2 (Hp.le_trans l25 l6)) g2) r2.cp true (by omega) (by omega)
  obtain ⟨ya, ym, rfl⟩ := rep_slm k6
  go_wp2_with fail
  refine hall.mono ?_
  rintro e W7 ⟨H7, v7, o7, rfl, l7, c7, k7, a7⟩
  clear hall
  have he := a6.unique a7
  subst he
  have hln := a6.len r2.cp
  have hky := doc_keys c7 (KL.mono l7 k6) k7 (by omega)
  obtain ⟨za, zm, rfl⟩ := rep_slm k7
  go_wp2_with fail
  refine hky.mono ?_
  rintro e W8 ⟨rfl, c8⟩
  clear hky
  have hlv := bel_calls c8 (lives_calls _ W8 c8.ag)
  go_wp2_with fail
  refine hlv.mono ?_
  rintro e W9 ⟨rfl, c9⟩
  go_wp2
  go_ret
  exact ⟨rfl, below_core (c9.drop (List.nil_sublist _) (List.Sublist.refl _))⟩
end Go.Proofs.Ytpdekcfeecdlbaa.Ab
namespace Go.Proofs.Ytpdekcfeecdlbaa.Ab
open Go Go.Proofs.Ytpdekcfeecdlbaa.Ab.Pq
set_option linter.all false
theorem wt_keys : ∀ l : List TApiKey, l.length ≤ wts (l.map eTApiKey)
  | [] => Nat.zero_le _
  | x :: l => by
    have := wt_keys l
    simp only [List.map_cons, wts, List.length_cons, eTApiKey, wt, wtv]; omega
theorem wt_ops : ∀ l : List TSondagelaw29Op, l.length ≤ wts (l.map eTSondagelaw29Op)
  | [] => Nat.zero_le _
  | x :: l => by
    have := wt_ops l
    simp only [List.map_cons, wts, List.length_cons, eTSondagelaw29Op, wt, wtv]; omega
theorem WebAll_U (a0 : List TSondagelaw29Op) (a1 : List TApiKey) (h : wt (.lst 5 (a0.map eTSondagelaw29Op) .no) + wt (.lst 2 (a1.map eTApiKey) .no) ≤ 1048576) (_ : wfL22 a0) (_ : wfL23 a1) :
    CallsD Try.prog 3 [.lst 5 (a0.map eTSondagelaw29Op) .no, .lst 2 (a1.map eTApiKey) .no] [] [] (fun d h k => d = .v (.bool true) ∧ h = [] ∧ k = []) := by
  have h0 := wt_ops a0
  have h1 := wt_keys a1
  simp only [wt] at h
  exact WebAll_D a0 a1 (by omega) (by omega)
end Go.Proofs.Ytpdekcfeecdlbaa.Ab
namespace Go.Proofs.Ytpdekcfeecdlbaa
open Go.ChangeShapes Go.WideShapes Go.ChangeAt Go.RowKit Go.Joins
set_option linter.all false
mutual
theorem bulk_leWebAll {H : Type} : ∀ d : DataW H, Ab.bulk d ≤ Rows.uptoBulk d
  | .lit (.string bytes) => by simp [Ab.bulk, Rows.uptoBulk]
  | .lit (.int _ _) => by simp [Ab.bulk, Rows.uptoBulk]
  | .lit (.bool _) => by simp [Ab.bulk, Rows.uptoBulk]
  | .lit l => by cases l <;> simp [Ab.bulk, Rows.uptoBulk]
  | .nil => by simp [Ab.bulk, Rows.uptoBulk]
  | .ptr d => by have := bulk_leWebAll d; simp only [Ab.bulk, Rows.uptoBulk]; omega
  | .slice elems spare => by have h1 := bulkAll_leWebAll elems; have h2 := bulkAll_leWebAll spare; simp only [Ab.bulk, Rows.uptoBulk]; omega
  | .agg parts => by have := bulkAll_leWebAll parts; simp only [Ab.bulk, Rows.uptoBulk]; omega
  | .iface t d => by have := bulk_leWebAll d; simp only [Ab.bulk, Rows.uptoBulk]; omega
  | .map entries => by simp [Ab.bulk, Rows.uptoBulk]
  | .held h => by simp [Ab.bulk, Rows.uptoBulk]
theorem bulkAll_leWebAll {H : Type} : ∀ l : List (DataW H), Ab.bulkAll l ≤ Rows.uptoBulkAll l
  | [] => by simp [Ab.bulkAll, Rows.uptoBulkAll]
  | d :: l => by have h1 := bulk_leWebAll d; have h2 := bulkAll_leWebAll l; simp only [Ab.bulkAll, Rows.uptoBulkAll]; omega
end
set_option maxRecDepth 100000 in
theorem liftedWebAllUpto (os : Os) (started : os.Started) (H : Type) (enc : TypeId × Value → H) (Fi : Stop.Interp) :
    ReturnsInHanded {} Try.checked os 3 .any ((Rows.OpenSpec.upto Rows.webAllSpec).pre6 enc Try.prog Try.f3 Rows.webAllUptoRow.domain false) (((Rows.OpenSpec.upto Rows.webAllSpec).at Fi).post enc Try.prog Try.f3 false true false false) := by
  refine returnsInHanded_of_cond (C := Try.checked) (s := Rows.OpenSpec.upto Rows.webAllSpec) (k := Rows.uptoSmall) rfl own started (by kernel_rfl) Try.func3
    (OpenSpec.witness (enc := enc) (C := Try.checked) (s := Rows.OpenSpec.upto Rows.webAllSpec) (k := Rows.uptoSmall) rfl false ⟨#[], #[.slice none 0 0, .slice none 0 0], []⟩ 8 (by kernel_rfl) (by kernel_rfl) (by kernel_rfl)
      (x := ([.nil, .nil], [], [])) (by kernel_rfl) rfl (by kernel_rfl)) ?_
  intro W base args ds gs before hval0 hW _ hk _
  have hval : ∀ (j : Nat) t v, Try.f3.params[j]? = some t → args[j]? = some v → Value.okWide Try.prog W .any base t v := hval0
  have hW' := hW
  obtain ⟨p, q, hA0, hV, rfl, hfz, hnd⟩ := hW
  have hA : DataW.TrodAll enc Try.prog W 0 (fun _ => true) true Try.f3.params.toList args.toList ds p := hA0
  obtain ⟨rfl, rfl⟩ := trodVars_none hV
  simp only [List.append_nil] at hW' hk
  have hback := args_back laidOut' (by kernel_rfl) hA (fun x hx => hW'.lt x hx)
  rw [Try.params3] at hA hval
  obtain ⟨v0, vs0, d0, ds0, p0, q0, hargs, rfl, hp0, h0, r0⟩ := trodAll_cons hA
  obtain ⟨v1, vs1, d1, ds1, p1, q1, rfl, rfl, hp1, h1, r1⟩ := trodAll_cons r0
  obtain ⟨rfl, rfl, hpn⟩ := trodAll_nil r1
  obtain rfl : args = #[v0, v1] := by cases args; simp_all
  obtain ⟨n0, x0, g0, rep0, u0⟩ := Ab.rdw_arg (t := 22) Ab.htab [3, 9, 22, 23, 34, 48] (by kernel_rfl) (by kernel_rfl) (hval 0 22 v0 rfl rfl) h0
  obtain ⟨a0, rfl, k0⟩ := Ab.goodL22 g0
  obtain ⟨n1, x1, g1, rep1, u1⟩ := Ab.rdw_arg (t := 23) Ab.htab [3, 9, 22, 23, 34, 48] (by kernel_rfl) (by kernel_rfl) (hval 1 23 v1 rfl rfl) h1
  obtain ⟨a1, rfl, k1⟩ := Ab.goodL23 g1
  have hb0 := of_decide_eq_true hk
  have hb1 := bulkAll_leWebAll [d0, d1]
  simp only [Ab.bulkAll] at hb1
  clear hA0 hval0
  refine (Ab.to_calls (us := #[v0, v1]) (Ab.WebAll_U a0 a1 (by omega) k0 k1) (Ab.ag_all W) (by simp only [Ab.RepsV]; exact ⟨_, _, rfl, rep0, ⟨_, _, rfl, rep1, rfl⟩⟩)).mono fun e W' ⟨he, hb⟩ => ?_
  subst he
  exact ⟨_, rfl, _, _, _, [], p, [], hW', trodAll_cons_mk (shut_bool Try.underlying4 _) trodAll_mk0, hback W' hb _ (fun x hx => by simpa using hW'.lt x hx), rfl, hb.frame _, fun h => by cases h⟩
theorem webAllUpto_holds : Rows.WebAllUptoSaid :=
  OpenClaim.holds_of_cond 3 Try.f3 rfl rfl rfl rfl rfl rfl rfl ⟨rfl, rfl, rfl, rfl, rfl⟩ rfl rfl rfl rfl rfl (by kernel_rfl) Try.func3 (by kernel_rfl)
    (of_decide_eq_true (by kernel_rfl)) (by unfold Func.isWrapper; rw [if_neg (of_decide_eq_false (by kernel_rfl))]; exact ⟨rfl, rfl⟩)
    (fun os started H enc _ Fi => liftedWebAllUpto os started H enc Fi)
#print axioms webAllUpto_holds
end Go.Proofs.Ytpdekcfeecdlbaa
