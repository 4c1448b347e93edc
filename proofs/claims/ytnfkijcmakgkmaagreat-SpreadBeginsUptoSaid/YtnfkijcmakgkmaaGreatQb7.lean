/- The texts that spreadBeginsUpto_holds leans on, part 7. -/
import Derived.Test.YtnfkijcmakgkmaaGreatQb6
set_option maxRecDepth 100000
set_option maxHeartbeats 80000000
namespace Go.Proofs.YtnfkijcmakgkmaaGreat.Ab
open Go Go.RowKit Go.Shelf Go.Proofs Go.Proofs.YtnfkijcmakgkmaaGreat.Ab.Pq
set_option linter.all false
theorem upR_app {ps qs : List Pr} {x y : Ka} : upR (ps ++ qs) false x y ↔ OR (upR ps false) (upR qs false) x y := by
 unfold OR upR
 simp only [Bool.false_eq_true, if_false, List.mem_append]
theorem rof32_eq {p q : Kw} (bp : PB p) (bq : PB q) {ps qs : List Pr} (cp : CP ps) (cq : CP qs) {known : List Ka} (hl : known.length ≤ 1048576) (np : ps.length ≤ 1048576) (nq : qs.length ≤ 1048576) :
  ∃ out, r32_Of p q ps qs known = some out ∧ AllR (OR (upR ps false) (upR qs false)) (bgK p q known) out := by
 have hb := KgT p q known
 obtain ⟨out, e, a⟩ := rallP_eq (ps := ps ++ qs) (fun x hx => (List.mem_append.1 hx).elim (cp x) (cq x)) (bgK p q known) false (by rw [List.length_append]; omega) (by omega)
 refine ⟨out, ?_, a.congr fun x y => upR_app⟩
 unfold r32_Of
 rw [Kaw (by omega) (by simp; omega), Option.bind_some, List.nil_append, Kaw (by omega) (by omega), Option.bind_some, Ki0 bp bq known (by omega), Option.bind_some]
 show (KeB (ps ++ qs) (bgK p q known) false).bind _ = _
 rw [e]; rfl
theorem g_keys {H : Hp} {w : World} (hA : Ag H w) {l : List Ka} {u v : Value} (hu : KL H l u) (hv : KL H l v) (h1 : l.length ≤ 4611686018427387904) :
  Calls Tryz.prog 6 #[u, v] w fun e w' => ∃ r, e = .returned r ∧ ∃ H', Grow H w H' w' ∧ r = .bool true :=
 (doc_keys (Core.here hA) hu hv h1).mono fun e w' ⟨he, hc⟩ => ⟨_, he, H, Kfb hc, rfl⟩
theorem g_lives {H : Hp} {w : World} (hA : Ag H w) : Calls Tryz.prog 11 #[] w fun e w' => ∃ r, e = .returned r ∧ ∃ H', Grow H w H' w' ∧ r = .bool true :=
 (to_calls (Kjr true lives32) hA (us := #[]) (by simp only [RepsV])).mono fun e w' ⟨he, hb⟩ => ⟨_, he, H, Kfb (KaR hA hb), rfl⟩
theorem g_rbegin {H : Hp} {w : World} (hA : Ag H w) {p q : Kw} {known : List Ka} {pv qv kv : Value} (rp : Rep H (Ku p) pv) (rq : Rep H (Ku q) qv) (hk : KL H known kv) (bp : PB p) (bq : PB q) (hl : known.length ≤ 4000000) :
  Calls Tryz.prog 8 #[pv, qv, kv] w fun e w' => ∃ v, e = .returned v ∧ ∃ H', Grow H w H' w' ∧ KL H' (bgK p q known) v :=
 g_told (us := #[pv, qv, kv]) (Ki7 p q known _ (Ki0 bp bq known hl)) hA (by simp only [RepsV]; exact ⟨_, _, rfl, rp, _, _, rfl, rq, _, _, rfl, hk, rfl⟩)
theorem g_rof {H : Hp} {w : World} (hA : Ag H w) {p q : Kw} {known : List Ka} {pv qv kv uv vv : Value} (rp : Rep H (Ku p) pv) (rq : Rep H (Ku q) qv) (hk : KL H known kv) (bp : PB p) (bq : PB q) (hl : known.length ≤ 1048576)
  {ps qs : List Pr} (cp : CP ps) (cq : CP qs) (np : ps.length ≤ 1048576) (nq : qs.length ≤ 1048576) (hu : PL H ps uv) (hv : PL H qs vv) :
  Calls Tryz.prog 10 #[pv, qv, uv, vv, kv] w fun e w' => ∃ v, e = .returned v ∧ ∃ H', Grow H w H' w' ∧ ∃ out, KL H' out v ∧ AllR (OR (upR ps false) (upR qs false)) (bgK p q known) out := by
 obtain ⟨out, e, a⟩ := rof32_eq bp bq cp cq hl np nq
 refine (g_told (us := #[pv, qv, uv, vv, kv]) (r32_Of_ok0 p q ps qs known _ e) hA (by simp only [RepsV]; exact ⟨_, _, rfl, rp, _, _, rfl, rq, _, _, rfl, hu, _, _, rfl, hv, _, _, rfl, hk, rfl⟩)).mono ?_
 rintro e w' ⟨v, he, H', hg, hr⟩
 exact ⟨v, he, H', hg, out, hr, a⟩
theorem or_st {R : Ka → Ka → Prop} {b : List Ka} : ∀ H H' : Hp, Hp.le H H' → ∀ v, (∃ out, KL H out v ∧ AllR R b out) → ∃ out, KL H' out v ∧ AllR R b out := fun _ _ h _ ⟨o, k, a⟩ => ⟨o, KL.mono h k, a⟩
theorem or_len {p q : Kw} {known : List Ka} {ps qs : List Pr} {out : List Ka} (a : AllR (OR (upR ps false) (upR qs false)) (bgK p q known) out) : out.length ≤ known.length + (ps.length + qs.length) := by
 have hb := KgT p q known
 have : OfI (upR ps false) (upR qs false) (bgK p q known) out := ⟨a.1, fun k hk => a.2.1 k (by rw [(bgK_row p q known).cl]; exact hk), fun S s1 s2 => a.2.2.2 S (fun k hk => s1 k (by rw [(bgK_row p q known).cl] at hk; exact hk)) s2⟩
 have := this.len
 omega
theorem Ki1 {H : Hp} {p : Kw} {u1 u2 : Value} (h1 : Rep H (.lst 4 (p.gGlobals.map KK) .no) u1) (h2 : Rep H (.lst 5 (p.gFuncs.map KF) .no) u2) (o1 : one u1 = true) (o2 : one u2 = true) : Rep H (Ku p) (.agg #[u1, u2]) := by
 refine KgD (us := [u1, u2]) ?_
 have e : ∀ {u : Value}, one u = true → u.cells.toList = [u] := fun {u} h => by cases u <;> simp [one] at h <;> rfl
 simp only [Reps]
 exact ⟨_, _, rfl, ⟨by have := h1.1; rw [e o1] at this; exact this, o1, rfl⟩, _, _, rfl, ⟨by have := h2.1; rw [e o2] at this; exact this, o2, rfl⟩, rfl⟩
theorem rep_case {H : Hp} {a : Kbb} {v : Value} (h : Rep H (Ka7 a) v) :
    ∃ a0 n0 m0 a1 n1 m1 a2 n2 m2 a3 n3 m3 a4 m4 a5 m5 a6 m6, v = .agg #[.slice a0 n0 m0, .slice a1 n1 m1, .slice a2 n2 m2, .slice a3 n3 m3, .slice a4 a.gReads.length m4, .slice a5 a.gAdds.length m5, .slice a6 a.gKnown.length m6] ∧
      Rep H (Ku a.gP) (.agg #[.slice a0 n0 m0, .slice a1 n1 m1]) ∧ Rep H (Ku a.gQ) (.agg #[.slice a2 n2 m2, .slice a3 n3 m3]) ∧ PL H a.gReads (.slice a4 a.gReads.length m4) ∧ PL H a.gAdds (.slice a5 a.gAdds.length m5) ∧ KL H a.gKnown (.slice a6 a.gKnown.length m6) := by
  obtain ⟨us, rfl, hr⟩ := KaW h
  simp only [Reps] at hr
  obtain ⟨u0, _, rfl, ⟨h0, o0, _⟩, u1, _, rfl, ⟨h1, o1, _⟩, u2, _, rfl, ⟨h2, o2, _⟩, u3, _, rfl, ⟨h3, o3, _⟩, u4, _, rfl, ⟨h4, o4, _⟩, u5, _, rfl, ⟨h5, o5, _⟩, u6, _, rfl, ⟨h6, o6, _⟩, rfl⟩ := hr
  have r0 := Kap h0 o0 (by cases u0 <;> simp [one] at o0 <;> rfl)
  have r1 := Kap h1 o1 (by cases u1 <;> simp [one] at o1 <;> rfl)
  have r2 := Kap h2 o2 (by cases u2 <;> simp [one] at o2 <;> rfl)
  have r3 := Kap h3 o3 (by cases u3 <;> simp [one] at o3 <;> rfl)
  have r4 := Kap h4 o4 (by cases u4 <;> simp [one] at o4 <;> rfl)
  have r5 := Kap h5 o5 (by cases u5 <;> simp [one] at o5 <;> rfl)
  have r6 := Kap h6 o6 (by cases u6 <;> simp [one] at o6 <;> rfl)
  obtain ⟨a0, m0, rfl⟩ := KbP r0
  obtain ⟨a1, m1, rfl⟩ := KbP r1
  obtain ⟨a2, m2, rfl⟩ := KbP r2
  obtain ⟨a3, m3, rfl⟩ := KbP r3
  obtain ⟨a4, m4, rfl⟩ := KbP r4
  obtain ⟨a5, m5, rfl⟩ := KbP r5
  obtain ⟨a6, m6, rfl⟩ := KbP r6
  exact ⟨_, _, _, _, _, _, _, _, _, _, _, _, _, _, _, _, _, _, rfl, Ki1 r0 r1 rfl rfl, Ki1 r2 r3 rfl rfl, r4, r5, r6⟩
theorem Kio (k : Kbb) (bp : PB k.gP) (bq : PB k.gQ) (hl : k.gKnown.length ≤ 1048576) (nr : k.gReads.length ≤ 1048576) (na : k.gAdds.length ≤ 1048576) :
  CallsD Tryz.prog 3 [Ka7 k] [] [] (fun d h k => d = .v (.bool true) ∧ h = [] ∧ k = []) := by
 refine ⟨⟨_, Tryz.func3, rfl, rfl⟩, fun H0 w vs hv hA _ _ _ => ?_⟩
 simp only [RepsV] at hv
 obtain ⟨u1, _, rfl, g1, rfl⟩ := hv
 obtain ⟨a0, n0, m0, a1, n1, m1, a2, n2, m2, a3, n3, m3, a4, m4, a5, m5, a6, m6, rfl, rp, rq, rr, ra, rk⟩ := rep_case g1
 clear g1
 have mixed : Tryz.prog.follows .mixedOrders = true := by kernel_rfl
 suffices hs : Calls Tryz.prog 3 #[.agg #[.slice a0 n0 m0, .slice a1 n1 m1, .slice a2 n2 m2, .slice a3 n3 m3, .slice a4 k.gReads.length m4, .slice a5 k.gAdds.length m5, .slice a6 k.gKnown.length m6]] w fun e w' => e = .returned (.bool true) ∧ Below w.heap.size w w' from
  hs.mono fun e w' ⟨he, hb⟩ => ⟨_, H0, .v (.bool true), [], [], he, rep_v rfl, KaR hA hb, rfl, rfl, rfl⟩
 obtain ⟨W1, hW1⟩ : ∃ W1, W1 = w.alloc (.cells #[.slice a0 n0 m0, .slice a1 n1 m1, .slice a2 n2 m2, .slice a3 n3 m3, .slice a4 k.gReads.length m4, .slice a5 k.gAdds.length m5, .slice a6 k.gKnown.length m6] 29) := ⟨_, rfl⟩
 have hb1 : Below w.heap.size w W1 := by rw [hW1]; exact (Below.refl _ w).alloc (Nat.le_refl _) _
 have hA1 : Ag H0 W1 := Go.Proofs.YtnfkijcmakgkmaaGreat.Ag.below hA hb1
 have hx1 : W1.heap[w.heap.size]? = some (.cells #[.slice a0 n0 m0, .slice a1 n1 m1, .slice a2 n2 m2, .slice a3 n3 m3, .slice a4 k.gReads.length m4, .slice a5 k.gAdds.length m5, .slice a6 k.gKnown.length m6] 29 (0, 0)) := by rw [hW1, Kaq, if_pos rfl]
 have hs1 : w.heap.size < W1.heap.size := by rw [hW1]; simp
 have x4 : W1.cell? ⟨w.heap.size, 4, none⟩ = some (.slice a4 k.gReads.length m4) := by simp [World.cell?, hx1]
 have hlay := KiY H0 W1 hA1 rr nr
 go_enter Tryz.func3, Tryz.ntmps3
 go_wp2_with fail
 rw [← hW1]
 clear hW1
 go_wp2_with fail
 refine hlay.mono ?_
 rintro e W3 ⟨yp, v3, rfl, ⟨H3, y, ps, l3, rfl, c3, k3, r3, lp3⟩⟩
 clear hlay x4
 have hx3 := ((Kes (c3.drop (List.nil_sublist _) (List.Sublist.refl _))).block _ hs1).trans hx1
 have x5 : W3.cell? ⟨w.heap.size, 5, none⟩ = some (.slice a5 k.gAdds.length m5) := by simp [World.cell?, hx3]
 have hlay := KiY H3 W3 c3.ag (PL.mono ra l3) na
 go_wp2_with fail
 refine hlay.mono ?_
 rintro e W5 ⟨zp, v5, rfl, ⟨H5, z, qs, l5, rfl, c5, k5, r5, lp5⟩⟩
 clear hlay x5
 replace c5 := (Core.call (h1 := []) (k1 := []) (h2 := webH y) (k2 := []) c3 c5).perm (List.perm_append_comm (l₁ := webH z) (l₂ := webH y)) (List.Perm.refl _)
 clear c3
 have hb5 := Kes (c5.drop (List.nil_sublist _) (List.Sublist.refl _))
 have hx5 := (hb5.block _ hs1).trans hx1
 have f1 : Go.Proofs.YtnfkijcmakgkmaaGreat.Blk E W5 w.heap.size w.heap.size #[.slice a0 n0 m0, .slice a1 n1 m1, .slice a2 n2 m2, .slice a3 n3 m3, .slice a4 k.gReads.length m4, .slice a5 k.gAdds.length m5, .slice a6 k.gKnown.length m6] 29 := ⟨Nat.le_refl _, hx5, fun _ => rfl⟩
 have k3' := PL.mono k3 l5
 replace rp := Rep.mono (Hp.le_trans l3 l5) rp
 replace rq := Rep.mono (Hp.le_trans l3 l5) rq
 replace rk := KL.mono (Hp.le_trans l3 l5) rk
 have hA5 := c5.ag
 have blks5 := c5.blks
 have nd5 := c5.nd
 have ry := r3.mono nr
 have rz := r5.mono na
 have np : ps.length ≤ 1048576 := Nat.le_trans lp3 nr
 have nq : qs.length ≤ 1048576 := Nat.le_trans lp5 na
 clear hx1 hx3 hx5 c5 rr ra k3 r3 r5
 go_wp2_with fail
 refine ls_take (H0 := H5) 40 (fun e => match e with | 6 => .hp (fun H v => KL H (bgK k.gP k.gQ k.gKnown) v) kl_st | 13 => .hp (fun H v => KL H (bgK k.gP k.gQ k.gKnown) v) kl_st | 14 => .is (· = .bool true) | 24 => .hp (fun H v => ∃ out, KL H out v ∧ AllR (OR (upR ps false) (upR qs false)) (bgK k.gP k.gQ k.gKnown) out) or_st | 33 => .hp (fun H v => ∃ out, KL H out v ∧ AllR (OR (upR ps false) (upR qs false)) (bgK k.gP k.gQ k.gKnown) out) or_st | 34 => .is (· = .bool true) | 37 => .is (· = .bool true) | _ => .tt) [[],[],[],[],[],[],[],[],[],[],[],[],[],[],[6,13],[14],[],[],[],[],[],[],[],[],[],[],[],[],[],[],[],[],[],[],[24,33],[34],[],[],[37],[]] [6,13,14,24,33,34,37] [] [[],[0],[],[2],[],[4],[0,1,2,3,4,5],[],[7],[],[9],[],[11],[0,1,2,3,4,5,6,7,8,9,10,11,12],[0,1,2,3,4,5,6,7,8,9,10,11,12,13],[0,1,2,3,4,5,6,7,8,9,10,11,12,13,14],[0,1,2,3,4,5,6,7,8,9,10,11,12,13,14,15],[0,1,2,3,4,5,6,7,8,9,10,11,12,13,14,15,16],[0,1,2,3,4,5,6,7,8,9,10,11,12,13,14,15],[0,1,2,3,4,5,6,7,8,9,10,11,12,13,14,15,18],[0,1,2,3,4,5,6,7,8,9,10,11,12,13,14,15],[0,1,2,3,4,5,6,7,8,9,10,11,12,13,14,15],[0,1,2,3,4,5,6,7,8,9,10,11,12,13,14,15],[0,1,2,3,4,5,6,7,8,9,10,11,12,13,14,15,22],[0,1,2,3,4,5,6,7,8,9,10,11,12,13,14,15,16,17,18,19,20,21,22,23],[0,1,2,3,4,5,6,7,8,9,10,11,12,13,14,15],[0,1,2,3,4,5,6,7,8,9,10,11,12,13,14,15,25],[0,1,2,3,4,5,6,7,8,9,10,11,12,13,14,15],[0,1,2,3,4,5,6,7,8,9,10,11,12,13,14,15,27],[0,1,2,3,4,5,6,7,8,9,10,11,12,13,14,15],[0,1,2,3,4,5,6,7,8,9,10,11,12,13,14,15],[0,1,2,3,4,5,6,7,8,9,10,11,12,13,14,15],[0,1,2,3,4,5,6,7,8,9,10,11,12,13,14,15,31],[0,1,2,3,4,5,6,7,8,9,10,11,12,13,14,15,16,17,18,19,20,21,22,23,24,25,26,27,28,29,30,31,32],[0,1,2,3,4,5,6,7,8,9,10,11,12,13,14,15,16,17,18,19,20,21,22,23,24,25,26,27,28,29,30,31,32,33],[0,1,2,3,4,5,6,7,8,9,10,11,12,13,14,15,16,17,18,19,20,21,22,23,24,25,26,27,28,29,30,31,32,33,34],[0,1,2,3,4,5,6,7,8,9,10,11,12,13,14,15,16,17,18,19,20,21,22,23,24,25,26,27,28,29,30,31,32,33,34,35],[0,1,2,3,4,5,6,7,8,9,10,11,12,13,14,15,16,17,18,19,20,21,22,23,24,25,26,27,28,29,30,31,32,33,34,35,36],[0,1,2,3,4,5,6,7,8,9,10,11,12,13,14,15,16,17,18,19,20,21,22,23,24,25,26,27,28,29,30,31,32,33,34,35,36,37],[0,1,2,3,4,5,6,7,8,9,10,11,12,13,14,15,16,17,18,19,20,21,22,23,24,25,26,27,28,29,30,31,32,33,34,35,36,37,38]] (by assumption) (by kernel_rfl) (by kernel_rfl) (by kernel_rfl) (by rfl) (by rfl) (by kernel_rfl) ?_
 intro vals
 refine lsq (by rfl) (by rfl) ?_; apply Exists.intro; refine ⟨fun H w2 hg hp => ?_, ?_⟩
 ·(first | (go_simp; rfl) | go_simp)
 (try simp only [Act.put, List.setIfInBounds_toArray, List.set_cons_zero, List.set_cons_succ])
 refine lsq (by rfl) (by rfl) ?_; apply Exists.intro; refine ⟨fun H w2 hg hp => ?_, ?_⟩
 ·have g0 := (f1.below hg.below).cell; (first | (go_simp; rfl) | go_simp)
 (try simp only [Act.put, List.setIfInBounds_toArray, List.set_cons_zero, List.set_cons_succ])
 refine lsq (by rfl) (by rfl) ?_; apply Exists.intro; refine ⟨fun H w2 hg hp => ?_, ?_⟩
 ·(first | (go_simp; rfl) | go_simp)
 (try simp only [Act.put, List.setIfInBounds_toArray, List.set_cons_zero, List.set_cons_succ])
 refine lsq (by rfl) (by rfl) ?_; apply Exists.intro; refine ⟨fun H w2 hg hp => ?_, ?_⟩
 ·have g0 := (f1.below hg.below).cell; (first | (go_simp; rfl) | go_simp)
 (try simp only [Act.put, List.setIfInBounds_toArray, List.set_cons_zero, List.set_cons_succ])
 refine lsq (by rfl) (by rfl) ?_; apply Exists.intro; refine ⟨fun H w2 hg hp => ?_, ?_⟩
 ·(first | (go_simp; rfl) | go_simp)
 (try simp only [Act.put, List.setIfInBounds_toArray, List.set_cons_zero, List.set_cons_succ])
 refine lsq (by rfl) (by rfl) ?_; apply Exists.intro; refine ⟨fun H w2 hg hp => ?_, ?_⟩
 ·have g0 := (f1.below hg.below).cell; (first | (go_simp; rfl) | go_simp)
 (try simp only [Act.put, List.setIfInBounds_toArray, List.set_cons_zero, List.set_cons_succ])
 refine ls_ev (by rfl) (by rfl) (by rfl) (fun H w2 hg hp => ?_) ?_
 ·refine Kcy (f := 7) ?_; apply Exists.intro; refine ⟨?_, ?_⟩
  ·(first | (go_simp; rfl) | go_simp)
  ·exact g_begin hg.ag (Rep.mono hg.le rp) (Rep.mono hg.le rq) (KL.mono hg.le rk) bp bq (by omega)
 (try simp only [Act.put, List.setIfInBounds_toArray, List.set_cons_zero, List.set_cons_succ])
 refine lsq (by rfl) (by rfl) ?_; apply Exists.intro; refine ⟨fun H w2 hg hp => ?_, ?_⟩
 ·(first | (go_simp; rfl) | go_simp)
 (try simp only [Act.put, List.setIfInBounds_toArray, List.set_cons_zero, List.set_cons_succ])
 refine lsq (by rfl) (by rfl) ?_; apply Exists.intro; refine ⟨fun H w2 hg hp => ?_, ?_⟩
 ·have g0 := (f1.below hg.below).cell; (first | (go_simp; rfl) | go_simp)
 (try simp only [Act.put, List.setIfInBounds_toArray, List.set_cons_zero, List.set_cons_succ])
 refine lsq (by rfl) (by rfl) ?_; apply Exists.intro; refine ⟨fun H w2 hg hp => ?_, ?_⟩
 ·(first | (go_simp; rfl) | go_simp)
 (try simp only [Act.put, List.setIfInBounds_toArray, List.set_cons_zero, List.set_cons_succ])
 refine lsq (by rfl) (by rfl) ?_; apply Exists.intro; refine ⟨fun H w2 hg hp => ?_, ?_⟩
 ·have g0 := (f1.below hg.below).cell; (first | (go_simp; rfl) | go_simp)
 (try simp only [Act.put, List.setIfInBounds_toArray, List.set_cons_zero, List.set_cons_succ])
 refine lsq (by rfl) (by rfl) ?_; apply Exists.intro; refine ⟨fun H w2 hg hp => ?_, ?_⟩
 ·(first | (go_simp; rfl) | go_simp)
 (try simp only [Act.put, List.setIfInBounds_toArray, List.set_cons_zero, List.set_cons_succ])
 refine lsq (by rfl) (by rfl) ?_; apply Exists.intro; refine ⟨fun H w2 hg hp => ?_, ?_⟩
 ·have g0 := (f1.below hg.below).cell; (first | (go_simp; rfl) | go_simp)
 (try simp only [Act.put, List.setIfInBounds_toArray, List.set_cons_zero, List.set_cons_succ])
 refine ls_ev (by rfl) (by rfl) (by rfl) (fun H w2 hg hp => ?_) ?_
 ·refine Kcy (f := 8) ?_; apply Exists.intro; refine ⟨?_, ?_⟩
  ·(first | (go_simp; rfl) | go_simp)
  ·exact g_rbegin hg.ag (Rep.mono hg.le rp) (Rep.mono hg.le rq) (KL.mono hg.le rk) bp bq (by omega)
 (try simp only [Act.put, List.setIfInBounds_toArray, List.set_cons_zero, List.set_cons_succ])
 refine ls_ev (by rfl) (by rfl) (by rfl) (fun H w2 hg hp => ?_) ?_
 ·refine Kcy (f := 6) ?_; apply Exists.intro; refine ⟨?_, ?_⟩
  ·(first | (go_simp; rfl) | go_simp)
  ·exact g_keys hg.ag (hp 6 (by simp)) (hp 13 (by simp)) (by have := KgT k.gP k.gQ k.gKnown; omega)
 (try simp only [Act.put, List.setIfInBounds_toArray, List.set_cons_zero, List.set_cons_succ])
 refine lsq (by rfl) (by rfl) ?_; apply Exists.intro; refine ⟨fun H w2 hg hp => ?_, ?_⟩
 ·have hv14 : vals 14 = .bool true := hp 14 (by simp); (first | (go_simp; rfl) | go_simp)
 (try simp only [Act.put, List.setIfInBounds_toArray, List.set_cons_zero, List.set_cons_succ])
 first | refine Kby (by rfl) (by rfl) ?_ | (refine lsq (by rfl) (by rfl) ?_; apply Exists.intro; refine ⟨fun H w2 hg hp => ?_, ?_⟩; focus ((first | (go_simp; rfl) | go_simp)))
 (try simp only [Act.put, List.setIfInBounds_toArray, List.set_cons_zero, List.set_cons_succ])
 first | refine Kby (by rfl) (by rfl) ?_ | (refine lsq (by rfl) (by rfl) ?_; apply Exists.intro; refine ⟨fun H w2 hg hp => ?_, ?_⟩; focus (have g0 := (f1.below hg.below).cell; (first | (go_simp; rfl) | go_simp)))
 (try simp only [Act.put, List.setIfInBounds_toArray, List.set_cons_zero, List.set_cons_succ])
 first | refine Kby (by rfl) (by rfl) ?_ | (refine lsq (by rfl) (by rfl) ?_; apply Exists.intro; refine ⟨fun H w2 hg hp => ?_, ?_⟩; focus ((first | (go_simp; rfl) | go_simp)))
 (try simp only [Act.put, List.setIfInBounds_toArray, List.set_cons_zero, List.set_cons_succ])
 first | refine Kby (by rfl) (by rfl) ?_ | (refine lsq (by rfl) (by rfl) ?_; apply Exists.intro; refine ⟨fun H w2 hg hp => ?_, ?_⟩; focus (have g0 := (f1.below hg.below).cell; (first | (go_simp; rfl) | go_simp)))
 (try simp only [Act.put, List.setIfInBounds_toArray, List.set_cons_zero, List.set_cons_succ])
 first | refine Kby (by rfl) (by rfl) ?_ | (refine lsq (by rfl) (by rfl) ?_; apply Exists.intro; refine ⟨fun H w2 hg hp => ?_, ?_⟩; focus ((first | (go_simp; rfl) | go_simp)))
 (try simp only [Act.put, List.setIfInBounds_toArray, List.set_cons_zero, List.set_cons_succ])
 first | refine Kby (by rfl) (by rfl) ?_ | (refine lsq (by rfl) (by rfl) ?_; apply Exists.intro; refine ⟨fun H w2 hg hp => ?_, ?_⟩; focus ((first | (go_simp; rfl) | go_simp)))
 (try simp only [Act.put, List.setIfInBounds_toArray, List.set_cons_zero, List.set_cons_succ])
 first | refine Kby (by rfl) (by rfl) ?_ | (refine lsq (by rfl) (by rfl) ?_; apply Exists.intro; refine ⟨fun H w2 hg hp => ?_, ?_⟩; focus ((first | (go_simp; rfl) | go_simp)))
 (try simp only [Act.put, List.setIfInBounds_toArray, List.set_cons_zero, List.set_cons_succ])
 first | refine Kby (by rfl) (by rfl) ?_ | (refine lsq (by rfl) (by rfl) ?_; apply Exists.intro; refine ⟨fun H w2 hg hp => ?_, ?_⟩; focus (have g0 := (f1.below hg.below).cell; (first | (go_simp; rfl) | go_simp)))
 (try simp only [Act.put, List.setIfInBounds_toArray, List.set_cons_zero, List.set_cons_succ])
 refine ls_ev (by rfl) (by rfl) (by rfl) (fun H w2 hg hp => ?_) ?_
 ·refine Kcy (f := 9) ?_; apply Exists.intro; refine ⟨?_, ?_⟩
  ·(first | (go_simp; rfl) | go_simp)
  ·exact Of_calls _ _ hg.ag (Rep.mono hg.le rp) (Rep.mono hg.le rq) (KL.mono hg.le rk) bp bq hl (blk_grow blks5 nd5 hA5 hg) nd5 ry rz np nq
 (try simp only [Act.put, List.setIfInBounds_toArray, List.set_cons_zero, List.set_cons_succ])
 first | refine Kby (by rfl) (by rfl) ?_ | (refine lsq (by rfl) (by rfl) ?_; apply Exists.intro; refine ⟨fun H w2 hg hp => ?_, ?_⟩; focus ((first | (go_simp; rfl) | go_simp)))
 (try simp only [Act.put, List.setIfInBounds_toArray, List.set_cons_zero, List.set_cons_succ])
 first | refine Kby (by rfl) (by rfl) ?_ | (refine lsq (by rfl) (by rfl) ?_; apply Exists.intro; refine ⟨fun H w2 hg hp => ?_, ?_⟩; focus (have g0 := (f1.below hg.below).cell; (first | (go_simp; rfl) | go_simp)))
 (try simp only [Act.put, List.setIfInBounds_toArray, List.set_cons_zero, List.set_cons_succ])
 first | refine Kby (by rfl) (by rfl) ?_ | (refine lsq (by rfl) (by rfl) ?_; apply Exists.intro; refine ⟨fun H w2 hg hp => ?_, ?_⟩; focus ((first | (go_simp; rfl) | go_simp)))
 (try simp only [Act.put, List.setIfInBounds_toArray, List.set_cons_zero, List.set_cons_succ])
 first | refine Kby (by rfl) (by rfl) ?_ | (refine lsq (by rfl) (by rfl) ?_; apply Exists.intro; refine ⟨fun H w2 hg hp => ?_, ?_⟩; focus (have g0 := (f1.below hg.below).cell; (first | (go_simp; rfl) | go_simp)))
 (try simp only [Act.put, List.setIfInBounds_toArray, List.set_cons_zero, List.set_cons_succ])
 first | refine Kby (by rfl) (by rfl) ?_ | (refine lsq (by rfl) (by rfl) ?_; apply Exists.intro; refine ⟨fun H w2 hg hp => ?_, ?_⟩; focus ((first | (go_simp; rfl) | go_simp)))
 (try simp only [Act.put, List.setIfInBounds_toArray, List.set_cons_zero, List.set_cons_succ])
 first | refine Kby (by rfl) (by rfl) ?_ | (refine lsq (by rfl) (by rfl) ?_; apply Exists.intro; refine ⟨fun H w2 hg hp => ?_, ?_⟩; focus ((first | (go_simp; rfl) | go_simp)))
 (try simp only [Act.put, List.setIfInBounds_toArray, List.set_cons_zero, List.set_cons_succ])
 first | refine Kby (by rfl) (by rfl) ?_ | (refine lsq (by rfl) (by rfl) ?_; apply Exists.intro; refine ⟨fun H w2 hg hp => ?_, ?_⟩; focus ((first | (go_simp; rfl) | go_simp)))
 (try simp only [Act.put, List.setIfInBounds_toArray, List.set_cons_zero, List.set_cons_succ])
 first | refine Kby (by rfl) (by rfl) ?_ | (refine lsq (by rfl) (by rfl) ?_; apply Exists.intro; refine ⟨fun H w2 hg hp => ?_, ?_⟩; focus (have g0 := (f1.below hg.below).cell; (first | (go_simp; rfl) | go_simp)))
 (try simp only [Act.put, List.setIfInBounds_toArray, List.set_cons_zero, List.set_cons_succ])
 refine ls_ev (by rfl) (by rfl) (by rfl) (fun H w2 hg hp => ?_) ?_
 ·refine Kcy (f := 10) ?_; apply Exists.intro; refine ⟨?_, ?_⟩
  ·(first | (go_simp; rfl) | go_simp)
  ·exact g_rof hg.ag (Rep.mono hg.le rp) (Rep.mono hg.le rq) (KL.mono hg.le rk) bp bq hl ry.cp rz.cp np nq (PL.mono k3' hg.le) (PL.mono k5 hg.le)
 (try simp only [Act.put, List.setIfInBounds_toArray, List.set_cons_zero, List.set_cons_succ])
 refine ls_ev (by rfl) (by rfl) (by rfl) (fun H w2 hg hp => ?_) ?_
 ·refine Kcy (f := 6) ?_; apply Exists.intro; refine ⟨?_, ?_⟩
  ·(first | (go_simp; rfl) | go_simp)
  ·obtain ⟨o1, u1, b1⟩ := hp 24 (by simp); obtain ⟨o2, u2, b2⟩ := hp 33 (by simp); have he := b1.unique b2; subst he; exact g_keys hg.ag u1 u2 (by have := or_len b1; omega)
 (try simp only [Act.put, List.setIfInBounds_toArray, List.set_cons_zero, List.set_cons_succ])
 refine lsq (by rfl) (by rfl) ?_; apply Exists.intro; refine ⟨fun H w2 hg hp => ?_, ?_⟩
 ·have hv34 : vals 34 = .bool true := hp 34 (by simp); (first | (go_simp; rfl) | go_simp)
 (try simp only [Act.put, List.setIfInBounds_toArray, List.set_cons_zero, List.set_cons_succ])
 refine lsq (by rfl) (by rfl) ?_; apply Exists.intro; refine ⟨fun H w2 hg hp => ?_, ?_⟩
 ·(first | (go_simp; rfl) | go_simp)
 (try simp only [Act.put, List.setIfInBounds_toArray, List.set_cons_zero, List.set_cons_succ])
 refine ls_ev (by rfl) (by rfl) (by rfl) (fun H w2 hg hp => ?_) ?_
 ·refine Kcy (f := 11) ?_; apply Exists.intro; refine ⟨?_, ?_⟩
  ·(first | (go_simp; rfl) | go_simp)
  ·exact g_lives hg.ag
 (try simp only [Act.put, List.setIfInBounds_toArray, List.set_cons_zero, List.set_cons_succ])
 refine lsq (by rfl) (by rfl) ?_; apply Exists.intro; refine ⟨fun H w2 hg hp => ?_, ?_⟩
 ·have hv37 : vals 37 = .bool true := hp 37 (by simp); (first | (go_simp; rfl) | go_simp)
 (try simp only [Act.put, List.setIfInBounds_toArray, List.set_cons_zero, List.set_cons_succ])
 refine lsq (by rfl) (by rfl) ?_; apply Exists.intro; refine ⟨fun H w2 hg hp => ?_, ?_⟩
 ·(first | (go_simp; rfl) | go_simp)
 refine ls_nil (fun H w2 hg hr hd => ?_)
 have e14 : vals 14 = .bool true := hr 14 (by simp)
 have e34 : vals 34 = .bool true := hr 34 (by simp)
 have e37 : vals 37 = .bool true := hr 37 (by simp)
 simp only [e14, e34, e37, Act.put, List.setIfInBounds_toArray, List.set_cons_zero, List.set_cons_succ, List.drop_succ_cons, List.drop_zero]
 refine wpList_nil ?_
 go_wp2
 go_ret
 exact ⟨rfl, hb1.trans ((hb5.trans (hg.below.mono hb5.size)).mono hb1.size)⟩
end Go.Proofs.YtnfkijcmakgkmaaGreat.Ab
namespace Go.Proofs.YtnfkijcmakgkmaaGreat.Ab
open Go Go.Proofs.YtnfkijcmakgkmaaGreat.Ab.Pq
set_option linter.all false
theorem wts_mem {α : Type} {e : α → D} : ∀ {l : List α} {x : α}, x ∈ l → wt (e x) ≤ wts (l.map e)
  | y :: l, x, h => by
    simp only [List.map_cons, wts]
    rcases List.mem_cons.1 h with rfl | h
    · omega
    · have := wts_mem (e := e) h; omega
theorem wts_vl : ∀ l : List Kba, l.length ≤ wts (l.map Kah)
  | [] => by simp
  | v :: l => by
    have := wts_vl l
    simp only [List.length_cons, List.map_cons, wts]
    have h : 1 ≤ wt (Kah v) := by
      unfold Kah; simp only [wt, wts, wtv]; omega
    omega
theorem wt_fb (x : KT) (h : wt (KF x) ≤ 1048576) : Pq.FB x := by
 have h1 := wts_vl x.gParams
 have h2 := wts_vl x.gLocals
 have h3 := KgP x.gBody
 unfold wSs at h3
 unfold KF at h
 simp only [wt, wts, wtv] at h
 unfold Pq.FB
 omega
theorem wt_funcs : ∀ l : List KT, 4 * l.length ≤ wts (l.map KF)
  | [] => Nat.zero_le _
  | x :: l => by
    have := wt_funcs l
    simp only [List.map_cons, wts, List.length_cons, KF, wt, wtv]; omega
theorem wt_globs : ∀ l : List Kab, 4 * l.length ≤ wts (l.map KK)
  | [] => Nat.zero_le _
  | x :: l => by
    have := wt_globs l
    simp only [List.map_cons, wts, List.length_cons, KK, wt, wtv]; omega
theorem KhR : ∀ l : List KP, l.length ≤ wts (l.map KO)
  | [] => Nat.zero_le _
  | x :: l => by
    have := KhR l
    simp only [List.map_cons, wts, List.length_cons, KO, wt, wtv]; omega
theorem wt_keys : ∀ l : List Ka, l.length ≤ wts (l.map Kd)
  | [] => Nat.zero_le _
  | x :: l => by
    have := wt_keys l
    simp only [List.map_cons, wts, List.length_cons, Kd, wt, wtv]; omega
theorem wt_pb (p : Kw) (h1 : wts (p.gGlobals.map KK) ≤ 1048576) (h2 : wts (p.gFuncs.map KF) ≤ 1048576) : PB p := by
 have := wt_funcs p.gFuncs
 have := wt_globs p.gGlobals
 refine ⟨by omega, by omega, fun x hx => wt_fb x ?_⟩
 have := wts_mem (e := KF) hx
 omega
theorem wt_case (k : Kbb) (h : wt (Ka7 k) ≤ 1048576) : PB k.gP ∧ PB k.gQ ∧ k.gKnown.length ≤ 1048576 ∧ k.gReads.length ≤ 1048576 ∧ k.gAdds.length ≤ 1048576 := by
 unfold Ka7 at h
 simp only [wt, wts, wtv] at h
 have h1 := wt_keys k.gKnown
 have h2 := KhR k.gReads
 have h3 := KhR k.gAdds
 exact ⟨wt_pb _ (by omega) (by omega), wt_pb _ (by omega) (by omega), by omega, by omega, by omega⟩
theorem SpreadBegins_U (a0 : Kbb) (h : wt (Ka7 a0) ≤ 1048576) (_ : KdI a0) : CallsD Tryz.prog 3 [Ka7 a0] [] [] (fun d h k => d = .v (.bool true) ∧ h = [] ∧ k = []) := by
 obtain ⟨h1, h2, h3, h4, h5⟩ := wt_case a0 h
 exact Kio a0 h1 h2 h3 h4 h5
end Go.Proofs.YtnfkijcmakgkmaaGreat.Ab
namespace Go.Proofs.YtnfkijcmakgkmaaGreat
open Go.ChangeShapes Go.WideShapes Go.ChangeAt Go.RowKit Go.Joins
set_option linter.all false
mutual
theorem KcN {H : Type} : ∀ d : DataW H, Ab.bulk d ≤ Rows.uptoBulk d
 | .lit (.string bytes) => by simp [Ab.bulk, Rows.uptoBulk]
 | .lit (.int _ _) => by simp [Ab.bulk, Rows.uptoBulk]
 | .lit (.bool _) => by simp [Ab.bulk, Rows.uptoBulk]
 | .lit l => by cases l <;> simp [Ab.bulk, Rows.uptoBulk]
 | .nil => by simp [Ab.bulk, Rows.uptoBulk]
 | .ptr d => by have := KcN d; simp only [Ab.bulk, Rows.uptoBulk]; omega
 | .slice elems spare => by have h1 := Kbh elems; have h2 := Kbh spare; simp only [Ab.bulk, Rows.uptoBulk]; omega
 | .agg parts => by have := Kbh parts; simp only [Ab.bulk, Rows.uptoBulk]; omega
 | .iface t d => by have := KcN d; simp only [Ab.bulk, Rows.uptoBulk]; omega
 | .map entries => by simp [Ab.bulk, Rows.uptoBulk]
 | .held h => by simp [Ab.bulk, Rows.uptoBulk]
theorem Kbh {H : Type} : ∀ l : List (DataW H), Ab.bulkAll l ≤ Rows.uptoBulkAll l
 | [] => by simp [Ab.bulkAll, Rows.uptoBulkAll]
 | d :: l => by have h1 := KcN d; have h2 := Kbh l; simp only [Ab.bulkAll, Rows.uptoBulkAll]; omega
end
theorem Kfk (os : Os) (started : os.Started) (H : Type) (enc : TypeId × Value → H) (Fi : Stop.Interp) :
  ReturnsInHanded {} Tryz.checked os 3 .any ((Rows.OpenSpec.upto Rows.spreadBeginsSpec).pre6 enc Tryz.prog Tryz.f3 Rows.spreadBeginsUptoRow.domain false) (((Rows.OpenSpec.upto Rows.spreadBeginsSpec).at Fi).post enc Tryz.prog Tryz.f3 false true false false) := by
 refine returnsInHanded_of_cond (C := Tryz.checked) (s := Rows.OpenSpec.upto Rows.spreadBeginsSpec) (k := Rows.uptoSmall) rfl own started (by kernel_rfl) Tryz.func3
  (OpenSpec.witness (enc := enc) (C := Tryz.checked) (s := Rows.OpenSpec.upto Rows.spreadBeginsSpec) (k := Rows.uptoSmall) rfl false ⟨#[], #[.agg #[.slice none 0 0, .slice none 0 0, .slice none 0 0, .slice none 0 0, .slice none 0 0, .slice none 0 0, .slice none 0 0]], []⟩ 8 (by kernel_rfl) (by kernel_rfl) (by kernel_rfl)
   (x := ([.agg [.agg [.nil, .nil], .agg [.nil, .nil], .nil, .nil, .nil]], [], [])) (by kernel_rfl) rfl (by kernel_rfl)) ?_
 intro W base args ds gs before hval0 hW _ hk _
 have hval : ∀ (j : Nat) t v, Tryz.f3.params[j]? = some t → args[j]? = some v → Value.okWide Tryz.prog W .any base t v := hval0
 have hW' := hW
 obtain ⟨p, q, hA0, hV, rfl, hfz, hnd⟩ := hW
 have hA : DataW.TrodAll enc Tryz.prog W 0 (fun _ => true) true Tryz.f3.params.toList args.toList ds p := hA0
 obtain ⟨rfl, rfl⟩ := trodVars_none hV
 simp only [List.append_nil] at hW' hk
 have hback := KiJ laidOut' (by kernel_rfl) hA (fun x hx => hW'.lt x hx)
 rw [Tryz.params3] at hA hval
 obtain ⟨v0, vs0, d0, ds0, p0, q0, hargs, rfl, hp0, h0, r0⟩ := trodAll_cons hA
 obtain ⟨rfl, rfl, hpn⟩ := trodAll_nil r0
 obtain rfl : args = #[v0] := by cases args; simp_all
 obtain ⟨n0, x0, g0, rep0, u0⟩ := Ab.rdw_arg (t := 29) Ab.htab [3, 4, 9, 22, 23, 25, 26, 27, 29, 41, 43, 60, 61, 63, 95, 97, 100, 110, 130] (by kernel_rfl) (by kernel_rfl) (hval 0 29 v0 rfl rfl) h0
 obtain ⟨a0, rfl, k0⟩ := Ab.goodTSondagelaw32Case g0
 have hb0 := of_decide_eq_true hk
 have hb1 := Kbh [d0]
 simp only [Ab.bulkAll] at hb1
 clear hA0 hval0
 refine (Ab.to_calls (us := #[v0]) (Ab.SpreadBegins_U a0 (by omega) k0) (Ab.ag_all W) (by simp only [Ab.RepsV]; exact ⟨_, _, rfl, rep0, rfl⟩)).mono fun e W' ⟨he, hb⟩ => ?_
 subst he
 exact ⟨_, rfl, _, _, _, [], p, [], hW', trodAll_cons_mk (shut_bool Tryz.underlying4 _) trodAll_mk0, hback W' hb _ (fun x hx => by simpa using hW'.lt x hx), rfl, hb.frame _, fun h => by cases h⟩
theorem spreadBeginsUpto_holds : Rows.SpreadBeginsUptoSaid :=
 OpenClaim.holds_of_cond 3 Tryz.f3 rfl rfl rfl rfl rfl rfl rfl ⟨rfl, rfl, rfl, rfl, rfl⟩ rfl rfl rfl rfl rfl (by kernel_rfl) Tryz.func3 (by kernel_rfl)
  (of_decide_eq_true (by kernel_rfl)) (by unfold Func.isWrapper; rw [if_neg (of_decide_eq_false (by kernel_rfl))]; exact ⟨rfl, rfl⟩)
  (fun os started H enc _ Fi => Kfk os started H enc Fi)
#print axioms spreadBeginsUpto_holds
end Go.Proofs.YtnfkijcmakgkmaaGreat
