/- slices.Grow of nil, as a contract; Clone as rows' maker. Over any program. -/
import Derived.Test.YtpeimfcmhedjmaaSo1
import Derived.Test.YtpeimfcmhedjmaaBc
import Derived.Laws.AppendOwn
namespace Go.Proofs.Ytpeimfcmhedjmaa.Ab
open Go
set_option linter.all false
theorem rep_full0 {H : Hp} {k0 : Nat} {v : Value} (hr : Rep H (.lst k0 [] .full) v) : ∃ a, v = .slice a 0 0 := by
  obtain ⟨hc, hx⟩ := rep_lst_inv hr
  rcases hx with ⟨_, a, m, rfl, _⟩ | ⟨b, off, m, rfl, hm, _⟩
  · simp only [CapOK] at hc; subst hc; exact ⟨a, rfl⟩
  · simp only [CapOK, List.length_nil] at hc; subst hc; exact ⟨_, rfl⟩
theorem grow_nil {P : Program} {f : FuncId} {e : TypeId} {kk bb k0 : Nat} (hg : Goes P f)
    (hi : ∃ i0 z, P.info? e = some i0 ∧ i0.zero = some z ∧ i0.size = kk ∧ i0.bytes = bb ∧ z.cells.size = kk) (hkk : 0 < kk)
    (hroom : ∀ (a : Option Addr) (w : World), Calls P f #[.slice a 0 0, .int .i64 ((0 : Nat) : Int)] w fun e' w' => e' = .returned (.slice a 0 0) ∧ w' = w)
    (hgrow : ∀ (i0 : TypeInfo) (z : Value) (hi0 : P.info? e = some i0) (hz0 : i0.zero = some z) (hs0 : 0 < i0.size) (a : Option Addr) (n : Nat) (w : World), 0 < n → n * i0.bytes ≤ 140737488355328 → n ≤ 4611686018427387904 →
      Calls P f #[.slice a 0 0, .int .i64 (n : Int)] w fun e' w' => e' = .returned (.slice (some ⟨w.heap.size, 0, none⟩) 0 (grownCap w n 0 e)) ∧
        w' = w.drew.alloc (.cells (#[] ++ Builtin.zeroCells z.cells n ++ Builtin.zeroCells z.cells (grownCap w n 0 e - n)) e))
    (n : Int) (hn : 0 ≤ n) (hb : n * bb ≤ 140737488355328) (h62 : n ≤ 4611686018427387904) :
    CallsD P f [.lst k0 [] .full, .v (.int .i64 n)] [] [] (fun d h k => ∃ z : Z3, d = .v (SL z) ∧ h = [(0, .row kk [] (SL z))] ∧ k = []) := by
  refine ⟨hg, fun H w vs hv hA _ _ _ => ?_⟩
  simp only [RepsV] at hv
  obtain ⟨u, us, rfl, hu, u2, us2, rfl, hu2, rfl⟩ := hv
  have := rep_v_inv hu2
  subst this
  obtain ⟨a, rfl⟩ := rep_full0 hu
  obtain ⟨m, rfl⟩ := Int.eq_ofNat_of_zero_le hn
  by_cases h0 : m = 0
  · subst h0
    refine (hroom a w).mono fun e' w' ⟨he', hw⟩ => ?_
    subst hw
    refine ⟨_, H, .v (SL (a, 0, 0)), [(0, .row kk [] (SL (a, 0, 0)))], [], he', rep_v rfl, ?_, (a, 0, 0), rfl, rfl, rfl⟩
    refine ⟨hA, Hp.le_refl H, fun _ _ x => .inl x, fun _ _ _ => rfl, Nat.le_refl _, ?_, by simp, ?_, ?_, Env.refl _⟩
    · intro p hp
      simp only [List.mem_singleton] at hp; subst hp
      exact .inl ⟨a, rfl, rfl⟩
    · cases a <;> simp [claims, blkClaim, sliceClaim]
    · cases a <;> simp [claims, blkClaim, sliceClaim]
  · obtain ⟨i0, z, hi0, hz0, hs, hbb, hzs⟩ := hi
    have hgc := grownCap_ge w m 0 e
    refine (hgrow i0 z hi0 hz0 (by omega) a m w (by omega) (by rw [hbb]; omega) (by omega)).mono fun e' w' ⟨he', hw⟩ => ?_
    generalize grownCap w m 0 e = gc at hgc he' hw
    have earr : #[] ++ Builtin.zeroCells z.cells m ++ Builtin.zeroCells z.cells (gc - m) = ((Builtin.zeroCells z.cells m).toList ++ (Builtin.zeroCells z.cells (gc - m)).toList).toArray := by simp
    rw [earr] at hw
    have hlen : ((Builtin.zeroCells z.cells m).toList ++ (Builtin.zeroCells z.cells (gc - m)).toList).length = gc * kk := by
      simp only [List.length_append, Array.length_toList, size_zeroCells, hzs]
      rw [← Nat.add_mul]; congr 1; omega
    generalize (Builtin.zeroCells z.cells m).toList ++ (Builtin.zeroCells z.cells (gc - m)).toList = cs at hlen hw
    subst hw
    have hsizew : w.drew.heap.size = w.heap.size := rfl
    have hcells : (w.drew.alloc (.cells cs.toArray e)).heap[w.heap.size]? = some (.cells cs.toArray e (0, 0)) := by
      rw [heap_alloc, hsizew, if_pos rfl]
    have hm0 : 0 < gc := by omega
    refine ⟨_, H, .v (SL (some ⟨w.heap.size, 0, none⟩, 0, gc)), [(0, .row kk [] (SL (some ⟨w.heap.size, 0, none⟩, 0, gc)))], [], he', rep_v rfl, ?_, (some ⟨w.heap.size, 0, none⟩, 0, gc), rfl, rfl, rfl⟩
    refine ⟨fun a v e' => cell_alloc _ (hA a v e'), Hp.le_refl H, fun _ _ x => .inl x, fun b hb _ => ?_, ?_, ?_, by simp, ?_, ?_, ⟨rfl, rfl, rfl⟩⟩
    · rw [heap_alloc, hsizew, if_neg (by exact Nat.ne_of_lt hb)]; rfl
    · rw [size_alloc, hsizew]; exact Nat.le_succ _
    · intro p hp
      simp only [List.mem_singleton] at hp; subst hp
      refine .inr ⟨w.heap.size, gc, [], cs, e, by simp [SL], by simp, hm0, by simpa using hcells, rfl, ?_, fun o => ?_⟩
      · simp only [List.nil_append]; omega
      · cases q : H ⟨w.heap.size, o, none⟩ with
        | none => rfl
        | some v => exact absurd (hA.lt q) (Nat.lt_irrefl _)
    · simp [claims, blkClaim, sliceClaim, hm0]
    · intro x hx; simp [claims, blkClaim, sliceClaim, hm0] at hx; subst hx; exact .inr (Nat.le_refl _)
end Go.Proofs.Ytpeimfcmhedjmaa.Ab
