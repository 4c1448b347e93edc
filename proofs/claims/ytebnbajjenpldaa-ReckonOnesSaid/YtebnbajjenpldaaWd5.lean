/- The program's functions on numbers of two words: what each returns. -/
import Derived.Test.YtebnbajjenpldaaWd4
import Derived.Test.YtebnbajjenpldaaShelf
import Derived.Shelf.Spec.BitsCarry
import Derived.Laws.Externs
import Derived.Laws.StructEq
namespace Go.Proofs.Ytebnbajjenpldaa
open Go.RowKit Go.Shelf
theorem add64 (x y c : Int) (hx : 0 ≤ x) (hy : 0 ≤ y) (hc0 : 0 ≤ c) (hc : c ≤ 1) (hx1 : x < 18446744073709551616) (hy1 : y < 18446744073709551616) (w : World) : (callFunc 76 #[.int .u64 x, .int .u64 y, .int .u64 c]).run Try.prog w =
    .ok (.value (.tuple #[.int .u64 ((x + y + c) % 18446744073709551616), .int .u64 ((x + y + c) / 18446744073709551616)])) w := by
  obtain ⟨x, rfl⟩ := Int.eq_ofNat_of_zero_le hx
  obtain ⟨y, rfl⟩ := Int.eq_ofNat_of_zero_le hy
  obtain ⟨c, rfl⟩ := Int.eq_ofNat_of_zero_le hc0
  rw [run_callFunc_extern Try.func76 (by kernel_rfl) (by kernel_rfl) (by kernel_rfl) (e := add64Entry) (by kernel_rfl), run_add64 x y c (by omega) (by omega) (by omega) (by omega)]
  simp only [Result.andThen]
theorem sub64 (x y b : Int) (hx : 0 ≤ x) (hy : 0 ≤ y) (hy' : y < 18446744073709551616) (hb0 : 0 ≤ b) (hb : b ≤ 1) (w : World) : (callFunc 71 #[.int .u64 x, .int .u64 y, .int .u64 b]).run Try.prog w =
    .ok (.value (.tuple #[.int .u64 ((x - y - b) % 18446744073709551616), .int .u64 (if x < y + b then 1 else 0)])) w := by
  obtain ⟨x, rfl⟩ := Int.eq_ofNat_of_zero_le hx
  obtain ⟨y, rfl⟩ := Int.eq_ofNat_of_zero_le hy
  obtain ⟨b, rfl⟩ := Int.eq_ofNat_of_zero_le hb0
  have e1 : (((x + 18446744073709551616 - y - b) % 18446744073709551616 : Nat) : Int) = ((x : Int) - y - b) % 18446744073709551616 := by omega
  have e2 : ((if x < y + b then 1 else 0 : Nat) : Int) = if (x : Int) < y + b then 1 else 0 := by split <;> split <;> omega
  rw [← e1, ← e2]
  rw [run_callFunc_extern Try.func71 (by kernel_rfl) (by kernel_rfl) (by kernel_rfl) (e := sub64Entry) (by kernel_rfl), run_sub64 x y b (by omega)]
  rfl
/-- The borrow, under a name. -/
def bor (x y b : Int) : Int := if x < y + b then 1 else 0
theorem bor_range (x y b : Int) : 0 ≤ bor x y b ∧ bor x y b ≤ 1 := by unfold bor; split <;> omega
theorem sub64b (x y b : Int) (hx : 0 ≤ x) (hy : 0 ≤ y) (hy' : y < 18446744073709551616) (hb0 : 0 ≤ b) (hb : b ≤ 1) (w : World) : (callFunc 71 #[.int .u64 x, .int .u64 y, .int .u64 b]).run Try.prog w =
    .ok (.value (.tuple #[.int .u64 ((x - y - b) % 18446744073709551616), .int .u64 (bor x y b)])) w := sub64 x y b hx hy hy' hb0 hb w
theorem wadd_any (h l h' l' : Int) (w : World) (k : Ok2 h l) (k' : Ok2 h' l') :
    Calls Try.prog 58 #[.agg #[.int .i64 h, .int .u64 l], .agg #[.int .i64 h', .int .u64 l']] w fun e w' => e = .returned (.agg #[.int .i64 (hiW (V h l + V h' l')), .int .u64 (loW (V h l + V h' l'))]) ∧ Below w.heap.size w w' := by
  obtain ⟨u, hu⟩ : ∃ u, IntKind.u64.wrap h = u := ⟨_, rfl⟩
  obtain ⟨u', hu'⟩ : ∃ u', IntKind.u64.wrap h' = u' := ⟨_, rfl⟩
  have bu := hu; have bu' := hu'; rw [IntKind.wrap_u64] at bu bu'
  have b1 : 0 ≤ u ∧ u < 18446744073709551616 := by omega
  have b2 : 0 ≤ u' ∧ u' < 18446744073709551616 := by omega
  obtain ⟨b1, b1'⟩ := b1; obtain ⟨b2, b2'⟩ := b2
  have k1 := k; have k1' := k'; unfold Ok2 at k1 k1'
  obtain ⟨-, -, l0, l1⟩ := k1; obtain ⟨-, -, m0, m1⟩ := k1'
  have e1 : wrap64 ((u + u' + (l + l') / 18446744073709551616) % 18446744073709551616) = hiW (V h l + V h' l') := by unfold hiW V; rw [wrap64_def, wrap64_def]; omega
  have e2 : (l + l') % 18446744073709551616 = loW (V h l + V h' l') := by unfold loW V; omega
  have q0 : 0 ≤ (l + l') / 18446744073709551616 := by omega
  have q1 : (l + l') / 18446744073709551616 ≤ 1 := by omega
  have A1 := fun w => add64 l l' 0 l0 m0 (by omega) (by omega) l1 m1 w
  simp only [Int.add_zero] at A1
  have A2 := fun w => add64 u u' _ b1 b2 q0 q1 b1' b2' w
  have E1 := Lib.hid e1; have E2 := Lib.hid e2
  clear e1 e2 bu bu' k k'
  go_enter Try.func58, Try.ntmps58
  go_wp2_with (first | simp only [A1] | simp only [A2])
  simp [bodyPost, results, Try.results58, go_sem]
  refine ⟨⟨E1.out, E2.out⟩, ?_⟩
  (repeat (first | with_reducible exact Below.refl _ _ | with_reducible assumption | (with_reducible refine below_set ?_ ?_; focus ((try dsimp only); first | with_reducible assumption | omega)) | (with_reducible refine below_alloc ?_ ?_; focus (first | omega | (simp; done) | (simp; omega))) | with_reducible refine below_drewN ?_ _ | with_reducible refine Below.drew ?_))
theorem wsub_any (h l h' l' : Int) (w : World) (k : Ok2 h l) (k' : Ok2 h' l') :
    Calls Try.prog 43 #[.agg #[.int .i64 h, .int .u64 l], .agg #[.int .i64 h', .int .u64 l']] w fun e w' => e = .returned (.agg #[.int .i64 (hiW (V h l - V h' l')), .int .u64 (loW (V h l - V h' l'))]) ∧ Below w.heap.size w w' := by
  obtain ⟨u, hu⟩ : ∃ u, IntKind.u64.wrap h = u := ⟨_, rfl⟩
  obtain ⟨u', hu'⟩ : ∃ u', IntKind.u64.wrap h' = u' := ⟨_, rfl⟩
  have bu := hu; have bu' := hu'; rw [IntKind.wrap_u64] at bu bu'
  have b1 : 0 ≤ u ∧ u < 18446744073709551616 := by omega
  have b2 : 0 ≤ u' ∧ u' < 18446744073709551616 := by omega
  obtain ⟨b1, b1'⟩ := b1; obtain ⟨b2, b2'⟩ := b2
  have k1 := k; have k1' := k'; unfold Ok2 at k1 k1'
  obtain ⟨-, -, l0, l1⟩ := k1; obtain ⟨-, -, m0, m1⟩ := k1'
  have e1 : wrap64 ((u - u' - bor l l' 0) % 18446744073709551616) = hiW (V h l - V h' l') := by unfold hiW V bor; rw [wrap64_def, wrap64_def]; split <;> omega
  have e2 : (l - l') % 18446744073709551616 = loW (V h l - V h' l') := by unfold loW V; omega
  obtain ⟨q0, q1⟩ := bor_range l l' 0
  have A1 := fun w => sub64b l l' 0 l0 m0 m1 (by omega) (by omega) w
  have A2 := fun w => sub64b u u' _ b1 b2 b2' q0 q1 w
  simp only [Int.sub_zero] at A1
  have E1 := Lib.hid e1; have E2 := Lib.hid e2
  clear e1 e2 bu bu' k k'
  go_enter Try.func43, Try.ntmps43
  go_wp2_with (first | simp only [A1] | simp only [A2])
  simp [bodyPost, results, Try.results43, go_sem]
  refine ⟨⟨E1.out, E2.out⟩, ?_⟩
  (repeat (first | with_reducible exact Below.refl _ _ | with_reducible assumption | (with_reducible refine below_set ?_ ?_; focus ((try dsimp only); first | with_reducible assumption | omega)) | (with_reducible refine below_alloc ?_ ?_; focus (first | omega | (simp; done) | (simp; omega))) | with_reducible refine below_drewN ?_ _ | with_reducible refine Below.drew ?_))
theorem wneg_any (h l : Int) (w : World) (k : Ok2 h l) :
    Calls Try.prog 79 #[.agg #[.int .i64 h, .int .u64 l]] w fun e w' => e = .returned (.agg #[.int .i64 (hiW (-(V h l))), .int .u64 (loW (-(V h l)))]) ∧ Below w.heap.size w w' := by
  have e1 : hiW (V 0 0 - V h l) = hiW (-(V h l)) := by unfold V; congr 1; omega
  have e2 : loW (V 0 0 - V h l) = loW (-(V h l)) := by unfold V; congr 1; omega
  have E1 := Lib.hid e1; have E2 := Lib.hid e2; clear e1 e2
  go_enter Try.func79, Try.ntmps79
  go_wp2_with fail
  refine (wsub_any _ _ _ _ _ (by unfold Ok2; omega) k).mono ?_
  rintro e w3 ⟨rfl, hb⟩
  rw [E1.out, E2.out]
  have m2 := Blk.below (H := E) (n := w.heap.size) (b := w.heap.size + 1) (c := #[.int .i64 0, .int .u64 0]) (T := 31) (by (apply Blk.cast; (repeat (first | with_reducible assumption | (with_reducible apply Blk.mk_new; (focus (first | exact agE _ | assumption)); (focus (first | rfl | (simp; done))); (focus omega)) | with_reducible apply Blk.alloc | with_reducible apply Blk.drewN | with_reducible apply Blk.drew | with_reducible apply Blk.set | (with_reducible apply Blk.far'; focus (first | with_reducible assumption | (apply Ne.symm; with_reducible assumption) | omega)))); (try (first | (simp; done) | rfl)))) hb
  have hb2 := below_then (a := w) (by (repeat (first | with_reducible exact Below.refl _ _ | with_reducible assumption | (with_reducible refine below_set ?_ ?_; focus ((try dsimp only); first | with_reducible assumption | omega)) | (with_reducible refine below_alloc ?_ ?_; focus (first | omega | (simp; done) | (simp; omega))) | with_reducible refine below_drewN ?_ _ | with_reducible refine Below.drew ?_))) hb
  clear hb
  have c6 := m2.cell; have z6 := m2.frozen
  go_wp2
  simp [bodyPost, results, Try.results79, go_sem, c6]
  (repeat (first | with_reducible exact Below.refl _ _ | with_reducible assumption | (with_reducible refine below_set ?_ ?_; focus ((try dsimp only); first | with_reducible assumption | omega)) | (with_reducible refine below_alloc ?_ ?_; focus (first | omega | (simp; done) | (simp; omega))) | with_reducible refine below_drewN ?_ _ | with_reducible refine Below.drew ?_))
theorem wof_any (n : Int) (w : World) (k : I64 n) :
    Calls Try.prog 59 #[.int .i64 n] w fun e w' => e = .returned (.agg #[.int .i64 (hiW (n)), .int .u64 (loW (n))]) ∧ Below w.heap.size w w' := by
  have k' := k
  unfold I64 at k
  obtain ⟨k1, k2⟩ := k
  have e2 : IntKind.u64.wrap n = loW n := by rw [IntKind.wrap_u64]; unfold loW; omega
  go_enter Try.func59, Try.ntmps59
  go_wp2
  simp [bodyPost, results, Try.results59, go_sem]
  exact ⟨by unfold hiW; rw [wrap64_def]; omega, by (repeat (first | with_reducible exact Below.refl _ _ | with_reducible assumption | (with_reducible refine below_set ?_ ?_; focus ((try dsimp only); first | with_reducible assumption | omega)) | (with_reducible refine below_alloc ?_ ?_; focus (first | omega | (simp; done) | (simp; omega))) | with_reducible refine below_drewN ?_ _ | with_reducible refine Below.drew ?_))⟩
theorem wlow_any (h l : Int) (w : World) (_k : Ok2 h l) :
    Calls Try.prog 46 #[.agg #[.int .i64 h, .int .u64 l]] w fun e w' => e = .returned (.int .i64 (wrap64 l)) ∧ Below w.heap.size w w' := by
  go_enter Try.func46, Try.ntmps46
  go_wp2
  go_ret
  exact ⟨rfl, by (repeat (first | with_reducible exact Below.refl _ _ | with_reducible assumption | (with_reducible refine below_set ?_ ?_; focus ((try dsimp only); first | with_reducible assumption | omega)) | (with_reducible refine below_alloc ?_ ?_; focus (first | omega | (simp; done) | (simp; omega))) | with_reducible refine below_drewN ?_ _ | with_reducible refine Below.drew ?_))⟩
theorem wsize_any (n : Int) (w : World) (k : I64 n) :
    Calls Try.prog 78 #[.int .i64 n] w fun e w' => e = .returned (.int .u64 (n.natAbs : Int)) ∧ Below w.heap.size w w' := by
  unfold I64 at k
  obtain ⟨k1, k2⟩ := k
  by_cases hn : n < 0
  · go_enter Try.func78, Try.ntmps78
    go_wp2
    go_ret
    exact ⟨ret_int (by rw [IntKind.wrap_u64, IntKind.wrap_u64]; omega), by (repeat (first | with_reducible exact Below.refl _ _ | with_reducible assumption | (with_reducible refine below_set ?_ ?_; focus ((try dsimp only); first | with_reducible assumption | omega)) | (with_reducible refine below_alloc ?_ ?_; focus (first | omega | (simp; done) | (simp; omega))) | with_reducible refine below_drewN ?_ _ | with_reducible refine Below.drew ?_))⟩
  · have hc : IntKind.u64.wrap n = n := by rw [IntKind.wrap_u64]; omega
    go_enter Try.func78, Try.ntmps78
    go_wp2
    go_ret
    exact ⟨ret_int (by omega), by (repeat (first | with_reducible exact Below.refl _ _ | with_reducible assumption | (with_reducible refine below_set ?_ ?_; focus ((try dsimp only); first | with_reducible assumption | omega)) | (with_reducible refine below_alloc ?_ ?_; focus (first | omega | (simp; done) | (simp; omega))) | with_reducible refine below_drewN ?_ _ | with_reducible refine Below.drew ?_))⟩
theorem wcmp_any (h l h' l' : Int) (w : World) (k : Ok2 h l) (k' : Ok2 h' l') :
    Calls Try.prog 44 #[.agg #[.int .i64 h, .int .u64 l], .agg #[.int .i64 h', .int .u64 l']] w fun e w' => e = .returned (.int .i64 (cmpI (V h l) (V h' l'))) ∧ Below w.heap.size w w' := by
  by_cases he : h = h' ∧ l = l'
  · obtain ⟨rfl, rfl⟩ := he
    have HF : Hid (0 = cmpI (V h l) (V h l)) := (cmpI_eq rfl).symm
    clear k k'
    go_enter Try.func44, Try.ntmps44
    go_wp2
    go_ret
    exact ⟨ret_int HF.out, by (repeat (first | with_reducible exact Below.refl _ _ | with_reducible assumption | (with_reducible refine below_set ?_ ?_; focus ((try dsimp only); first | with_reducible assumption | omega)) | (with_reducible refine below_alloc ?_ ?_; focus (first | omega | (simp; done) | (simp; omega))) | with_reducible refine below_drewN ?_ _ | with_reducible refine Below.drew ?_))⟩
  · have hne : (h == h' && l == l') = false := by simpa using he
    go_enter Try.func44, Try.ntmps44
    go_wp2
    all_goals
      go_ret
      refine ⟨ret_int ?_, by (repeat (first | with_reducible exact Below.refl _ _ | with_reducible assumption | (with_reducible refine below_set ?_ ?_; focus ((try dsimp only); first | with_reducible assumption | omega)) | (with_reducible refine below_alloc ?_ ?_; focus (first | omega | (simp; done) | (simp; omega))) | with_reducible refine below_drewN ?_ _ | with_reducible refine Below.drew ?_))⟩
      unfold Ok2 at k k'
      first | (refine (cmpI_lt ?_).symm; unfold V; omega) | (refine (cmpI_gt ?_).symm; unfold V; omega)
set_option maxRecDepth 100000 in
theorem wint_yes (h l : Int) (w : World) (k : Ok2 h l) (hy : I64 (V h l)) :
    Calls Try.prog 85 #[.agg #[.int .i64 h, .int .u64 l]] w fun e w' => e = .returned (.tuple #[.int .i64 (V h l), .bool true]) ∧ Below w.heap.size w w' := by
  have e0 : wrap64 l = V h l := by unfold I64 at hy; unfold Ok2 at k; unfold V at hy ⊢; rw [wrap64_def]; omega
  have HF := Lib.hid e0
  have e1 : hiW (wrap64 l) = h := by rw [e0, hiW_V k]
  have e2 : loW (wrap64 l) = l := by rw [e0, loW_V k]
  have HE1 := Lib.hid e1; have HE2 := Lib.hid e2; clear e0 e1 e2 hy
  have hi := wrap64_range l
  have HI : Hid (I64 (wrap64 l)) := hi
  clear hi
  go_enter Try.func85, Try.ntmps85
  go_wp2_with fail
  refine (wlow_any h l _ k).mono ?_
  rintro e w3 ⟨rfl, hb⟩
  have m2 := Blk.below (H := E) (n := w.heap.size) (b := w.heap.size) (c := #[.int .i64 h, .int .u64 l]) (T := 31) (by (apply Blk.cast; (repeat (first | with_reducible assumption | (with_reducible apply Blk.mk_new; (focus (first | exact agE _ | assumption)); (focus (first | rfl | (simp; done))); (focus omega)) | with_reducible apply Blk.alloc | with_reducible apply Blk.drewN | with_reducible apply Blk.drew | with_reducible apply Blk.set | (with_reducible apply Blk.far'; focus (first | with_reducible assumption | (apply Ne.symm; with_reducible assumption) | omega)))); (try (first | (simp; done) | rfl)))) hb
  have hb2 := below_then (a := w) (by (repeat (first | with_reducible exact Below.refl _ _ | with_reducible assumption | (with_reducible refine below_set ?_ ?_; focus ((try dsimp only); first | with_reducible assumption | omega)) | (with_reducible refine below_alloc ?_ ?_; focus (first | omega | (simp; done) | (simp; omega))) | with_reducible refine below_drewN ?_ _ | with_reducible refine Below.drew ?_))) hb
  clear hb
  go_wp2_with fail
  refine ls_take (H0 := E) 4 (fun e => match e with | 1 => .is (· = .agg #[.int .i64 h, .int .u64 l]) | _ => .tt) [[],[],[],[1]] [1] [] [[],[0],[],[0,1,2]] (agE _) (by kernel_rfl) (by kernel_rfl) (by kernel_rfl) (by rfl) (by rfl) (by kernel_rfl) ?_
  intro vals
  refine lsq (by rfl) (by rfl) ?_; apply Exists.intro; refine ⟨fun H w2 hg hp => ?_, ?_⟩
  · (first | (go_simp; rfl) | go_simp)
  (try simp only [Act.put, List.setIfInBounds_toArray, List.set_cons_zero, List.set_cons_succ])
  refine ls_ev (by rfl) (by rfl) (by rfl) (fun H w2 hg hp => ?_) ?_
  · refine gives_call (f := 59) ?_; apply Exists.intro; refine ⟨?_, ?_⟩
    · (first | (go_simp; rfl) | go_simp)
    · refine (wof_any _ _ HI.out).mono ?_
      rintro e w3 ⟨rfl, hb⟩
      exact ⟨_, rfl, H, Grow.of_below hg.ag hb, by rw [HE1.out, HE2.out]; rfl⟩
  (try simp only [Act.put, List.setIfInBounds_toArray, List.set_cons_zero, List.set_cons_succ])
  refine lsq (by rfl) (by rfl) ?_; apply Exists.intro; refine ⟨fun H w2 hg hp => ?_, ?_⟩
  · have g0 := (m2.below hg.below).cell; (first | (go_simp; rfl) | go_simp)
  (try simp only [Act.put, List.setIfInBounds_toArray, List.set_cons_zero, List.set_cons_succ])
  refine lsq (by rfl) (by rfl) ?_; apply Exists.intro; refine ⟨fun H w2 hg hp => ?_, ?_⟩
  · have hv1 : vals 1 = .agg #[.int .i64 h, .int .u64 l] := hp 1 (by simp); (first | (go_simp; rfl) | go_simp)
  refine ls_nil (fun H w2 hg hr hd => ?_)
  have e1 : vals 1 = .agg #[.int .i64 h, .int .u64 l] := hr 1 (by simp)
  simp only [e1, Act.put, List.setIfInBounds_toArray, List.set_cons_zero, List.set_cons_succ, List.drop_succ_cons, List.drop_zero]
  refine wpList_nil ?_
  have hb3 := below_then hb2 hg.below
  clear hr hd hg m2 e1 hb2 k
  go_wp2
  go_ret2
  exact ⟨by rw [HF.out]; rfl, by (repeat (first | with_reducible exact Below.refl _ _ | with_reducible assumption | (with_reducible refine below_set ?_ ?_; focus ((try dsimp only); first | with_reducible assumption | omega)) | (with_reducible refine below_alloc ?_ ?_; focus (first | omega | (simp; done) | (simp; omega))) | with_reducible refine below_drewN ?_ _ | with_reducible refine Below.drew ?_))⟩
set_option maxRecDepth 100000 in
theorem wint_noA (h l c d : Int) (w : World) (k : Ok2 h l) (hc : Hid (hiW (wrap64 l) = c)) (hd' : Hid (loW (wrap64 l) = d)) (hn : ¬ c = h) :
    Calls Try.prog 85 #[.agg #[.int .i64 h, .int .u64 l]] w fun e w' => e = .returned (.tuple #[.int .i64 0, .bool false]) ∧ Below w.heap.size w w' := by
  have HI : Hid (I64 (wrap64 l)) := wrap64_range l
  go_enter Try.func85, Try.ntmps85
  go_wp2_with fail
  refine (wlow_any h l _ k).mono ?_
  rintro e w3 ⟨rfl, hb⟩
  have m2 := Blk.below (H := E) (n := w.heap.size) (b := w.heap.size) (c := #[.int .i64 h, .int .u64 l]) (T := 31) (by (apply Blk.cast; (repeat (first | with_reducible assumption | (with_reducible apply Blk.mk_new; (focus (first | exact agE _ | assumption)); (focus (first | rfl | (simp; done))); (focus omega)) | with_reducible apply Blk.alloc | with_reducible apply Blk.drewN | with_reducible apply Blk.drew | with_reducible apply Blk.set | (with_reducible apply Blk.far'; focus (first | with_reducible assumption | (apply Ne.symm; with_reducible assumption) | omega)))); (try (first | (simp; done) | rfl)))) hb
  have hb2 := below_then (a := w) (by (repeat (first | with_reducible exact Below.refl _ _ | with_reducible assumption | (with_reducible refine below_set ?_ ?_; focus ((try dsimp only); first | with_reducible assumption | omega)) | (with_reducible refine below_alloc ?_ ?_; focus (first | omega | (simp; done) | (simp; omega))) | with_reducible refine below_drewN ?_ _ | with_reducible refine Below.drew ?_))) hb
  clear hb
  go_wp2_with fail
  refine ls_take (H0 := E) 4 (fun e => match e with | 1 => .is (· = .agg #[.int .i64 c, .int .u64 d]) | _ => .tt) [[],[],[],[1]] [1] [] [[],[0],[],[0,1,2]] (agE _) (by kernel_rfl) (by kernel_rfl) (by kernel_rfl) (by rfl) (by rfl) (by kernel_rfl) ?_
  intro vals
  refine lsq (by rfl) (by rfl) ?_; apply Exists.intro; refine ⟨fun H w2 hg hp => ?_, ?_⟩
  · (first | (go_simp; rfl) | go_simp)
  (try simp only [Act.put, List.setIfInBounds_toArray, List.set_cons_zero, List.set_cons_succ])
  refine ls_ev (by rfl) (by rfl) (by rfl) (fun H w2 hg hp => ?_) ?_
  · refine gives_call (f := 59) ?_; apply Exists.intro; refine ⟨?_, ?_⟩
    · (first | (go_simp; rfl) | go_simp)
    · refine (wof_any _ _ HI.out).mono ?_
      rintro e w3 ⟨rfl, hb⟩
      exact ⟨_, rfl, H, Grow.of_below hg.ag hb, by rw [hc.out, hd'.out]; rfl⟩
  (try simp only [Act.put, List.setIfInBounds_toArray, List.set_cons_zero, List.set_cons_succ])
  refine lsq (by rfl) (by rfl) ?_; apply Exists.intro; refine ⟨fun H w2 hg hp => ?_, ?_⟩
  · have g0 := (m2.below hg.below).cell; (first | (go_simp; rfl) | go_simp)
  (try simp only [Act.put, List.setIfInBounds_toArray, List.set_cons_zero, List.set_cons_succ])
  refine lsq (by rfl) (by rfl) ?_; apply Exists.intro; refine ⟨fun H w2 hg hp => ?_, ?_⟩
  · have hv1 : vals 1 = .agg #[.int .i64 c, .int .u64 d] := hp 1 (by simp); (first | (go_simp; rfl) | go_simp)
  refine ls_nil (fun H w2 hg hr hd => ?_)
  have e1 : vals 1 = .agg #[.int .i64 c, .int .u64 d] := hr 1 (by simp)
  simp only [e1, Act.put, List.setIfInBounds_toArray, List.set_cons_zero, List.set_cons_succ, List.drop_succ_cons, List.drop_zero]
  refine wpList_nil ?_
  have hb3 := below_then hb2 hg.below
  clear hr hd hg m2 e1 hb2 k
  go_wp2
  go_ret2
  exact ⟨rfl, by (repeat (first | with_reducible exact Below.refl _ _ | with_reducible assumption | (with_reducible refine below_set ?_ ?_; focus ((try dsimp only); first | with_reducible assumption | omega)) | (with_reducible refine below_alloc ?_ ?_; focus (first | omega | (simp; done) | (simp; omega))) | with_reducible refine below_drewN ?_ _ | with_reducible refine Below.drew ?_))⟩
set_option maxRecDepth 100000 in
theorem wint_noB (h l d : Int) (w : World) (k : Ok2 h l) (hc : Hid (hiW (wrap64 l) = h)) (hd' : Hid (loW (wrap64 l) = d)) (hn : ¬ d = l) :
    Calls Try.prog 85 #[.agg #[.int .i64 h, .int .u64 l]] w fun e w' => e = .returned (.tuple #[.int .i64 0, .bool false]) ∧ Below w.heap.size w w' := by
  have HI : Hid (I64 (wrap64 l)) := wrap64_range l
  go_enter Try.func85, Try.ntmps85
  go_wp2_with fail
  refine (wlow_any h l _ k).mono ?_
  rintro e w3 ⟨rfl, hb⟩
  have m2 := Blk.below (H := E) (n := w.heap.size) (b := w.heap.size) (c := #[.int .i64 h, .int .u64 l]) (T := 31) (by (apply Blk.cast; (repeat (first | with_reducible assumption | (with_reducible apply Blk.mk_new; (focus (first | exact agE _ | assumption)); (focus (first | rfl | (simp; done))); (focus omega)) | with_reducible apply Blk.alloc | with_reducible apply Blk.drewN | with_reducible apply Blk.drew | with_reducible apply Blk.set | (with_reducible apply Blk.far'; focus (first | with_reducible assumption | (apply Ne.symm; with_reducible assumption) | omega)))); (try (first | (simp; done) | rfl)))) hb
  have hb2 := below_then (a := w) (by (repeat (first | with_reducible exact Below.refl _ _ | with_reducible assumption | (with_reducible refine below_set ?_ ?_; focus ((try dsimp only); first | with_reducible assumption | omega)) | (with_reducible refine below_alloc ?_ ?_; focus (first | omega | (simp; done) | (simp; omega))) | with_reducible refine below_drewN ?_ _ | with_reducible refine Below.drew ?_))) hb
  clear hb
  go_wp2_with fail
  refine ls_take (H0 := E) 4 (fun e => match e with | 1 => .is (· = .agg #[.int .i64 h, .int .u64 d]) | _ => .tt) [[],[],[],[1]] [1] [] [[],[0],[],[0,1,2]] (agE _) (by kernel_rfl) (by kernel_rfl) (by kernel_rfl) (by rfl) (by rfl) (by kernel_rfl) ?_
  intro vals
  refine lsq (by rfl) (by rfl) ?_; apply Exists.intro; refine ⟨fun H w2 hg hp => ?_, ?_⟩
  · (first | (go_simp; rfl) | go_simp)
  (try simp only [Act.put, List.setIfInBounds_toArray, List.set_cons_zero, List.set_cons_succ])
  refine ls_ev (by rfl) (by rfl) (by rfl) (fun H w2 hg hp => ?_) ?_
  · refine gives_call (f := 59) ?_; apply Exists.intro; refine ⟨?_, ?_⟩
    · (first | (go_simp; rfl) | go_simp)
    · refine (wof_any _ _ HI.out).mono ?_
      rintro e w3 ⟨rfl, hb⟩
      exact ⟨_, rfl, H, Grow.of_below hg.ag hb, by rw [hc.out, hd'.out]; rfl⟩
  (try simp only [Act.put, List.setIfInBounds_toArray, List.set_cons_zero, List.set_cons_succ])
  refine lsq (by rfl) (by rfl) ?_; apply Exists.intro; refine ⟨fun H w2 hg hp => ?_, ?_⟩
  · have g0 := (m2.below hg.below).cell; (first | (go_simp; rfl) | go_simp)
  (try simp only [Act.put, List.setIfInBounds_toArray, List.set_cons_zero, List.set_cons_succ])
  refine lsq (by rfl) (by rfl) ?_; apply Exists.intro; refine ⟨fun H w2 hg hp => ?_, ?_⟩
  · have hv1 : vals 1 = .agg #[.int .i64 h, .int .u64 d] := hp 1 (by simp); (first | (go_simp; rfl) | go_simp)
  refine ls_nil (fun H w2 hg hr hd => ?_)
  have e1 : vals 1 = .agg #[.int .i64 h, .int .u64 d] := hr 1 (by simp)
  simp only [e1, Act.put, List.setIfInBounds_toArray, List.set_cons_zero, List.set_cons_succ, List.drop_succ_cons, List.drop_zero]
  refine wpList_nil ?_
  have hb3 := below_then hb2 hg.below
  clear hr hd hg m2 e1 hb2 k
  go_wp2
  go_ret2
  exact ⟨rfl, by (repeat (first | with_reducible exact Below.refl _ _ | with_reducible assumption | (with_reducible refine below_set ?_ ?_; focus ((try dsimp only); first | with_reducible assumption | omega)) | (with_reducible refine below_alloc ?_ ?_; focus (first | omega | (simp; done) | (simp; omega))) | with_reducible refine below_drewN ?_ _ | with_reducible refine Below.drew ?_))⟩
theorem wint_no (h l : Int) (w : World) (k : Ok2 h l) (hy : ¬ I64 (V h l)) :
    Calls Try.prog 85 #[.agg #[.int .i64 h, .int .u64 l]] w fun e w' => e = .returned (.tuple #[.int .i64 0, .bool false]) ∧ Below w.heap.size w w' := by
  have hi := wrap64_range l
  have hne : ¬ (hiW (wrap64 l) = h ∧ loW (wrap64 l) = l) := by
    rintro ⟨g1, g2⟩
    apply hy
    have := V_W_id (n := wrap64 l) (by omega) (by omega)
    rw [g1, g2] at this
    rw [this]; exact hi
  by_cases g : hiW (wrap64 l) = h
  · exact wint_noB h l _ w k g rfl (fun e => hne ⟨g, e⟩)
  · exact wint_noA h l _ _ w k rfl rfl g
theorem wclamp_any (h l : Int) (w : World) (k : Ok2 h l) :
    Calls Try.prog 66 #[.agg #[.int .i64 h, .int .u64 l]] w fun e w' => e = .returned (.int .i64 (clampI (V h l))) ∧ Below w.heap.size w w' := by
  by_cases hy : I64 (V h l)
  · have HF : Hid (V h l = clampI (V h l)) := by unfold Hid clampI; unfold I64 at hy; rw [if_neg (by omega), if_neg (by omega)]
    go_enter Try.func66, Try.ntmps66
    go_wp2_with fail
    refine (wint_yes h l _ k hy).mono ?_
    rintro e w3 ⟨rfl, hb⟩
    have hb2 := below_then (a := w) (by (repeat (first | with_reducible exact Below.refl _ _ | with_reducible assumption | (with_reducible refine below_set ?_ ?_; focus ((try dsimp only); first | with_reducible assumption | omega)) | (with_reducible refine below_alloc ?_ ?_; focus (first | omega | (simp; done) | (simp; omega))) | with_reducible refine below_drewN ?_ _ | with_reducible refine Below.drew ?_))) hb
    clear hb
    go_wp2
    go_ret
    exact ⟨ret_int HF.out, by (repeat (first | with_reducible exact Below.refl _ _ | with_reducible assumption | (with_reducible refine below_set ?_ ?_; focus ((try dsimp only); first | with_reducible assumption | omega)) | (with_reducible refine below_alloc ?_ ?_; focus (first | omega | (simp; done) | (simp; omega))) | with_reducible refine below_drewN ?_ _ | with_reducible refine Below.drew ?_))⟩
  · have k' := k
    unfold Ok2 at k'
    by_cases h1 : h < 0
    · have HF : Hid (-9223372036854775808 = clampI (V h l)) := by unfold Hid clampI; unfold I64 at hy; rw [if_pos (by unfold V at *; omega)]
      clear k'
      go_enter Try.func66, Try.ntmps66
      go_wp2_with fail
      refine (wint_no h l _ k hy).mono ?_
      rintro e w3 ⟨rfl, hb⟩
      have m2 := Blk.below (H := E) (n := w.heap.size) (b := w.heap.size) (c := #[.int .i64 h, .int .u64 l]) (T := 31) (by (apply Blk.cast; (repeat (first | with_reducible assumption | (with_reducible apply Blk.mk_new; (focus (first | exact agE _ | assumption)); (focus (first | rfl | (simp; done))); (focus omega)) | with_reducible apply Blk.alloc | with_reducible apply Blk.drewN | with_reducible apply Blk.drew | with_reducible apply Blk.set | (with_reducible apply Blk.far'; focus (first | with_reducible assumption | (apply Ne.symm; with_reducible assumption) | omega)))); (try (first | (simp; done) | rfl)))) hb
      have hb2 := below_then (a := w) (by (repeat (first | with_reducible exact Below.refl _ _ | with_reducible assumption | (with_reducible refine below_set ?_ ?_; focus ((try dsimp only); first | with_reducible assumption | omega)) | (with_reducible refine below_alloc ?_ ?_; focus (first | omega | (simp; done) | (simp; omega))) | with_reducible refine below_drewN ?_ _ | with_reducible refine Below.drew ?_))) hb
      clear hb
      have c6 := m2.cell
      go_wp2
      go_ret
      exact ⟨ret_int HF.out, by (repeat (first | with_reducible exact Below.refl _ _ | with_reducible assumption | (with_reducible refine below_set ?_ ?_; focus ((try dsimp only); first | with_reducible assumption | omega)) | (with_reducible refine below_alloc ?_ ?_; focus (first | omega | (simp; done) | (simp; omega))) | with_reducible refine below_drewN ?_ _ | with_reducible refine Below.drew ?_))⟩
    · have HF : Hid (9223372036854775807 = clampI (V h l)) := by unfold Hid clampI; unfold I64 at hy; rw [if_neg (by unfold V at *; omega), if_pos (by unfold V at *; omega)]
      clear k'
      go_enter Try.func66, Try.ntmps66
      go_wp2_with fail
      refine (wint_no h l _ k hy).mono ?_
      rintro e w3 ⟨rfl, hb⟩
      have m2 := Blk.below (H := E) (n := w.heap.size) (b := w.heap.size) (c := #[.int .i64 h, .int .u64 l]) (T := 31) (by (apply Blk.cast; (repeat (first | with_reducible assumption | (with_reducible apply Blk.mk_new; (focus (first | exact agE _ | assumption)); (focus (first | rfl | (simp; done))); (focus omega)) | with_reducible apply Blk.alloc | with_reducible apply Blk.drewN | with_reducible apply Blk.drew | with_reducible apply Blk.set | (with_reducible apply Blk.far'; focus (first | with_reducible assumption | (apply Ne.symm; with_reducible assumption) | omega)))); (try (first | (simp; done) | rfl)))) hb
      have hb2 := below_then (a := w) (by (repeat (first | with_reducible exact Below.refl _ _ | with_reducible assumption | (with_reducible refine below_set ?_ ?_; focus ((try dsimp only); first | with_reducible assumption | omega)) | (with_reducible refine below_alloc ?_ ?_; focus (first | omega | (simp; done) | (simp; omega))) | with_reducible refine below_drewN ?_ _ | with_reducible refine Below.drew ?_))) hb
      clear hb
      have c6 := m2.cell
      go_wp2
      go_ret
      exact ⟨ret_int HF.out, by (repeat (first | with_reducible exact Below.refl _ _ | with_reducible assumption | (with_reducible refine below_set ?_ ?_; focus ((try dsimp only); first | with_reducible assumption | omega)) | (with_reducible refine below_alloc ?_ ?_; focus (first | omega | (simp; done) | (simp; omega))) | with_reducible refine below_drewN ?_ _ | with_reducible refine Below.drew ?_))⟩
end Go.Proofs.Ytebnbajjenpldaa
