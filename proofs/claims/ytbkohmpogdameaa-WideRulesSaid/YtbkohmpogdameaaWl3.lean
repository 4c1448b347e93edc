/- The statement's own function on the rules of reckoning: it returns true. -/
import Derived.Test.YtbkohmpogdameaaWl2
namespace Go.Proofs.Ytbkohmpogdameaa
open Go.RowKit Go.Shelf
theorem wide_eq {a b c d : Int} (h : a = c) (g : b = d) : (.agg #[.int .i64 a, .int .u64 b] : Value) = .agg #[.int .i64 c, .int .u64 d] := by rw [h, g]
theorem back_add {h l h' l' : Int} (k : Ok2 h l) : (.agg #[.int .i64 (hiW (V (hiW (V h l + V h' l')) (loW (V h l + V h' l')) - V h' l')), .int .u64 (loW (V (hiW (V h l + V h' l')) (loW (V h l + V h' l')) - V h' l'))] : Value) = .agg #[.int .i64 h, .int .u64 l] := by
  have e : (V (hiW (V h l + V h' l')) (loW (V h l + V h' l')) - V h' l') % 340282366920938463463374607431768211456 = V h l % 340282366920938463463374607431768211456 := by rw [V_W]; omega
  exact wide_eq ((hiW_congr e).trans (hiW_V k)) ((loW_congr e).trans (loW_V k))
theorem back_neg {h l : Int} (k : Ok2 h l) : (.agg #[.int .i64 (hiW (-V (hiW (-V h l)) (loW (-V h l)))), .int .u64 (loW (-V (hiW (-V h l)) (loW (-V h l))))] : Value) = .agg #[.int .i64 h, .int .u64 l] := by
  have e : (-V (hiW (-V h l)) (loW (-V h l))) % 340282366920938463463374607431768211456 = V h l % 340282366920938463463374607431768211456 := by rw [V_W]; omega
  exact wide_eq ((hiW_congr e).trans (hiW_V k)) ((loW_congr e).trans (loW_V k))
theorem sum_W (x y : Int) : (.agg #[.int .i64 (hiW (V (hiW x) (loW x) + V (hiW y) (loW y))), .int .u64 (loW (V (hiW x) (loW x) + V (hiW y) (loW y)))] : Value) = .agg #[.int .i64 (hiW (x + y)), .int .u64 (loW (x + y))] := wide_eq (hiW_add x y) (loW_add x y)
theorem V_int {n : Int} (k : I64 n) : V (hiW n) (loW n) = n := by unfold I64 at k; exact V_W_id (by omega) (by omega)
theorem V_two {n m : Int} (k : I64 n) (k' : I64 m) : V (hiW (n + m)) (loW (n + m)) = n + m := by unfold I64 at k k'; exact V_W_id (by omega) (by omega)
theorem cmpI_add (x y z : Int) : cmpI (x + z) (y + z) = cmpI x y := by
  unfold cmpI
  by_cases h : x < y
  · rw [if_pos h, if_pos (by omega)]
  · rw [if_neg h, if_neg (by omega)]
    by_cases g : y < x
    · rw [if_pos g, if_pos (by omega)]
    · rw [if_neg g, if_neg (by omega)]
set_option maxRecDepth 100000 in
set_option maxHeartbeats 2000000 in
theorem rules_yes (h l h' l' n0 n1 n2 : Int) (w : World) (k : Ok2 h l) (k' : Ok2 h' l') (g0 : I64 n0) (g1 : I64 n1) (g2 : I64 n2) (hy : I64 (n1 + n2)) :
    Calls Try.prog 7 #[.agg #[.int .i64 h, .int .u64 l], .agg #[.int .i64 h', .int .u64 l'], .agg #[.int .i64 n0, .int .i64 n1, .int .i64 n2]] w fun e w' => e = .returned (.bool true) ∧ Below w.heap.size w w' := by
  have K := Lib.hid k; have K' := Lib.hid k'; have G0 := Lib.hid g0; have G1 := Lib.hid g1; have G2 := Lib.hid g2; have HY := Lib.hid hy
  clear k k' g0 g1 g2 hy
  go_enter Try.func7, Try.ntmps7
  go_wp2_with fail
  refine abs_world (F := fun w1 => Below w.heap.size w w1 ∧ Blk E w1 w.heap.size w.heap.size #[.int .i64 h, .int .u64 l] 24 ∧ Blk E w1 w.heap.size (w.heap.size + 1) #[.int .i64 h', .int .u64 l'] 24 ∧ Blk E w1 w.heap.size (w.heap.size + 1 + 1) #[.int .i64 n0, .int .i64 n1, .int .i64 n2] 39) ?_ ?_
  · refine ⟨?_, ?_, ?_, ?_⟩
    (repeat (first | with_reducible exact Below.refl _ _ | with_reducible assumption | (with_reducible refine below_set ?_ ?_; focus ((try dsimp only); first | with_reducible assumption | omega)) | (with_reducible refine below_alloc ?_ ?_; focus (first | omega | (simp; done) | (simp; omega))) | with_reducible refine below_drewN ?_ _ | with_reducible refine Below.drew ?_))
    all_goals (apply Blk.cast; (repeat (first | with_reducible assumption | (with_reducible apply Blk.mk_new; (focus (first | exact agE _ | assumption)); (focus (first | rfl | (simp; done))); (focus omega)) | with_reducible apply Blk.alloc | with_reducible apply Blk.drewN | with_reducible apply Blk.drew | with_reducible apply Blk.set | (with_reducible apply Blk.far'; focus (first | with_reducible assumption | (apply Ne.symm; with_reducible assumption) | omega)))); (try (first | (simp; done) | rfl)))
  rintro w1 ⟨f1, f2, f3, f4⟩
  refine ls_take (H0 := E) 14 (fun e => match e with | 2 => .is (· = .agg #[.int .i64 (hiW (V h l + V h' l')), .int .u64 (loW (V h l + V h' l'))]) | 4 => .is (· = .agg #[.int .i64 h, .int .u64 l]) | 9 => .is (· = .agg #[.int .i64 (hiW (-V h l)), .int .u64 (loW (-V h l))]) | 10 => .is (· = .agg #[.int .i64 h, .int .u64 l]) | _ => .tt) [[],[],[],[],[2],[],[4],[],[],[],[9],[],[10],[]] [2,4,9,10] [] [[],[],[0,1],[],[0,1,2,3],[],[0,1,2,3,4,5],[0,1,2,3,4,5,6],[0,1,2,3,4,5,6,7],[0,1,2,3,4,5,6,7,8],[0,1,2,3,4,5,6,7,8,9],[0,1,2,3,4,5,6,7],[0,1,2,3,4,5,6,7,8,9,10,11],[0,1,2,3,4,5,6,7,8,9,10,11,12]] (agE _) (by kernel_rfl) (by kernel_rfl) (by kernel_rfl) (by rfl) (by rfl) (by kernel_rfl) ?_
  intro vals
  refine lsq (by rfl) (by rfl) ?_; apply Exists.intro; refine ⟨fun H w2 hg hp => ?_, ?_⟩
  · have g0 := (f2.below hg.below).cell; have g1 := (f3.below hg.below).cell; (first | (go_simp; rfl) | go_simp)
  (try simp only [Act.put, List.setIfInBounds_toArray, List.set_cons_zero, List.set_cons_succ])
  refine lsq (by rfl) (by rfl) ?_; apply Exists.intro; refine ⟨fun H w2 hg hp => ?_, ?_⟩
  · have g0 := (f2.below hg.below).cell; have g1 := (f3.below hg.below).cell; (first | (go_simp; rfl) | go_simp)
  (try simp only [Act.put, List.setIfInBounds_toArray, List.set_cons_zero, List.set_cons_succ])
  refine ls_ev (by rfl) (by rfl) (by rfl) (fun H w2 hg hp => ?_) ?_
  · refine gives_call (f := 21) ?_; apply Exists.intro; refine ⟨?_, ?_⟩
    · (first | (go_simp; rfl) | go_simp)
    · exact (wadd_any _ _ _ _ _ K.out K'.out).mono fun e w3 ⟨he, hb⟩ => ⟨_, he, H, Grow.of_below hg.ag hb, rfl⟩
  (try simp only [Act.put, List.setIfInBounds_toArray, List.set_cons_zero, List.set_cons_succ])
  refine lsq (by rfl) (by rfl) ?_; apply Exists.intro; refine ⟨fun H w2 hg hp => ?_, ?_⟩
  · have g0 := (f2.below hg.below).cell; have g1 := (f3.below hg.below).cell; (first | (go_simp; rfl) | go_simp)
  (try simp only [Act.put, List.setIfInBounds_toArray, List.set_cons_zero, List.set_cons_succ])
  refine ls_ev (by rfl) (by rfl) (by rfl) (fun H w2 hg hp => ?_) ?_
  · refine gives_call (f := 23) ?_; apply Exists.intro; refine ⟨?_, ?_⟩
    · have hv2 : vals 2 = .agg #[.int .i64 (hiW (V h l + V h' l')), .int .u64 (loW (V h l + V h' l'))] := hp 2 (by simp); (first | (go_simp; rfl) | go_simp)
    · exact (wsub_any _ _ _ _ _ (ok2 _) K'.out).mono fun e w3 ⟨he, hb⟩ => ⟨_, he, H, Grow.of_below hg.ag hb, back_add K.out⟩
  (try simp only [Act.put, List.setIfInBounds_toArray, List.set_cons_zero, List.set_cons_succ])
  refine lsq (by rfl) (by rfl) ?_; apply Exists.intro; refine ⟨fun H w2 hg hp => ?_, ?_⟩
  · have g0 := (f2.below hg.below).cell; have g1 := (f3.below hg.below).cell; (first | (go_simp; rfl) | go_simp)
  (try simp only [Act.put, List.setIfInBounds_toArray, List.set_cons_zero, List.set_cons_succ])
  refine lsq (by rfl) (by rfl) ?_; apply Exists.intro; refine ⟨fun H w2 hg hp => ?_, ?_⟩
  · have hv4 : vals 4 = .agg #[.int .i64 h, .int .u64 l] := hp 4 (by simp); (first | (go_simp; rfl) | go_simp)
  (try simp only [Act.put, List.setIfInBounds_toArray, List.set_cons_zero, List.set_cons_succ])
  refine lsq (by rfl) (by rfl) ?_; apply Exists.intro; refine ⟨fun H w2 hg hp => ?_, ?_⟩
  · (first | (go_simp; rfl) | go_simp)
  (try simp only [Act.put, List.setIfInBounds_toArray, List.set_cons_zero, List.set_cons_succ])
  first | refine ls_skip (by rfl) (by rfl) ?_ | (refine lsq (by rfl) (by rfl) ?_; apply Exists.intro; refine ⟨fun H w2 hg hp => ?_, ?_⟩; focus (have g0 := (f2.below hg.below).cell; have g1 := (f3.below hg.below).cell; (first | (go_simp; rfl) | go_simp)))
  (try simp only [Act.put, List.setIfInBounds_toArray, List.set_cons_zero, List.set_cons_succ])
  refine ls_ev (by rfl) (by rfl) (by rfl) (fun H w2 hg hp => ?_) ?_
  · refine gives_call (f := 25) ?_; apply Exists.intro; refine ⟨?_, ?_⟩
    · (first | (go_simp; rfl) | go_simp)
    · exact (wneg_any _ _ _ K.out).mono fun e w3 ⟨he, hb⟩ => ⟨_, he, H, Grow.of_below hg.ag hb, rfl⟩
  (try simp only [Act.put, List.setIfInBounds_toArray, List.set_cons_zero, List.set_cons_succ])
  refine ls_ev (by rfl) (by rfl) (by rfl) (fun H w2 hg hp => ?_) ?_
  · refine gives_call (f := 25) ?_; apply Exists.intro; refine ⟨?_, ?_⟩
    · have hv9 : vals 9 = .agg #[.int .i64 (hiW (-V h l)), .int .u64 (loW (-V h l))] := hp 9 (by simp); (first | (go_simp; rfl) | go_simp)
    · exact (wneg_any _ _ _ (ok2 _)).mono fun e w3 ⟨he, hb⟩ => ⟨_, he, H, Grow.of_below hg.ag hb, back_neg K.out⟩
  (try simp only [Act.put, List.setIfInBounds_toArray, List.set_cons_zero, List.set_cons_succ])
  first | refine ls_skip (by rfl) (by rfl) ?_ | (refine lsq (by rfl) (by rfl) ?_; apply Exists.intro; refine ⟨fun H w2 hg hp => ?_, ?_⟩; focus (have g0 := (f2.below hg.below).cell; have g1 := (f3.below hg.below).cell; (first | (go_simp; rfl) | go_simp)))
  (try simp only [Act.put, List.setIfInBounds_toArray, List.set_cons_zero, List.set_cons_succ])
  first | refine ls_skip (by rfl) (by rfl) ?_ | (refine lsq (by rfl) (by rfl) ?_; apply Exists.intro; refine ⟨fun H w2 hg hp => ?_, ?_⟩; focus (have hv10 : vals 10 = .agg #[.int .i64 h, .int .u64 l] := hp 10 (by simp); (first | (go_simp; rfl) | go_simp)))
  (try simp only [Act.put, List.setIfInBounds_toArray, List.set_cons_zero, List.set_cons_succ])
  refine lsq (by rfl) (by rfl) ?_; apply Exists.intro; refine ⟨fun H w2 hg hp => ?_, ?_⟩
  · (first | (go_simp; rfl) | go_simp)
  refine ls_nil (fun H w2 hg hr hd => ?_)
  have e2 : vals 2 = .agg #[.int .i64 (hiW (V h l + V h' l')), .int .u64 (loW (V h l + V h' l'))] := hr 2 (by simp)
  have e4 : vals 4 = .agg #[.int .i64 h, .int .u64 l] := hr 4 (by simp)
  have e9 : vals 9 = .agg #[.int .i64 (hiW (-V h l)), .int .u64 (loW (-V h l))] := hr 9 (by simp)
  have e10 : vals 10 = .agg #[.int .i64 h, .int .u64 l] := hr 10 (by simp)
  simp only [e2, e4, e9, e10, Act.put, List.setIfInBounds_toArray, List.set_cons_zero, List.set_cons_succ, List.drop_succ_cons, List.drop_zero]
  refine wpList_nil ?_
  have d1 := below_then f1 hg.below
  have d4 := f4.below hg.below
  clear hr hd hg f1 f2 f3 f4 e2 e4 e9 e10
  obtain ⟨w5, rfl⟩ : ∃ x : World, x = w2 := ⟨_, rfl⟩
  go_wp2_with fail
  refine ls_take (H0 := E) 13 (fun e => match e with | 2 => .is (· = .agg #[.int .i64 (hiW (n1)), .int .u64 (loW (n1))]) | 5 => .is (· = .agg #[.int .i64 (hiW (n2)), .int .u64 (loW (n2))]) | 6 => .is (· = .agg #[.int .i64 (hiW (n1 + n2)), .int .u64 (loW (n1 + n2))]) | 7 => .is (· = .tuple #[.int .i64 (n1 + n2), .bool true]) | _ => .tt) [[],[],[],[],[],[],[2,5],[6],[7],[],[],[],[]] [2,5,6,7] [] [[],[0],[0,1],[],[3],[0,1,2,3,4],[0,1,2,3,4,5],[0,1,2,3,4,5,6],[0,1,2,3,4,5,6,7],[0,1,2,3,4,5,6,7,8],[0,1,2,3,4,5,6,7,8],[0,1,2,3,4,5,6,7,8,9],[0,1,2,3,4,5,6,7,8,9,10,11]] (agE _) (by kernel_rfl) (by kernel_rfl) (by kernel_rfl) (by rfl) (by rfl) (by kernel_rfl) ?_
  intro vals
  refine lsq (by rfl) (by rfl) ?_; apply Exists.intro; refine ⟨fun H w2 hg hp => ?_, ?_⟩
  · (first | (go_simp; rfl) | go_simp)
  (try simp only [Act.put, List.setIfInBounds_toArray, List.set_cons_zero, List.set_cons_succ])
  refine lsq (by rfl) (by rfl) ?_; apply Exists.intro; refine ⟨fun H w2 hg hp => ?_, ?_⟩
  · have g0 := (d4.below hg.below).cell; (first | (go_simp; rfl) | go_simp)
  (try simp only [Act.put, List.setIfInBounds_toArray, List.set_cons_zero, List.set_cons_succ])
  refine ls_ev (by rfl) (by rfl) (by rfl) (fun H w2 hg hp => ?_) ?_
  · refine gives_call (f := 10) ?_; apply Exists.intro; refine ⟨?_, ?_⟩
    · (first | (go_simp; rfl) | go_simp)
    · exact (wof_any _ _ G1.out).mono fun e w3 ⟨he, hb⟩ => ⟨_, he, H, Grow.of_below hg.ag hb, rfl⟩
  (try simp only [Act.put, List.setIfInBounds_toArray, List.set_cons_zero, List.set_cons_succ])
  refine lsq (by rfl) (by rfl) ?_; apply Exists.intro; refine ⟨fun H w2 hg hp => ?_, ?_⟩
  · (first | (go_simp; rfl) | go_simp)
  (try simp only [Act.put, List.setIfInBounds_toArray, List.set_cons_zero, List.set_cons_succ])
  refine lsq (by rfl) (by rfl) ?_; apply Exists.intro; refine ⟨fun H w2 hg hp => ?_, ?_⟩
  · have g0 := (d4.below hg.below).cell; (first | (go_simp; rfl) | go_simp)
  (try simp only [Act.put, List.setIfInBounds_toArray, List.set_cons_zero, List.set_cons_succ])
  refine ls_ev (by rfl) (by rfl) (by rfl) (fun H w2 hg hp => ?_) ?_
  · refine gives_call (f := 10) ?_; apply Exists.intro; refine ⟨?_, ?_⟩
    · (first | (go_simp; rfl) | go_simp)
    · exact (wof_any _ _ G2.out).mono fun e w3 ⟨he, hb⟩ => ⟨_, he, H, Grow.of_below hg.ag hb, rfl⟩
  (try simp only [Act.put, List.setIfInBounds_toArray, List.set_cons_zero, List.set_cons_succ])
  refine ls_ev (by rfl) (by rfl) (by rfl) (fun H w2 hg hp => ?_) ?_
  · refine gives_call (f := 21) ?_; apply Exists.intro; refine ⟨?_, ?_⟩
    · have hv2 : vals 2 = .agg #[.int .i64 (hiW (n1)), .int .u64 (loW (n1))] := hp 2 (by simp); have hv5 : vals 5 = .agg #[.int .i64 (hiW (n2)), .int .u64 (loW (n2))] := hp 5 (by simp); (first | (go_simp; rfl) | go_simp)
    · exact (wadd_any _ _ _ _ _ (ok2 _) (ok2 _)).mono fun e w3 ⟨he, hb⟩ => ⟨_, he, H, Grow.of_below hg.ag hb, sum_W _ _⟩
  (try simp only [Act.put, List.setIfInBounds_toArray, List.set_cons_zero, List.set_cons_succ])
  refine ls_ev (by rfl) (by rfl) (by rfl) (fun H w2 hg hp => ?_) ?_
  · refine gives_call (f := 13) ?_; apply Exists.intro; refine ⟨?_, ?_⟩
    · have hv6 : vals 6 = .agg #[.int .i64 (hiW (n1 + n2)), .int .u64 (loW (n1 + n2))] := hp 6 (by simp); (first | (go_simp; rfl) | go_simp)
    · exact (wint_yes _ _ _ (ok2 _) (by rw [V_two G1.out G2.out]; exact HY.out)).mono fun e w3 ⟨he, hb⟩ => ⟨_, he, H, Grow.of_below hg.ag hb, by rw [V_two G1.out G2.out]; rfl⟩
  (try simp only [Act.put, List.setIfInBounds_toArray, List.set_cons_zero, List.set_cons_succ])
  refine lsq (by rfl) (by rfl) ?_; apply Exists.intro; refine ⟨fun H w2 hg hp => ?_, ?_⟩
  · have hv7 : vals 7 = .tuple #[.int .i64 (n1 + n2), .bool true] := hp 7 (by simp); (first | (go_simp; rfl) | go_simp)
  (try simp only [Act.put, List.setIfInBounds_toArray, List.set_cons_zero, List.set_cons_succ])
  refine lsq (by rfl) (by rfl) ?_; apply Exists.intro; refine ⟨fun H w2 hg hp => ?_, ?_⟩
  · (first | (go_simp; rfl) | go_simp)
  (try simp only [Act.put, List.setIfInBounds_toArray, List.set_cons_zero, List.set_cons_succ])
  refine lsq (by rfl) (by rfl) ?_; apply Exists.intro; refine ⟨fun H w2 hg hp => ?_, ?_⟩
  · (first | (go_simp; rfl) | go_simp)
  (try simp only [Act.put, List.setIfInBounds_toArray, List.set_cons_zero, List.set_cons_succ])
  refine lsq (by rfl) (by rfl) ?_; apply Exists.intro; refine ⟨fun H w2 hg hp => ?_, ?_⟩
  · (first | (go_simp; rfl) | go_simp)
  (try simp only [Act.put, List.setIfInBounds_toArray, List.set_cons_zero, List.set_cons_succ])
  refine lsq (by rfl) (by rfl) ?_; apply Exists.intro; refine ⟨fun H w2 hg hp => ?_, ?_⟩
  · (first | (go_simp; rfl) | go_simp)
  refine ls_nil (fun H w2 hg hr hd => ?_)
  have e2 : vals 2 = .agg #[.int .i64 (hiW (n1)), .int .u64 (loW (n1))] := hr 2 (by simp)
  have e5 : vals 5 = .agg #[.int .i64 (hiW (n2)), .int .u64 (loW (n2))] := hr 5 (by simp)
  have e6 : vals 6 = .agg #[.int .i64 (hiW (n1 + n2)), .int .u64 (loW (n1 + n2))] := hr 6 (by simp)
  have e7 : vals 7 = .tuple #[.int .i64 (n1 + n2), .bool true] := hr 7 (by simp)
  simp only [e2, e5, e6, e7, Act.put, List.setIfInBounds_toArray, List.set_cons_zero, List.set_cons_succ, List.drop_succ_cons, List.drop_zero]
  refine wpList_nil ?_
  have d2 := below_then d1 hg.below
  have d5 := d4.below hg.below
  clear hr hd hg d1 d4 e2 e5 e6 e7
  obtain ⟨w6, rfl⟩ : ∃ x : World, x = w2 := ⟨_, rfl⟩
  go_wp2_with fail
  refine ls_take (H0 := E) 19 (fun e => match e with | 5 => .is (· = .agg #[.int .i64 (hiW (n0 * (n1 + n2))), .int .u64 (loW (n0 * (n1 + n2)))]) | 10 => .is (· = .agg #[.int .i64 (hiW (n0 * n1)), .int .u64 (loW (n0 * n1))]) | 15 => .is (· = .agg #[.int .i64 (hiW (n0 * n2)), .int .u64 (loW (n0 * n2))]) | 16 => .is (· = .agg #[.int .i64 (hiW (n0 * (n1 + n2))), .int .u64 (loW (n0 * (n1 + n2)))]) | _ => .tt) [[],[],[],[],[],[],[],[],[],[],[],[],[],[],[],[],[10,15],[5,16],[]] [5,10,15,16] [] [[],[0],[0,1],[0,1,2],[0,1],[0,1,2,3,4],[0,1],[0,1,6],[0,1],[0,1,8],[0,1,2,3,4,5,6,7,8,9],[0,1],[0,1,11],[0,1],[0,1,13],[0,1,2,3,4,5,6,7,8,9,10,11,12,13,14],[0,1,2,3,4,5,6,7,8,9,10,11,12,13,14,15],[0,1,2,3,4,5,6,7,8,9,10,11,12,13,14,15,16],[0,1,2,3,4,5,6,7,8,9,10,11,12,13,14,15,16,17]] (agE _) (by kernel_rfl) (by kernel_rfl) (by kernel_rfl) (by rfl) (by rfl) (by kernel_rfl) ?_
  intro vals
  refine lsq (by rfl) (by rfl) ?_; apply Exists.intro; refine ⟨fun H w2 hg hp => ?_, ?_⟩
  · (first | (go_simp; rfl) | go_simp)
  (try simp only [Act.put, List.setIfInBounds_toArray, List.set_cons_zero, List.set_cons_succ])
  refine lsq (by rfl) (by rfl) ?_; apply Exists.intro; refine ⟨fun H w2 hg hp => ?_, ?_⟩
  · (first | (go_simp; rfl) | go_simp)
  (try simp only [Act.put, List.setIfInBounds_toArray, List.set_cons_zero, List.set_cons_succ])
  first | refine ls_skip (by rfl) (by rfl) ?_ | (refine lsq (by rfl) (by rfl) ?_; apply Exists.intro; refine ⟨fun H w2 hg hp => ?_, ?_⟩; focus ((first | (go_simp; rfl) | go_simp)))
  (try simp only [Act.put, List.setIfInBounds_toArray, List.set_cons_zero, List.set_cons_succ])
  first | refine ls_skip (by rfl) (by rfl) ?_ | (refine lsq (by rfl) (by rfl) ?_; apply Exists.intro; refine ⟨fun H w2 hg hp => ?_, ?_⟩; focus (have g0 := (d5.below hg.below).cell; (first | (go_simp; rfl) | go_simp)))
  (try simp only [Act.put, List.setIfInBounds_toArray, List.set_cons_zero, List.set_cons_succ])
  first | refine ls_skip (by rfl) (by rfl) ?_ | (refine lsq (by rfl) (by rfl) ?_; apply Exists.intro; refine ⟨fun H w2 hg hp => ?_, ?_⟩; focus ((first | (go_simp; rfl) | go_simp)))
  (try simp only [Act.put, List.setIfInBounds_toArray, List.set_cons_zero, List.set_cons_succ])
  refine ls_ev (by rfl) (by rfl) (by rfl) (fun H w2 hg hp => ?_) ?_
  · refine gives_call (f := 8) ?_; apply Exists.intro; refine ⟨?_, ?_⟩
    · (first | (go_simp; rfl) | go_simp)
    · exact (wmul_any _ _ _ G0.out HY.out).mono fun e w3 ⟨he, hb⟩ => ⟨_, he, H, Grow.of_below hg.ag hb, rfl⟩
  (try simp only [Act.put, List.setIfInBounds_toArray, List.set_cons_zero, List.set_cons_succ])
  first | refine ls_skip (by rfl) (by rfl) ?_ | (refine lsq (by rfl) (by rfl) ?_; apply Exists.intro; refine ⟨fun H w2 hg hp => ?_, ?_⟩; focus ((first | (go_simp; rfl) | go_simp)))
  (try simp only [Act.put, List.setIfInBounds_toArray, List.set_cons_zero, List.set_cons_succ])
  first | refine ls_skip (by rfl) (by rfl) ?_ | (refine lsq (by rfl) (by rfl) ?_; apply Exists.intro; refine ⟨fun H w2 hg hp => ?_, ?_⟩; focus (have g0 := (d5.below hg.below).cell; (first | (go_simp; rfl) | go_simp)))
  (try simp only [Act.put, List.setIfInBounds_toArray, List.set_cons_zero, List.set_cons_succ])
  first | refine ls_skip (by rfl) (by rfl) ?_ | (refine lsq (by rfl) (by rfl) ?_; apply Exists.intro; refine ⟨fun H w2 hg hp => ?_, ?_⟩; focus ((first | (go_simp; rfl) | go_simp)))
  (try simp only [Act.put, List.setIfInBounds_toArray, List.set_cons_zero, List.set_cons_succ])
  first | refine ls_skip (by rfl) (by rfl) ?_ | (refine lsq (by rfl) (by rfl) ?_; apply Exists.intro; refine ⟨fun H w2 hg hp => ?_, ?_⟩; focus (have g0 := (d5.below hg.below).cell; (first | (go_simp; rfl) | go_simp)))
  (try simp only [Act.put, List.setIfInBounds_toArray, List.set_cons_zero, List.set_cons_succ])
  refine ls_ev (by rfl) (by rfl) (by rfl) (fun H w2 hg hp => ?_) ?_
  · refine gives_call (f := 8) ?_; apply Exists.intro; refine ⟨?_, ?_⟩
    · (first | (go_simp; rfl) | go_simp)
    · exact (wmul_any _ _ _ G0.out G1.out).mono fun e w3 ⟨he, hb⟩ => ⟨_, he, H, Grow.of_below hg.ag hb, rfl⟩
  (try simp only [Act.put, List.setIfInBounds_toArray, List.set_cons_zero, List.set_cons_succ])
  first | refine ls_skip (by rfl) (by rfl) ?_ | (refine lsq (by rfl) (by rfl) ?_; apply Exists.intro; refine ⟨fun H w2 hg hp => ?_, ?_⟩; focus ((first | (go_simp; rfl) | go_simp)))
  (try simp only [Act.put, List.setIfInBounds_toArray, List.set_cons_zero, List.set_cons_succ])
  first | refine ls_skip (by rfl) (by rfl) ?_ | (refine lsq (by rfl) (by rfl) ?_; apply Exists.intro; refine ⟨fun H w2 hg hp => ?_, ?_⟩; focus (have g0 := (d5.below hg.below).cell; (first | (go_simp; rfl) | go_simp)))
  (try simp only [Act.put, List.setIfInBounds_toArray, List.set_cons_zero, List.set_cons_succ])
  first | refine ls_skip (by rfl) (by rfl) ?_ | (refine lsq (by rfl) (by rfl) ?_; apply Exists.intro; refine ⟨fun H w2 hg hp => ?_, ?_⟩; focus ((first | (go_simp; rfl) | go_simp)))
  (try simp only [Act.put, List.setIfInBounds_toArray, List.set_cons_zero, List.set_cons_succ])
  first | refine ls_skip (by rfl) (by rfl) ?_ | (refine lsq (by rfl) (by rfl) ?_; apply Exists.intro; refine ⟨fun H w2 hg hp => ?_, ?_⟩; focus (have g0 := (d5.below hg.below).cell; (first | (go_simp; rfl) | go_simp)))
  (try simp only [Act.put, List.setIfInBounds_toArray, List.set_cons_zero, List.set_cons_succ])
  refine ls_ev (by rfl) (by rfl) (by rfl) (fun H w2 hg hp => ?_) ?_
  · refine gives_call (f := 8) ?_; apply Exists.intro; refine ⟨?_, ?_⟩
    · (first | (go_simp; rfl) | go_simp)
    · exact (wmul_any _ _ _ G0.out G2.out).mono fun e w3 ⟨he, hb⟩ => ⟨_, he, H, Grow.of_below hg.ag hb, rfl⟩
  (try simp only [Act.put, List.setIfInBounds_toArray, List.set_cons_zero, List.set_cons_succ])
  refine ls_ev (by rfl) (by rfl) (by rfl) (fun H w2 hg hp => ?_) ?_
  · refine gives_call (f := 21) ?_; apply Exists.intro; refine ⟨?_, ?_⟩
    · have hv10 : vals 10 = .agg #[.int .i64 (hiW (n0 * n1)), .int .u64 (loW (n0 * n1))] := hp 10 (by simp); have hv15 : vals 15 = .agg #[.int .i64 (hiW (n0 * n2)), .int .u64 (loW (n0 * n2))] := hp 15 (by simp); (first | (go_simp; rfl) | go_simp)
    · exact (wadd_any _ _ _ _ _ (ok2 _) (ok2 _)).mono fun e w3 ⟨he, hb⟩ => ⟨_, he, H, Grow.of_below hg.ag hb, (sum_W _ _).trans (by rw [Int.mul_add])⟩
  (try simp only [Act.put, List.setIfInBounds_toArray, List.set_cons_zero, List.set_cons_succ])
  first | refine ls_skip (by rfl) (by rfl) ?_ | (refine lsq (by rfl) (by rfl) ?_; apply Exists.intro; refine ⟨fun H w2 hg hp => ?_, ?_⟩; focus (have hv5 : vals 5 = .agg #[.int .i64 (hiW (n0 * (n1 + n2))), .int .u64 (loW (n0 * (n1 + n2)))] := hp 5 (by simp); have hv16 : vals 16 = .agg #[.int .i64 (hiW (n0 * (n1 + n2))), .int .u64 (loW (n0 * (n1 + n2)))] := hp 16 (by simp); (first | (go_simp; rfl) | go_simp)))
  (try simp only [Act.put, List.setIfInBounds_toArray, List.set_cons_zero, List.set_cons_succ])
  refine lsq (by rfl) (by rfl) ?_; apply Exists.intro; refine ⟨fun H w2 hg hp => ?_, ?_⟩
  · (first | (go_simp; rfl) | go_simp)
  refine ls_nil (fun H w2 hg hr hd => ?_)
  have e5 : vals 5 = .agg #[.int .i64 (hiW (n0 * (n1 + n2))), .int .u64 (loW (n0 * (n1 + n2)))] := hr 5 (by simp)
  have e10 : vals 10 = .agg #[.int .i64 (hiW (n0 * n1)), .int .u64 (loW (n0 * n1))] := hr 10 (by simp)
  have e15 : vals 15 = .agg #[.int .i64 (hiW (n0 * n2)), .int .u64 (loW (n0 * n2))] := hr 15 (by simp)
  have e16 : vals 16 = .agg #[.int .i64 (hiW (n0 * (n1 + n2))), .int .u64 (loW (n0 * (n1 + n2)))] := hr 16 (by simp)
  simp only [e5, e10, e15, e16, Act.put, List.setIfInBounds_toArray, List.set_cons_zero, List.set_cons_succ, List.drop_succ_cons, List.drop_zero]
  refine wpList_nil ?_
  have d3 := below_then d2 hg.below
  have d6 := d5.below hg.below
  clear hr hd hg d2 d5 e5 e10 e15 e16
  obtain ⟨w7, rfl⟩ : ∃ x : World, x = w2 := ⟨_, rfl⟩
  go_wp2_with fail
  refine ls_take (H0 := E) 12 (fun e => match e with | 2 => .is (· = .agg #[.int .i64 (hiW (n0)), .int .u64 (loW (n0))]) | 5 => .is (· = .agg #[.int .i64 (hiW (n1)), .int .u64 (loW (n1))]) | 8 => .is (· = .agg #[.int .i64 (hiW (n2)), .int .u64 (loW (n2))]) | 9 => .var w7.heap.size #[.int .i64 0, .int .u64 0] 24 | 10 => .var w7.heap.size #[.int .i64 0, .int .u64 0] 24 | 11 => .var w7.heap.size #[.int .i64 0, .int .u64 0] 24 | _ => .tt) [[],[],[],[],[],[],[],[],[],[],[],[]] [2,5,8,9,10,11] [9,10,11] [[],[0],[0,1],[],[3],[0,1,2,3,4],[],[6],[0,1,2,3,4,5,6,7],[],[],[],[0,1,2,3,4,5,6,7,8,9,10,11],[0,1,2,3,4,5,6,7,8,9,10,11,12],[0,1,2,3,4,5,6,7,8,9,10,11,12,13]] (agE _) (by kernel_rfl) (by kernel_rfl) (by kernel_rfl) (by rfl) (by rfl) (by kernel_rfl) ?_
  intro vals
  refine lsq (by rfl) (by rfl) ?_; apply Exists.intro; refine ⟨fun H w2 hg hp => ?_, ?_⟩
  · (first | (go_simp; rfl) | go_simp)
  (try simp only [Act.put, List.setIfInBounds_toArray, List.set_cons_zero, List.set_cons_succ])
  refine lsq (by rfl) (by rfl) ?_; apply Exists.intro; refine ⟨fun H w2 hg hp => ?_, ?_⟩
  · have g0 := (d6.below hg.below).cell; (first | (go_simp; rfl) | go_simp)
  (try simp only [Act.put, List.setIfInBounds_toArray, List.set_cons_zero, List.set_cons_succ])
  refine ls_ev (by rfl) (by rfl) (by rfl) (fun H w2 hg hp => ?_) ?_
  · refine gives_call (f := 10) ?_; apply Exists.intro; refine ⟨?_, ?_⟩
    · (first | (go_simp; rfl) | go_simp)
    · exact (wof_any _ _ G0.out).mono fun e w3 ⟨he, hb⟩ => ⟨_, he, H, Grow.of_below hg.ag hb, rfl⟩
  (try simp only [Act.put, List.setIfInBounds_toArray, List.set_cons_zero, List.set_cons_succ])
  refine lsq (by rfl) (by rfl) ?_; apply Exists.intro; refine ⟨fun H w2 hg hp => ?_, ?_⟩
  · (first | (go_simp; rfl) | go_simp)
  (try simp only [Act.put, List.setIfInBounds_toArray, List.set_cons_zero, List.set_cons_succ])
  refine lsq (by rfl) (by rfl) ?_; apply Exists.intro; refine ⟨fun H w2 hg hp => ?_, ?_⟩
  · have g0 := (d6.below hg.below).cell; (first | (go_simp; rfl) | go_simp)
  (try simp only [Act.put, List.setIfInBounds_toArray, List.set_cons_zero, List.set_cons_succ])
  refine ls_ev (by rfl) (by rfl) (by rfl) (fun H w2 hg hp => ?_) ?_
  · refine gives_call (f := 10) ?_; apply Exists.intro; refine ⟨?_, ?_⟩
    · (first | (go_simp; rfl) | go_simp)
    · exact (wof_any _ _ G1.out).mono fun e w3 ⟨he, hb⟩ => ⟨_, he, H, Grow.of_below hg.ag hb, rfl⟩
  (try simp only [Act.put, List.setIfInBounds_toArray, List.set_cons_zero, List.set_cons_succ])
  refine lsq (by rfl) (by rfl) ?_; apply Exists.intro; refine ⟨fun H w2 hg hp => ?_, ?_⟩
  · (first | (go_simp; rfl) | go_simp)
  (try simp only [Act.put, List.setIfInBounds_toArray, List.set_cons_zero, List.set_cons_succ])
  refine lsq (by rfl) (by rfl) ?_; apply Exists.intro; refine ⟨fun H w2 hg hp => ?_, ?_⟩
  · have g0 := (d6.below hg.below).cell; (first | (go_simp; rfl) | go_simp)
  (try simp only [Act.put, List.setIfInBounds_toArray, List.set_cons_zero, List.set_cons_succ])
  refine ls_ev (by rfl) (by rfl) (by rfl) (fun H w2 hg hp => ?_) ?_
  · refine gives_call (f := 10) ?_; apply Exists.intro; refine ⟨?_, ?_⟩
    · (first | (go_simp; rfl) | go_simp)
    · exact (wof_any _ _ G2.out).mono fun e w3 ⟨he, hb⟩ => ⟨_, he, H, Grow.of_below hg.ag hb, rfl⟩
  (try simp only [Act.put, List.setIfInBounds_toArray, List.set_cons_zero, List.set_cons_succ])
  refine ls_alloc (by rfl) (by rfl) (fun w => ?_) (fun H w b hb => ⟨b, rfl, hb⟩) ?_
  · go_simp
  (try simp only [Act.put, List.setIfInBounds_toArray, List.set_cons_zero, List.set_cons_succ])
  refine ls_alloc (by rfl) (by rfl) (fun w => ?_) (fun H w b hb => ⟨b, rfl, hb⟩) ?_
  · go_simp
  (try simp only [Act.put, List.setIfInBounds_toArray, List.set_cons_zero, List.set_cons_succ])
  refine ls_alloc (by rfl) (by rfl) (fun w => ?_) (fun H w b hb => ⟨b, rfl, hb⟩) ?_
  · go_simp
  refine ls_nil (fun H w2 hg hr hd => ?_)
  have e2 : vals 2 = .agg #[.int .i64 (hiW (n0)), .int .u64 (loW (n0))] := hr 2 (by simp)
  have e5 : vals 5 = .agg #[.int .i64 (hiW (n1)), .int .u64 (loW (n1))] := hr 5 (by simp)
  have e8 : vals 8 = .agg #[.int .i64 (hiW (n2)), .int .u64 (loW (n2))] := hr 8 (by simp)
  obtain ⟨b9, e9, k9⟩ := hr 9 (by simp)
  have k9 := k9.toE
  have l9 := k9.ge
  obtain ⟨b10, e10, k10⟩ := hr 10 (by simp)
  have k10 := k10.toE
  have l10 := k10.ge
  obtain ⟨b11, e11, k11⟩ := hr 11 (by simp)
  have k11 := k11.toE
  have l11 := k11.ge
  have n9_10 : b9 ≠ b10 := fun h => hd 9 (by simp) 10 (by simp) (by simp) (by simp) (by simp) b9 e9 (by rw [h]; exact e10)
  have n9_11 : b9 ≠ b11 := fun h => hd 9 (by simp) 11 (by simp) (by simp) (by simp) (by simp) b9 e9 (by rw [h]; exact e11)
  have n10_11 : b10 ≠ b11 := fun h => hd 10 (by simp) 11 (by simp) (by simp) (by simp) (by simp) b10 e10 (by rw [h]; exact e11)
  simp only [e2, e5, e8, e9, e10, e11, Act.put, List.setIfInBounds_toArray, List.set_cons_zero, List.set_cons_succ, List.drop_succ_cons, List.drop_zero]
  have d8 := below_then d3 hg.below
  have d7 := d6.below hg.below
  have s8 := d3.size
  have q7 := d6.lt
  have z9 := k9.frozen; have z10 := k10.frozen; have z11 := k11.frozen
  have c9 := k9.cell; have c10 := k10.cell; have c11 := k11.cell
  have HK9 := Lib.hid k9; have HK10 := Lib.hid k10; have HK11 := Lib.hid k11; have HD7 := Lib.hid d7; have HD8 := Lib.hid d8
  clear hr hd hg d3 d6 e2 e5 e8 e9 e10 e11 k9 k10 k11 d7 d8
  obtain ⟨w8, rfl⟩ : ∃ x : World, x = w2 := ⟨_, rfl⟩
  go_wp2_with fail
  refine abs_world (F := fun w3 => Below w.heap.size w w3 ∧ Blk E w3 w.heap.size (w.heap.size + 1 + 1) #[.int .i64 n0, .int .i64 n1, .int .i64 n2] 39 ∧ Blk E w3 w7.heap.size b9 #[.int .i64 (hiW n0), .int .u64 (loW n0)] 24 ∧ Blk E w3 w7.heap.size b10 #[.int .i64 (hiW n1), .int .u64 (loW n1)] 24 ∧ Blk E w3 w7.heap.size b11 #[.int .i64 (hiW n2), .int .u64 (loW n2)] 24) ?_ ?_
  · have k9 := HK9.out; have k10 := HK10.out; have k11 := HK11.out; have d7 := HD7.out; have d8 := HD8.out
    exact ⟨by (repeat (first | with_reducible exact Below.refl _ _ | with_reducible assumption | (with_reducible refine below_set ?_ ?_; focus ((try dsimp only); first | with_reducible assumption | omega)) | (with_reducible refine below_alloc ?_ ?_; focus (first | omega | (simp; done) | (simp; omega))) | with_reducible refine below_drewN ?_ _ | with_reducible refine Below.drew ?_)), by (apply Blk.cast; (repeat (first | with_reducible assumption | (with_reducible apply Blk.mk_new; (focus (first | exact agE _ | assumption)); (focus (first | rfl | (simp; done))); (focus omega)) | with_reducible apply Blk.alloc | with_reducible apply Blk.drewN | with_reducible apply Blk.drew | with_reducible apply Blk.set | (with_reducible apply Blk.far'; focus (first | with_reducible assumption | (apply Ne.symm; with_reducible assumption) | omega)))); (try (first | (simp; done) | rfl))), by (apply Blk.cast; (repeat (first | with_reducible assumption | (with_reducible apply Blk.mk_new; (focus (first | exact agE _ | assumption)); (focus (first | rfl | (simp; done))); (focus omega)) | with_reducible apply Blk.alloc | with_reducible apply Blk.drewN | with_reducible apply Blk.drew | with_reducible apply Blk.set | (with_reducible apply Blk.far'; focus (first | with_reducible assumption | (apply Ne.symm; with_reducible assumption) | omega)))); (try (first | (simp; done) | rfl))), by (apply Blk.cast; (repeat (first | with_reducible assumption | (with_reducible apply Blk.mk_new; (focus (first | exact agE _ | assumption)); (focus (first | rfl | (simp; done))); (focus omega)) | with_reducible apply Blk.alloc | with_reducible apply Blk.drewN | with_reducible apply Blk.drew | with_reducible apply Blk.set | (with_reducible apply Blk.far'; focus (first | with_reducible assumption | (apply Ne.symm; with_reducible assumption) | omega)))); (try (first | (simp; done) | rfl))), by (apply Blk.cast; (repeat (first | with_reducible assumption | (with_reducible apply Blk.mk_new; (focus (first | exact agE _ | assumption)); (focus (first | rfl | (simp; done))); (focus omega)) | with_reducible apply Blk.alloc | with_reducible apply Blk.drewN | with_reducible apply Blk.drew | with_reducible apply Blk.set | (with_reducible apply Blk.far'; focus (first | with_reducible assumption | (apply Ne.symm; with_reducible assumption) | omega)))); (try (first | (simp; done) | rfl)))⟩
  clear c9 c10 c11 z9 z10 z11 HK9 HK10 HK11 HD7 HD8
  rintro w9 ⟨t1, t2, t3, t4, t5⟩
  refine ls_take (H0 := E) 28 (fun e => match e with | 2 => .is (· = .int .i64 (cmpI n0 n1)) | 5 => .is (· = .agg #[.int .i64 (hiW (n0 + n2)), .int .u64 (loW (n0 + n2))]) | 8 => .is (· = .agg #[.int .i64 (hiW (n1 + n2)), .int .u64 (loW (n1 + n2))]) | 9 => .is (· = .int .i64 (cmpI n0 n1)) | 16 => .is (· = .agg #[.int .i64 (hiW (n0 * n1)), .int .u64 (loW (n0 * n1))]) | 21 => .is (· = .agg #[.int .i64 (hiW (n0 * n1)), .int .u64 (loW (n0 * n1))]) | 25 => .is (· = .bool true) | _ => .tt) [[],[],[],[],[],[],[],[],[],[5,8],[2,9],[],[],[],[],[],[],[],[],[],[],[],[16,21],[],[],[],[25],[]] [2,5,8,9,16,21,25] [] [[],[],[0,1],[],[],[0,1,2,3,4],[],[],[0,1,2,3,4,5,6,7],[0,1,2,3,4,5,6,7,8],[0,1,2,3,4,5,6,7,8,9],[0,1,2,3,4,5,6,7,8,9,10],[0,1,2,3,4,5,6,7,8,9,10,11],[0,1,2,3,4,5,6,7,8,9,10,11,12],[0,1,2,3,4,5,6,7,8,9,10,11],[0,1,2,3,4,5,6,7,8,9,10,11,14],[0,1,2,3,4,5,6,7,8,9,10,11,12,13,14,15],[0,1,2,3,4,5,6,7,8,9,10,11],[0,1,2,3,4,5,6,7,8,9,10,11,17],[0,1,2,3,4,5,6,7,8,9,10,11],[0,1,2,3,4,5,6,7,8,9,10,11,19],[0,1,2,3,4,5,6,7,8,9,10,11,12,13,14,15,16,17,18,19,20],[0,1,2,3,4,5,6,7,8,9,10,11,12,13,14,15,16,17,18,19,20,21],[0,1,2,3,4,5,6,7,8,9,10,11,12,13,14,15,16,17,18,19,20,21,22],[0,1,2,3,4,5,6,7,8,9,10,11,12,13,14,15,16,17,18,19,20,21,22,23],[0,1,2,3,4,5,6,7,8,9,10,11,12,13,14,15,16,17,18,19,20,21,22,23,24],[0,1,2,3,4,5,6,7,8,9,10,11,12,13,14,15,16,17,18,19,20,21,22,23,24,25],[0,1,2,3,4,5,6,7,8,9,10,11,12,13,14,15,16,17,18,19,20,21,22,23,24,25,26]] (agE _) (by kernel_rfl) (by kernel_rfl) (by kernel_rfl) (by rfl) (by rfl) (by kernel_rfl) ?_
  intro vals
  refine lsq (by rfl) (by rfl) ?_; apply Exists.intro; refine ⟨fun H w2 hg hp => ?_, ?_⟩
  · have g0 := (t2.below hg.below).cell; have g1 := (t3.below hg.below).cell; have g2 := (t4.below hg.below).cell; have g3 := (t5.below hg.below).cell; (first | (go_simp; rfl) | go_simp)
  (try simp only [Act.put, List.setIfInBounds_toArray, List.set_cons_zero, List.set_cons_succ])
  refine lsq (by rfl) (by rfl) ?_; apply Exists.intro; refine ⟨fun H w2 hg hp => ?_, ?_⟩
  · have g0 := (t2.below hg.below).cell; have g1 := (t3.below hg.below).cell; have g2 := (t4.below hg.below).cell; have g3 := (t5.below hg.below).cell; (first | (go_simp; rfl) | go_simp)
  (try simp only [Act.put, List.setIfInBounds_toArray, List.set_cons_zero, List.set_cons_succ])
  refine ls_ev (by rfl) (by rfl) (by rfl) (fun H w2 hg hp => ?_) ?_
  · refine gives_call (f := 15) ?_; apply Exists.intro; refine ⟨?_, ?_⟩
    · (first | (go_simp; rfl) | go_simp)
    · exact (wcmp_any _ _ _ _ _ (ok2 _) (ok2 _)).mono fun e w3 ⟨he, hb⟩ => ⟨_, he, H, Grow.of_below hg.ag hb, by rw [V_int G0.out, V_int G1.out]; rfl⟩
  (try simp only [Act.put, List.setIfInBounds_toArray, List.set_cons_zero, List.set_cons_succ])
  refine lsq (by rfl) (by rfl) ?_; apply Exists.intro; refine ⟨fun H w2 hg hp => ?_, ?_⟩
  · have g0 := (t2.below hg.below).cell; have g1 := (t3.below hg.below).cell; have g2 := (t4.below hg.below).cell; have g3 := (t5.below hg.below).cell; (first | (go_simp; rfl) | go_simp)
  (try simp only [Act.put, List.setIfInBounds_toArray, List.set_cons_zero, List.set_cons_succ])
  refine lsq (by rfl) (by rfl) ?_; apply Exists.intro; refine ⟨fun H w2 hg hp => ?_, ?_⟩
  · have g0 := (t2.below hg.below).cell; have g1 := (t3.below hg.below).cell; have g2 := (t4.below hg.below).cell; have g3 := (t5.below hg.below).cell; (first | (go_simp; rfl) | go_simp)
  (try simp only [Act.put, List.setIfInBounds_toArray, List.set_cons_zero, List.set_cons_succ])
  refine ls_ev (by rfl) (by rfl) (by rfl) (fun H w2 hg hp => ?_) ?_
  · refine gives_call (f := 21) ?_; apply Exists.intro; refine ⟨?_, ?_⟩
    · (first | (go_simp; rfl) | go_simp)
    · exact (wadd_any _ _ _ _ _ (ok2 _) (ok2 _)).mono fun e w3 ⟨he, hb⟩ => ⟨_, he, H, Grow.of_below hg.ag hb, sum_W _ _⟩
  (try simp only [Act.put, List.setIfInBounds_toArray, List.set_cons_zero, List.set_cons_succ])
  refine lsq (by rfl) (by rfl) ?_; apply Exists.intro; refine ⟨fun H w2 hg hp => ?_, ?_⟩
  · have g0 := (t2.below hg.below).cell; have g1 := (t3.below hg.below).cell; have g2 := (t4.below hg.below).cell; have g3 := (t5.below hg.below).cell; (first | (go_simp; rfl) | go_simp)
  (try simp only [Act.put, List.setIfInBounds_toArray, List.set_cons_zero, List.set_cons_succ])
  refine lsq (by rfl) (by rfl) ?_; apply Exists.intro; refine ⟨fun H w2 hg hp => ?_, ?_⟩
  · have g0 := (t2.below hg.below).cell; have g1 := (t3.below hg.below).cell; have g2 := (t4.below hg.below).cell; have g3 := (t5.below hg.below).cell; (first | (go_simp; rfl) | go_simp)
  (try simp only [Act.put, List.setIfInBounds_toArray, List.set_cons_zero, List.set_cons_succ])
  refine ls_ev (by rfl) (by rfl) (by rfl) (fun H w2 hg hp => ?_) ?_
  · refine gives_call (f := 21) ?_; apply Exists.intro; refine ⟨?_, ?_⟩
    · (first | (go_simp; rfl) | go_simp)
    · exact (wadd_any _ _ _ _ _ (ok2 _) (ok2 _)).mono fun e w3 ⟨he, hb⟩ => ⟨_, he, H, Grow.of_below hg.ag hb, sum_W _ _⟩
  (try simp only [Act.put, List.setIfInBounds_toArray, List.set_cons_zero, List.set_cons_succ])
  refine ls_ev (by rfl) (by rfl) (by rfl) (fun H w2 hg hp => ?_) ?_
  · refine gives_call (f := 15) ?_; apply Exists.intro; refine ⟨?_, ?_⟩
    · have hv5 : vals 5 = .agg #[.int .i64 (hiW (n0 + n2)), .int .u64 (loW (n0 + n2))] := hp 5 (by simp); have hv8 : vals 8 = .agg #[.int .i64 (hiW (n1 + n2)), .int .u64 (loW (n1 + n2))] := hp 8 (by simp); (first | (go_simp; rfl) | go_simp)
    · exact (wcmp_any _ _ _ _ _ (ok2 _) (ok2 _)).mono fun e w3 ⟨he, hb⟩ => ⟨_, he, H, Grow.of_below hg.ag hb, by rw [V_two G0.out G2.out, V_two G1.out G2.out, cmpI_add]; rfl⟩
  (try simp only [Act.put, List.setIfInBounds_toArray, List.set_cons_zero, List.set_cons_succ])
  refine lsq (by rfl) (by rfl) ?_; apply Exists.intro; refine ⟨fun H w2 hg hp => ?_, ?_⟩
  · have hv2 : vals 2 = .int .i64 (cmpI n0 n1) := hp 2 (by simp); have hv9 : vals 9 = .int .i64 (cmpI n0 n1) := hp 9 (by simp); (first | (go_simp; rfl) | go_simp)
  (try simp only [Act.put, List.setIfInBounds_toArray, List.set_cons_zero, List.set_cons_succ])
  refine lsq (by rfl) (by rfl) ?_; apply Exists.intro; refine ⟨fun H w2 hg hp => ?_, ?_⟩
  · (first | (go_simp; rfl) | go_simp)
  (try simp only [Act.put, List.setIfInBounds_toArray, List.set_cons_zero, List.set_cons_succ])
  first | refine ls_skip (by rfl) (by rfl) ?_ | (refine lsq (by rfl) (by rfl) ?_; apply Exists.intro; refine ⟨fun H w2 hg hp => ?_, ?_⟩; focus ((first | (go_simp; rfl) | go_simp)))
  (try simp only [Act.put, List.setIfInBounds_toArray, List.set_cons_zero, List.set_cons_succ])
  first | refine ls_skip (by rfl) (by rfl) ?_ | (refine lsq (by rfl) (by rfl) ?_; apply Exists.intro; refine ⟨fun H w2 hg hp => ?_, ?_⟩; focus (have g0 := (t2.below hg.below).cell; have g1 := (t3.below hg.below).cell; have g2 := (t4.below hg.below).cell; have g3 := (t5.below hg.below).cell; (first | (go_simp; rfl) | go_simp)))
  (try simp only [Act.put, List.setIfInBounds_toArray, List.set_cons_zero, List.set_cons_succ])
  first | refine ls_skip (by rfl) (by rfl) ?_ | (refine lsq (by rfl) (by rfl) ?_; apply Exists.intro; refine ⟨fun H w2 hg hp => ?_, ?_⟩; focus ((first | (go_simp; rfl) | go_simp)))
  (try simp only [Act.put, List.setIfInBounds_toArray, List.set_cons_zero, List.set_cons_succ])
  first | refine ls_skip (by rfl) (by rfl) ?_ | (refine lsq (by rfl) (by rfl) ?_; apply Exists.intro; refine ⟨fun H w2 hg hp => ?_, ?_⟩; focus (have g0 := (t2.below hg.below).cell; have g1 := (t3.below hg.below).cell; have g2 := (t4.below hg.below).cell; have g3 := (t5.below hg.below).cell; (first | (go_simp; rfl) | go_simp)))
  (try simp only [Act.put, List.setIfInBounds_toArray, List.set_cons_zero, List.set_cons_succ])
  refine ls_ev (by rfl) (by rfl) (by rfl) (fun H w2 hg hp => ?_) ?_
  · refine gives_call (f := 8) ?_; apply Exists.intro; refine ⟨?_, ?_⟩
    · (first | (go_simp; rfl) | go_simp)
    · exact (wmul_any _ _ _ G0.out G1.out).mono fun e w3 ⟨he, hb⟩ => ⟨_, he, H, Grow.of_below hg.ag hb, rfl⟩
  (try simp only [Act.put, List.setIfInBounds_toArray, List.set_cons_zero, List.set_cons_succ])
  first | refine ls_skip (by rfl) (by rfl) ?_ | (refine lsq (by rfl) (by rfl) ?_; apply Exists.intro; refine ⟨fun H w2 hg hp => ?_, ?_⟩; focus ((first | (go_simp; rfl) | go_simp)))
  (try simp only [Act.put, List.setIfInBounds_toArray, List.set_cons_zero, List.set_cons_succ])
  first | refine ls_skip (by rfl) (by rfl) ?_ | (refine lsq (by rfl) (by rfl) ?_; apply Exists.intro; refine ⟨fun H w2 hg hp => ?_, ?_⟩; focus (have g0 := (t2.below hg.below).cell; have g1 := (t3.below hg.below).cell; have g2 := (t4.below hg.below).cell; have g3 := (t5.below hg.below).cell; (first | (go_simp; rfl) | go_simp)))
  (try simp only [Act.put, List.setIfInBounds_toArray, List.set_cons_zero, List.set_cons_succ])
  first | refine ls_skip (by rfl) (by rfl) ?_ | (refine lsq (by rfl) (by rfl) ?_; apply Exists.intro; refine ⟨fun H w2 hg hp => ?_, ?_⟩; focus ((first | (go_simp; rfl) | go_simp)))
  (try simp only [Act.put, List.setIfInBounds_toArray, List.set_cons_zero, List.set_cons_succ])
  first | refine ls_skip (by rfl) (by rfl) ?_ | (refine lsq (by rfl) (by rfl) ?_; apply Exists.intro; refine ⟨fun H w2 hg hp => ?_, ?_⟩; focus (have g0 := (t2.below hg.below).cell; have g1 := (t3.below hg.below).cell; have g2 := (t4.below hg.below).cell; have g3 := (t5.below hg.below).cell; (first | (go_simp; rfl) | go_simp)))
  (try simp only [Act.put, List.setIfInBounds_toArray, List.set_cons_zero, List.set_cons_succ])
  refine ls_ev (by rfl) (by rfl) (by rfl) (fun H w2 hg hp => ?_) ?_
  · refine gives_call (f := 8) ?_; apply Exists.intro; refine ⟨?_, ?_⟩
    · (first | (go_simp; rfl) | go_simp)
    · exact (wmul_any _ _ _ G1.out G0.out).mono fun e w3 ⟨he, hb⟩ => ⟨_, he, H, Grow.of_below hg.ag hb, by rw [Int.mul_comm n1 n0]; rfl⟩
  (try simp only [Act.put, List.setIfInBounds_toArray, List.set_cons_zero, List.set_cons_succ])
  first | refine ls_skip (by rfl) (by rfl) ?_ | (refine lsq (by rfl) (by rfl) ?_; apply Exists.intro; refine ⟨fun H w2 hg hp => ?_, ?_⟩; focus (have hv16 : vals 16 = .agg #[.int .i64 (hiW (n0 * n1)), .int .u64 (loW (n0 * n1))] := hp 16 (by simp); have hv21 : vals 21 = .agg #[.int .i64 (hiW (n0 * n1)), .int .u64 (loW (n0 * n1))] := hp 21 (by simp); (first | (go_simp; rfl) | go_simp)))
  (try simp only [Act.put, List.setIfInBounds_toArray, List.set_cons_zero, List.set_cons_succ])
  refine lsq (by rfl) (by rfl) ?_; apply Exists.intro; refine ⟨fun H w2 hg hp => ?_, ?_⟩
  · (first | (go_simp; rfl) | go_simp)
  (try simp only [Act.put, List.setIfInBounds_toArray, List.set_cons_zero, List.set_cons_succ])
  refine lsq (by rfl) (by rfl) ?_; apply Exists.intro; refine ⟨fun H w2 hg hp => ?_, ?_⟩
  · (first | (go_simp; rfl) | go_simp)
  (try simp only [Act.put, List.setIfInBounds_toArray, List.set_cons_zero, List.set_cons_succ])
  refine ls_ev (by rfl) (by rfl) (by rfl) (fun H w2 hg hp => ?_) ?_
  · refine gives_call (f := 12) ?_; apply Exists.intro; refine ⟨?_, ?_⟩
    · (first | (go_simp; rfl) | go_simp)
    · exact (lives_any _).mono fun e w3 ⟨he, hb⟩ => ⟨_, he, H, Grow.of_below hg.ag hb, rfl⟩
  (try simp only [Act.put, List.setIfInBounds_toArray, List.set_cons_zero, List.set_cons_succ])
  refine lsq (by rfl) (by rfl) ?_; apply Exists.intro; refine ⟨fun H w2 hg hp => ?_, ?_⟩
  · have hv25 : vals 25 = .bool true := hp 25 (by simp); (first | (go_simp; rfl) | go_simp)
  (try simp only [Act.put, List.setIfInBounds_toArray, List.set_cons_zero, List.set_cons_succ])
  refine lsq (by rfl) (by rfl) ?_; apply Exists.intro; refine ⟨fun H w2 hg hp => ?_, ?_⟩
  · (first | (go_simp; rfl) | go_simp)
  refine ls_nil (fun H w2 hg hr hd => ?_)
  have e2 : vals 2 = .int .i64 (cmpI n0 n1) := hr 2 (by simp)
  have e5 : vals 5 = .agg #[.int .i64 (hiW (n0 + n2)), .int .u64 (loW (n0 + n2))] := hr 5 (by simp)
  have e8 : vals 8 = .agg #[.int .i64 (hiW (n1 + n2)), .int .u64 (loW (n1 + n2))] := hr 8 (by simp)
  have e9 : vals 9 = .int .i64 (cmpI n0 n1) := hr 9 (by simp)
  have e16 : vals 16 = .agg #[.int .i64 (hiW (n0 * n1)), .int .u64 (loW (n0 * n1))] := hr 16 (by simp)
  have e21 : vals 21 = .agg #[.int .i64 (hiW (n0 * n1)), .int .u64 (loW (n0 * n1))] := hr 21 (by simp)
  have e25 : vals 25 = .bool true := hr 25 (by simp)
  simp only [e2, e5, e8, e9, e16, e21, e25, Act.put, List.setIfInBounds_toArray, List.set_cons_zero, List.set_cons_succ, List.drop_succ_cons, List.drop_zero]
  refine wpList_nil ?_
  have u1 := below_then t1 hg.below
  clear hr hd hg t1 t2 t3 t4 t5 e2 e5 e8 e9 e16 e21 e25
  go_wp2
  go_ret
  exact ⟨rfl, u1⟩
set_option maxRecDepth 100000 in
set_option maxHeartbeats 2000000 in
theorem rules_no (h l h' l' n0 n1 n2 : Int) (w : World) (k : Ok2 h l) (k' : Ok2 h' l') (g0 : I64 n0) (g1 : I64 n1) (g2 : I64 n2) (hy : ¬ I64 (n1 + n2)) :
    Calls Try.prog 7 #[.agg #[.int .i64 h, .int .u64 l], .agg #[.int .i64 h', .int .u64 l'], .agg #[.int .i64 n0, .int .i64 n1, .int .i64 n2]] w fun e w' => e = .returned (.bool true) ∧ Below w.heap.size w w' := by
  have K := Lib.hid k; have K' := Lib.hid k'; have G0 := Lib.hid g0; have G1 := Lib.hid g1; have G2 := Lib.hid g2; have HY := Lib.hid hy
  clear k k' g0 g1 g2 hy
  go_enter Try.func7, Try.ntmps7
  go_wp2_with fail
  refine abs_world (F := fun w1 => Below w.heap.size w w1 ∧ Blk E w1 w.heap.size w.heap.size #[.int .i64 h, .int .u64 l] 24 ∧ Blk E w1 w.heap.size (w.heap.size + 1) #[.int .i64 h', .int .u64 l'] 24 ∧ Blk E w1 w.heap.size (w.heap.size + 1 + 1) #[.int .i64 n0, .int .i64 n1, .int .i64 n2] 39) ?_ ?_
  · refine ⟨?_, ?_, ?_, ?_⟩
    (repeat (first | with_reducible exact Below.refl _ _ | with_reducible assumption | (with_reducible refine below_set ?_ ?_; focus ((try dsimp only); first | with_reducible assumption | omega)) | (with_reducible refine below_alloc ?_ ?_; focus (first | omega | (simp; done) | (simp; omega))) | with_reducible refine below_drewN ?_ _ | with_reducible refine Below.drew ?_))
    all_goals (apply Blk.cast; (repeat (first | with_reducible assumption | (with_reducible apply Blk.mk_new; (focus (first | exact agE _ | assumption)); (focus (first | rfl | (simp; done))); (focus omega)) | with_reducible apply Blk.alloc | with_reducible apply Blk.drewN | with_reducible apply Blk.drew | with_reducible apply Blk.set | (with_reducible apply Blk.far'; focus (first | with_reducible assumption | (apply Ne.symm; with_reducible assumption) | omega)))); (try (first | (simp; done) | rfl)))
  rintro w1 ⟨f1, f2, f3, f4⟩
  refine ls_take (H0 := E) 14 (fun e => match e with | 2 => .is (· = .agg #[.int .i64 (hiW (V h l + V h' l')), .int .u64 (loW (V h l + V h' l'))]) | 4 => .is (· = .agg #[.int .i64 h, .int .u64 l]) | 9 => .is (· = .agg #[.int .i64 (hiW (-V h l)), .int .u64 (loW (-V h l))]) | 10 => .is (· = .agg #[.int .i64 h, .int .u64 l]) | _ => .tt) [[],[],[],[],[2],[],[4],[],[],[],[9],[],[10],[]] [2,4,9,10] [] [[],[],[0,1],[],[0,1,2,3],[],[0,1,2,3,4,5],[0,1,2,3,4,5,6],[0,1,2,3,4,5,6,7],[0,1,2,3,4,5,6,7,8],[0,1,2,3,4,5,6,7,8,9],[0,1,2,3,4,5,6,7],[0,1,2,3,4,5,6,7,8,9,10,11],[0,1,2,3,4,5,6,7,8,9,10,11,12]] (agE _) (by kernel_rfl) (by kernel_rfl) (by kernel_rfl) (by rfl) (by rfl) (by kernel_rfl) ?_
  intro vals
  refine lsq (by rfl) (by rfl) ?_; apply Exists.intro; refine ⟨fun H w2 hg hp => ?_, ?_⟩
  · have g0 := (f2.below hg.below).cell; have g1 := (f3.below hg.below).cell; (first | (go_simp; rfl) | go_simp)
  (try simp only [Act.put, List.setIfInBounds_toArray, List.set_cons_zero, List.set_cons_succ])
  refine lsq (by rfl) (by rfl) ?_; apply Exists.intro; refine ⟨fun H w2 hg hp => ?_, ?_⟩
  · have g0 := (f2.below hg.below).cell; have g1 := (f3.below hg.below).cell; (first | (go_simp; rfl) | go_simp)
  (try simp only [Act.put, List.setIfInBounds_toArray, List.set_cons_zero, List.set_cons_succ])
  refine ls_ev (by rfl) (by rfl) (by rfl) (fun H w2 hg hp => ?_) ?_
  · refine gives_call (f := 21) ?_; apply Exists.intro; refine ⟨?_, ?_⟩
    · (first | (go_simp; rfl) | go_simp)
    · exact (wadd_any _ _ _ _ _ K.out K'.out).mono fun e w3 ⟨he, hb⟩ => ⟨_, he, H, Grow.of_below hg.ag hb, rfl⟩
  (try simp only [Act.put, List.setIfInBounds_toArray, List.set_cons_zero, List.set_cons_succ])
  refine lsq (by rfl) (by rfl) ?_; apply Exists.intro; refine ⟨fun H w2 hg hp => ?_, ?_⟩
  · have g0 := (f2.below hg.below).cell; have g1 := (f3.below hg.below).cell; (first | (go_simp; rfl) | go_simp)
  (try simp only [Act.put, List.setIfInBounds_toArray, List.set_cons_zero, List.set_cons_succ])
  refine ls_ev (by rfl) (by rfl) (by rfl) (fun H w2 hg hp => ?_) ?_
  · refine gives_call (f := 23) ?_; apply Exists.intro; refine ⟨?_, ?_⟩
    · have hv2 : vals 2 = .agg #[.int .i64 (hiW (V h l + V h' l')), .int .u64 (loW (V h l + V h' l'))] := hp 2 (by simp); (first | (go_simp; rfl) | go_simp)
    · exact (wsub_any _ _ _ _ _ (ok2 _) K'.out).mono fun e w3 ⟨he, hb⟩ => ⟨_, he, H, Grow.of_below hg.ag hb, back_add K.out⟩
  (try simp only [Act.put, List.setIfInBounds_toArray, List.set_cons_zero, List.set_cons_succ])
  refine lsq (by rfl) (by rfl) ?_; apply Exists.intro; refine ⟨fun H w2 hg hp => ?_, ?_⟩
  · have g0 := (f2.below hg.below).cell; have g1 := (f3.below hg.below).cell; (first | (go_simp; rfl) | go_simp)
  (try simp only [Act.put, List.setIfInBounds_toArray, List.set_cons_zero, List.set_cons_succ])
  refine lsq (by rfl) (by rfl) ?_; apply Exists.intro; refine ⟨fun H w2 hg hp => ?_, ?_⟩
  · have hv4 : vals 4 = .agg #[.int .i64 h, .int .u64 l] := hp 4 (by simp); (first | (go_simp; rfl) | go_simp)
  (try simp only [Act.put, List.setIfInBounds_toArray, List.set_cons_zero, List.set_cons_succ])
  refine lsq (by rfl) (by rfl) ?_; apply Exists.intro; refine ⟨fun H w2 hg hp => ?_, ?_⟩
  · (first | (go_simp; rfl) | go_simp)
  (try simp only [Act.put, List.setIfInBounds_toArray, List.set_cons_zero, List.set_cons_succ])
  first | refine ls_skip (by rfl) (by rfl) ?_ | (refine lsq (by rfl) (by rfl) ?_; apply Exists.intro; refine ⟨fun H w2 hg hp => ?_, ?_⟩; focus (have g0 := (f2.below hg.below).cell; have g1 := (f3.below hg.below).cell; (first | (go_simp; rfl) | go_simp)))
  (try simp only [Act.put, List.setIfInBounds_toArray, List.set_cons_zero, List.set_cons_succ])
  refine ls_ev (by rfl) (by rfl) (by rfl) (fun H w2 hg hp => ?_) ?_
  · refine gives_call (f := 25) ?_; apply Exists.intro; refine ⟨?_, ?_⟩
    · (first | (go_simp; rfl) | go_simp)
    · exact (wneg_any _ _ _ K.out).mono fun e w3 ⟨he, hb⟩ => ⟨_, he, H, Grow.of_below hg.ag hb, rfl⟩
  (try simp only [Act.put, List.setIfInBounds_toArray, List.set_cons_zero, List.set_cons_succ])
  refine ls_ev (by rfl) (by rfl) (by rfl) (fun H w2 hg hp => ?_) ?_
  · refine gives_call (f := 25) ?_; apply Exists.intro; refine ⟨?_, ?_⟩
    · have hv9 : vals 9 = .agg #[.int .i64 (hiW (-V h l)), .int .u64 (loW (-V h l))] := hp 9 (by simp); (first | (go_simp; rfl) | go_simp)
    · exact (wneg_any _ _ _ (ok2 _)).mono fun e w3 ⟨he, hb⟩ => ⟨_, he, H, Grow.of_below hg.ag hb, back_neg K.out⟩
  (try simp only [Act.put, List.setIfInBounds_toArray, List.set_cons_zero, List.set_cons_succ])
  first | refine ls_skip (by rfl) (by rfl) ?_ | (refine lsq (by rfl) (by rfl) ?_; apply Exists.intro; refine ⟨fun H w2 hg hp => ?_, ?_⟩; focus (have g0 := (f2.below hg.below).cell; have g1 := (f3.below hg.below).cell; (first | (go_simp; rfl) | go_simp)))
  (try simp only [Act.put, List.setIfInBounds_toArray, List.set_cons_zero, List.set_cons_succ])
  first | refine ls_skip (by rfl) (by rfl) ?_ | (refine lsq (by rfl) (by rfl) ?_; apply Exists.intro; refine ⟨fun H w2 hg hp => ?_, ?_⟩; focus (have hv10 : vals 10 = .agg #[.int .i64 h, .int .u64 l] := hp 10 (by simp); (first | (go_simp; rfl) | go_simp)))
  (try simp only [Act.put, List.setIfInBounds_toArray, List.set_cons_zero, List.set_cons_succ])
  refine lsq (by rfl) (by rfl) ?_; apply Exists.intro; refine ⟨fun H w2 hg hp => ?_, ?_⟩
  · (first | (go_simp; rfl) | go_simp)
  refine ls_nil (fun H w2 hg hr hd => ?_)
  have e2 : vals 2 = .agg #[.int .i64 (hiW (V h l + V h' l')), .int .u64 (loW (V h l + V h' l'))] := hr 2 (by simp)
  have e4 : vals 4 = .agg #[.int .i64 h, .int .u64 l] := hr 4 (by simp)
  have e9 : vals 9 = .agg #[.int .i64 (hiW (-V h l)), .int .u64 (loW (-V h l))] := hr 9 (by simp)
  have e10 : vals 10 = .agg #[.int .i64 h, .int .u64 l] := hr 10 (by simp)
  simp only [e2, e4, e9, e10, Act.put, List.setIfInBounds_toArray, List.set_cons_zero, List.set_cons_succ, List.drop_succ_cons, List.drop_zero]
  refine wpList_nil ?_
  have d1 := below_then f1 hg.below
  have d4 := f4.below hg.below
  clear hr hd hg f1 f2 f3 f4 e2 e4 e9 e10
  obtain ⟨w5, rfl⟩ : ∃ x : World, x = w2 := ⟨_, rfl⟩
  go_wp2_with fail
  refine ls_take (H0 := E) 13 (fun e => match e with | 2 => .is (· = .agg #[.int .i64 (hiW (n1)), .int .u64 (loW (n1))]) | 5 => .is (· = .agg #[.int .i64 (hiW (n2)), .int .u64 (loW (n2))]) | 6 => .is (· = .agg #[.int .i64 (hiW (n1 + n2)), .int .u64 (loW (n1 + n2))]) | 7 => .is (· = .tuple #[.int .i64 0, .bool false]) | _ => .tt) [[],[],[],[],[],[],[2,5],[6],[7],[],[],[],[]] [2,5,6,7] [] [[],[0],[0,1],[],[3],[0,1,2,3,4],[0,1,2,3,4,5],[0,1,2,3,4,5,6],[0,1,2,3,4,5,6,7],[0,1,2,3,4,5,6,7,8],[0,1,2,3,4,5,6,7,8],[0,1,2,3,4,5,6,7,8,9],[0,1,2,3,4,5,6,7,8,9,10,11]] (agE _) (by kernel_rfl) (by kernel_rfl) (by kernel_rfl) (by rfl) (by rfl) (by kernel_rfl) ?_
  intro vals
  refine lsq (by rfl) (by rfl) ?_; apply Exists.intro; refine ⟨fun H w2 hg hp => ?_, ?_⟩
  · (first | (go_simp; rfl) | go_simp)
  (try simp only [Act.put, List.setIfInBounds_toArray, List.set_cons_zero, List.set_cons_succ])
  refine lsq (by rfl) (by rfl) ?_; apply Exists.intro; refine ⟨fun H w2 hg hp => ?_, ?_⟩
  · have g0 := (d4.below hg.below).cell; (first | (go_simp; rfl) | go_simp)
  (try simp only [Act.put, List.setIfInBounds_toArray, List.set_cons_zero, List.set_cons_succ])
  refine ls_ev (by rfl) (by rfl) (by rfl) (fun H w2 hg hp => ?_) ?_
  · refine gives_call (f := 10) ?_; apply Exists.intro; refine ⟨?_, ?_⟩
    · (first | (go_simp; rfl) | go_simp)
    · exact (wof_any _ _ G1.out).mono fun e w3 ⟨he, hb⟩ => ⟨_, he, H, Grow.of_below hg.ag hb, rfl⟩
  (try simp only [Act.put, List.setIfInBounds_toArray, List.set_cons_zero, List.set_cons_succ])
  refine lsq (by rfl) (by rfl) ?_; apply Exists.intro; refine ⟨fun H w2 hg hp => ?_, ?_⟩
  · (first | (go_simp; rfl) | go_simp)
  (try simp only [Act.put, List.setIfInBounds_toArray, List.set_cons_zero, List.set_cons_succ])
  refine lsq (by rfl) (by rfl) ?_; apply Exists.intro; refine ⟨fun H w2 hg hp => ?_, ?_⟩
  · have g0 := (d4.below hg.below).cell; (first | (go_simp; rfl) | go_simp)
  (try simp only [Act.put, List.setIfInBounds_toArray, List.set_cons_zero, List.set_cons_succ])
  refine ls_ev (by rfl) (by rfl) (by rfl) (fun H w2 hg hp => ?_) ?_
  · refine gives_call (f := 10) ?_; apply Exists.intro; refine ⟨?_, ?_⟩
    · (first | (go_simp; rfl) | go_simp)
    · exact (wof_any _ _ G2.out).mono fun e w3 ⟨he, hb⟩ => ⟨_, he, H, Grow.of_below hg.ag hb, rfl⟩
  (try simp only [Act.put, List.setIfInBounds_toArray, List.set_cons_zero, List.set_cons_succ])
  refine ls_ev (by rfl) (by rfl) (by rfl) (fun H w2 hg hp => ?_) ?_
  · refine gives_call (f := 21) ?_; apply Exists.intro; refine ⟨?_, ?_⟩
    · have hv2 : vals 2 = .agg #[.int .i64 (hiW (n1)), .int .u64 (loW (n1))] := hp 2 (by simp); have hv5 : vals 5 = .agg #[.int .i64 (hiW (n2)), .int .u64 (loW (n2))] := hp 5 (by simp); (first | (go_simp; rfl) | go_simp)
    · exact (wadd_any _ _ _ _ _ (ok2 _) (ok2 _)).mono fun e w3 ⟨he, hb⟩ => ⟨_, he, H, Grow.of_below hg.ag hb, sum_W _ _⟩
  (try simp only [Act.put, List.setIfInBounds_toArray, List.set_cons_zero, List.set_cons_succ])
  refine ls_ev (by rfl) (by rfl) (by rfl) (fun H w2 hg hp => ?_) ?_
  · refine gives_call (f := 13) ?_; apply Exists.intro; refine ⟨?_, ?_⟩
    · have hv6 : vals 6 = .agg #[.int .i64 (hiW (n1 + n2)), .int .u64 (loW (n1 + n2))] := hp 6 (by simp); (first | (go_simp; rfl) | go_simp)
    · exact (wint_no _ _ _ (ok2 _) (by rw [V_two G1.out G2.out]; exact HY.out)).mono fun e w3 ⟨he, hb⟩ => ⟨_, he, H, Grow.of_below hg.ag hb, rfl⟩
  (try simp only [Act.put, List.setIfInBounds_toArray, List.set_cons_zero, List.set_cons_succ])
  refine lsq (by rfl) (by rfl) ?_; apply Exists.intro; refine ⟨fun H w2 hg hp => ?_, ?_⟩
  · have hv7 : vals 7 = .tuple #[.int .i64 0, .bool false] := hp 7 (by simp); (first | (go_simp; rfl) | go_simp)
  (try simp only [Act.put, List.setIfInBounds_toArray, List.set_cons_zero, List.set_cons_succ])
  refine lsq (by rfl) (by rfl) ?_; apply Exists.intro; refine ⟨fun H w2 hg hp => ?_, ?_⟩
  · (first | (go_simp; rfl) | go_simp)
  (try simp only [Act.put, List.setIfInBounds_toArray, List.set_cons_zero, List.set_cons_succ])
  refine lsq (by rfl) (by rfl) ?_; apply Exists.intro; refine ⟨fun H w2 hg hp => ?_, ?_⟩
  · (first | (go_simp; rfl) | go_simp)
  (try simp only [Act.put, List.setIfInBounds_toArray, List.set_cons_zero, List.set_cons_succ])
  refine lsq (by rfl) (by rfl) ?_; apply Exists.intro; refine ⟨fun H w2 hg hp => ?_, ?_⟩
  · (first | (go_simp; rfl) | go_simp)
  (try simp only [Act.put, List.setIfInBounds_toArray, List.set_cons_zero, List.set_cons_succ])
  refine lsq (by rfl) (by rfl) ?_; apply Exists.intro; refine ⟨fun H w2 hg hp => ?_, ?_⟩
  · (first | (go_simp; rfl) | go_simp)
  refine ls_nil (fun H w2 hg hr hd => ?_)
  have e2 : vals 2 = .agg #[.int .i64 (hiW (n1)), .int .u64 (loW (n1))] := hr 2 (by simp)
  have e5 : vals 5 = .agg #[.int .i64 (hiW (n2)), .int .u64 (loW (n2))] := hr 5 (by simp)
  have e6 : vals 6 = .agg #[.int .i64 (hiW (n1 + n2)), .int .u64 (loW (n1 + n2))] := hr 6 (by simp)
  have e7 : vals 7 = .tuple #[.int .i64 0, .bool false] := hr 7 (by simp)
  simp only [e2, e5, e6, e7, Act.put, List.setIfInBounds_toArray, List.set_cons_zero, List.set_cons_succ, List.drop_succ_cons, List.drop_zero]
  refine wpList_nil ?_
  have d2 := below_then d1 hg.below
  have d5 := d4.below hg.below
  clear hr hd hg d1 d4 e2 e5 e6 e7
  obtain ⟨w6, rfl⟩ : ∃ x : World, x = w2 := ⟨_, rfl⟩
  go_wp2_with fail
  refine ls_take (H0 := E) 19 (fun e => match e with  | _ => .tt) [[],[],[],[],[],[],[],[],[],[],[],[],[],[],[],[],[10,15],[5,16],[]] [5,10,15,16] [] [[],[0],[0,1],[0,1,2],[0,1],[0,1,2,3,4],[0,1],[0,1,6],[0,1],[0,1,8],[0,1,2,3,4,5,6,7,8,9],[0,1],[0,1,11],[0,1],[0,1,13],[0,1,2,3,4,5,6,7,8,9,10,11,12,13,14],[0,1,2,3,4,5,6,7,8,9,10,11,12,13,14,15],[0,1,2,3,4,5,6,7,8,9,10,11,12,13,14,15,16],[0,1,2,3,4,5,6,7,8,9,10,11,12,13,14,15,16,17]] (agE _) (by kernel_rfl) (by kernel_rfl) (by kernel_rfl) (by rfl) (by rfl) (by kernel_rfl) ?_
  intro vals
  refine lsq (by rfl) (by rfl) ?_; apply Exists.intro; refine ⟨fun H w2 hg hp => ?_, ?_⟩
  · (first | (go_simp; rfl) | go_simp)
  (try simp only [Act.put, List.setIfInBounds_toArray, List.set_cons_zero, List.set_cons_succ])
  refine lsq (by rfl) (by rfl) ?_; apply Exists.intro; refine ⟨fun H w2 hg hp => ?_, ?_⟩
  · (first | (go_simp; rfl) | go_simp)
  (try simp only [Act.put, List.setIfInBounds_toArray, List.set_cons_zero, List.set_cons_succ])
  refine ls_skip (by rfl) (by rfl) ?_
  (try simp only [Act.put, List.setIfInBounds_toArray, List.set_cons_zero, List.set_cons_succ])
  refine ls_skip (by rfl) (by rfl) ?_
  (try simp only [Act.put, List.setIfInBounds_toArray, List.set_cons_zero, List.set_cons_succ])
  refine ls_skip (by rfl) (by rfl) ?_
  (try simp only [Act.put, List.setIfInBounds_toArray, List.set_cons_zero, List.set_cons_succ])
  refine ls_evskip (by rfl) (fun _ _ => trivial) (by rfl) ?_
  (try simp only [Act.put, List.setIfInBounds_toArray, List.set_cons_zero, List.set_cons_succ])
  refine ls_skip (by rfl) (by rfl) ?_
  (try simp only [Act.put, List.setIfInBounds_toArray, List.set_cons_zero, List.set_cons_succ])
  refine ls_skip (by rfl) (by rfl) ?_
  (try simp only [Act.put, List.setIfInBounds_toArray, List.set_cons_zero, List.set_cons_succ])
  refine ls_skip (by rfl) (by rfl) ?_
  (try simp only [Act.put, List.setIfInBounds_toArray, List.set_cons_zero, List.set_cons_succ])
  refine ls_skip (by rfl) (by rfl) ?_
  (try simp only [Act.put, List.setIfInBounds_toArray, List.set_cons_zero, List.set_cons_succ])
  refine ls_evskip (by rfl) (fun _ _ => trivial) (by rfl) ?_
  (try simp only [Act.put, List.setIfInBounds_toArray, List.set_cons_zero, List.set_cons_succ])
  refine ls_skip (by rfl) (by rfl) ?_
  (try simp only [Act.put, List.setIfInBounds_toArray, List.set_cons_zero, List.set_cons_succ])
  refine ls_skip (by rfl) (by rfl) ?_
  (try simp only [Act.put, List.setIfInBounds_toArray, List.set_cons_zero, List.set_cons_succ])
  refine ls_skip (by rfl) (by rfl) ?_
  (try simp only [Act.put, List.setIfInBounds_toArray, List.set_cons_zero, List.set_cons_succ])
  refine ls_skip (by rfl) (by rfl) ?_
  (try simp only [Act.put, List.setIfInBounds_toArray, List.set_cons_zero, List.set_cons_succ])
  refine ls_evskip (by rfl) (fun _ _ => trivial) (by rfl) ?_
  (try simp only [Act.put, List.setIfInBounds_toArray, List.set_cons_zero, List.set_cons_succ])
  refine ls_evskip (by rfl) (fun _ _ => trivial) (by rfl) ?_
  (try simp only [Act.put, List.setIfInBounds_toArray, List.set_cons_zero, List.set_cons_succ])
  refine ls_skip (by rfl) (by rfl) ?_
  (try simp only [Act.put, List.setIfInBounds_toArray, List.set_cons_zero, List.set_cons_succ])
  refine lsq (by rfl) (by rfl) ?_; apply Exists.intro; refine ⟨fun H w2 hg hp => ?_, ?_⟩
  · (first | (go_simp; rfl) | go_simp)
  refine ls_nil (fun H w2 hg hr hd => ?_)
  simp only [Act.put, List.setIfInBounds_toArray, List.set_cons_zero, List.set_cons_succ, List.drop_succ_cons, List.drop_zero]
  refine wpList_nil ?_
  have d3 := below_then d2 hg.below
  have d6 := d5.below hg.below
  clear hr hd hg d2 d5
  obtain ⟨w7, rfl⟩ : ∃ x : World, x = w2 := ⟨_, rfl⟩
  go_wp2_with fail
  refine ls_take (H0 := E) 12 (fun e => match e with | 2 => .is (· = .agg #[.int .i64 (hiW (n0)), .int .u64 (loW (n0))]) | 5 => .is (· = .agg #[.int .i64 (hiW (n1)), .int .u64 (loW (n1))]) | 8 => .is (· = .agg #[.int .i64 (hiW (n2)), .int .u64 (loW (n2))]) | 9 => .var w7.heap.size #[.int .i64 0, .int .u64 0] 24 | 10 => .var w7.heap.size #[.int .i64 0, .int .u64 0] 24 | 11 => .var w7.heap.size #[.int .i64 0, .int .u64 0] 24 | _ => .tt) [[],[],[],[],[],[],[],[],[],[],[],[]] [2,5,8,9,10,11] [9,10,11] [[],[0],[0,1],[],[3],[0,1,2,3,4],[],[6],[0,1,2,3,4,5,6,7],[],[],[],[0,1,2,3,4,5,6,7,8,9,10,11],[0,1,2,3,4,5,6,7,8,9,10,11,12],[0,1,2,3,4,5,6,7,8,9,10,11,12,13]] (agE _) (by kernel_rfl) (by kernel_rfl) (by kernel_rfl) (by rfl) (by rfl) (by kernel_rfl) ?_
  intro vals
  refine lsq (by rfl) (by rfl) ?_; apply Exists.intro; refine ⟨fun H w2 hg hp => ?_, ?_⟩
  · (first | (go_simp; rfl) | go_simp)
  (try simp only [Act.put, List.setIfInBounds_toArray, List.set_cons_zero, List.set_cons_succ])
  refine lsq (by rfl) (by rfl) ?_; apply Exists.intro; refine ⟨fun H w2 hg hp => ?_, ?_⟩
  · have g0 := (d6.below hg.below).cell; (first | (go_simp; rfl) | go_simp)
  (try simp only [Act.put, List.setIfInBounds_toArray, List.set_cons_zero, List.set_cons_succ])
  refine ls_ev (by rfl) (by rfl) (by rfl) (fun H w2 hg hp => ?_) ?_
  · refine gives_call (f := 10) ?_; apply Exists.intro; refine ⟨?_, ?_⟩
    · (first | (go_simp; rfl) | go_simp)
    · exact (wof_any _ _ G0.out).mono fun e w3 ⟨he, hb⟩ => ⟨_, he, H, Grow.of_below hg.ag hb, rfl⟩
  (try simp only [Act.put, List.setIfInBounds_toArray, List.set_cons_zero, List.set_cons_succ])
  refine lsq (by rfl) (by rfl) ?_; apply Exists.intro; refine ⟨fun H w2 hg hp => ?_, ?_⟩
  · (first | (go_simp; rfl) | go_simp)
  (try simp only [Act.put, List.setIfInBounds_toArray, List.set_cons_zero, List.set_cons_succ])
  refine lsq (by rfl) (by rfl) ?_; apply Exists.intro; refine ⟨fun H w2 hg hp => ?_, ?_⟩
  · have g0 := (d6.below hg.below).cell; (first | (go_simp; rfl) | go_simp)
  (try simp only [Act.put, List.setIfInBounds_toArray, List.set_cons_zero, List.set_cons_succ])
  refine ls_ev (by rfl) (by rfl) (by rfl) (fun H w2 hg hp => ?_) ?_
  · refine gives_call (f := 10) ?_; apply Exists.intro; refine ⟨?_, ?_⟩
    · (first | (go_simp; rfl) | go_simp)
    · exact (wof_any _ _ G1.out).mono fun e w3 ⟨he, hb⟩ => ⟨_, he, H, Grow.of_below hg.ag hb, rfl⟩
  (try simp only [Act.put, List.setIfInBounds_toArray, List.set_cons_zero, List.set_cons_succ])
  refine lsq (by rfl) (by rfl) ?_; apply Exists.intro; refine ⟨fun H w2 hg hp => ?_, ?_⟩
  · (first | (go_simp; rfl) | go_simp)
  (try simp only [Act.put, List.setIfInBounds_toArray, List.set_cons_zero, List.set_cons_succ])
  refine lsq (by rfl) (by rfl) ?_; apply Exists.intro; refine ⟨fun H w2 hg hp => ?_, ?_⟩
  · have g0 := (d6.below hg.below).cell; (first | (go_simp; rfl) | go_simp)
  (try simp only [Act.put, List.setIfInBounds_toArray, List.set_cons_zero, List.set_cons_succ])
  refine ls_ev (by rfl) (by rfl) (by rfl) (fun H w2 hg hp => ?_) ?_
  · refine gives_call (f := 10) ?_; apply Exists.intro; refine ⟨?_, ?_⟩
    · (first | (go_simp; rfl) | go_simp)
    · exact (wof_any _ _ G2.out).mono fun e w3 ⟨he, hb⟩ => ⟨_, he, H, Grow.of_below hg.ag hb, rfl⟩
  (try simp only [Act.put, List.setIfInBounds_toArray, List.set_cons_zero, List.set_cons_succ])
  refine ls_alloc (by rfl) (by rfl) (fun w => ?_) (fun H w b hb => ⟨b, rfl, hb⟩) ?_
  · go_simp
  (try simp only [Act.put, List.setIfInBounds_toArray, List.set_cons_zero, List.set_cons_succ])
  refine ls_alloc (by rfl) (by rfl) (fun w => ?_) (fun H w b hb => ⟨b, rfl, hb⟩) ?_
  · go_simp
  (try simp only [Act.put, List.setIfInBounds_toArray, List.set_cons_zero, List.set_cons_succ])
  refine ls_alloc (by rfl) (by rfl) (fun w => ?_) (fun H w b hb => ⟨b, rfl, hb⟩) ?_
  · go_simp
  refine ls_nil (fun H w2 hg hr hd => ?_)
  have e2 : vals 2 = .agg #[.int .i64 (hiW (n0)), .int .u64 (loW (n0))] := hr 2 (by simp)
  have e5 : vals 5 = .agg #[.int .i64 (hiW (n1)), .int .u64 (loW (n1))] := hr 5 (by simp)
  have e8 : vals 8 = .agg #[.int .i64 (hiW (n2)), .int .u64 (loW (n2))] := hr 8 (by simp)
  obtain ⟨b9, e9, k9⟩ := hr 9 (by simp)
  have k9 := k9.toE
  have l9 := k9.ge
  obtain ⟨b10, e10, k10⟩ := hr 10 (by simp)
  have k10 := k10.toE
  have l10 := k10.ge
  obtain ⟨b11, e11, k11⟩ := hr 11 (by simp)
  have k11 := k11.toE
  have l11 := k11.ge
  have n9_10 : b9 ≠ b10 := fun h => hd 9 (by simp) 10 (by simp) (by simp) (by simp) (by simp) b9 e9 (by rw [h]; exact e10)
  have n9_11 : b9 ≠ b11 := fun h => hd 9 (by simp) 11 (by simp) (by simp) (by simp) (by simp) b9 e9 (by rw [h]; exact e11)
  have n10_11 : b10 ≠ b11 := fun h => hd 10 (by simp) 11 (by simp) (by simp) (by simp) (by simp) b10 e10 (by rw [h]; exact e11)
  simp only [e2, e5, e8, e9, e10, e11, Act.put, List.setIfInBounds_toArray, List.set_cons_zero, List.set_cons_succ, List.drop_succ_cons, List.drop_zero]
  have d8 := below_then d3 hg.below
  have d7 := d6.below hg.below
  have s8 := d3.size
  have q7 := d6.lt
  have z9 := k9.frozen; have z10 := k10.frozen; have z11 := k11.frozen
  have c9 := k9.cell; have c10 := k10.cell; have c11 := k11.cell
  have HK9 := Lib.hid k9; have HK10 := Lib.hid k10; have HK11 := Lib.hid k11; have HD7 := Lib.hid d7; have HD8 := Lib.hid d8
  clear hr hd hg d3 d6 e2 e5 e8 e9 e10 e11 k9 k10 k11 d7 d8
  obtain ⟨w8, rfl⟩ : ∃ x : World, x = w2 := ⟨_, rfl⟩
  go_wp2_with fail
  refine abs_world (F := fun w3 => Below w.heap.size w w3 ∧ Blk E w3 w.heap.size (w.heap.size + 1 + 1) #[.int .i64 n0, .int .i64 n1, .int .i64 n2] 39 ∧ Blk E w3 w7.heap.size b9 #[.int .i64 (hiW n0), .int .u64 (loW n0)] 24 ∧ Blk E w3 w7.heap.size b10 #[.int .i64 (hiW n1), .int .u64 (loW n1)] 24 ∧ Blk E w3 w7.heap.size b11 #[.int .i64 (hiW n2), .int .u64 (loW n2)] 24) ?_ ?_
  · have k9 := HK9.out; have k10 := HK10.out; have k11 := HK11.out; have d7 := HD7.out; have d8 := HD8.out
    exact ⟨by (repeat (first | with_reducible exact Below.refl _ _ | with_reducible assumption | (with_reducible refine below_set ?_ ?_; focus ((try dsimp only); first | with_reducible assumption | omega)) | (with_reducible refine below_alloc ?_ ?_; focus (first | omega | (simp; done) | (simp; omega))) | with_reducible refine below_drewN ?_ _ | with_reducible refine Below.drew ?_)), by (apply Blk.cast; (repeat (first | with_reducible assumption | (with_reducible apply Blk.mk_new; (focus (first | exact agE _ | assumption)); (focus (first | rfl | (simp; done))); (focus omega)) | with_reducible apply Blk.alloc | with_reducible apply Blk.drewN | with_reducible apply Blk.drew | with_reducible apply Blk.set | (with_reducible apply Blk.far'; focus (first | with_reducible assumption | (apply Ne.symm; with_reducible assumption) | omega)))); (try (first | (simp; done) | rfl))), by (apply Blk.cast; (repeat (first | with_reducible assumption | (with_reducible apply Blk.mk_new; (focus (first | exact agE _ | assumption)); (focus (first | rfl | (simp; done))); (focus omega)) | with_reducible apply Blk.alloc | with_reducible apply Blk.drewN | with_reducible apply Blk.drew | with_reducible apply Blk.set | (with_reducible apply Blk.far'; focus (first | with_reducible assumption | (apply Ne.symm; with_reducible assumption) | omega)))); (try (first | (simp; done) | rfl))), by (apply Blk.cast; (repeat (first | with_reducible assumption | (with_reducible apply Blk.mk_new; (focus (first | exact agE _ | assumption)); (focus (first | rfl | (simp; done))); (focus omega)) | with_reducible apply Blk.alloc | with_reducible apply Blk.drewN | with_reducible apply Blk.drew | with_reducible apply Blk.set | (with_reducible apply Blk.far'; focus (first | with_reducible assumption | (apply Ne.symm; with_reducible assumption) | omega)))); (try (first | (simp; done) | rfl))), by (apply Blk.cast; (repeat (first | with_reducible assumption | (with_reducible apply Blk.mk_new; (focus (first | exact agE _ | assumption)); (focus (first | rfl | (simp; done))); (focus omega)) | with_reducible apply Blk.alloc | with_reducible apply Blk.drewN | with_reducible apply Blk.drew | with_reducible apply Blk.set | (with_reducible apply Blk.far'; focus (first | with_reducible assumption | (apply Ne.symm; with_reducible assumption) | omega)))); (try (first | (simp; done) | rfl)))⟩
  clear c9 c10 c11 z9 z10 z11 HK9 HK10 HK11 HD7 HD8
  rintro w9 ⟨t1, t2, t3, t4, t5⟩
  refine ls_take (H0 := E) 28 (fun e => match e with | 2 => .is (· = .int .i64 (cmpI n0 n1)) | 5 => .is (· = .agg #[.int .i64 (hiW (n0 + n2)), .int .u64 (loW (n0 + n2))]) | 8 => .is (· = .agg #[.int .i64 (hiW (n1 + n2)), .int .u64 (loW (n1 + n2))]) | 9 => .is (· = .int .i64 (cmpI n0 n1)) | 16 => .is (· = .agg #[.int .i64 (hiW (n0 * n1)), .int .u64 (loW (n0 * n1))]) | 21 => .is (· = .agg #[.int .i64 (hiW (n0 * n1)), .int .u64 (loW (n0 * n1))]) | 25 => .is (· = .bool true) | _ => .tt) [[],[],[],[],[],[],[],[],[],[5,8],[2,9],[],[],[],[],[],[],[],[],[],[],[],[16,21],[],[],[],[25],[]] [2,5,8,9,16,21,25] [] [[],[],[0,1],[],[],[0,1,2,3,4],[],[],[0,1,2,3,4,5,6,7],[0,1,2,3,4,5,6,7,8],[0,1,2,3,4,5,6,7,8,9],[0,1,2,3,4,5,6,7,8,9,10],[0,1,2,3,4,5,6,7,8,9,10,11],[0,1,2,3,4,5,6,7,8,9,10,11,12],[0,1,2,3,4,5,6,7,8,9,10,11],[0,1,2,3,4,5,6,7,8,9,10,11,14],[0,1,2,3,4,5,6,7,8,9,10,11,12,13,14,15],[0,1,2,3,4,5,6,7,8,9,10,11],[0,1,2,3,4,5,6,7,8,9,10,11,17],[0,1,2,3,4,5,6,7,8,9,10,11],[0,1,2,3,4,5,6,7,8,9,10,11,19],[0,1,2,3,4,5,6,7,8,9,10,11,12,13,14,15,16,17,18,19,20],[0,1,2,3,4,5,6,7,8,9,10,11,12,13,14,15,16,17,18,19,20,21],[0,1,2,3,4,5,6,7,8,9,10,11,12,13,14,15,16,17,18,19,20,21,22],[0,1,2,3,4,5,6,7,8,9,10,11,12,13,14,15,16,17,18,19,20,21,22,23],[0,1,2,3,4,5,6,7,8,9,10,11,12,13,14,15,16,17,18,19,20,21,22,23,24],[0,1,2,3,4,5,6,7,8,9,10,11,12,13,14,15,16,17,18,19,20,21,22,23,24,25],[0,1,2,3,4,5,6,7,8,9,10,11,12,13,14,15,16,17,18,19,20,21,22,23,24,25,26]] (agE _) (by kernel_rfl) (by kernel_rfl) (by kernel_rfl) (by rfl) (by rfl) (by kernel_rfl) ?_
  intro vals
  refine lsq (by rfl) (by rfl) ?_; apply Exists.intro; refine ⟨fun H w2 hg hp => ?_, ?_⟩
  · have g0 := (t2.below hg.below).cell; have g1 := (t3.below hg.below).cell; have g2 := (t4.below hg.below).cell; have g3 := (t5.below hg.below).cell; (first | (go_simp; rfl) | go_simp)
  (try simp only [Act.put, List.setIfInBounds_toArray, List.set_cons_zero, List.set_cons_succ])
  refine lsq (by rfl) (by rfl) ?_; apply Exists.intro; refine ⟨fun H w2 hg hp => ?_, ?_⟩
  · have g0 := (t2.below hg.below).cell; have g1 := (t3.below hg.below).cell; have g2 := (t4.below hg.below).cell; have g3 := (t5.below hg.below).cell; (first | (go_simp; rfl) | go_simp)
  (try simp only [Act.put, List.setIfInBounds_toArray, List.set_cons_zero, List.set_cons_succ])
  refine ls_ev (by rfl) (by rfl) (by rfl) (fun H w2 hg hp => ?_) ?_
  · refine gives_call (f := 15) ?_; apply Exists.intro; refine ⟨?_, ?_⟩
    · (first | (go_simp; rfl) | go_simp)
    · exact (wcmp_any _ _ _ _ _ (ok2 _) (ok2 _)).mono fun e w3 ⟨he, hb⟩ => ⟨_, he, H, Grow.of_below hg.ag hb, by rw [V_int G0.out, V_int G1.out]; rfl⟩
  (try simp only [Act.put, List.setIfInBounds_toArray, List.set_cons_zero, List.set_cons_succ])
  refine lsq (by rfl) (by rfl) ?_; apply Exists.intro; refine ⟨fun H w2 hg hp => ?_, ?_⟩
  · have g0 := (t2.below hg.below).cell; have g1 := (t3.below hg.below).cell; have g2 := (t4.below hg.below).cell; have g3 := (t5.below hg.below).cell; (first | (go_simp; rfl) | go_simp)
  (try simp only [Act.put, List.setIfInBounds_toArray, List.set_cons_zero, List.set_cons_succ])
  refine lsq (by rfl) (by rfl) ?_; apply Exists.intro; refine ⟨fun H w2 hg hp => ?_, ?_⟩
  · have g0 := (t2.below hg.below).cell; have g1 := (t3.below hg.below).cell; have g2 := (t4.below hg.below).cell; have g3 := (t5.below hg.below).cell; (first | (go_simp; rfl) | go_simp)
  (try simp only [Act.put, List.setIfInBounds_toArray, List.set_cons_zero, List.set_cons_succ])
  refine ls_ev (by rfl) (by rfl) (by rfl) (fun H w2 hg hp => ?_) ?_
  · refine gives_call (f := 21) ?_; apply Exists.intro; refine ⟨?_, ?_⟩
    · (first | (go_simp; rfl) | go_simp)
    · exact (wadd_any _ _ _ _ _ (ok2 _) (ok2 _)).mono fun e w3 ⟨he, hb⟩ => ⟨_, he, H, Grow.of_below hg.ag hb, sum_W _ _⟩
  (try simp only [Act.put, List.setIfInBounds_toArray, List.set_cons_zero, List.set_cons_succ])
  refine lsq (by rfl) (by rfl) ?_; apply Exists.intro; refine ⟨fun H w2 hg hp => ?_, ?_⟩
  · have g0 := (t2.below hg.below).cell; have g1 := (t3.below hg.below).cell; have g2 := (t4.below hg.below).cell; have g3 := (t5.below hg.below).cell; (first | (go_simp; rfl) | go_simp)
  (try simp only [Act.put, List.setIfInBounds_toArray, List.set_cons_zero, List.set_cons_succ])
  refine lsq (by rfl) (by rfl) ?_; apply Exists.intro; refine ⟨fun H w2 hg hp => ?_, ?_⟩
  · have g0 := (t2.below hg.below).cell; have g1 := (t3.below hg.below).cell; have g2 := (t4.below hg.below).cell; have g3 := (t5.below hg.below).cell; (first | (go_simp; rfl) | go_simp)
  (try simp only [Act.put, List.setIfInBounds_toArray, List.set_cons_zero, List.set_cons_succ])
  refine ls_ev (by rfl) (by rfl) (by rfl) (fun H w2 hg hp => ?_) ?_
  · refine gives_call (f := 21) ?_; apply Exists.intro; refine ⟨?_, ?_⟩
    · (first | (go_simp; rfl) | go_simp)
    · exact (wadd_any _ _ _ _ _ (ok2 _) (ok2 _)).mono fun e w3 ⟨he, hb⟩ => ⟨_, he, H, Grow.of_below hg.ag hb, sum_W _ _⟩
  (try simp only [Act.put, List.setIfInBounds_toArray, List.set_cons_zero, List.set_cons_succ])
  refine ls_ev (by rfl) (by rfl) (by rfl) (fun H w2 hg hp => ?_) ?_
  · refine gives_call (f := 15) ?_; apply Exists.intro; refine ⟨?_, ?_⟩
    · have hv5 : vals 5 = .agg #[.int .i64 (hiW (n0 + n2)), .int .u64 (loW (n0 + n2))] := hp 5 (by simp); have hv8 : vals 8 = .agg #[.int .i64 (hiW (n1 + n2)), .int .u64 (loW (n1 + n2))] := hp 8 (by simp); (first | (go_simp; rfl) | go_simp)
    · exact (wcmp_any _ _ _ _ _ (ok2 _) (ok2 _)).mono fun e w3 ⟨he, hb⟩ => ⟨_, he, H, Grow.of_below hg.ag hb, by rw [V_two G0.out G2.out, V_two G1.out G2.out, cmpI_add]; rfl⟩
  (try simp only [Act.put, List.setIfInBounds_toArray, List.set_cons_zero, List.set_cons_succ])
  refine lsq (by rfl) (by rfl) ?_; apply Exists.intro; refine ⟨fun H w2 hg hp => ?_, ?_⟩
  · have hv2 : vals 2 = .int .i64 (cmpI n0 n1) := hp 2 (by simp); have hv9 : vals 9 = .int .i64 (cmpI n0 n1) := hp 9 (by simp); (first | (go_simp; rfl) | go_simp)
  (try simp only [Act.put, List.setIfInBounds_toArray, List.set_cons_zero, List.set_cons_succ])
  refine lsq (by rfl) (by rfl) ?_; apply Exists.intro; refine ⟨fun H w2 hg hp => ?_, ?_⟩
  · (first | (go_simp; rfl) | go_simp)
  (try simp only [Act.put, List.setIfInBounds_toArray, List.set_cons_zero, List.set_cons_succ])
  first | refine ls_skip (by rfl) (by rfl) ?_ | (refine lsq (by rfl) (by rfl) ?_; apply Exists.intro; refine ⟨fun H w2 hg hp => ?_, ?_⟩; focus ((first | (go_simp; rfl) | go_simp)))
  (try simp only [Act.put, List.setIfInBounds_toArray, List.set_cons_zero, List.set_cons_succ])
  first | refine ls_skip (by rfl) (by rfl) ?_ | (refine lsq (by rfl) (by rfl) ?_; apply Exists.intro; refine ⟨fun H w2 hg hp => ?_, ?_⟩; focus (have g0 := (t2.below hg.below).cell; have g1 := (t3.below hg.below).cell; have g2 := (t4.below hg.below).cell; have g3 := (t5.below hg.below).cell; (first | (go_simp; rfl) | go_simp)))
  (try simp only [Act.put, List.setIfInBounds_toArray, List.set_cons_zero, List.set_cons_succ])
  first | refine ls_skip (by rfl) (by rfl) ?_ | (refine lsq (by rfl) (by rfl) ?_; apply Exists.intro; refine ⟨fun H w2 hg hp => ?_, ?_⟩; focus ((first | (go_simp; rfl) | go_simp)))
  (try simp only [Act.put, List.setIfInBounds_toArray, List.set_cons_zero, List.set_cons_succ])
  first | refine ls_skip (by rfl) (by rfl) ?_ | (refine lsq (by rfl) (by rfl) ?_; apply Exists.intro; refine ⟨fun H w2 hg hp => ?_, ?_⟩; focus (have g0 := (t2.below hg.below).cell; have g1 := (t3.below hg.below).cell; have g2 := (t4.below hg.below).cell; have g3 := (t5.below hg.below).cell; (first | (go_simp; rfl) | go_simp)))
  (try simp only [Act.put, List.setIfInBounds_toArray, List.set_cons_zero, List.set_cons_succ])
  refine ls_ev (by rfl) (by rfl) (by rfl) (fun H w2 hg hp => ?_) ?_
  · refine gives_call (f := 8) ?_; apply Exists.intro; refine ⟨?_, ?_⟩
    · (first | (go_simp; rfl) | go_simp)
    · exact (wmul_any _ _ _ G0.out G1.out).mono fun e w3 ⟨he, hb⟩ => ⟨_, he, H, Grow.of_below hg.ag hb, rfl⟩
  (try simp only [Act.put, List.setIfInBounds_toArray, List.set_cons_zero, List.set_cons_succ])
  first | refine ls_skip (by rfl) (by rfl) ?_ | (refine lsq (by rfl) (by rfl) ?_; apply Exists.intro; refine ⟨fun H w2 hg hp => ?_, ?_⟩; focus ((first | (go_simp; rfl) | go_simp)))
  (try simp only [Act.put, List.setIfInBounds_toArray, List.set_cons_zero, List.set_cons_succ])
  first | refine ls_skip (by rfl) (by rfl) ?_ | (refine lsq (by rfl) (by rfl) ?_; apply Exists.intro; refine ⟨fun H w2 hg hp => ?_, ?_⟩; focus (have g0 := (t2.below hg.below).cell; have g1 := (t3.below hg.below).cell; have g2 := (t4.below hg.below).cell; have g3 := (t5.below hg.below).cell; (first | (go_simp; rfl) | go_simp)))
  (try simp only [Act.put, List.setIfInBounds_toArray, List.set_cons_zero, List.set_cons_succ])
  first | refine ls_skip (by rfl) (by rfl) ?_ | (refine lsq (by rfl) (by rfl) ?_; apply Exists.intro; refine ⟨fun H w2 hg hp => ?_, ?_⟩; focus ((first | (go_simp; rfl) | go_simp)))
  (try simp only [Act.put, List.setIfInBounds_toArray, List.set_cons_zero, List.set_cons_succ])
  first | refine ls_skip (by rfl) (by rfl) ?_ | (refine lsq (by rfl) (by rfl) ?_; apply Exists.intro; refine ⟨fun H w2 hg hp => ?_, ?_⟩; focus (have g0 := (t2.below hg.below).cell; have g1 := (t3.below hg.below).cell; have g2 := (t4.below hg.below).cell; have g3 := (t5.below hg.below).cell; (first | (go_simp; rfl) | go_simp)))
  (try simp only [Act.put, List.setIfInBounds_toArray, List.set_cons_zero, List.set_cons_succ])
  refine ls_ev (by rfl) (by rfl) (by rfl) (fun H w2 hg hp => ?_) ?_
  · refine gives_call (f := 8) ?_; apply Exists.intro; refine ⟨?_, ?_⟩
    · (first | (go_simp; rfl) | go_simp)
    · exact (wmul_any _ _ _ G1.out G0.out).mono fun e w3 ⟨he, hb⟩ => ⟨_, he, H, Grow.of_below hg.ag hb, by rw [Int.mul_comm n1 n0]; rfl⟩
  (try simp only [Act.put, List.setIfInBounds_toArray, List.set_cons_zero, List.set_cons_succ])
  first | refine ls_skip (by rfl) (by rfl) ?_ | (refine lsq (by rfl) (by rfl) ?_; apply Exists.intro; refine ⟨fun H w2 hg hp => ?_, ?_⟩; focus (have hv16 : vals 16 = .agg #[.int .i64 (hiW (n0 * n1)), .int .u64 (loW (n0 * n1))] := hp 16 (by simp); have hv21 : vals 21 = .agg #[.int .i64 (hiW (n0 * n1)), .int .u64 (loW (n0 * n1))] := hp 21 (by simp); (first | (go_simp; rfl) | go_simp)))
  (try simp only [Act.put, List.setIfInBounds_toArray, List.set_cons_zero, List.set_cons_succ])
  refine lsq (by rfl) (by rfl) ?_; apply Exists.intro; refine ⟨fun H w2 hg hp => ?_, ?_⟩
  · (first | (go_simp; rfl) | go_simp)
  (try simp only [Act.put, List.setIfInBounds_toArray, List.set_cons_zero, List.set_cons_succ])
  refine lsq (by rfl) (by rfl) ?_; apply Exists.intro; refine ⟨fun H w2 hg hp => ?_, ?_⟩
  · (first | (go_simp; rfl) | go_simp)
  (try simp only [Act.put, List.setIfInBounds_toArray, List.set_cons_zero, List.set_cons_succ])
  refine ls_ev (by rfl) (by rfl) (by rfl) (fun H w2 hg hp => ?_) ?_
  · refine gives_call (f := 12) ?_; apply Exists.intro; refine ⟨?_, ?_⟩
    · (first | (go_simp; rfl) | go_simp)
    · exact (lives_any _).mono fun e w3 ⟨he, hb⟩ => ⟨_, he, H, Grow.of_below hg.ag hb, rfl⟩
  (try simp only [Act.put, List.setIfInBounds_toArray, List.set_cons_zero, List.set_cons_succ])
  refine lsq (by rfl) (by rfl) ?_; apply Exists.intro; refine ⟨fun H w2 hg hp => ?_, ?_⟩
  · have hv25 : vals 25 = .bool true := hp 25 (by simp); (first | (go_simp; rfl) | go_simp)
  (try simp only [Act.put, List.setIfInBounds_toArray, List.set_cons_zero, List.set_cons_succ])
  refine lsq (by rfl) (by rfl) ?_; apply Exists.intro; refine ⟨fun H w2 hg hp => ?_, ?_⟩
  · (first | (go_simp; rfl) | go_simp)
  refine ls_nil (fun H w2 hg hr hd => ?_)
  have e2 : vals 2 = .int .i64 (cmpI n0 n1) := hr 2 (by simp)
  have e5 : vals 5 = .agg #[.int .i64 (hiW (n0 + n2)), .int .u64 (loW (n0 + n2))] := hr 5 (by simp)
  have e8 : vals 8 = .agg #[.int .i64 (hiW (n1 + n2)), .int .u64 (loW (n1 + n2))] := hr 8 (by simp)
  have e9 : vals 9 = .int .i64 (cmpI n0 n1) := hr 9 (by simp)
  have e16 : vals 16 = .agg #[.int .i64 (hiW (n0 * n1)), .int .u64 (loW (n0 * n1))] := hr 16 (by simp)
  have e21 : vals 21 = .agg #[.int .i64 (hiW (n0 * n1)), .int .u64 (loW (n0 * n1))] := hr 21 (by simp)
  have e25 : vals 25 = .bool true := hr 25 (by simp)
  simp only [e2, e5, e8, e9, e16, e21, e25, Act.put, List.setIfInBounds_toArray, List.set_cons_zero, List.set_cons_succ, List.drop_succ_cons, List.drop_zero]
  refine wpList_nil ?_
  have u1 := below_then t1 hg.below
  clear hr hd hg t1 t2 t3 t4 t5 e2 e5 e8 e9 e16 e21 e25
  go_wp2
  go_ret
  exact ⟨rfl, u1⟩
theorem rules_any (h l h' l' n0 n1 n2 : Int) (w : World) (k : Ok2 h l) (k' : Ok2 h' l') (g0 : I64 n0) (g1 : I64 n1) (g2 : I64 n2) :
    Calls Try.prog 7 #[.agg #[.int .i64 h, .int .u64 l], .agg #[.int .i64 h', .int .u64 l'], .agg #[.int .i64 n0, .int .i64 n1, .int .i64 n2]] w fun e w' => e = .returned (.bool true) ∧ Below w.heap.size w w' := by
  by_cases hy : I64 (n1 + n2)
  · exact rules_yes h l h' l' n0 n1 n2 w k k' g0 g1 g2 hy
  · exact rules_no h l h' l' n0 n1 n2 w k k' g0 g1 g2 hy
end Go.Proofs.Ytbkohmpogdameaa
