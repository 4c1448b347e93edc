/- The texts that storeOfUptoCard_holds leans on, part 6. -/
import Derived.Test.YtipfljkjjddapaaGreatDoorVa5
set_option maxRecDepth 100000
set_option maxHeartbeats 80000000
namespace Go.Proofs.YtipfljkjjddapaaGreatDoor.Ab
open Go
set_option linter.all false
def KaB (a0 : List Kaw) : Option (List Kaw) := app 40 a0 []
theorem Kcw (a0 : List Kaw) (r : List Kaw) (h0 : KaB a0 = some r) : CallsD Tryz.prog 52 [.lst 4 (a0.map Ks) .no] [] [] (fun d h k => ∃ y0, d = .lst 4 (r.map Ks) (.cur y0) ∧ h = [] ∧ k = [(4, y0)]) := by
 obtain ⟨hr, hb⟩ := Kik h0
 simp only [List.append_nil] at hr
 subst hr
 have q : app 40 ([] : List Kaw) r = some r := app_of (by simp only [List.length_nil, Nat.zero_add]; simpa using hb)
 refine K0 htab Tryz.func52 rfl rfl rfl rfl rfl (fun C => ?_)
 refine Kg ?_
 refine Kx ?_
 refine KcM htab rfl rfl rfl rfl ?_
 refine Ky ?_
 refine Ka ?_
 refine Kg ?_
 refine Kg ?_
 refine Kx ?_
 refine KcM htab rfl rfl rfl rfl ?_
 refine p_isnil htab rfl rfl rfl rfl rfl rfl rfl (fun b hn => ?_)
 refine Ky ?_
 refine Ka ?_
 refine Kk rfl (fun hc => ?_) (fun hc => ?_)
 ·have hnil := hn hc
  simp only [List.map_eq_nil_iff] at hnil
  subst hnil
  refine Kg ?_
  refine Kx ?_
  refine KcM htab rfl rfl rfl rfl ?_
  refine Ky ?_
  refine Ka ?_
  refine Kr ?_
  refine Kt ?_
  refine retX.tokN (i := 2) 4 rfl (fun y => ?_)
  refine retX.of (s' := ⟨[(2, .lst 4 (([] : List Kaw).map Ks) (.cur y))], [], [(4, y)]⟩) (WkS.perm (WkS.cons rfl (Wk.refl _) (WkS.nil)) (List.Perm.refl _) (List.Perm.refl _)) (Kgc (hh := []) (.inl rfl) (KdU (KdY rfl) (Kgb)) (List.nil_sublist _) (List.Sublist.refl _) ?_)
  exact ⟨y, rfl, rfl, rfl⟩
 ·refine Kp ?_
  refine Ka ?_
  refine Kg ?_
  refine Kx ?_
  refine p_lit0 htab rfl rfl rfl rfl rfl rfl rfl rfl ?_
  refine KcM htab rfl rfl rfl rfl ?_
  refine p_appF htab rfl rfl rfl rfl rfl rfl rfl rfl rfl rfl rfl rfl rfl rfl rfl (by simpa using hb) (fun v => ?_)
  refine KcM htab rfl rfl rfl rfl ?_
  refine Ky ?_
  refine Ka ?_
  refine Kr ?_
  refine retX.of (s' := ⟨[(2, .lst 4 (r.map Ks) (.cur v))], [], [(4, v)]⟩) (WkS.perm (WkS.cons rfl (Wk.refl _) (WkS.nil)) (List.Perm.refl _) (List.Perm.refl _)) (Kgc (hh := []) (.inl rfl) (KdU (KdY rfl) (Kgb)) (List.nil_sublist _) (List.Sublist.refl _) ?_)
  exact ⟨v, rfl, rfl, rfl⟩
theorem Kem (a0 : List Kaw) (r : List Kaw) (h0 : KaB a0 = some r) : CallsD Tryz.prog 52 [.lst 4 (a0.map Ks) .no] [] [] (fun d h k => d = .lst 4 (r.map Ks) .no ∧ h = [] ∧ k = []) :=
 (Kcw a0 r h0).drop fun d h k ⟨y0, e, _, _⟩ => by subst e; exact Wk.no
def Ka4 (a0 : List K8) : Option (List K8) := app 24 a0 []
theorem Kdb (a0 : List K8) (r : List K8) (h0 : Ka4 a0 = some r) : CallsD Tryz.prog 63 [.lst 2 (a0.map Kj) .no] [] [] (fun d h k => ∃ y0, d = .lst 2 (r.map Kj) (.cur y0) ∧ h = [] ∧ k = [(2, y0)]) := by
 obtain ⟨hr, hb⟩ := Kik h0
 simp only [List.append_nil] at hr
 subst hr
 have q : app 24 ([] : List K8) r = some r := app_of (by simp only [List.length_nil, Nat.zero_add]; simpa using hb)
 refine K0 htab Tryz.func63 rfl rfl rfl rfl rfl (fun C => ?_)
 refine Kg ?_
 refine Kx ?_
 refine KcM htab rfl rfl rfl rfl ?_
 refine Ky ?_
 refine Ka ?_
 refine Kg ?_
 refine Kg ?_
 refine Kx ?_
 refine KcM htab rfl rfl rfl rfl ?_
 refine p_isnil htab rfl rfl rfl rfl rfl rfl rfl (fun b hn => ?_)
 refine Ky ?_
 refine Ka ?_
 refine Kk rfl (fun hc => ?_) (fun hc => ?_)
 ·have hnil := hn hc
  simp only [List.map_eq_nil_iff] at hnil
  subst hnil
  refine Kg ?_
  refine Kx ?_
  refine KcM htab rfl rfl rfl rfl ?_
  refine Ky ?_
  refine Ka ?_
  refine Kr ?_
  refine Kt ?_
  refine retX.tokN (i := 2) 2 rfl (fun y => ?_)
  refine retX.of (s' := ⟨[(2, .lst 2 (([] : List K8).map Kj) (.cur y))], [], [(2, y)]⟩) (WkS.perm (WkS.cons rfl (Wk.refl _) (WkS.nil)) (List.Perm.refl _) (List.Perm.refl _)) (Kgc (hh := []) (.inl rfl) (KdU (KdY rfl) (Kgb)) (List.nil_sublist _) (List.Sublist.refl _) ?_)
  exact ⟨y, rfl, rfl, rfl⟩
 ·refine Kp ?_
  refine Ka ?_
  refine Kg ?_
  refine Kx ?_
  refine p_lit0 htab rfl rfl rfl rfl rfl rfl rfl rfl ?_
  refine KcM htab rfl rfl rfl rfl ?_
  refine p_appF htab rfl rfl rfl rfl rfl rfl rfl rfl rfl rfl rfl rfl rfl rfl rfl (by simpa using hb) (fun v => ?_)
  refine KcM htab rfl rfl rfl rfl ?_
  refine Ky ?_
  refine Ka ?_
  refine Kr ?_
  refine retX.of (s' := ⟨[(2, .lst 2 (r.map Kj) (.cur v))], [], [(2, v)]⟩) (WkS.perm (WkS.cons rfl (Wk.refl _) (WkS.nil)) (List.Perm.refl _) (List.Perm.refl _)) (Kgc (hh := []) (.inl rfl) (KdU (KdY rfl) (Kgb)) (List.nil_sublist _) (List.Sublist.refl _) ?_)
  exact ⟨v, rfl, rfl, rfl⟩
noncomputable def KaA (g0 : (List Kh) → Option (List Kh)) (g1 : (Kh) → Option (Kh)) (a0 : List Kh) : Option (List Kh) :=
 ((need (mkOK 64 (a0.length : Int) (a0.length : Int))).bind fun x1 => ((need (decide (a0.length = (List.replicate (a0.length : Int).toNat (⟨(0 : Int), (0 : Int), ByteArray.empty, [], (0 : Int)⟩ : Kh)).length))).bind fun x2 => (Option.bind (α := List Kh) (loopM (fun (s29 : Int × List Kh) => (bif (decide (s29.1 < (a0.length : Int))) then ((idx s29.2 s29.1).bind fun x49 => ((g1 x49).bind fun x51 => ((idx s29.2 s29.1).bind fun x52 => some (.next ((IntKind.i64.wrap (s29.1 + (1 : Int))), (s29.2.set s29.1.toNat x51)))))) else some (.done s29.2))) ((0 : Int), a0)) fun y28 => some y28)))
theorem Khi (g0 : (List Kh) → Option (List Kh)) (g1 : (Kh) → Option (Kh)) (hg0 : ∀ (a0 : List Kh) (r : List Kh) (h0 : g0 a0 = some r), CallsD Tryz.prog 99 [.lst 5 (a0.map Kn) .no, .fn (.func 100) [] []] [] [] (fun d h k => ∃ y0, d = .lst 5 (r.map Kn) (.cur y0) ∧ h = [] ∧ k = [(5, y0)])) (hg1 : ∀ (a0 : Kh) (r : Kh) (h0 : g1 a0 = some r), CallsD Tryz.prog 100 [Kn a0] [] [] (fun d h k => d = Kn r ∧ h = [] ∧ k = [])) (a0 : List Kh) (r : List Kh) (h0 : KaA g0 g1 a0 = some r) : CallsD Tryz.prog 99 [.lst 5 (a0.map Kn) .no, .fn (.func 100) [] []] [] [] (fun d h k => ∃ y0, d = .lst 5 (r.map Kn) (.cur y0) ∧ h = [] ∧ k = [(5, y0)]) := by
 have hm := Kw h0
 unfold KaA at hm
 clear h0
 refine K0 htab Tryz.func99 rfl rfl rfl rfl rfl (fun C => ?_)
 refine Kd ?_
 refine pu ?_
 refine KK ?_
 refine pu ?_
 refine Kaa htab rfl rfl rfl rfl rfl rfl rfl (by first | exact KM | rfl) ?_
 obtain ⟨x1, q1, hm⟩ := Kc hm
 refine Kks (x0 := Kn (⟨(0 : Int), (0 : Int), ByteArray.empty, [], (0 : Int)⟩ : Kh)) htab rfl rfl rfl rfl rfl rfl rfl rfl rfl rfl rfl rfl rfl rfl rfl (KgU q1) (fun H => by rw [KD]; exact rz_agg (Kb6 rz_v rfl rfl (Kb6 rz_v rfl rfl (Kb6 rz_v rfl rfl (Kb6 rz_l rfl rfl (Kb6 rz_v rfl rfl rz_nil)))))) (List.map_replicate (f := Kn)).symm (fun v1 => ?_)
 refine pu ?_
 refine KK ?_
 refine pu ?_
 refine pu ?_
 obtain ⟨x2, q2, hm⟩ := Kc hm
 refine p_copyR 0 htab rfl rfl rfl rfl rfl rfl rfl rfl rfl rfl rfl (by simpa using of_decide_eq_true (KgU q2)) rfl ?_
 refine Kb ?_
 refine Kg ?_
 refine Kd ?_
 refine pu ?_
 refine p_lenR 0 htab rfl rfl rfl rfl rfl rfl rfl rfl (by first | exact KM | rfl) ?_
 refine pu ?_
 refine Kb ?_
 obtain ⟨y28, q28, ho28⟩ := Kc hm
 refine K5 (Y := Unit) (fun z28 => (⟨[(5, .v (SL v1))], [(0, Blk.row 5 (y28.map Kn) (SL v1))], []⟩ : S)) ?_ ?_
 ·clear hm; have hm := Kw q28
  refine KA ?_
  obtain ⟨u29, hl29, hq29⟩ := yes_m hm
  refine Kav (Y := Unit) hl29 (fun s29 z29 => (⟨[(1, .fn (.func 100) [] []), (5, .v (SL v1)), (14, .v (SL v1)), (15, .v (.int .i64 (a0.length : Int))), (16, .v (.int .i64 s29.1))], [(0, Blk.row 5 (s29.2.map Kn) (SL v1))], []⟩ : S)) ?_ ?_
  ·skip
   exact WkX.of () (WkS.perm (WkS.cons rfl (Wk.refl _) (WkS.cons rfl (Wk.refl _) (WkS.cons rfl (Wk.refl _) (WkS.cons rfl (Wk.refl _) (WkS.cons rfl (Wk.refl _) (WkS.nil)))))) Pf Pf)
  ·intro G29 s29 z29 hm
   refine Kd ?_
   refine pu ?_
   refine Kb ?_
   refine Kg ?_
   refine Kk rfl (fun hc48 => ?_) (fun hc48 => ?_)
   ·replace hm := yes_t hc48 hm
    refine Kp ?_
    refine Ka ?_
    refine Kg ?_
    refine KA ?_
    refine Kd ?_
    refine pu ?_
    obtain ⟨x49, q49, hm⟩ := Kc hm
    refine KgW 0 htab rfl rfl rfl rfl rfl rfl rfl rfl rfl rfl rfl (Kz q49) (KG q49) ?_
    refine p_loadR (d := .agg [.v (.int .i64 x49.gOp), .v (.int .i64 x49.gN), .v (.string x49.gName), .lst 5 (x49.gKids.map Kn) .no, .v (.int .i64 x49.gAt)]) (d0 := .agg [.v (.int .i64 x49.gOp), .v (.int .i64 x49.gN), .v (.string x49.gName), .lst 5 (x49.gKids.map Kn) .no, .v (.int .i64 x49.gAt)]) 0 htab rfl rfl rfl rfl rfl rfl rfl ((KG q49).trans (congrArg some (KD x49))) rfl (by simp [K4]) ?_
    refine Kar htab rfl rfl rfl rfl rfl rfl rfl (fun b50 => ?_)
    refine pu ?_
    refine pS1 (ds' := [.v (.int .i64 x49.gOp), .v (.int .i64 x49.gN), .v (.string x49.gName), .lst 5 (x49.gKids.map Kn) .no, .v (.int .i64 x49.gAt)]) ?_
    refine Kb ?_
    refine Kx ?_
    iterate 3 refine pu ?_
    refine Kai (d := .agg [.v (.int .i64 x49.gOp), .v (.int .i64 x49.gN), .v (.string x49.gName), .lst 5 (x49.gKids.map Kn) .no, .v (.int .i64 x49.gAt)]) 1 htab rfl rfl rfl rfl rfl rfl rfl rfl ?_
    obtain ⟨x51, q51, hm⟩ := Kc hm
    refine Kkr (hg1 x49 x51 q51) rfl rfl rfl rfl rfl rfl rfl (WkL.cons (Wk.trans (Wk.agg (WkR.refl _)) (Wk.of_eq (KD x49).symm)) Wl) ?_
    rintro _ rfl
    refine p_eq (i := 25) rfl (Wk.of_eq (KD x51)) ?_
    obtain ⟨x52, q52, hm⟩ := Kc hm
    refine KgW 0 htab rfl rfl rfl rfl rfl rfl rfl rfl rfl rfl rfl (Kz q52) (KG q52) ?_
    refine Kkt (d := .agg [.v (.int .i64 x51.gOp), .v (.int .i64 x51.gN), .v (.string x51.gName), .lst 5 (x51.gKids.map Kn) .no, .v (.int .i64 x51.gAt)]) 0 htab rfl rfl rfl rfl rfl rfl rfl rfl rfl rfl (idx_mlt q52) ((congrArg (List.set _ _) (KD x51).symm).trans (set_map (e := Kn))) ?_
    refine Ky ?_
    refine KF ?_
    refine Ka ?_
    refine Kx ?_
    refine pu ?_
    refine pu ?_
    refine Ky ?_
    refine Ka ⟨_, Kam hm, ?_⟩
    exact WkX.of () (WkS.perm (WkS.cons rfl (Wk.refl _) (WkS.cons rfl (Wk.refl _) (WkS.cons rfl (Wk.refl _) (WkS.cons rfl (Wk.refl _) (WkS.cons rfl (Wk.refl _) (WkS.nil)))))) Pf Pf)
   ·replace hm := yes_f hc48 hm
    refine Kad ?_
    refine KC ?_
    have e29 := KP hm; subst e29; clear hm; have hm := hq29
    refine KC ?_
    refine K7 ?_
    have e28 := Ke hm; subst e28
    refine ⟨rfl, ?_⟩
    exact WkX.of () (WkS.perm (WkS.cons rfl (Wk.refl _) (WkS.nil)) Pf Pf)
 ·intro s28 hw28; clear hm; have hm := ho28; clear q28 ho28
  refine Ka ?_
  refine KQ hw28 (fun z28 => ?_)
  refine Kd ?_
  refine pu ?_
  refine pu ?_
  refine Kb ?_
  refine Kr ?_
  have er53 := Ke hm; subst er53
  refine retX.wk (WkS.frz 0 rfl rfl) ?_
  refine retX.wk (WkS.tld 4 0 rfl rfl) ?_
  refine retX.wk (WkS.tld 5 0 rfl rfl) ?_
  refine retX.wk (WkS.tld 28 0 rfl rfl) ?_
  refine retX.wk (WkS.drop 0 rfl) ?_
  refine rP (t' := [(4, .lst 5 (y28.map Kn) (.cur (SL v1)))]) [] [0] 0 (wC wN) (lT lN) ?_
  exact ⟨(SL v1), rfl, rfl, rfl⟩
noncomputable def KbU (g0 : (List Kh) → Option (List Kh)) (g1 : (Kh) → Option (Kh)) (a0 : Kh) : Option (Kh) :=
 ((g0 a0.gKids).bind fun x4 => some (⟨a0.gOp, a0.gN, a0.gName, x4, a0.gAt⟩ : Kh))
theorem KkZ (g0 : (List Kh) → Option (List Kh)) (g1 : (Kh) → Option (Kh)) (hg0 : ∀ (a0 : List Kh) (r : List Kh) (h0 : g0 a0 = some r), CallsD Tryz.prog 99 [.lst 5 (a0.map Kn) .no, .fn (.func 100) [] []] [] [] (fun d h k => ∃ y0, d = .lst 5 (r.map Kn) (.cur y0) ∧ h = [] ∧ k = [(5, y0)])) (hg1 : ∀ (a0 : Kh) (r : Kh) (h0 : g1 a0 = some r), CallsD Tryz.prog 100 [Kn a0] [] [] (fun d h k => d = Kn r ∧ h = [] ∧ k = [])) (a0 : Kh) (r : Kh) (h0 : KbU g0 g1 a0 = some r) : CallsD Tryz.prog 100 [Kn a0] [] [] (fun d h k => d = Kn r ∧ h = [] ∧ k = []) := by
 have hm := Kw h0
 unfold KbU at hm
 clear h0
 refine K0 htab Tryz.func100 rfl rfl rfl rfl rfl (fun C => ?_)
 refine w_eq (i := 0) rfl (Wk.of_eq (KD a0)) ?_
 refine Kd ?_
 refine p_box rfl rfl rfl rfl rfl rfl rfl (fun b1 => ?_)
 refine Kar htab rfl rfl rfl rfl rfl rfl rfl (fun b2 => ?_)
 refine KK ?_
 refine pu ?_
 refine pL 0 ?_
 obtain ⟨x4, q4, hm⟩ := Kc hm
 refine pG (hg0 a0.gKids x4 q4) Wl Pf Pf ?_
 rintro _ _ _ ⟨w3, rfl, rfl, rfl⟩
 refine pu ?_
 refine pS0 (ds' := [.v (.int .i64 a0.gOp), .v (.int .i64 a0.gN), .v (.string a0.gName), .lst 5 (x4.map Kn) (.cur w3), .v (.int .i64 a0.gAt)]) ?_
 refine KK ?_
 refine Kai (d := .agg [.v (.int .i64 a0.gOp), .v (.int .i64 a0.gN), .v (.string a0.gName), .lst 5 (x4.map Kn) (.cur w3), .v (.int .i64 a0.gAt)]) 0 htab rfl rfl rfl rfl rfl rfl rfl rfl ?_
 refine pS1 (ds' := [.v (.int .i64 a0.gOp), .v (.int .i64 a0.gN), .v (.string a0.gName), .lst 5 (x4.map Kn) (.cur w3), .v (.int .i64 a0.gAt)]) ?_
 refine Kb ?_
 refine Kr ?_
 have er5 := Ke hm; subst er5
 refine retX.wk (WkS.bl1 (ds' := [.v (.int .i64 a0.gOp), .v (.int .i64 a0.gN), .v (.string a0.gName), .lst 5 (x4.map Kn) .no, .v (.int .i64 a0.gAt)]) (rC (rC (rC (rO (rC WkR.nil)))))) ?_
 refine rP (t' := [(2, .ptr b2 0)]) [1] [] 0 (wC wN) (lC 0 lN) ?_
 exact ⟨by first | rfl | (simp only [wrapD, KD]; done) | (simp only [wrapD, KD]; rfl), rfl, rfl⟩
noncomputable def KH : Nat → ((List Kh) → Option (List Kh)) × ((Kh) → Option (Kh))
 | 0 => (fun _ => none, fun _ => none)
 | n + 1 => (KaA ((KH n).1) ((KH n).2), KbU ((KH n).1) ((KH n).2))
theorem KeF : ∀ n, (∀ (a0 : List Kh) (r : List Kh) (h0 : (KH n).1 a0 = some r), CallsD Tryz.prog 99 [.lst 5 (a0.map Kn) .no, .fn (.func 100) [] []] [] [] (fun d h k => ∃ y0, d = .lst 5 (r.map Kn) (.cur y0) ∧ h = [] ∧ k = [(5, y0)])) ∧ (∀ (a0 : Kh) (r : Kh) (h0 : (KH n).2 a0 = some r), CallsD Tryz.prog 100 [Kn a0] [] [] (fun d h k => d = Kn r ∧ h = [] ∧ k = []))
  | 0 => ⟨(fun _ _ h0 => by cases h0), (fun _ _ h0 => by cases h0)⟩
  | n + 1 => by
    have ih := KeF n
    exact ⟨Khi ((KH n).1) ((KH n).2) (ih.1) (ih.2), KkZ ((KH n).1) ((KH n).2) (ih.1) (ih.2)⟩
theorem KeG : ∀ n, (∀ (a0 : List Kh), Le ((KH n).1 a0) ((KH (n + 1)).1 a0)) ∧ (∀ (a0 : Kh), Le ((KH n).2 a0) ((KH (n + 1)).2 a0))
  | 0 => ⟨fun _ => Le.none _, fun _ => Le.none _⟩
  | n + 1 => by
    have ih := KeG n
    exact ⟨fun a0 => by show Le (KaA ((KH n).1) ((KH n).2) a0) (KaA ((KH (n + 1)).1) ((KH (n + 1)).2) a0); unfold KaA; repeat (first | exact Le.refl _ | exact ih.1 _ | exact ih.2 _ | assumption | (refine Le.bind ?_ (fun _ => ?_)) | (refine Le.cond ?_ ?_) | (refine Le.loop (fun _ => ?_)) | (refine Le.elim (fun _ => ?_) (fun _ => ?_))), fun a0 => by show Le (KbU ((KH n).1) ((KH n).2) a0) (KbU ((KH (n + 1)).1) ((KH (n + 1)).2) a0); unfold KbU; repeat (first | exact Le.refl _ | exact ih.1 _ | exact ih.2 _ | assumption | (refine Le.bind ?_ (fun _ => ?_)) | (refine Le.cond ?_ ?_) | (refine Le.loop (fun _ => ?_)) | (refine Le.elim (fun _ => ?_) (fun _ => ?_)))⟩
noncomputable def Kck (a0 : List Kh) : Option (List Kh) := anyN fun n => (KH n).1 a0
theorem Ke9 (a0 : List Kh) {r : List Kh} (n : Nat) (h : (KH n).1 a0 = some r) : Kck a0 = some r := Kej (fun m => (KeG m).1 a0) h
theorem Kh1 (a0 : List Kh) (r : List Kh) (h0 : Kck a0 = some r) : CallsD Tryz.prog 99 [.lst 5 (a0.map Kn) .no, .fn (.func 100) [] []] [] [] (fun d h k => ∃ y0, d = .lst 5 (r.map Kn) (.cur y0) ∧ h = [] ∧ k = [(5, y0)]) :=
 let ⟨n, hn⟩ := Kdu h0; (KeF n).1 a0  r hn
noncomputable def KaJ (g0 : (List Ki) → Option (List Ki)) (g1 : (Ki) → Option (Ki)) (a0 : List Ki) : Option (List Ki) :=
 ((need (mkOK 120 (a0.length : Int) (a0.length : Int))).bind fun x1 => ((need (decide (a0.length = (List.replicate (a0.length : Int).toNat (⟨(0 : Int), ByteArray.empty, ByteArray.empty, [], [], [], (0 : Int)⟩ : Ki)).length))).bind fun x2 => (Option.bind (α := List Ki) (loopM (fun (s29 : Int × List Ki) => (bif (decide (s29.1 < (a0.length : Int))) then ((idx s29.2 s29.1).bind fun x49 => ((g1 x49).bind fun x51 => ((idx s29.2 s29.1).bind fun x52 => some (.next ((IntKind.i64.wrap (s29.1 + (1 : Int))), (s29.2.set s29.1.toNat x51)))))) else some (.done s29.2))) ((0 : Int), a0)) fun y28 => some y28)))
theorem Khj (g0 : (List Ki) → Option (List Ki)) (g1 : (Ki) → Option (Ki)) (hg0 : ∀ (a0 : List Ki) (r : List Ki) (h0 : g0 a0 = some r), CallsD Tryz.prog 64 [.lst 7 (a0.map Kf) .no, .fn (.func 65) [] []] [] [] (fun d h k => ∃ y0, d = .lst 7 (r.map Kf) (.cur y0) ∧ h = [] ∧ k = [(7, y0)])) (hg1 : ∀ (a0 : Ki) (r : Ki) (h0 : g1 a0 = some r), CallsD Tryz.prog 65 [Kf a0] [] [] (fun d h k => d = Kf r ∧ h = [] ∧ k = [])) (a0 : List Ki) (r : List Ki) (h0 : KaJ g0 g1 a0 = some r) : CallsD Tryz.prog 64 [.lst 7 (a0.map Kf) .no, .fn (.func 65) [] []] [] [] (fun d h k => ∃ y0, d = .lst 7 (r.map Kf) (.cur y0) ∧ h = [] ∧ k = [(7, y0)]) := by
 have hm := Kw h0
 unfold KaJ at hm
 clear h0
 refine K0 htab Tryz.func64 rfl rfl rfl rfl rfl (fun C => ?_)
 refine Kd ?_
 refine pu ?_
 refine KK ?_
 refine pu ?_
 refine Kaa htab rfl rfl rfl rfl rfl rfl rfl (by first | exact KM | rfl) ?_
 obtain ⟨x1, q1, hm⟩ := Kc hm
 refine Kks (x0 := Kf (⟨(0 : Int), ByteArray.empty, ByteArray.empty, [], [], [], (0 : Int)⟩ : Ki)) htab rfl rfl rfl rfl rfl rfl rfl rfl rfl rfl rfl rfl rfl rfl rfl (KgU q1) (fun H => by rw [KU]; exact rz_agg (Kb6 rz_v rfl rfl (Kb6 rz_v rfl rfl (Kb6 rz_v rfl rfl (Kb6 rz_l rfl rfl (Kb6 rz_l rfl rfl (Kb6 rz_l rfl rfl (Kb6 rz_v rfl rfl rz_nil)))))))) (List.map_replicate (f := Kf)).symm (fun v1 => ?_)
 refine pu ?_
 refine KK ?_
 refine pu ?_
 refine pu ?_
 obtain ⟨x2, q2, hm⟩ := Kc hm
 refine p_copyR 0 htab rfl rfl rfl rfl rfl rfl rfl rfl rfl rfl rfl (by simpa using of_decide_eq_true (KgU q2)) rfl ?_
 refine Kb ?_
 refine Kg ?_
 refine Kd ?_
 refine pu ?_
 refine p_lenR 0 htab rfl rfl rfl rfl rfl rfl rfl rfl (by first | exact KM | rfl) ?_
 refine pu ?_
 refine Kb ?_
 obtain ⟨y28, q28, ho28⟩ := Kc hm
 refine K5 (Y := Unit) (fun z28 => (⟨[(5, .v (SL v1))], [(0, Blk.row 7 (y28.map Kf) (SL v1))], []⟩ : S)) ?_ ?_
 ·clear hm; have hm := Kw q28
  refine KA ?_
  obtain ⟨u29, hl29, hq29⟩ := yes_m hm
  refine Kav (Y := Unit) hl29 (fun s29 z29 => (⟨[(1, .fn (.func 65) [] []), (5, .v (SL v1)), (14, .v (SL v1)), (15, .v (.int .i64 (a0.length : Int))), (16, .v (.int .i64 s29.1))], [(0, Blk.row 7 (s29.2.map Kf) (SL v1))], []⟩ : S)) ?_ ?_
  ·skip
   exact WkX.of () (WkS.perm (WkS.cons rfl (Wk.refl _) (WkS.cons rfl (Wk.refl _) (WkS.cons rfl (Wk.refl _) (WkS.cons rfl (Wk.refl _) (WkS.cons rfl (Wk.refl _) (WkS.nil)))))) Pf Pf)
  ·intro G29 s29 z29 hm
   refine Kd ?_
   refine pu ?_
   refine Kb ?_
   refine Kg ?_
   refine Kk rfl (fun hc48 => ?_) (fun hc48 => ?_)
   ·replace hm := yes_t hc48 hm
    refine Kp ?_
    refine Ka ?_
    refine Kg ?_
    refine KA ?_
    refine Kd ?_
    refine pu ?_
    obtain ⟨x49, q49, hm⟩ := Kc hm
    refine KgW 0 htab rfl rfl rfl rfl rfl rfl rfl rfl rfl rfl rfl (Kz q49) (KG q49) ?_
    refine p_loadR (d := .agg [.v (.int .i64 x49.gOp), .v (.string x49.gName), .v (.string x49.gFunc), .lst 5 (x49.gExps.map Kn) .no, .lst 7 (x49.gKids.map Kf) .no, .lst 7 (x49.gElse.map Kf) .no, .v (.int .i64 x49.gAt)]) (d0 := .agg [.v (.int .i64 x49.gOp), .v (.string x49.gName), .v (.string x49.gFunc), .lst 5 (x49.gExps.map Kn) .no, .lst 7 (x49.gKids.map Kf) .no, .lst 7 (x49.gElse.map Kf) .no, .v (.int .i64 x49.gAt)]) 0 htab rfl rfl rfl rfl rfl rfl rfl ((KG q49).trans (congrArg some (KU x49))) rfl (by simp [K4]) ?_
    refine Kar htab rfl rfl rfl rfl rfl rfl rfl (fun b50 => ?_)
    refine pu ?_
    refine pS1 (ds' := [.v (.int .i64 x49.gOp), .v (.string x49.gName), .v (.string x49.gFunc), .lst 5 (x49.gExps.map Kn) .no, .lst 7 (x49.gKids.map Kf) .no, .lst 7 (x49.gElse.map Kf) .no, .v (.int .i64 x49.gAt)]) ?_
    refine Kb ?_
    refine Kx ?_
    iterate 3 refine pu ?_
    refine Kai (d := .agg [.v (.int .i64 x49.gOp), .v (.string x49.gName), .v (.string x49.gFunc), .lst 5 (x49.gExps.map Kn) .no, .lst 7 (x49.gKids.map Kf) .no, .lst 7 (x49.gElse.map Kf) .no, .v (.int .i64 x49.gAt)]) 1 htab rfl rfl rfl rfl rfl rfl rfl rfl ?_
    obtain ⟨x51, q51, hm⟩ := Kc hm
    refine Kkr (hg1 x49 x51 q51) rfl rfl rfl rfl rfl rfl rfl (WkL.cons (Wk.trans (Wk.agg (WkR.refl _)) (Wk.of_eq (KU x49).symm)) Wl) ?_
    rintro _ rfl
    refine p_eq (i := 25) rfl (Wk.of_eq (KU x51)) ?_
    obtain ⟨x52, q52, hm⟩ := Kc hm
    refine KgW 0 htab rfl rfl rfl rfl rfl rfl rfl rfl rfl rfl rfl (Kz q52) (KG q52) ?_
    refine Kkt (d := .agg [.v (.int .i64 x51.gOp), .v (.string x51.gName), .v (.string x51.gFunc), .lst 5 (x51.gExps.map Kn) .no, .lst 7 (x51.gKids.map Kf) .no, .lst 7 (x51.gElse.map Kf) .no, .v (.int .i64 x51.gAt)]) 0 htab rfl rfl rfl rfl rfl rfl rfl rfl rfl rfl (idx_mlt q52) ((congrArg (List.set _ _) (KU x51).symm).trans (set_map (e := Kf))) ?_
    refine Ky ?_
    refine KF ?_
    refine Ka ?_
    refine Kx ?_
    refine pu ?_
    refine pu ?_
    refine Ky ?_
    refine Ka ⟨_, Kam hm, ?_⟩
    exact WkX.of () (WkS.perm (WkS.cons rfl (Wk.refl _) (WkS.cons rfl (Wk.refl _) (WkS.cons rfl (Wk.refl _) (WkS.cons rfl (Wk.refl _) (WkS.cons rfl (Wk.refl _) (WkS.nil)))))) Pf Pf)
   ·replace hm := yes_f hc48 hm
    refine Kad ?_
    refine KC ?_
    have e29 := KP hm; subst e29; clear hm; have hm := hq29
    refine KC ?_
    refine K7 ?_
    have e28 := Ke hm; subst e28
    refine ⟨rfl, ?_⟩
    exact WkX.of () (WkS.perm (WkS.cons rfl (Wk.refl _) (WkS.nil)) Pf Pf)
 ·intro s28 hw28; clear hm; have hm := ho28; clear q28 ho28
  refine Ka ?_
  refine KQ hw28 (fun z28 => ?_)
  refine Kd ?_
  refine pu ?_
  refine pu ?_
  refine Kb ?_
  refine Kr ?_
  have er53 := Ke hm; subst er53
  refine retX.wk (WkS.frz 0 rfl rfl) ?_
  refine retX.wk (WkS.tld 4 0 rfl rfl) ?_
  refine retX.wk (WkS.tld 5 0 rfl rfl) ?_
  refine retX.wk (WkS.tld 28 0 rfl rfl) ?_
  refine retX.wk (WkS.drop 0 rfl) ?_
  refine rP (t' := [(4, .lst 7 (y28.map Kf) (.cur (SL v1)))]) [] [0] 0 (wC wN) (lT lN) ?_
  exact ⟨(SL v1), rfl, rfl, rfl⟩
noncomputable def KbV (g0 : (List Ki) → Option (List Ki)) (g1 : (Ki) → Option (Ki)) (a0 : Ki) : Option (Ki) :=
 ((Kck a0.gExps).bind fun x4 => ((g0 a0.gKids).bind fun x6 => ((g0 a0.gElse).bind fun x8 => some (⟨a0.gOp, a0.gName, a0.gFunc, x4, x6, x8, a0.gAt⟩ : Ki))))
theorem Kk0 (g0 : (List Ki) → Option (List Ki)) (g1 : (Ki) → Option (Ki)) (hg0 : ∀ (a0 : List Ki) (r : List Ki) (h0 : g0 a0 = some r), CallsD Tryz.prog 64 [.lst 7 (a0.map Kf) .no, .fn (.func 65) [] []] [] [] (fun d h k => ∃ y0, d = .lst 7 (r.map Kf) (.cur y0) ∧ h = [] ∧ k = [(7, y0)])) (hg1 : ∀ (a0 : Ki) (r : Ki) (h0 : g1 a0 = some r), CallsD Tryz.prog 65 [Kf a0] [] [] (fun d h k => d = Kf r ∧ h = [] ∧ k = [])) (a0 : Ki) (r : Ki) (h0 : KbV g0 g1 a0 = some r) : CallsD Tryz.prog 65 [Kf a0] [] [] (fun d h k => d = Kf r ∧ h = [] ∧ k = []) := by
 have hm := Kw h0
 unfold KbV at hm
 clear h0
 refine K0 htab Tryz.func65 rfl rfl rfl rfl rfl (fun C => ?_)
 refine w_eq (i := 0) rfl (Wk.of_eq (KU a0)) ?_
 refine Kd ?_
 refine p_box rfl rfl rfl rfl rfl rfl rfl (fun b1 => ?_)
 refine Kar htab rfl rfl rfl rfl rfl rfl rfl (fun b2 => ?_)
 refine KK ?_
 refine pu ?_
 refine pL 0 ?_
 obtain ⟨x4, q4, hm⟩ := Kc hm
 refine pG (Kh1 a0.gExps x4 q4) Wl Pf Pf ?_
 rintro _ _ _ ⟨w3, rfl, rfl, rfl⟩
 refine pu ?_
 refine pS0 (ds' := [.v (.int .i64 a0.gOp), .v (.string a0.gName), .v (.string a0.gFunc), .lst 5 (x4.map Kn) (.cur w3), .lst 7 (a0.gKids.map Kf) .no, .lst 7 (a0.gElse.map Kf) .no, .v (.int .i64 a0.gAt)]) ?_
 refine KK ?_
 refine pu ?_
 refine pL 0 ?_
 obtain ⟨x6, q6, hm⟩ := Kc hm
 refine pG (hg0 a0.gKids x6 q6) Wl Pf Pf ?_
 rintro _ _ _ ⟨w5, rfl, rfl, rfl⟩
 refine pu ?_
 refine pS0 (ds' := [.v (.int .i64 a0.gOp), .v (.string a0.gName), .v (.string a0.gFunc), .lst 5 (x4.map Kn) (.cur w3), .lst 7 (x6.map Kf) (.cur w5), .lst 7 (a0.gElse.map Kf) .no, .v (.int .i64 a0.gAt)]) ?_
 refine KK ?_
 refine pu ?_
 refine pL 0 ?_
 obtain ⟨x8, q8, hm⟩ := Kc hm
 refine pG (hg0 a0.gElse x8 q8) Wl Pf Pf ?_
 rintro _ _ _ ⟨w7, rfl, rfl, rfl⟩
 refine pu ?_
 refine pS0 (ds' := [.v (.int .i64 a0.gOp), .v (.string a0.gName), .v (.string a0.gFunc), .lst 5 (x4.map Kn) (.cur w3), .lst 7 (x6.map Kf) (.cur w5), .lst 7 (x8.map Kf) (.cur w7), .v (.int .i64 a0.gAt)]) ?_
 refine KK ?_
 refine Kai (d := .agg [.v (.int .i64 a0.gOp), .v (.string a0.gName), .v (.string a0.gFunc), .lst 5 (x4.map Kn) (.cur w3), .lst 7 (x6.map Kf) (.cur w5), .lst 7 (x8.map Kf) (.cur w7), .v (.int .i64 a0.gAt)]) 0 htab rfl rfl rfl rfl rfl rfl rfl rfl ?_
 refine pS1 (ds' := [.v (.int .i64 a0.gOp), .v (.string a0.gName), .v (.string a0.gFunc), .lst 5 (x4.map Kn) (.cur w3), .lst 7 (x6.map Kf) (.cur w5), .lst 7 (x8.map Kf) (.cur w7), .v (.int .i64 a0.gAt)]) ?_
 refine Kb ?_
 refine Kr ?_
 have er9 := Ke hm; subst er9
 refine retX.wk (WkS.bl1 (ds' := [.v (.int .i64 a0.gOp), .v (.string a0.gName), .v (.string a0.gFunc), .lst 5 (x4.map Kn) .no, .lst 7 (x6.map Kf) .no, .lst 7 (x8.map Kf) .no, .v (.int .i64 a0.gAt)]) (rC (rC (rC (rO (rO (rO (rC WkR.nil)))))))) ?_
 refine rP (t' := [(2, .ptr b2 0)]) [1] [] 0 (wC wN) (lC 0 lN) ?_
 exact ⟨by first | rfl | (simp only [wrapD, KU]; done) | (simp only [wrapD, KU]; rfl), rfl, rfl⟩
noncomputable def KJ : Nat → ((List Ki) → Option (List Ki)) × ((Ki) → Option (Ki))
 | 0 => (fun _ => none, fun _ => none)
 | n + 1 => (KaJ ((KJ n).1) ((KJ n).2), KbV ((KJ n).1) ((KJ n).2))
theorem KeH : ∀ n, (∀ (a0 : List Ki) (r : List Ki) (h0 : (KJ n).1 a0 = some r), CallsD Tryz.prog 64 [.lst 7 (a0.map Kf) .no, .fn (.func 65) [] []] [] [] (fun d h k => ∃ y0, d = .lst 7 (r.map Kf) (.cur y0) ∧ h = [] ∧ k = [(7, y0)])) ∧ (∀ (a0 : Ki) (r : Ki) (h0 : (KJ n).2 a0 = some r), CallsD Tryz.prog 65 [Kf a0] [] [] (fun d h k => d = Kf r ∧ h = [] ∧ k = []))
  | 0 => ⟨(fun _ _ h0 => by cases h0), (fun _ _ h0 => by cases h0)⟩
  | n + 1 => by
    have ih := KeH n
    exact ⟨Khj ((KJ n).1) ((KJ n).2) (ih.1) (ih.2), Kk0 ((KJ n).1) ((KJ n).2) (ih.1) (ih.2)⟩
theorem KeI : ∀ n, (∀ (a0 : List Ki), Le ((KJ n).1 a0) ((KJ (n + 1)).1 a0)) ∧ (∀ (a0 : Ki), Le ((KJ n).2 a0) ((KJ (n + 1)).2 a0))
  | 0 => ⟨fun _ => Le.none _, fun _ => Le.none _⟩
  | n + 1 => by
    have ih := KeI n
    exact ⟨fun a0 => by show Le (KaJ ((KJ n).1) ((KJ n).2) a0) (KaJ ((KJ (n + 1)).1) ((KJ (n + 1)).2) a0); unfold KaJ; repeat (first | exact Le.refl _ | exact ih.1 _ | exact ih.2 _ | assumption | (refine Le.bind ?_ (fun _ => ?_)) | (refine Le.cond ?_ ?_) | (refine Le.loop (fun _ => ?_)) | (refine Le.elim (fun _ => ?_) (fun _ => ?_))), fun a0 => by show Le (KbV ((KJ n).1) ((KJ n).2) a0) (KbV ((KJ (n + 1)).1) ((KJ (n + 1)).2) a0); unfold KbV; repeat (first | exact Le.refl _ | exact ih.1 _ | exact ih.2 _ | assumption | (refine Le.bind ?_ (fun _ => ?_)) | (refine Le.cond ?_ ?_) | (refine Le.loop (fun _ => ?_)) | (refine Le.elim (fun _ => ?_) (fun _ => ?_)))⟩
noncomputable def Kcl (a0 : List Ki) : Option (List Ki) := anyN fun n => (KJ n).1 a0
theorem Kfa (a0 : List Ki) {r : List Ki} (n : Nat) (h : (KJ n).1 a0 = some r) : Kcl a0 = some r := Kej (fun m => (KeI m).1 a0) h
theorem Kh2 (a0 : List Ki) (r : List Ki) (h0 : Kcl a0 = some r) : CallsD Tryz.prog 64 [.lst 7 (a0.map Kf) .no, .fn (.func 65) [] []] [] [] (fun d h k => ∃ y0, d = .lst 7 (r.map Kf) (.cur y0) ∧ h = [] ∧ k = [(7, y0)]) :=
 let ⟨n, hn⟩ := Kdu h0; (KeH n).1 a0  r hn
noncomputable def KbQ (a0 : Km) : Option (Km) :=
 ((Ka4 a0.gParams).bind fun x4 => ((Ka4 a0.gLocals).bind fun x6 => ((Kcl a0.gBody).bind fun x8 => some (⟨a0.gName, x4, x6, x8, a0.gAt⟩ : Km))))
theorem KjL (a0 : Km) (r : Km) (h0 : KbQ a0 = some r) : CallsD Tryz.prog 62 [Ko a0] [] [] (fun d h k => d = Ko r ∧ h = [] ∧ k = []) := by
 have hm := Kw h0
 unfold KbQ at hm
 clear h0
 refine K0 htab Tryz.func62 rfl rfl rfl rfl rfl (fun C => ?_)
 refine Kd ?_
 refine p_box rfl rfl rfl rfl rfl rfl rfl (fun b1 => ?_)
 refine Kar htab rfl rfl rfl rfl rfl rfl rfl (fun b2 => ?_)
 refine KK ?_
 refine pu ?_
 refine pL 0 ?_
 obtain ⟨x4, q4, hm⟩ := Kc hm
 refine pG (Kdb a0.gParams x4 q4) Wl Pf Pf ?_
 rintro _ _ _ ⟨w3, rfl, rfl, rfl⟩
 refine pu ?_
 refine pS0 (ds' := [.v (.string a0.gName), .lst 2 (x4.map Kj) (.cur w3), .lst 2 (a0.gLocals.map Kj) .no, .lst 7 (a0.gBody.map Kf) .no, .v (.int .i64 a0.gAt)]) ?_
 refine KK ?_
 refine pu ?_
 refine pL 0 ?_
 obtain ⟨x6, q6, hm⟩ := Kc hm
 refine pG (Kdb a0.gLocals x6 q6) Wl Pf Pf ?_
 rintro _ _ _ ⟨w5, rfl, rfl, rfl⟩
 refine pu ?_
 refine pS0 (ds' := [.v (.string a0.gName), .lst 2 (x4.map Kj) (.cur w3), .lst 2 (x6.map Kj) (.cur w5), .lst 7 (a0.gBody.map Kf) .no, .v (.int .i64 a0.gAt)]) ?_
 refine KK ?_
 refine pu ?_
 refine pL 0 ?_
 obtain ⟨x8, q8, hm⟩ := Kc hm
 refine pG (Kh2 a0.gBody x8 q8) Wl Pf Pf ?_
 rintro _ _ _ ⟨w7, rfl, rfl, rfl⟩
 refine pu ?_
 refine pS0 (ds' := [.v (.string a0.gName), .lst 2 (x4.map Kj) (.cur w3), .lst 2 (x6.map Kj) (.cur w5), .lst 7 (x8.map Kf) (.cur w7), .v (.int .i64 a0.gAt)]) ?_
 refine KK ?_
 refine Kai (d := .agg [.v (.string a0.gName), .lst 2 (x4.map Kj) (.cur w3), .lst 2 (x6.map Kj) (.cur w5), .lst 7 (x8.map Kf) (.cur w7), .v (.int .i64 a0.gAt)]) 0 htab rfl rfl rfl rfl rfl rfl rfl rfl ?_
 refine pS1 (ds' := [.v (.string a0.gName), .lst 2 (x4.map Kj) (.cur w3), .lst 2 (x6.map Kj) (.cur w5), .lst 7 (x8.map Kf) (.cur w7), .v (.int .i64 a0.gAt)]) ?_
 refine Kb ?_
 refine Kr ?_
 have er9 := Ke hm; subst er9
 refine retX.wk (WkS.bl1 (ds' := [.v (.string a0.gName), .lst 2 (x4.map Kj) .no, .lst 2 (x6.map Kj) .no, .lst 7 (x8.map Kf) .no, .v (.int .i64 a0.gAt)]) (rC (rO (rO (rO (rC WkR.nil)))))) ?_
 refine rP (t' := [(2, .ptr b2 0)]) [1] [] 0 (wC wN) (lC 0 lN) ?_
 exact ⟨rfl, rfl, rfl⟩
noncomputable def KbR (a0 : List Km) : Option (List Km) :=
 ((need (mkOK 96 (a0.length : Int) (a0.length : Int))).bind fun x1 => ((need (decide (a0.length = (List.replicate (a0.length : Int).toNat (⟨ByteArray.empty, [], [], [], (0 : Int)⟩ : Km)).length))).bind fun x2 => (Option.bind (α := List Km) (loopM (fun (s29 : Int × List Km) => (bif (decide (s29.1 < (a0.length : Int))) then ((idx s29.2 s29.1).bind fun x49 => ((KbQ x49).bind fun x51 => ((idx s29.2 s29.1).bind fun x52 => some (.next ((IntKind.i64.wrap (s29.1 + (1 : Int))), (s29.2.set s29.1.toNat x51)))))) else some (.done s29.2))) ((0 : Int), a0)) fun y28 => some y28)))
theorem Kh3 (a0 : List Km) (r : List Km) (h0 : KbR a0 = some r) : CallsD Tryz.prog 61 [.lst 5 (a0.map Ko) .no, .fn (.func 62) [] []] [] [] (fun d h k => ∃ y0, d = .lst 5 (r.map Ko) (.cur y0) ∧ h = [] ∧ k = [(5, y0)]) := by
 have hm := Kw h0
 unfold KbR at hm
 clear h0
 refine K0 htab Tryz.func61 rfl rfl rfl rfl rfl (fun C => ?_)
 refine Kd ?_
 refine pu ?_
 refine KK ?_
 refine pu ?_
 refine Kaa htab rfl rfl rfl rfl rfl rfl rfl (by first | exact KM | rfl) ?_
 obtain ⟨x1, q1, hm⟩ := Kc hm
 refine Kks (x0 := Ko (⟨ByteArray.empty, [], [], [], (0 : Int)⟩ : Km)) htab rfl rfl rfl rfl rfl rfl rfl rfl rfl rfl rfl rfl rfl rfl rfl (KgU q1) (fun H => by exact rz_agg (Kb6 rz_v rfl rfl (Kb6 rz_l rfl rfl (Kb6 rz_l rfl rfl (Kb6 rz_l rfl rfl (Kb6 rz_v rfl rfl rz_nil)))))) (List.map_replicate (f := Ko)).symm (fun v1 => ?_)
 refine pu ?_
 refine KK ?_
 refine pu ?_
 refine pu ?_
 obtain ⟨x2, q2, hm⟩ := Kc hm
 refine p_copyR 0 htab rfl rfl rfl rfl rfl rfl rfl rfl rfl rfl rfl (by simpa using of_decide_eq_true (KgU q2)) rfl ?_
 refine Kb ?_
 refine Kg ?_
 refine Kd ?_
 refine pu ?_
 refine p_lenR 0 htab rfl rfl rfl rfl rfl rfl rfl rfl (by first | exact KM | rfl) ?_
 refine pu ?_
 refine Kb ?_
 obtain ⟨y28, q28, ho28⟩ := Kc hm
 refine K5 (Y := Unit) (fun z28 => (⟨[(5, .v (SL v1))], [(0, Blk.row 5 (y28.map Ko) (SL v1))], []⟩ : S)) ?_ ?_
 ·clear hm; have hm := Kw q28
  refine KA ?_
  obtain ⟨u29, hl29, hq29⟩ := yes_m hm
  refine Kav (Y := Unit) hl29 (fun s29 z29 => (⟨[(1, .fn (.func 62) [] []), (5, .v (SL v1)), (14, .v (SL v1)), (15, .v (.int .i64 (a0.length : Int))), (16, .v (.int .i64 s29.1))], [(0, Blk.row 5 (s29.2.map Ko) (SL v1))], []⟩ : S)) ?_ ?_
  ·skip
   exact WkX.of () (WkS.perm (WkS.cons rfl (Wk.refl _) (WkS.cons rfl (Wk.refl _) (WkS.cons rfl (Wk.refl _) (WkS.cons rfl (Wk.refl _) (WkS.cons rfl (Wk.refl _) (WkS.nil)))))) Pf Pf)
  ·intro G29 s29 z29 hm
   refine Kd ?_
   refine pu ?_
   refine Kb ?_
   refine Kg ?_
   refine Kk rfl (fun hc48 => ?_) (fun hc48 => ?_)
   ·replace hm := yes_t hc48 hm
    refine Kp ?_
    refine Ka ?_
    refine Kg ?_
    refine KA ?_
    refine Kd ?_
    refine pu ?_
    obtain ⟨x49, q49, hm⟩ := Kc hm
    refine KgW 0 htab rfl rfl rfl rfl rfl rfl rfl rfl rfl rfl rfl (Kz q49) (KG q49) ?_
    refine p_loadR (d := Ko x49) (d0 := Ko x49) 0 htab rfl rfl rfl rfl rfl rfl rfl (KG q49) rfl (by simp [K4, Ko]) ?_
    refine Kar htab rfl rfl rfl rfl rfl rfl rfl (fun b50 => ?_)
    refine pu ?_
    refine pS1 (ds' := [.v (.string x49.gName), .lst 2 (x49.gParams.map Kj) .no, .lst 2 (x49.gLocals.map Kj) .no, .lst 7 (x49.gBody.map Kf) .no, .v (.int .i64 x49.gAt)]) ?_
    refine Kb ?_
    refine Kx ?_
    iterate 3 refine pu ?_
    refine Kai (d := Ko x49) 1 htab rfl rfl rfl rfl rfl rfl rfl rfl ?_
    obtain ⟨x51, q51, hm⟩ := Kc hm
    refine Kkr (KjL x49 x51 q51) rfl rfl rfl rfl rfl rfl rfl Wl ?_
    rintro _ rfl
    obtain ⟨x52, q52, hm⟩ := Kc hm
    refine KgW 0 htab rfl rfl rfl rfl rfl rfl rfl rfl rfl rfl rfl (Kz q52) (KG q52) ?_
    refine Kkt (d := Ko x51) 0 htab rfl rfl rfl rfl rfl rfl rfl rfl rfl rfl (idx_mlt q52) (set_map (e := Ko)) ?_
    refine Ky ?_
    refine KF ?_
    refine Ka ?_
    refine Kx ?_
    refine pu ?_
    refine pu ?_
    refine Ky ?_
    refine Ka ⟨_, Kam hm, ?_⟩
    exact WkX.of () (WkS.perm (WkS.cons rfl (Wk.refl _) (WkS.cons rfl (Wk.refl _) (WkS.cons rfl (Wk.refl _) (WkS.cons rfl (Wk.refl _) (WkS.cons rfl (Wk.refl _) (WkS.nil)))))) Pf Pf)
   ·replace hm := yes_f hc48 hm
    refine Kad ?_
    refine KC ?_
    have e29 := KP hm; subst e29; clear hm; have hm := hq29
    refine KC ?_
    refine K7 ?_
    have e28 := Ke hm; subst e28
    refine ⟨rfl, ?_⟩
    exact WkX.of () (WkS.perm (WkS.cons rfl (Wk.refl _) (WkS.nil)) Pf Pf)
 ·intro s28 hw28; clear hm; have hm := ho28; clear q28 ho28
  refine Ka ?_
  refine KQ hw28 (fun z28 => ?_)
  refine Kd ?_
  refine pu ?_
  refine pu ?_
  refine Kb ?_
  refine Kr ?_
  have er53 := Ke hm; subst er53
  refine retX.wk (WkS.frz 0 rfl rfl) ?_
  refine retX.wk (WkS.tld 4 0 rfl rfl) ?_
  refine retX.wk (WkS.tld 5 0 rfl rfl) ?_
  refine retX.wk (WkS.tld 28 0 rfl rfl) ?_
  refine retX.wk (WkS.drop 0 rfl) ?_
  refine rP (t' := [(4, .lst 5 (y28.map Ko) (.cur (SL v1)))]) [] [0] 0 (wC wN) (lT lN) ?_
  exact ⟨(SL v1), rfl, rfl, rfl⟩
noncomputable def Kb0 (a0 : Kl) : Option (Kl) :=
 ((KaB a0.gGlobals).bind fun x4 => ((KbR a0.gFuncs).bind fun x10 => some (⟨x4, x10⟩ : Kl)))
theorem Kfr (a0 : Kl) (r : Kl) (h0 : Kb0 a0 = some r) : CallsD Tryz.prog 29 [KL a0] [] [] (fun d h k => ∃ y0 y1, d = .agg [.lst 4 (r.gGlobals.map Ks) (.cur y0), .lst 5 (r.gFuncs.map Ko) (.cur y1)] ∧ h = [] ∧ k = [(4, y0), (5, y1)]) := by
 have hm := Kw h0
 unfold Kb0 at hm
 clear h0
 refine K0 htab Tryz.func29 rfl rfl rfl rfl rfl (fun C => ?_)
 refine Kd ?_
 refine p_box rfl rfl rfl rfl rfl rfl rfl (fun b1 => ?_)
 refine Kar htab rfl rfl rfl rfl rfl rfl rfl (fun b2 => ?_)
 refine Kb ?_
 refine Kg ?_
 obtain ⟨x4, q4, hm⟩ := Kc hm
 refine wpD_drawsT 5 [] [(2, 4)] [[],[0],[0,1],[],[3]] [0,1,2,3,4] [[],[0],[0,1],[],[3],[0,1,2,3,4],[0,1,2,3,4,5],[0,1,2,3,4,5,6]] (by kernel_rfl) (by kernel_rfl) (by kernel_rfl) (by rfl) (by rfl) (by kernel_rfl) ?_
 iterate 5 apply Exists.intro
 intro bs
 refine zt_e rfl rfl (Kay htab rfl) rfl rfl rfl rfl rfl rfl rfl ?_
 refine zt_eM rfl rfl (KI 0 htab rfl rfl rfl rfl rfl) rfl rfl rfl rfl rfl rfl rfl ?_
 refine zt_callT rfl rfl (Kcw a0.gGlobals x4 q4) rfl rfl Wl rfl rfl rfl rfl rfl (by simp) (by decide) rfl ?_
 refine zt_e rfl rfl (Kay htab rfl) rfl rfl rfl rfl rfl rfl rfl ?_
 refine zt_eM rfl rfl (KI 0 htab rfl rfl rfl rfl rfl) rfl rfl rfl rfl rfl rfl rfl ?_
 refine zt_nil (k' := [(4, (bs 2))]) rfl (fun e he => by simp [isT] at he; subst he; rfl) rfl rfl (fun e he => by simp [isAl] at he) ?_
 obtain ⟨w8, hw8⟩ : ∃ y, bs 2 = y := ⟨_, rfl⟩
 simp only [hw8]
 clear hw8
 obtain ⟨x10, q10, hm⟩ := Kc hm
 refine pG (Kh3 a0.gFuncs x10 q10) Wl Pf Pf ?_
 rintro _ _ _ ⟨w9, rfl, rfl, rfl⟩
 refine Kdg (r := [.lst 4 (x4.map Ks) (.cur w8), .lst 5 (x10.map Ko) (.cur w9)]) htab rfl rfl rfl rfl rfl rfl rfl rfl rfl ?_
 refine pS1 (ds' := [.lst 4 (x4.map Ks) (.cur w8), .lst 5 (x10.map Ko) (.cur w9)]) ?_
 refine Kb ?_
 refine Kr ?_
 have er11 := Ke hm; subst er11
 refine rP (t' := [(2, .ptr b2 0)]) [1] [1,0] 0 (wC wN) (lC 0 lN) ?_
 exact ⟨w8, w9, rfl, rfl, rfl⟩
end Go.Proofs.YtipfljkjjddapaaGreatDoor.Ab
namespace Go.Proofs.YtipfljkjjddapaaGreatDoor.Ab
open Go
set_option linter.all false
def indexB (s : ByteArray) (c : Int) : Int := Lib.indexByte s.data.toList c.toNat.toUInt8
theorem indexB_ok (s : ByteArray) (c : Int) : CallsD Tryz.prog 172 [.v (.string s), .v (.int .u8 c)] [] [] (fun d h k => d = .v (.int .i64 (indexB s c)) ∧ h = [] ∧ k = []) :=
 of_calls (us := #[.string s, .int .u8 c]) ⟨_, Tryz.func172, rfl, rfl⟩ rfl (fun _ => rep_v rfl) fun w => (Tryz.strings_IndexByte s c w).mono fun _ w' ⟨h1, h2⟩ => ⟨h1, by subst h2; exact ⟨⟨rfl, rfl, rfl, Nat.le_refl _, fun _ _ => rfl⟩, Nat.le_refl _⟩⟩
end Go.Proofs.YtipfljkjjddapaaGreatDoor.Ab
namespace Go.Proofs.YtipfljkjjddapaaGreatDoor.Ab
open Go
set_option linter.all false
noncomputable def KeV (a0 : Int) : Option (Int) :=
 (Option.bind (α := Bool) (bif (a0 == (32 : Int)) then some true else (bif (a0 == (9 : Int)) then some true else (bif (a0 == (10 : Int)) then some true else some (a0 == (13 : Int))))) fun y4 => (bif y4 then some (1 : Int) else (Option.bind (α := Bool) (bif (decide ((97 : Int) ≤ a0)) then (bif (decide (a0 ≤ (122 : Int))) then some true else (bif (decide ((65 : Int) ≤ a0)) then (bif (decide (a0 ≤ (90 : Int))) then some true else some (a0 == (95 : Int))) else some (a0 == (95 : Int)))) else (bif (decide ((65 : Int) ≤ a0)) then (bif (decide (a0 ≤ (90 : Int))) then some true else some (a0 == (95 : Int))) else some (a0 == (95 : Int)))) fun y16 => (bif y16 then some (2 : Int) else (bif (decide ((48 : Int) ≤ a0)) then (bif (decide (a0 ≤ (57 : Int))) then some (3 : Int) else some (0 : Int)) else some (0 : Int))))))
theorem Kjv (a0 : Int) (r : Int) (h0 : KeV a0 = some r) : CallsD Tryz.prog 142 [.v (.int .i32 a0)] [] [] (fun d h k => d = .v (.int .i64 r) ∧ h = [] ∧ k = []) := by
 have hm := Kw h0
 unfold KeV at hm
 clear h0
 refine K0 htab Tryz.func142 rfl rfl rfl rfl rfl (fun C => ?_)
 refine Kd ?_
 refine pu ?_
 refine Kb ?_
 refine Kg ?_
 refine KA ?_
 refine Kg ?_
 obtain ⟨y4, q4, ho4⟩ := Kc hm
 refine K5 (Y := Unit) (fun z4 => (⟨[(0, .v (.int .i32 a0)), (3, .v (.bool y4))], [], []⟩ : S)) ?_ ?_
 ·clear hm; have hm := Kw q4
  refine Kx ?_
  iterate 3 refine pu ?_
  refine Kaj (i := 6) rfl (fun hg5 => ?_) (fun hg5 => ?_)
  ·replace hm := yes_t hg5 hm
   refine pK ?_
   refine pK ?_
   refine K3 rfl rfl rfl rfl rfl rfl ?_
   refine pu ?_
   refine pK ?_
   refine pK ?_
   refine K3 rfl rfl rfl rfl rfl rfl ?_
   refine pu ?_
   refine pK ?_
   refine pK ?_
   refine K3 rfl rfl rfl rfl rfl rfl ?_
   refine pu ?_
   refine Ky ?_
   have e4 := Ke hm; subst e4
   refine ⟨rfl, ?_⟩
   exact WkX.of () (WkS.perm (WkS.cons rfl (Wk.refl _) (WkS.cons rfl (Wk.refl _) (WkS.nil))) Pf Pf)
  ·replace hm := yes_f hg5 hm
   refine pu ?_
   refine pu ?_
   refine KO rfl rfl rfl rfl rfl rfl ?_
   refine pu ?_
   refine Kaj (i := 10) rfl (fun hg6 => ?_) (fun hg6 => ?_)
   ·replace hm := yes_t hg6 hm
    refine pK ?_
    refine pK ?_
    refine K3 rfl rfl rfl rfl rfl rfl ?_
    refine pu ?_
    refine pK ?_
    refine pK ?_
    refine K3 rfl rfl rfl rfl rfl rfl ?_
    refine pu ?_
    refine Ky ?_
    have e4 := Ke hm; subst e4
    refine ⟨rfl, ?_⟩
    exact WkX.of () (WkS.perm (WkS.cons rfl (Wk.refl _) (WkS.cons rfl (Wk.refl _) (WkS.nil))) Pf Pf)
   ·replace hm := yes_f hg6 hm
    refine pu ?_
    refine pu ?_
    refine KO rfl rfl rfl rfl rfl rfl ?_
    refine pu ?_
    refine Kaj (i := 14) rfl (fun hg7 => ?_) (fun hg7 => ?_)
    ·replace hm := yes_t hg7 hm
     refine pK ?_
     refine pK ?_
     refine K3 rfl rfl rfl rfl rfl rfl ?_
     refine pu ?_
     refine Ky ?_
     have e4 := Ke hm; subst e4
     refine ⟨rfl, ?_⟩
     exact WkX.of () (WkS.perm (WkS.cons rfl (Wk.refl _) (WkS.cons rfl (Wk.refl _) (WkS.nil))) Pf Pf)
    ·replace hm := yes_f hg7 hm
     refine pu ?_
     refine pu ?_
     refine KO rfl rfl rfl rfl rfl rfl ?_
     refine pu ?_
     refine Ky ?_
     have e4 := Ke hm; subst e4
     refine ⟨rfl, ?_⟩
     exact WkX.of () (WkS.perm (WkS.cons rfl (Wk.refl _) (WkS.cons rfl (Wk.refl _) (WkS.nil))) Pf Pf)
 ·intro s4 hw4; clear hm; have hm := ho4; clear q4 ho4
  refine Ka ?_
  refine KQ hw4 (fun z4 => ?_)
  refine Kk rfl (fun hc8 => ?_) (fun hc8 => ?_)
  ·replace hm := yes_t hc8 hm
   refine Kd ?_
   refine pu ?_
   refine Kb ?_
   refine Kr ?_
   refine KE ?_
   refine Kt ?_
   have er9 := Ke hm; subst er9
   refine rP (t' := [(2, .v (.int .i64 (1 : Int)))]) [] [] 0 (wC wN) (lT lN) ?_
   exact ⟨rfl, rfl, rfl⟩
  ·replace hm := yes_f hc8 hm
   refine Kg ?_
   obtain ⟨y16, q16, ho16⟩ := Kc hm
   refine K5 (Y := Unit) (fun z16 => (⟨[(0, .v (.int .i32 a0)), (18, .v (.bool y16))], [], []⟩ : S)) ?_ ?_
   ·clear hm; have hm := Kw q16
    refine Kx ?_
    iterate 3 refine pu ?_
    refine Kaj (i := 21) rfl (fun hg17 => ?_) (fun hg17 => ?_)
    ·replace hm := yes_t hg17 hm
     refine pu ?_
     refine pu ?_
     refine K3 rfl rfl rfl rfl rfl rfl ?_
     refine pu ?_
     refine Kaj (i := 25) rfl (fun hg18 => ?_) (fun hg18 => ?_)
     ·replace hm := yes_t hg18 hm
      iterate 6 refine pK ?_
      refine K3 rfl rfl rfl rfl rfl rfl ?_
      refine pu ?_
      refine pK ?_
      refine pK ?_
      refine K3 rfl rfl rfl rfl rfl rfl ?_
      refine pu ?_
      refine Ky ?_
      have e16 := Ke hm; subst e16
      refine ⟨rfl, ?_⟩
      exact WkX.of () (WkS.perm (WkS.cons rfl (Wk.refl _) (WkS.cons rfl (Wk.refl _) (WkS.nil))) Pf Pf)
     ·replace hm := yes_f hg18 hm
      iterate 3 refine pu ?_
      refine Kaj (i := 28) rfl (fun hg19 => ?_) (fun hg19 => ?_)
      ·replace hm := yes_t hg19 hm
       refine pu ?_
       refine pu ?_
       refine K3 rfl rfl rfl rfl rfl rfl ?_
       refine KO rfl rfl rfl rfl rfl rfl ?_
       refine pu ?_
       refine Kaj (i := 33) rfl (fun hg20 => ?_) (fun hg20 => ?_)
       ·replace hm := yes_t hg20 hm
        refine pK ?_
        refine pK ?_
        refine K3 rfl rfl rfl rfl rfl rfl ?_
        refine pu ?_
        refine Ky ?_
        have e16 := Ke hm; subst e16
        refine ⟨rfl, ?_⟩
        exact WkX.of () (WkS.perm (WkS.cons rfl (Wk.refl _) (WkS.cons rfl (Wk.refl _) (WkS.nil))) Pf Pf)
       ·replace hm := yes_f hg20 hm
        refine pu ?_
        refine pu ?_
        refine KO rfl rfl rfl rfl rfl rfl ?_
        refine pu ?_
        refine Ky ?_
        have e16 := Ke hm; subst e16
        refine ⟨rfl, ?_⟩
        exact WkX.of () (WkS.perm (WkS.cons rfl (Wk.refl _) (WkS.cons rfl (Wk.refl _) (WkS.nil))) Pf Pf)
      ·replace hm := yes_f hg19 hm
       refine pK ?_
       refine pK ?_
       refine KO rfl rfl rfl rfl rfl rfl ?_
       refine KO rfl rfl rfl rfl rfl rfl ?_
       iterate 3 refine pu ?_
       refine KO rfl rfl rfl rfl rfl rfl ?_
       refine pu ?_
       refine Ky ?_
       have e16 := Ke hm; subst e16
       refine ⟨rfl, ?_⟩
       exact WkX.of () (WkS.perm (WkS.cons rfl (Wk.refl _) (WkS.cons rfl (Wk.refl _) (WkS.nil))) Pf Pf)
    ·replace hm := yes_f hg17 hm
     refine pK ?_
     refine pK ?_
     refine KO rfl rfl rfl rfl rfl rfl ?_
     iterate 4 refine pu ?_
     refine Kaj (i := 28) rfl (fun hg21 => ?_) (fun hg21 => ?_)
     ·replace hm := yes_t hg21 hm
      refine pu ?_
      refine pu ?_
      refine K3 rfl rfl rfl rfl rfl rfl ?_
      refine KO rfl rfl rfl rfl rfl rfl ?_
      refine pu ?_
      refine Kaj (i := 33) rfl (fun hg22 => ?_) (fun hg22 => ?_)
      ·replace hm := yes_t hg22 hm
       refine pK ?_
       refine pK ?_
       refine K3 rfl rfl rfl rfl rfl rfl ?_
       refine pu ?_
       refine Ky ?_
       have e16 := Ke hm; subst e16
       refine ⟨rfl, ?_⟩
       exact WkX.of () (WkS.perm (WkS.cons rfl (Wk.refl _) (WkS.cons rfl (Wk.refl _) (WkS.nil))) Pf Pf)
      ·replace hm := yes_f hg22 hm
       refine pu ?_
       refine pu ?_
       refine KO rfl rfl rfl rfl rfl rfl ?_
       refine pu ?_
       refine Ky ?_
       have e16 := Ke hm; subst e16
       refine ⟨rfl, ?_⟩
       exact WkX.of () (WkS.perm (WkS.cons rfl (Wk.refl _) (WkS.cons rfl (Wk.refl _) (WkS.nil))) Pf Pf)
     ·replace hm := yes_f hg21 hm
      refine pK ?_
      refine pK ?_
      refine KO rfl rfl rfl rfl rfl rfl ?_
      refine KO rfl rfl rfl rfl rfl rfl ?_
      iterate 3 refine pu ?_
      refine KO rfl rfl rfl rfl rfl rfl ?_
      refine pu ?_
      refine Ky ?_
      have e16 := Ke hm; subst e16
      refine ⟨rfl, ?_⟩
      exact WkX.of () (WkS.perm (WkS.cons rfl (Wk.refl _) (WkS.cons rfl (Wk.refl _) (WkS.nil))) Pf Pf)
   ·intro s16 hw16; clear hm; have hm := ho16; clear q16 ho16
    refine Ka ?_
    refine KQ hw16 (fun z16 => ?_)
    refine Kk rfl (fun hc23 => ?_) (fun hc23 => ?_)
    ·replace hm := yes_t hc23 hm
     refine Kd ?_
     refine pu ?_
     refine Kb ?_
     refine Kr ?_
     refine KE ?_
     refine Kt ?_
     have er24 := Ke hm; subst er24
     refine rP (t' := [(2, .v (.int .i64 (2 : Int)))]) [] [] 0 (wC wN) (lT lN) ?_
     exact ⟨rfl, rfl, rfl⟩
    ·replace hm := yes_f hc23 hm
     refine Kd ?_
     iterate 3 refine pu ?_
     refine Kaj (i := 40) rfl (fun hg25 => ?_) (fun hg25 => ?_)
     ·replace hm := yes_t hg25 hm
      refine pu ?_
      refine pu ?_
      refine K3 rfl rfl rfl rfl rfl rfl ?_
      refine pu ?_
      refine Kb ?_
      refine Kk rfl (fun hc26 => ?_) (fun hc26 => ?_)
      ·replace hm := yes_t hc26 hm
       refine Kd ?_
       refine pu ?_
       refine Kb ?_
       refine Kr ?_
       refine KE ?_
       refine Kt ?_
       have er27 := Ke hm; subst er27
       refine rP (t' := [(2, .v (.int .i64 (3 : Int)))]) [] [] 0 (wC wN) (lT lN) ?_
       exact ⟨rfl, rfl, rfl⟩
      ·replace hm := yes_f hc26 hm
       refine Kp ?_
       refine KF ?_
       refine Ka ?_
       refine Kd ?_
       refine pu ?_
       refine Kb ?_
       refine Kr ?_
       have er28 := Ke hm; subst er28
       refine rP (t' := [(2, .v (.int .i64 (0 : Int)))]) [] [] 0 (wC wN) (lT lN) ?_
       exact ⟨rfl, rfl, rfl⟩
     ·replace hm := yes_f hg25 hm
      refine pK ?_
      refine pK ?_
      refine KO rfl rfl rfl rfl rfl rfl ?_
      refine pu ?_
      refine Kb ?_
      refine KeB rfl ?_
      refine Kp ?_
      refine KF ?_
      refine Ka ?_
      refine Kd ?_
      refine pu ?_
      refine Kb ?_
      refine Kr ?_
      have er29 := Ke hm; subst er29
      refine rP (t' := [(2, .v (.int .i64 (0 : Int)))]) [] [] 0 (wC wN) (lT lN) ?_
      exact ⟨rfl, rfl, rfl⟩
structure Kac where
 gKind : Int
 gText : ByteArray
 gN : Int
 gAt : Int
def KB (x : Kac) : D := .agg [.v (.int .i64 x.gKind), .v (.string x.gText), .v (.int .i64 x.gN), .v (.int .i64 x.gAt)]
structure K6 where
 gB : List UInt8
 gAt : Int
 gL : List Kac
abbrev nlGs2_1 : List (List Nat) := nlD [] [(0,[]),(0,[0]),(2,[1]),(3,[2]),(0,[]),(0,[4]),(6,[5]),(7,[6]),(0,[]),(8,[7,8]),(4,[3,4,5,6,7,8,9]),(11,[10]),(12,[11]),(13,[12]),(14,[13])]
noncomputable def KbO (m0 : K6) (a1 : Bool) : Option (Int) :=
 (Option.bind (α := Int) (loopM (fun (s24 : Int) => (bif (decide ((IntKind.i64.wrap (m0.gAt + s24)) < (m0.gB.length : Int))) then ((idx m0.gB (IntKind.i64.wrap (m0.gAt + s24))).bind fun x40 => ((KeV (IntKind.i32.wrap (x40.toNat : Int))).bind fun x41 => (bif (x41 != (3 : Int)) then (bif (x41 != (2 : Int)) then some (.done s24) else (bif (!a1) then some (.done s24) else some (.next (IntKind.i64.wrap (s24 + (1 : Int)))))) else some (.next (IntKind.i64.wrap (s24 + (1 : Int))))))) else none)) (0 : Int)) fun y23 => some y23)
theorem Kd1 (m0 : K6) (a1 : Bool) (o0 : Nat) (T0 : TypeId) (c0_0 : Cap) (c0_2 : Cap) (r : Int) (h0 : KbO m0 a1 = some r) : CallsD Tryz.prog 169 [.ptr o0 0, .v (.bool a1)] [(o0, Blk.cells [.lst 1 (m0.gB.map byteD) c0_0, .v (.int .i64 m0.gAt), .lst 4 (m0.gL.map KB) c0_2] T0)] [] (fun d h k => d = .v (.int .i64 r) ∧ h = [(o0, Blk.cells [.lst 1 (m0.gB.map byteD) c0_0, .v (.int .i64 m0.gAt), .lst 4 (m0.gL.map KB) c0_2] T0)] ∧ k = []) := by
 have hm := Kw h0
 unfold KbO at hm
 clear h0
 refine K0 htab Tryz.func169 rfl rfl rfl rfl rfl (fun C => ?_)
 refine Kd ?_
 refine pu ?_
 refine KK ?_
 refine pu ?_
 refine Kb ?_
 refine Kg ?_
 obtain ⟨y23, q23, ho23⟩ := Kc hm
 refine K5 (Y := Unit) (fun z23 => (⟨[(5, .v (.int .i64 y23))], [(o0, Blk.cells [.lst 1 (m0.gB.map byteD) c0_0, .v (.int .i64 m0.gAt), .lst 4 (m0.gL.map KB) c0_2] T0)], []⟩ : S)) ?_ ?_
 ·clear hm; have hm := Kw q23
  refine KA ?_
  obtain ⟨u24, hl24, hq24⟩ := yes_m hm
  refine Kav (Y := Unit) hl24 (fun s24 z24 => (⟨[(0, .ptr o0 0), (1, .v (.bool a1)), (5, .v (.int .i64 s24))], [(o0, Blk.cells [.lst 1 (m0.gB.map byteD) c0_0, .v (.int .i64 m0.gAt), .lst 4 (m0.gL.map KB) c0_2] T0)], []⟩ : S)) ?_ ?_
  ·skip
   exact WkX.of () (WkS.perm (WkS.cons rfl (Wk.refl _) (WkS.cons rfl (Wk.refl _) (WkS.cons rfl (Wk.refl _) (WkS.nil)))) Pf Pf)
  ·intro G24 s24 z24 hm
   refine Kg ?_
   refine Kg ?_
   refine KZ 11 [] [[],[0],[0,1],[0,1,2],[],[0,1,2],[],[6],[6,7],[6,7,8],[6,7,8,9]] [0,1,2,6,7,8,9] [[],[0],[0,1],[0,1,2],[],[0,1,2,3,4],[],[6],[6,7],[6,7,8],[6,7,8,9],[0,1,2,3,4,5,6,7,8,9,10]] (by kernel_rfl) (by kernel_rfl) (by kernel_rfl) (by rfl) (by rfl) (by kernel_rfl) ?_
   iterate 7 apply Exists.intro
   intro bs
   iterate 3 refine zep ?_
   refine z_qM rfl rfl (KI 0 htab rfl rfl rfl rfl rfl) rfl rfl rfl rfl rfl rfl ?_
   refine zqp ?_
   refine zqp ?_
   iterate 3 refine zep ?_
   refine z_eM rfl rfl (KI 0 htab rfl rfl rfl rfl rfl) rfl rfl rfl rfl rfl rfl ?_
   refine z_q rfl rfl (KdF htab rfl rfl rfl rfl (by first | exact KM | rfl)) rfl rfl rfl rfl rfl rfl ?_
   refine z_nil rfl rfl (fun e he => by simp [isAl] at he) ?_
   refine pu ?_
   refine Kb ?_
   refine Kk rfl (fun hc39 => ?_) (fun hc39 => ?_)
   ·replace hm := yes_t hc39 hm
    refine Kp ?_
    refine Ka ?_
    refine KA ?_
    refine Kg ?_
    refine KZ 10 [] [[],[0],[0,1],[0,1,2],[],[4],[4,5],[4,5,6],[],[4,5,6]] [0,1,2,3,4,5,6] nlGs2_1 (by kernel_rfl) (by kernel_rfl) (by kernel_rfl) (by rfl) (by rfl) (by kernel_rfl) ?_
    iterate 7 apply Exists.intro
    intro bs
    iterate 3 refine zep ?_
    refine z_eM rfl rfl (KI 0 htab rfl rfl rfl rfl rfl) rfl rfl rfl rfl rfl rfl ?_
    iterate 3 refine zep ?_
    refine z_qM rfl rfl (KI 0 htab rfl rfl rfl rfl rfl) rfl rfl rfl rfl rfl rfl ?_
    refine zqp ?_
    refine zqp ?_
    refine z_nil rfl rfl (fun e he => by simp [isAl] at he) ?_
    obtain ⟨x40, q40, hm⟩ := Kc hm
    refine KaD htab rfl rfl rfl rfl rfl rfl rfl rfl rfl rfl (Kz q40) (KG q40) ?_
    refine Kat htab rfl rfl rfl rfl rfl rfl rfl rfl ?_
    refine pu ?_
    obtain ⟨x41, q41, hm⟩ := Kc hm
    refine KN (Kjv (IntKind.i32.wrap (x40.toNat : Int)) x41 q41) rfl rfl rfl rfl rfl Wl ?_
    rintro _ rfl
    refine pu ?_
    refine Kb ?_
    refine Kg ?_
    refine Kd ?_
    iterate 3 refine pu ?_
    refine Kaj (i := 35) rfl (fun hg42 => ?_) (fun hg42 => ?_)
    ·replace hm := yes_t hg42 hm
     iterate 3 refine pu ?_
     refine Kaj (i := 38) rfl (fun hg43 => ?_) (fun hg43 => ?_)
     ·replace hm := yes_t hg43 hm
      refine pK ?_
      refine pK ?_
      refine K3 rfl rfl rfl rfl rfl rfl ?_
      refine K3 rfl rfl rfl rfl rfl rfl ?_
      refine Kb ?_
      refine Kfm rfl ?_
      refine Kad ?_
      refine KC ?_
      refine KiT rfl ?_
      have e24 := KP hm; subst e24; clear hm; have hm := hq24
      refine KC ?_
      refine K7 ?_
      have e23 := Ke hm; subst e23
      refine ⟨rfl, ?_⟩
      exact WkX.of () (WkS.perm (WkS.cons rfl (Wk.refl _) (WkS.nil)) Pf Pf)
     ·replace hm := yes_f hg43 hm
      refine pu ?_
      refine pu ?_
      refine KO rfl rfl rfl rfl rfl rfl ?_
      refine K3 rfl rfl rfl rfl rfl rfl ?_
      refine Kb ?_
      refine Kk rfl (fun hc44 => ?_) (fun hc44 => ?_)
      ·replace hm := yes_t hc44 hm
       refine Kad ?_
       refine KC ?_
       refine KiT rfl ?_
       have e24 := KP hm; subst e24; clear hm; have hm := hq24
       refine KC ?_
       refine K7 ?_
       have e23 := Ke hm; subst e23
       refine ⟨rfl, ?_⟩
       exact WkX.of () (WkS.perm (WkS.cons rfl (Wk.refl _) (WkS.nil)) Pf Pf)
      ·replace hm := yes_f hc44 hm
       refine Kp ?_
       refine Ka ?_
       refine Kx ?_
       iterate 3 refine pu ?_
       refine Ky ?_
       refine KF ?_
       refine Ka ⟨_, Kam hm, ?_⟩
       exact WkX.of () (WkS.perm (WkS.cons rfl (Wk.refl _) (WkS.cons rfl (Wk.refl _) (WkS.cons rfl (Wk.refl _) (WkS.nil)))) Pf Pf)
    ·replace hm := yes_f hg42 hm
     iterate 6 refine pK ?_
     refine KO rfl rfl rfl rfl rfl rfl ?_
     refine Kb ?_
     refine KeB rfl ?_
     refine Kp ?_
     refine Ka ?_
     refine Kx ?_
     iterate 3 refine pu ?_
     refine Ky ?_
     refine KF ?_
     refine Ka ⟨_, Kam hm, ?_⟩
     exact WkX.of () (WkS.perm (WkS.cons rfl (Wk.refl _) (WkS.cons rfl (Wk.refl _) (WkS.cons rfl (Wk.refl _) (WkS.nil)))) Pf Pf)
   ·replace hm := yes_f hc39 hm
    exact (KR hm).elim
 ·intro s23 hw23; clear hm; have hm := ho23; clear q23 ho23
  refine Ka ?_
  refine KQ hw23 (fun z23 => ?_)
  refine Kd ?_
  refine pu ?_
  refine pu ?_
  refine Kb ?_
  refine Kr ?_
  have er45 := Ke hm; subst er45
  refine rP (t' := [(4, .v (.int .i64 y23))]) [0] [] 1 (wC wN) (lT lN) ?_
  exact ⟨rfl, rfl, rfl⟩
noncomputable def Kbw (a0 : List ByteArray) (a1 : ByteArray) : Option (Int) :=
 (Option.bind (α := (Unit) ⊕ (Int)) (loopM (fun (s15 : Int) => (bif (decide (s15 < (a0.length : Int))) then ((idx a0 s15).bind fun x25 => (bif (decide (a1 = x25)) then some (.done (.inr s15)) else some (.next (IntKind.i64.wrap (s15 + (1 : Int)))))) else some (.done (.inl ())))) (0 : Int)) (Sum.elim (fun y14 => some (-1 : Int)) (fun r => some r)))
theorem Kf3 (a0 : List ByteArray) (a1 : ByteArray) (r : Int) (h0 : Kbw a0 a1 = some r) : CallsD Tryz.prog 193 [.lst 1 (a0.map eStr) .no, .v (.string a1)] [] [] (fun d h k => d = .v (.int .i64 r) ∧ h = [] ∧ k = []) := by
 have hm := Kw h0
 unfold Kbw at hm
 clear h0
 refine K0 htab Tryz.func193 rfl rfl rfl rfl rfl (fun C => ?_)
 refine Kd ?_
 refine pu ?_
 refine Kb ?_
 refine Kg ?_
 refine Kd ?_
 refine pu ?_
 refine Kaa htab rfl rfl rfl rfl rfl rfl rfl (by first | exact KM | rfl) ?_
 refine pu ?_
 refine Kb ?_
 obtain ⟨x14, q14, ho14⟩ := Kc hm
 refine Kaq (τ := Unit) (Y := Unit) (fun y14 z14 => (⟨[], [], []⟩ : S)) x14 ?_ ?_
 ·clear hm; have hm := Kw q14
  refine KA ?_
  obtain ⟨u15, hl15, hq15⟩ := yes_m hm
  refine Kav (Y := Unit) hl15 (fun s15 z15 => (⟨[(0, .lst 1 (a0.map eStr) .no), (1, .v (.string a1)), (7, .v (.int .i64 (a0.length : Int))), (8, .v (.int .i64 s15))], [], []⟩ : S)) ?_ ?_
  ·skip
   exact WkX.of () (WkS.perm (WkS.cons rfl (Wk.refl _) (WkS.cons rfl (Wk.refl _) (WkS.cons rfl (Wk.refl _) (WkS.cons rfl (Wk.refl _) (WkS.nil))))) Pf Pf)
  ·intro G15 s15 z15 hm
   refine Kd ?_
   refine pu ?_
   refine Kb ?_
   refine Kg ?_
   refine Kk rfl (fun hc24 => ?_) (fun hc24 => ?_)
   ·replace hm := yes_t hc24 hm
    refine Kp ?_
    refine Ka ?_
    refine Kg ?_
    refine KA ?_
    refine Kd ?_
    refine pu ?_
    refine pu ?_
    refine KK ?_
    iterate 3 refine pu ?_
    obtain ⟨x25, q25, hm⟩ := Kc hm
    refine KaD htab rfl rfl rfl rfl rfl rfl rfl rfl rfl rfl (Kz q25) (KG q25) ?_
    refine Kat htab rfl rfl rfl rfl rfl rfl rfl rfl ?_
    refine pu ?_
    refine Kb ?_
    refine Kk rfl (fun hc26 => ?_) (fun hc26 => ?_)
    ·replace hm := yes_t hc26 hm
     refine Kd ?_
     refine pu ?_
     refine pu ?_
     refine Kb ?_
     refine Kr ?_
     refine KE ?_
     refine Kt ?_
     have e15 := KP hm; subst e15; clear hm; have hm := hq15
     refine Kt ?_
     refine KE ?_
     have e14 := Ke hm; subst e14; refine Kax ?_; clear hm; have hm := ho14; simp only [Sum.elim_inr] at hm
     refine Kt ?_
     have er27 := Ke hm; subst er27
     refine rP (t' := [(4, .v (.int .i64 s15))]) [] [] 0 (wC wN) (lT lN) ?_
     exact ⟨rfl, rfl, rfl⟩
    ·replace hm := yes_f hc26 hm
     refine Kp ?_
     refine KF ?_
     refine Ka ?_
     refine Kx ?_
     refine pu ?_
     refine pu ?_
     refine Ky ?_
     refine Ka ⟨_, Kam hm, ?_⟩
     exact WkX.of () (WkS.perm (WkS.cons rfl (Wk.refl _) (WkS.cons rfl (Wk.refl _) (WkS.cons rfl (Wk.refl _) (WkS.cons rfl (Wk.refl _) (WkS.nil))))) Pf Pf)
   ·replace hm := yes_f hc24 hm
    refine Kad ?_
    refine KC ?_
    have e15 := KP hm; subst e15; clear hm; have hm := hq15
    refine KC ?_
    refine K7 ?_
    have e14 := Ke hm; subst e14
    refine Kaf ?_
    exact WkX.of () (WkS.perm (WkS.nil) Pf Pf)
 ·intro y14 s14 hx14 hw14; subst hx14; clear hm; have hm := ho14; simp only [Sum.elim_inl] at hm; clear q14 ho14
  refine Ka ?_
  refine KQ hw14 (fun z14 => ?_)
  refine Kd ?_
  refine pu ?_
  refine Kb ?_
  refine Kr ?_
  have er28 := Ke hm; subst er28
  refine rP (t' := [(4, .v (.int .i64 (-1 : Int)))]) [] [] 0 (wC wN) (lT lN) ?_
  exact ⟨rfl, rfl, rfl⟩
noncomputable def KaV (a0 : List ByteArray) (a1 : ByteArray) : Option (Bool) :=
 ((Kbw a0 a1).bind fun x1 => some (decide ((0 : Int) ≤ x1)))
theorem Kc4 (a0 : List ByteArray) (a1 : ByteArray) (r : Bool) (h0 : KaV a0 a1 = some r) : CallsD Tryz.prog 171 [.lst 1 (a0.map eStr) .no, .v (.string a1)] [] [] (fun d h k => d = .v (.bool r) ∧ h = [] ∧ k = []) := by
 have hm := Kw h0
 unfold KaV at hm
 clear h0
 refine K0 htab Tryz.func171 rfl rfl rfl rfl rfl (fun C => ?_)
 refine Kd ?_
 refine pu ?_
 refine KK ?_
 refine pu ?_
 refine pu ?_
 obtain ⟨x1, q1, hm⟩ := Kc hm
 refine KN (Kf3 a0 a1 x1 q1) rfl rfl rfl rfl rfl Wl ?_
 rintro _ rfl
 refine pu ?_
 refine pu ?_
 refine Kb ?_
 refine Kr ?_
 have er2 := Ke hm; subst er2
 refine rP (t' := [(4, .v (.bool (decide ((0 : Int) ≤ x1))))]) [] [] 0 (wC wN) (lT lN) ?_
 exact ⟨rfl, rfl, rfl⟩
noncomputable def KfS (a0 : ByteArray) : Option (Bool) :=
 ((KaV ([(ByteArray.mk #[105, 110, 116]), (ByteArray.mk #[105, 102]), (ByteArray.mk #[101, 108, 115, 101]), (ByteArray.mk #[119, 104, 105, 108, 101]), (ByteArray.mk #[114, 101, 116, 117, 114, 110]), (ByteArray.mk #[97, 115, 115, 101, 114, 116]), (ByteArray.mk #[105, 110, 112, 117, 116]), (ByteArray.mk #[110, 117, 108, 108])] : List ByteArray) a0).bind fun x1 => some x1)
theorem KlW (a0 : ByteArray) (r : Bool) (h0 : KfS a0 = some r) : CallsD Tryz.prog 170 [.v (.string a0)] [] [] (fun d h k => d = .v (.bool r) ∧ h = [] ∧ k = []) := by
 have hm := Kw h0
 unfold KfS at hm
 clear h0
 refine K0 htab Tryz.func170 rfl rfl rfl rfl rfl (fun C => ?_)
 refine Kd ?_
 refine pu ?_
 refine KK ?_
 refine p_lit htab rfl rfl rfl rfl rfl rfl rfl rfl rfl rfl rfl rfl rfl rfl ?_
 refine p_eq (i := 3) (d' := .lst 1 (([(ByteArray.mk #[105, 110, 116]), (ByteArray.mk #[105, 102]), (ByteArray.mk #[101, 108, 115, 101]), (ByteArray.mk #[119, 104, 105, 108, 101]), (ByteArray.mk #[114, 101, 116, 117, 114, 110]), (ByteArray.mk #[97, 115, 115, 101, 114, 116]), (ByteArray.mk #[105, 110, 112, 117, 116]), (ByteArray.mk #[110, 117, 108, 108])] : List ByteArray).map eStr) .full) rfl (Wk.lst0 (.cons (WkC.refl _) (.cons (WkC.refl _) (.cons (WkC.refl _) (.cons (WkC.refl _) (.cons (WkC.refl _) (.cons (WkC.refl _) (.cons (WkC.refl _) (.cons (WkC.refl _) (.nil)))))))))) ?_
 refine pu ?_
 obtain ⟨x1, q1, hm⟩ := Kc hm
 refine KN (Kc4 ([(ByteArray.mk #[105, 110, 116]), (ByteArray.mk #[105, 102]), (ByteArray.mk #[101, 108, 115, 101]), (ByteArray.mk #[119, 104, 105, 108, 101]), (ByteArray.mk #[114, 101, 116, 117, 114, 110]), (ByteArray.mk #[97, 115, 115, 101, 114, 116]), (ByteArray.mk #[105, 110, 112, 117, 116]), (ByteArray.mk #[110, 117, 108, 108])] : List ByteArray) a0 x1 q1) rfl rfl rfl rfl rfl (WkL.cons (Wk.no) (WkL.cons (Wk.refl _) Wl)) ?_
 rintro _ rfl
 refine pu ?_
 refine Kb ?_
 refine Kr ?_
 have er2 := Ke hm; subst er2
 refine rP (t' := [(2, .v (.bool x1))]) [] [] 0 (wC wN) (lT lN) ?_
 exact ⟨rfl, rfl, rfl⟩
abbrev nlGs2_2 : List (List Nat) := nlD [] [(0,[]),(0,[]),(0,[1]),(3,[2]),(4,[3]),(0,[]),(0,[]),(0,[6]),(8,[7]),(9,[8]),(0,[]),(0,[10]),(12,[11]),(13,[12]),(0,[]),(0,[14]),(16,[15]),(17,[16]),(0,[]),(18,[17]),(10,[9,10,11,12,13,14,15,16,17]),(21,[20]),(0,[]),(0,[]),(0,[23]),(25,[24]),(26,[25]),(22,[21,23,24,25,26]),(28,[27]),(5,[4,6,7,8,9,10,11,12,13,14,15,16,17,20,21,23,24,25,26,27,28])]
abbrev nlGs2_3 : List (List Nat) := nlD [] [(0,[]),(0,[]),(0,[1]),(3,[2]),(4,[3]),(0,[]),(0,[]),(0,[6]),(8,[7]),(9,[8]),(0,[]),(0,[10]),(12,[11]),(13,[12]),(0,[]),(0,[14]),(16,[15]),(17,[16]),(0,[]),(18,[17,18]),(10,[9,10,11,12,13,14,15,16,17,18,19]),(21,[20]),(0,[]),(0,[]),(0,[23]),(25,[24]),(26,[25]),(0,[5,6,7,8,9,10,11,12,13,14,15,16,17,18,19,20,21,22,23,24,25,26]),(28,[27]),(5,[4,5,6,7,8,9,10,11,12,13,14,15,16,17,18,19,20,21,22,23,24,25,26,27,28]),(0,[0,1,2,3,4,5,6,7,8,9,10,11,12,13,14,15,16,17,18,19,20,21,22,23,24,25,26,27,28,29]),(31,[30]),(32,[31])]
noncomputable def KbI (m0 : K6) (a1 : Int) (a2 : Int) (a3 : Int) : Option (Int × K6) :=
 (bif (decide ((4000 : Int) ≤ (m0.gL.length : Int))) then none else ((cutL m0.gB m0.gAt (IntKind.i64.wrap (m0.gAt + a2))).bind fun x3 => ((app 40 m0.gL ([(⟨a1, (ByteArray.mk x3.toArray), a3, m0.gAt⟩ : Kac)] : List Kac)).bind fun x4 => some ((0 : Int), (⟨m0.gB, (IntKind.i64.wrap (m0.gAt + a2)), x4⟩ : K6)))))
theorem Kc8 (m0 : K6) (a1 : Int) (a2 : Int) (a3 : Int) (o0 : Nat) (T0 : TypeId) (c0_0 : Cap) (k0_2 : Value) (r : Int × K6) (h0 : KbI m0 a1 a2 a3 = some r) : CallsD Tryz.prog 146 [.ptr o0 0, .v (.int .i64 a1), .v (.int .i64 a2), .v (.int .i64 a3)] [(o0, Blk.cells [.lst 1 (m0.gB.map byteD) c0_0, .v (.int .i64 m0.gAt), .lst 4 (m0.gL.map KB) (.cur k0_2)] T0)] [(4, k0_2)] (fun d h k => ∃ y0, d = .v (.int .i64 r.1) ∧ h = [(o0, Blk.cells [.lst 1 (r.2.gB.map byteD) c0_0, .v (.int .i64 r.2.gAt), .lst 4 (r.2.gL.map KB) (.cur y0)] T0)] ∧ k = [(4, y0)]) := by
 have hm := Kw h0
 unfold KbI at hm
 clear h0
 refine K0 htab Tryz.func146 rfl rfl rfl rfl rfl (fun C => ?_)
 refine Kd ?_
 refine pu ?_
 refine Kb ?_
 refine Kg ?_
 refine Kd ?_
 iterate 3 refine pu ?_
 refine pL 0 ?_
 refine Kaa htab rfl rfl rfl rfl rfl rfl rfl (by first | exact KM | rfl) ?_
 refine pu ?_
 refine Kb ?_
 refine Kk rfl (fun hc2 => ?_) (fun hc2 => ?_)
 ·replace hm := yes_t hc2 hm
  exact (KR hm).elim
 ·replace hm := yes_f hc2 hm
  refine Kp ?_
  refine Ka ?_
  refine Kg ?_
  obtain ⟨x3, q3, hm⟩ := Kc hm
  obtain ⟨x4, q4, hm⟩ := Kc hm
  refine wpD_app 30 [] nlGs2_2 [0,1,2,3,4,6,7,8,9,10,11,12,13,14,15,16,17,20,21,23,24,25,26,27,28,29] nlGs2_3 29 4 0 (by kernel_rfl) (by kernel_rfl) (by kernel_rfl) (by rfl) (by rfl) (by kernel_rfl) rfl ?_
  iterate 26 apply Exists.intro
  refine ⟨.any, ?_⟩
  intro bs v4
  iterate 4 refine zh_e rfl rfl (Kay htab rfl) rfl rfl rfl rfl rfl rfl rfl rfl ?_
  refine zh_M rfl rfl (fun _ => KI 0 htab rfl rfl rfl rfl rfl) (offB rfl) rfl rfl rfl rfl rfl rfl rfl rfl ?_
  refine zh_q rfl rfl (Kay htab rfl) rfl rfl rfl rfl rfl rfl ?_
  iterate 3 refine zh_e rfl rfl (Kay htab rfl) rfl rfl rfl rfl rfl rfl rfl rfl ?_
  refine zh_M rfl rfl (fun _ => KI 0 htab rfl rfl rfl rfl rfl) (offB rfl) rfl rfl rfl rfl rfl rfl rfl rfl ?_
  iterate 3 refine zh_e rfl rfl (Kay htab rfl) rfl rfl rfl rfl rfl rfl rfl rfl ?_
  refine zh_M rfl rfl (fun _ => KI 0 htab rfl rfl rfl rfl rfl) (offB rfl) rfl rfl rfl rfl rfl rfl rfl rfl ?_
  iterate 3 refine zh_e rfl rfl (Kay htab rfl) rfl rfl rfl rfl rfl rfl rfl rfl ?_
  refine zh_M rfl rfl (fun _ => KI 0 htab rfl rfl rfl rfl rfl) (offB rfl) rfl rfl rfl rfl rfl rfl rfl rfl ?_
  refine zh_q rfl rfl (Kay htab rfl) rfl rfl rfl rfl rfl rfl ?_
  refine zh_q rfl rfl (Kay htab rfl) rfl rfl rfl rfl rfl rfl ?_
  refine zh_e rfl rfl (x_cut q3 htab rfl rfl rfl rfl rfl rfl rfl rfl rfl rfl) rfl rfl rfl rfl rfl rfl rfl rfl ?_
  refine zh_E rfl rfl (x_toStr htab rfl rfl rfl rfl rfl rfl rfl rfl) rfl rfl rfl rfl rfl rfl rfl rfl ?_
  refine zh_q rfl rfl (Kay htab rfl) rfl rfl rfl rfl rfl rfl ?_
  iterate 3 refine zh_e rfl rfl (Kay htab rfl) rfl rfl rfl rfl rfl rfl rfl rfl ?_
  refine zh_M rfl rfl (fun _ => KI 0 htab rfl rfl rfl rfl rfl) (offB rfl) rfl rfl rfl rfl rfl rfl rfl rfl ?_
  refine zh_e rfl rfl (KjW (r := [.v (.int .i64 a1), .v (.string (ByteArray.mk x3.toArray)), .v (.int .i64 a3), .v (.int .i64 m0.gAt)]) htab rfl rfl rfl rfl rfl rfl) rfl rfl rfl rfl rfl rfl rfl rfl ?_
  refine zh_E rfl rfl (ExE.wk (x_lit htab rfl rfl rfl rfl rfl rfl rfl rfl rfl rfl rfl) (show Wk _ (.lst 4 (([(⟨a1, (ByteArray.mk x3.toArray), a3, m0.gAt⟩ : Kac)] : List Kac).map KB) .full) from Wk.lst0 (.cons (WkC.refl _) (.nil)))) rfl rfl rfl rfl rfl rfl rfl rfl ?_
  refine zh_app htab rfl rfl rfl rfl rfl rfl rfl rfl (rep_of rfl) rfl (app_kC rfl) (Kah (j := 0) rfl) rfl rfl rfl rfl rfl rfl rfl rfl rfl (Kb5 q4) (app_map q4) ?_
  refine zh_nil rfl rfl rfl rfl (fun e he => by simp [isAl] at he) ?_
  refine pu ?_
  refine pu ?_
  refine pS0 (ds' := [.lst 1 (m0.gB.map byteD) c0_0, .v (.int .i64 m0.gAt), .lst 4 (x4.map KB) (.cur v4)]) ?_
  refine KK ?_
  iterate 3 refine pu ?_
  refine pL 0 ?_
  iterate 4 refine pu ?_
  refine pS0 (ds' := [.lst 1 (m0.gB.map byteD) c0_0, .v (.int .i64 (IntKind.i64.wrap (m0.gAt + a2))), .lst 4 (x4.map KB) (.cur v4)]) ?_
  refine KK ?_
  refine pu ?_
  refine Kb ?_
  refine Kr ?_
  have er5 := Ke hm; subst er5
  refine rP (t' := [(8, .v (.int .i64 (0 : Int)))]) [0] [0] 1 (wC wN) (lT lN) ?_
  exact ⟨v4, rfl, rfl, rfl⟩
abbrev nlGs2_4 : List (List Nat) := nlD [] [(0,[]),(0,[0]),(2,[1]),(3,[2]),(0,[]),(0,[4]),(6,[5]),(7,[6]),(0,[]),(0,[8]),(10,[9]),(11,[10]),(0,[]),(12,[11,12]),(4,[3,4,5,6,7,8,9,10,11,12,13]),(15,[14]),(16,[15])]
noncomputable def KcO (m0 : K6) : Option (Int × K6) :=
 ((KbO m0 true).bind fun x1 => ((cutL m0.gB m0.gAt (IntKind.i64.wrap (m0.gAt + x1))).bind fun x2 => (bif (decide ((20 : Int) < x1)) then none else ((KfS (ByteArray.mk x2.toArray)).bind fun x14 => (bif x14 then ((KbI m0 (3 : Int) x1 (0 : Int)).bind fun x20 => some (x20.1, x20.2)) else ((KbI m0 (1 : Int) x1 (0 : Int)).bind fun x23 => some (x23.1, x23.2)))))))
theorem Ki8 (m0 : K6) (o0 : Nat) (T0 : TypeId) (c0_0 : Cap) (k0_2 : Value) (r : Int × K6) (h0 : KcO m0 = some r) : CallsD Tryz.prog 143 [.ptr o0 0] [(o0, Blk.cells [.lst 1 (m0.gB.map byteD) c0_0, .v (.int .i64 m0.gAt), .lst 4 (m0.gL.map KB) (.cur k0_2)] T0)] [(4, k0_2)] (fun d h k => ∃ y0, d = .v (.int .i64 r.1) ∧ h = [(o0, Blk.cells [.lst 1 (r.2.gB.map byteD) c0_0, .v (.int .i64 r.2.gAt), .lst 4 (r.2.gL.map KB) (.cur y0)] T0)] ∧ k = [(4, y0)]) := by
 have hm := Kw h0
 unfold KcO at hm
 clear h0
 refine K0 htab Tryz.func143 rfl rfl rfl rfl rfl (fun C => ?_)
 refine Kd ?_
 refine pu ?_
 refine KK ?_
 refine pu ?_
 obtain ⟨x1, q1, hm⟩ := Kc hm
 refine pG (Kd1 m0 true o0 T0 c0_0 (.cur k0_2) x1 q1) Wl Pf Pf ?_
 rintro _ _ _ ⟨rfl, rfl, rfl⟩
 refine pu ?_
 refine Kb ?_
 refine Kg ?_
 refine KZ 14 [] [[],[0],[0,1],[0,1,2],[],[4],[4,5],[4,5,6],[],[8],[8,9],[8,9,10],[],[8,9,10]] [0,1,2,3,4,5,6,8,9,10] nlGs2_4 (by kernel_rfl) (by kernel_rfl) (by kernel_rfl) (by rfl) (by rfl) (by kernel_rfl) ?_
 iterate 10 apply Exists.intro
 intro bs
 iterate 3 refine zep ?_
 refine z_eM rfl rfl (KI 0 htab rfl rfl rfl rfl rfl) rfl rfl rfl rfl rfl rfl ?_
 iterate 3 refine zep ?_
 refine z_qM rfl rfl (KI 0 htab rfl rfl rfl rfl rfl) rfl rfl rfl rfl rfl rfl ?_
 iterate 3 refine zep ?_
 refine z_qM rfl rfl (KI 0 htab rfl rfl rfl rfl rfl) rfl rfl rfl rfl rfl rfl ?_
 refine zqp ?_
 refine zqp ?_
 refine z_nil rfl rfl (fun e he => by simp [isAl] at he) ?_
 obtain ⟨x2, q2, hm⟩ := Kc hm
 refine p_cut q2 htab rfl rfl rfl rfl rfl rfl rfl rfl rfl rfl rfl rfl rfl ?_
 refine p_toStr htab rfl rfl rfl rfl rfl rfl rfl rfl rfl rfl rfl ?_
 refine pu ?_
 refine Kb ?_
 refine Kg ?_
 refine KA ?_
 refine Kd ?_
 iterate 3 refine pu ?_
 refine Kb ?_
 refine Kk rfl (fun hc13 => ?_) (fun hc13 => ?_)
 ·replace hm := yes_t hc13 hm
  exact (KR hm).elim
 ·replace hm := yes_f hc13 hm
  refine Kd ?_
  refine pu ?_
  obtain ⟨x14, q14, hm⟩ := Kc hm
  refine KN (KlW (ByteArray.mk x2.toArray) x14 q14) rfl rfl rfl rfl rfl Wl ?_
  rintro _ rfl
  refine pu ?_
  refine Kb ?_
  refine Kk rfl (fun hc18 => ?_) (fun hc18 => ?_)
  ·replace hm := yes_t hc18 hm
   refine Kd ?_
   refine pu ?_
   refine pu ?_
   obtain ⟨x20, q20, hm⟩ := Kc hm
   refine pG (Kc8 m0 (3 : Int) x1 (0 : Int) o0 T0 c0_0 k0_2 x20 q20) Wl Pf Pf ?_
   rintro _ _ _ ⟨w19, rfl, rfl, rfl⟩
   refine pu ?_
   refine Kb ?_
   refine Kr ?_
   refine KE ?_
   refine Kt ?_
   have er21 := Ke hm; subst er21
   refine rP (t' := [(2, .v (.int .i64 x20.1))]) [0] [0] 1 (wC wN) (lT lN) ?_
   exact ⟨w19, rfl, rfl, rfl⟩
  ·replace hm := yes_f hc18 hm
   refine Kp ?_
   refine KF ?_
   refine Ka ?_
   refine Kd ?_
   refine pu ?_
   refine pu ?_
   obtain ⟨x23, q23, hm⟩ := Kc hm
   refine pG (Kc8 m0 (1 : Int) x1 (0 : Int) o0 T0 c0_0 k0_2 x23 q23) Wl Pf Pf ?_
   rintro _ _ _ ⟨w22, rfl, rfl, rfl⟩
   refine pu ?_
   refine Kb ?_
   refine Kr ?_
   have er24 := Ke hm; subst er24
   refine rP (t' := [(2, .v (.int .i64 x23.1))]) [0] [0] 1 (wC wN) (lT lN) ?_
   exact ⟨w22, rfl, rfl, rfl⟩
abbrev nlGs2_5 : List (List Nat) := nlD [] [(0,[]),(0,[0]),(0,[]),(2,[1,2]),(4,[3]),(5,[4]),(6,[5]),(7,[6]),(8,[7]),(6,[]),(6,[9]),(11,[10]),(12,[11]),(9,[8,9,10,11,12]),(14,[13]),(15,[14]),(16,[15]),(17,[16]),(18,[17]),(19,[18]),(20,[19])]
noncomputable def Kcm (m0 : K6) : Option (Int × K6) :=
 (bif (decide ((4000 : Int) ≤ (m0.gL.length : Int))) then none else ((KbO m0 false).bind fun x3 => (Option.bind (α := Bool) ((KbO m0 true).bind fun x9 => (bif (decide (x3 < x9)) then none else ((idx m0.gB m0.gAt).bind fun x11 => (bif ((x11.toNat : Int) == (48 : Int)) then some (decide ((1 : Int) < x3)) else some false)))) fun y8 => (bif y8 then none else ((cutL m0.gB m0.gAt (IntKind.i64.wrap (m0.gAt + x3))).bind fun x15 => (Option.bind (α := Int) (loopM (fun (s31 : Int × Int) => (bif (decide (s31.2 < (x15.length : Int))) then ((idx x15 s31.2).bind fun x41 => (bif (decide ((IntKind.u64.wrap ((IntKind.u64.wrap ((9223372036854775807 : Int) - (IntKind.u64.wrap (IntKind.u8.wrap ((x41.toNat : Int) - (48 : Int)))))).tdiv (10 : Int))) < s31.1)) then none else some (.next ((IntKind.u64.wrap ((IntKind.u64.wrap ((10 : Int) * s31.1)) + (IntKind.u64.wrap (IntKind.u8.wrap ((x41.toNat : Int) - (48 : Int)))))), (IntKind.i64.wrap (s31.2 + (1 : Int))))))) else some (.done s31.1))) ((0 : Int), (0 : Int))) fun y30 => ((KbI m0 (2 : Int) x3 (IntKind.i64.wrap y30)).bind fun x44 => some (x44.1, x44.2))))))))
theorem Kh4 (m0 : K6) (o0 : Nat) (T0 : TypeId) (c0_0 : Cap) (k0_2 : Value) (r : Int × K6) (h0 : Kcm m0 = some r) : CallsD Tryz.prog 144 [.ptr o0 0] [(o0, Blk.cells [.lst 1 (m0.gB.map byteD) c0_0, .v (.int .i64 m0.gAt), .lst 4 (m0.gL.map KB) (.cur k0_2)] T0)] [(4, k0_2)] (fun d h k => ∃ y0, d = .v (.int .i64 r.1) ∧ h = [(o0, Blk.cells [.lst 1 (r.2.gB.map byteD) c0_0, .v (.int .i64 r.2.gAt), .lst 4 (r.2.gL.map KB) (.cur y0)] T0)] ∧ k = [(4, y0)]) := by
 have hm := Kw h0
 unfold Kcm at hm
 clear h0
 refine K0 htab Tryz.func144 rfl rfl rfl rfl rfl (fun C => ?_)
 refine Kd ?_
 refine pu ?_
 refine Kb ?_
 refine Kg ?_
 refine Kd ?_
 iterate 3 refine pu ?_
 refine pL 0 ?_
 refine Kaa htab rfl rfl rfl rfl rfl rfl rfl (by first | exact KM | rfl) ?_
 refine pu ?_
 refine Kb ?_
 refine Kk rfl (fun hc2 => ?_) (fun hc2 => ?_)
 ·replace hm := yes_t hc2 hm
  exact (KR hm).elim
 ·replace hm := yes_f hc2 hm
  refine Kp ?_
  refine Ka ?_
  refine Kd ?_
  refine pu ?_
  obtain ⟨x3, q3, hm⟩ := Kc hm
  refine pG (Kd1 m0 false o0 T0 c0_0 (.cur k0_2) x3 q3) Wl Pf Pf ?_
  rintro _ _ _ ⟨rfl, rfl, rfl⟩
  refine pu ?_
  refine Kb ?_
  refine Kg ?_
  refine Kg ?_
  obtain ⟨y8, q8, ho8⟩ := Kc hm
  refine K5 (Y := Unit) (fun z8 => (⟨[(0, .ptr o0 0), (3, .v (.int .i64 x3)), (36, .v (.bool y8))], [(o0, Blk.cells [.lst 1 (m0.gB.map byteD) c0_0, .v (.int .i64 m0.gAt), .lst 4 (m0.gL.map KB) (.cur k0_2)] T0)], [(4, k0_2)]⟩ : S)) ?_ ?_
  ·clear hm; have hm := Kw q8
   obtain ⟨x9, q9, hm⟩ := Kc hm
   refine bycB (decide (x3 < x9)) (fun hs10 => ?_) (fun hs10 => ?_)
   ·replace hm := yes_t hs10 hm
    exact (KR hm).elim
   ·replace hm := yes_f hs10 hm
    refine KZ 13 [] [[],[0],[],[0,1],[0,1],[0,1],[0,1,5],[0,1,5,6],[0,1,5,6,7],[0,1],[0,1,9],[0,1,9,10],[0,1,9,10,11]] [0,1,5,6,7,8,9,10,11] nlGs2_5 (by kernel_rfl) (by kernel_rfl) (by kernel_rfl) (by rfl) (by rfl) (by kernel_rfl) ?_
    iterate 9 apply Exists.intro
    intro bs
    refine zep ?_
    refine Kij 0 rfl rfl (Kd1 m0 true o0 T0 c0_0 (.cur k0_2) x9 q9) rfl rfl Wl rfl rfl rfl rfl rfl rfl rfl ?_
    iterate 3 refine zqp ?_
    refine Kas (j := 20) (b' := false) rfl hs10 ?_
    iterate 3 refine zep ?_
    refine z_eM rfl rfl (KI 0 htab rfl rfl rfl rfl rfl) rfl rfl rfl rfl rfl rfl ?_
    iterate 3 refine zep ?_
    refine z_qM rfl rfl (KI 0 htab rfl rfl rfl rfl rfl) rfl rfl rfl rfl rfl rfl ?_
    refine z_nil rfl rfl (fun e he => by simp [isAl] at he) ?_
    obtain ⟨x11, q11, hm⟩ := Kc hm
    refine KaD htab rfl rfl rfl rfl rfl rfl rfl rfl rfl rfl (Kz q11) (KG q11) ?_
    refine Kat htab rfl rfl rfl rfl rfl rfl rfl rfl ?_
    refine pu ?_
    refine pu ?_
    refine Kaj (i := 32) rfl (fun hg12 => ?_) (fun hg12 => ?_)
    ·replace hm := yes_t hg12 hm
     refine pu ?_
     refine pu ?_
     refine K3 rfl rfl rfl rfl rfl rfl ?_
     refine KO rfl rfl rfl rfl rfl rfl ?_
     refine Ky ?_
     have e8 := Ke hm; subst e8
     refine ⟨rfl, ?_⟩
     exact WkX.of () (WkS.perm (WkS.cons rfl (Wk.refl _) (WkS.cons rfl (Wk.refl _) (WkS.cons rfl (Wk.refl _) (WkS.nil)))) Pf Pf)
    ·replace hm := yes_f hg12 hm
     refine pK ?_
     refine pK ?_
     refine KO rfl rfl rfl rfl rfl rfl ?_
     refine KO rfl rfl rfl rfl rfl rfl ?_
     refine Ky ?_
     have e8 := Ke hm; subst e8
     refine ⟨rfl, ?_⟩
     exact WkX.of () (WkS.perm (WkS.cons rfl (Wk.refl _) (WkS.cons rfl (Wk.refl _) (WkS.cons rfl (Wk.refl _) (WkS.nil)))) Pf Pf)
  ·intro s8 hw8; clear hm; have hm := ho8; clear q8 ho8
   refine Ka ?_
   refine KQ hw8 (fun z8 => ?_)
   refine Kk rfl (fun hc14 => ?_) (fun hc14 => ?_)
   ·replace hm := yes_t hc14 hm
    exact (KR hm).elim
   ·replace hm := yes_f hc14 hm
    refine Kp ?_
    refine Ka ?_
    refine Kd ?_
    refine pu ?_
    refine Kb ?_
    refine Kg ?_
    refine Kg ?_
    obtain ⟨x15, q15, hm⟩ := Kc hm
    refine KZ 17 [] [[],[0],[0,1],[0,1,2],[],[4],[4,5],[4,5,6],[],[8],[8,9],[8,9,10],[],[8,9,10],[0,1,2,3,4,5,6,8,9,10],[0,1,2,3,4,5,6,8,9,10,14],[]] [0,1,2,3,4,5,6,8,9,10,14] [[],[0],[0,1],[0,1,2],[],[4],[4,5],[4,5,6],[],[8],[8,9],[8,9,10],[],[8,9,10,11,12],[0,1,2,3,4,5,6,7,8,9,10,11,12,13],[0,1,2,3,4,5,6,7,8,9,10,11,12,13,14],[]] (by kernel_rfl) (by kernel_rfl) (by kernel_rfl) (by rfl) (by rfl) (by kernel_rfl) ?_
    iterate 11 apply Exists.intro
    intro bs
    iterate 3 refine zep ?_
    refine z_eM rfl rfl (KI 0 htab rfl rfl rfl rfl rfl) rfl rfl rfl rfl rfl rfl ?_
    iterate 3 refine zep ?_
    refine z_qM rfl rfl (KI 0 htab rfl rfl rfl rfl rfl) rfl rfl rfl rfl rfl rfl ?_
    iterate 3 refine zep ?_
    refine z_qM rfl rfl (KI 0 htab rfl rfl rfl rfl rfl) rfl rfl rfl rfl rfl rfl ?_
    refine zqp ?_
    refine zqp ?_
    refine z_e rfl rfl (x_cut q15 htab rfl rfl rfl rfl rfl rfl rfl rfl rfl rfl) rfl rfl rfl rfl rfl rfl ?_
    refine z_q rfl rfl (KdF htab rfl rfl rfl rfl (by first | exact KM | rfl)) rfl rfl rfl rfl rfl rfl ?_
    refine zqp ?_
    refine z_nil rfl rfl (fun e he => by simp [isAl] at he) ?_
    refine Kb ?_
    obtain ⟨y30, q30, ho30⟩ := Kc hm
    refine K5 (Y := Unit) (fun z30 => (⟨[(0, .ptr o0 0), (3, .v (.int .i64 x3)), (4, .v (.int .u64 y30))], [(o0, Blk.cells [.lst 1 (m0.gB.map byteD) c0_0, .v (.int .i64 m0.gAt), .lst 4 (m0.gL.map KB) (.cur k0_2)] T0)], [(4, k0_2)]⟩ : S)) ?_ ?_
    ·clear hm; have hm := Kw q30
     refine KA ?_
     obtain ⟨u31, hl31, hq31⟩ := yes_m hm
     refine Kav (Y := Unit) hl31 (fun s31 z31 => (⟨[(0, .ptr o0 0), (3, .v (.int .i64 x3)), (4, .v (.int .u64 s31.1)), (51, .lst 1 (x15.map byteD) .no), (52, .v (.int .i64 (x15.length : Int))), (53, .v (.int .i64 s31.2))], [(o0, Blk.cells [.lst 1 (m0.gB.map byteD) c0_0, .v (.int .i64 m0.gAt), .lst 4 (m0.gL.map KB) (.cur k0_2)] T0)], [(4, k0_2)]⟩ : S)) ?_ ?_
     ·skip
      exact WkX.of () (WkS.perm (WkS.cons rfl (Wk.refl _) (WkS.cons rfl (Wk.refl _) (WkS.cons rfl (Wk.refl _) (WkS.cons rfl (Wk.refl _) (WkS.cons rfl (Wk.refl _) (WkS.cons rfl (Wk.refl _) (WkS.nil))))))) Pf Pf)
     ·intro G31 s31 z31 hm
      refine Kd ?_
      refine pu ?_
      refine Kb ?_
      refine Kg ?_
      refine Kk rfl (fun hc40 => ?_) (fun hc40 => ?_)
      ·replace hm := yes_t hc40 hm
       refine Kp ?_
       refine Ka ?_
       refine Kg ?_
       refine KA ?_
       refine Kd ?_
       obtain ⟨x41, q41, hm⟩ := Kc hm
       refine KaD htab rfl rfl rfl rfl rfl rfl rfl rfl rfl rfl (Kz q41) (KG q41) ?_
       refine Kat htab rfl rfl rfl rfl rfl rfl rfl rfl ?_
       refine pu ?_
       refine KK ?_
       iterate 4 refine pu ?_
       refine Kb ?_
       refine Kg ?_
       refine Kd ?_
       iterate 3 refine pu ?_
       refine p_div rfl rfl rfl rfl rfl rfl rfl (by decide) ?_
       refine pu ?_
       refine Kb ?_
       refine Kk rfl (fun hc42 => ?_) (fun hc42 => ?_)
       ·replace hm := yes_t hc42 hm
        exact (KR hm).elim
       ·replace hm := yes_f hc42 hm
        refine Kp ?_
        refine Ka ?_
        refine Kx ?_
        iterate 5 refine pu ?_
        refine Ky ?_
        refine KF ?_
        refine Ka ?_
        refine Kx ?_
        refine pu ?_
        refine pu ?_
        refine Ky ?_
        refine Ka ⟨_, Kam hm, ?_⟩
        exact WkX.of () (WkS.perm (WkS.cons rfl (Wk.refl _) (WkS.cons rfl (Wk.refl _) (WkS.cons rfl (Wk.refl _) (WkS.cons rfl (Wk.refl _) (WkS.cons rfl (Wk.refl _) (WkS.cons rfl (Wk.refl _) (WkS.nil))))))) Pf Pf)
      ·replace hm := yes_f hc40 hm
       refine Kad ?_
       refine KC ?_
       have e31 := KP hm; subst e31; clear hm; have hm := hq31
       refine KC ?_
       refine K7 ?_
       have e30 := Ke hm; subst e30
       refine ⟨rfl, ?_⟩
       exact WkX.of () (WkS.perm (WkS.cons rfl (Wk.refl _) (WkS.cons rfl (Wk.refl _) (WkS.cons rfl (Wk.refl _) (WkS.nil)))) Pf Pf)
    ·intro s30 hw30; clear hm; have hm := ho30; clear q30 ho30
     refine Ka ?_
     refine KQ hw30 (fun z30 => ?_)
     refine Kd ?_
     iterate 4 refine pu ?_
     obtain ⟨x44, q44, hm⟩ := Kc hm
     refine pG (Kc8 m0 (2 : Int) x3 (IntKind.i64.wrap y30) o0 T0 c0_0 k0_2 x44 q44) Wl Pf Pf ?_
     rintro _ _ _ ⟨w43, rfl, rfl, rfl⟩
     refine pu ?_
     refine Kb ?_
     refine Kr ?_
     have er45 := Ke hm; subst er45
     refine rP (t' := [(2, .v (.int .i64 x44.1))]) [0] [0] 1 (wC wN) (lT lN) ?_
     exact ⟨w43, rfl, rfl, rfl⟩
noncomputable def KcP (m0 : K6) : Option (Int) :=
 ((cutL m0.gB m0.gAt ((m0.gB).length : Int)).bind fun x1 => (Option.bind (α := Bool) (bif (decide ((1 : Int) < (x1.length : Int))) then ((cutL x1 (0 : Int) (2 : Int)).bind fun x7 => ((KaV ([(ByteArray.mk #[61, 61]), (ByteArray.mk #[33, 61]), (ByteArray.mk #[60, 61]), (ByteArray.mk #[38, 38]), (ByteArray.mk #[124, 124])] : List ByteArray) (ByteArray.mk x7.toArray)).bind fun x8 => some x8)) else some false) fun y5 => (bif y5 then none else ((idx x1 (0 : Int)).bind fun x11 => (bif (decide ((0 : Int) ≤ (indexB (ByteArray.mk #[40, 41, 123, 125, 91, 93, 59, 44, 61, 60, 43, 45, 42, 47, 37, 33, 38]) (x11.toNat : Int)))) then some (1 : Int) else none)))))
theorem Ki9 (m0 : K6) (o0 : Nat) (T0 : TypeId) (c0_0 : Cap) (c0_2 : Cap) (r : Int) (h0 : KcP m0 = some r) : CallsD Tryz.prog 145 [.ptr o0 0] [(o0, Blk.cells [.lst 1 (m0.gB.map byteD) c0_0, .v (.int .i64 m0.gAt), .lst 4 (m0.gL.map KB) c0_2] T0)] [] (fun d h k => d = .v (.int .i64 r) ∧ h = [(o0, Blk.cells [.lst 1 (m0.gB.map byteD) c0_0, .v (.int .i64 m0.gAt), .lst 4 (m0.gL.map KB) c0_2] T0)] ∧ k = []) := by
 have hm := Kw h0
 unfold KcP at hm
 clear h0
 refine K0 htab Tryz.func145 rfl rfl rfl rfl rfl (fun C => ?_)
 refine Kd ?_
 refine pu ?_
 refine Kb ?_
 refine Kg ?_
 refine KZ 8 [] [[],[0],[0,1],[0,1,2],[],[4],[4,5],[4,5,6]] [0,1,2,3,4,5,6] [[],[0],[0,1],[0,1,2],[],[4],[4,5],[4,5,6],[0,1,2,3,4,5,6,7],[0,1,2,3,4,5,6,7,8]] (by kernel_rfl) (by kernel_rfl) (by kernel_rfl) (by rfl) (by rfl) (by kernel_rfl) ?_
 iterate 7 apply Exists.intro
 intro bs
 iterate 3 refine zep ?_
 refine z_eM rfl rfl (KI 0 htab rfl rfl rfl rfl rfl) rfl rfl rfl rfl rfl rfl ?_
 iterate 3 refine zep ?_
 refine z_qM rfl rfl (KI 0 htab rfl rfl rfl rfl rfl) rfl rfl rfl rfl rfl rfl ?_
 refine z_nil rfl rfl (fun e he => by simp [isAl] at he) ?_
 obtain ⟨x1, q1, hm⟩ := Kc hm
 refine p_cut q1 htab rfl rfl rfl rfl rfl rfl rfl rfl rfl rfl rfl rfl rfl ?_
 refine pu ?_
 refine Kb ?_
 refine Kg ?_
 refine Kg ?_
 obtain ⟨y5, q5, ho5⟩ := Kc hm
 refine K5 (Y := Unit) (fun z5 => (⟨[(3, .lst 1 (x1.map byteD) .no), (22, .v (.bool y5))], [(o0, Blk.cells [.lst 1 (m0.gB.map byteD) c0_0, .v (.int .i64 m0.gAt), .lst 4 (m0.gL.map KB) c0_2] T0)], []⟩ : S)) ?_ ?_
 ·clear hm; have hm := Kw q5
  refine Kx ?_
  refine pu ?_
  refine Kaa htab rfl rfl rfl rfl rfl rfl rfl (by first | exact KM | rfl) ?_
  refine pu ?_
  refine pu ?_
  refine Kaj (i := 16) rfl (fun hg6 => ?_) (fun hg6 => ?_)
  ·replace hm := yes_t hg6 hm
   refine p_lit htab rfl rfl rfl rfl rfl rfl rfl rfl rfl rfl rfl rfl rfl rfl ?_
   refine p_eq (i := 17) (d' := .lst 1 (([(ByteArray.mk #[61, 61]), (ByteArray.mk #[33, 61]), (ByteArray.mk #[60, 61]), (ByteArray.mk #[38, 38]), (ByteArray.mk #[124, 124])] : List ByteArray).map eStr) .full) rfl (Wk.lst0 (.cons (WkC.refl _) (.cons (WkC.refl _) (.cons (WkC.refl _) (.cons (WkC.refl _) (.cons (WkC.refl _) (.nil))))))) ?_
   refine pu ?_
   obtain ⟨x7, q7, hm⟩ := Kc hm
   refine p_cut q7 htab rfl rfl rfl rfl rfl rfl rfl rfl rfl rfl rfl rfl rfl ?_
   refine p_toStr htab rfl rfl rfl rfl rfl rfl rfl rfl rfl rfl rfl ?_
   obtain ⟨x8, q8, hm⟩ := Kc hm
   refine KN (Kc4 ([(ByteArray.mk #[61, 61]), (ByteArray.mk #[33, 61]), (ByteArray.mk #[60, 61]), (ByteArray.mk #[38, 38]), (ByteArray.mk #[124, 124])] : List ByteArray) (ByteArray.mk x7.toArray) x8 q8) rfl rfl rfl rfl rfl (WkL.cons (Wk.no) (WkL.cons (Wk.refl _) Wl)) ?_
   rintro _ rfl
   refine K3 rfl rfl rfl rfl rfl rfl ?_
   refine Ky ?_
   have e5 := Ke hm; subst e5
   refine ⟨rfl, ?_⟩
   exact WkX.of () (WkS.perm (WkS.cons rfl (Wk.refl _) (WkS.cons rfl (Wk.refl _) (WkS.nil))) Pf Pf)
  ·replace hm := yes_f hg6 hm
   iterate 5 refine pK ?_
   refine KO rfl rfl rfl rfl rfl rfl ?_
   refine Ky ?_
   have e5 := Ke hm; subst e5
   refine ⟨rfl, ?_⟩
   exact WkX.of () (WkS.perm (WkS.cons rfl (Wk.refl _) (WkS.cons rfl (Wk.refl _) (WkS.nil))) Pf Pf)
 ·intro s5 hw5; clear hm; have hm := ho5; clear q5 ho5
  refine Ka ?_
  refine KQ hw5 (fun z5 => ?_)
  refine Kk rfl (fun hc10 => ?_) (fun hc10 => ?_)
  ·replace hm := yes_t hc10 hm
   exact (KR hm).elim
  ·replace hm := yes_f hc10 hm
   refine Kp ?_
   refine Ka ?_
   refine Kg ?_
   refine Kd ?_
   refine pu ?_
   obtain ⟨x11, q11, hm⟩ := Kc hm
   refine KaD htab rfl rfl rfl rfl rfl rfl rfl rfl rfl rfl (Kz q11) (KG q11) ?_
   refine Kat htab rfl rfl rfl rfl rfl rfl rfl rfl ?_
   refine KN (indexB_ok (ByteArray.mk #[40, 41, 123, 125, 91, 93, 59, 44, 61, 60, 43, 45, 42, 47, 37, 33, 38]) (x11.toNat : Int)) rfl rfl rfl rfl rfl Wl ?_
   rintro _ rfl
   refine pu ?_
   refine Kb ?_
   refine Kk rfl (fun hc12 => ?_) (fun hc12 => ?_)
   ·replace hm := yes_t hc12 hm
    refine Kd ?_
    refine pu ?_
    refine Kb ?_
    refine Kr ?_
    refine Kt ?_
    have er13 := Ke hm; subst er13
    refine rP (t' := [(2, .v (.int .i64 (1 : Int)))]) [0] [] 1 (wC wN) (lT lN) ?_
    exact ⟨rfl, rfl, rfl⟩
   ·replace hm := yes_f hc12 hm
    exact (KR hm).elim
noncomputable def KcQ (m0 : K6) : Option (Int × K6) :=
 ((idx m0.gB m0.gAt).bind fun x1 => ((KeV (IntKind.i32.wrap (x1.toNat : Int))).bind fun x2 => (bif (x2 == (1 : Int)) then some ((0 : Int), (⟨m0.gB, (IntKind.i64.wrap (m0.gAt + (1 : Int))), m0.gL⟩ : K6)) else (bif (x2 == (2 : Int)) then ((KcO m0).bind fun x27 => some (x27.1, x27.2)) else (bif (x2 == (3 : Int)) then ((Kcm m0).bind fun x34 => some (x34.1, x34.2)) else ((KcP m0).bind fun x36 => (bif (x36 == (0 : Int)) then none else ((KbI m0 (3 : Int) x36 (0 : Int)).bind fun x40 => some (x40.1, x40.2)))))))))
theorem Kja (m0 : K6) (o0 : Nat) (T0 : TypeId) (c0_0 : Cap) (k0_2 : Value) (r : Int × K6) (h0 : KcQ m0 = some r) : CallsD Tryz.prog 110 [.ptr o0 0] [(o0, Blk.cells [.lst 1 (m0.gB.map byteD) c0_0, .v (.int .i64 m0.gAt), .lst 4 (m0.gL.map KB) (.cur k0_2)] T0)] [(4, k0_2)] (fun d h k => ∃ y0, d = .v (.int .i64 r.1) ∧ h = [(o0, Blk.cells [.lst 1 (r.2.gB.map byteD) c0_0, .v (.int .i64 r.2.gAt), .lst 4 (r.2.gL.map KB) (.cur y0)] T0)] ∧ k = [(4, y0)]) := by
 have hm := Kw h0
 unfold KcQ at hm
 clear h0
 refine K0 htab Tryz.func110 rfl rfl rfl rfl rfl (fun C => ?_)
 refine Kd ?_
 refine pu ?_
 refine Kb ?_
 refine Kg ?_
 refine Kg ?_
 refine KZ 8 [] [[],[0],[0,1],[0,1,2],[],[4],[4,5],[4,5,6]] [0,1,2,3,4,5,6] [[],[0],[0,1],[0,1,2],[],[4],[4,5],[4,5,6],[0,1,2,3,4,5,6,7],[0,1,2,3,4,5,6,7,8],[0,1,2,3,4,5,6,7,8,9],[0,1,2,3,4,5,6,7,8,9,10]] (by kernel_rfl) (by kernel_rfl) (by kernel_rfl) (by rfl) (by rfl) (by kernel_rfl) ?_
 iterate 7 apply Exists.intro
 intro bs
 iterate 3 refine zep ?_
 refine z_eM rfl rfl (KI 0 htab rfl rfl rfl rfl rfl) rfl rfl rfl rfl rfl rfl ?_
 iterate 3 refine zep ?_
 refine z_qM rfl rfl (KI 0 htab rfl rfl rfl rfl rfl) rfl rfl rfl rfl rfl rfl ?_
 refine z_nil rfl rfl (fun e he => by simp [isAl] at he) ?_
 obtain ⟨x1, q1, hm⟩ := Kc hm
 refine KaD htab rfl rfl rfl rfl rfl rfl rfl rfl rfl rfl (Kz q1) (KG q1) ?_
 refine Kat htab rfl rfl rfl rfl rfl rfl rfl rfl ?_
 refine pu ?_
 obtain ⟨x2, q2, hm⟩ := Kc hm
 refine KN (Kjv (IntKind.i32.wrap (x1.toNat : Int)) x2 q2) rfl rfl rfl rfl rfl Wl ?_
 rintro _ rfl
 refine Kb ?_
 refine KA ?_
 refine Kd ?_
 refine pu ?_
 refine pu ?_
 refine Kb ?_
 refine Kk rfl (fun hc17 => ?_) (fun hc17 => ?_)
 ·replace hm := yes_t hc17 hm
  refine Kd ?_
  iterate 3 refine pu ?_
  refine pL 0 ?_
  iterate 3 refine pu ?_
  refine pS0 (ds' := [.lst 1 (m0.gB.map byteD) c0_0, .v (.int .i64 (IntKind.i64.wrap (m0.gAt + (1 : Int)))), .lst 4 (m0.gL.map KB) (.cur k0_2)]) ?_
  refine KK ?_
  refine pu ?_
  refine Kb ?_
  refine Kr ?_
  refine KE ?_
  refine Kt ?_
  have er18 := Ke hm; subst er18
  refine rP (t' := [(2, .v (.int .i64 (0 : Int)))]) [0] [0] 1 (wC wN) (lT lN) ?_
  exact ⟨k0_2, rfl, rfl, rfl⟩
 ·replace hm := yes_f hc17 hm
  refine Kd ?_
  refine pu ?_
  refine pu ?_
  refine Kb ?_
  refine Kk rfl (fun hc25 => ?_) (fun hc25 => ?_)
  ·replace hm := yes_t hc25 hm
   refine Kd ?_
   refine pu ?_
   obtain ⟨x27, q27, hm⟩ := Kc hm
   refine pG (Ki8 m0 o0 T0 c0_0 k0_2 x27 q27) Wl Pf Pf ?_
   rintro _ _ _ ⟨w26, rfl, rfl, rfl⟩
   refine pu ?_
   refine Kb ?_
   refine Kr ?_
   refine KE ?_
   refine Kt ?_
   have er28 := Ke hm; subst er28
   refine rP (t' := [(2, .v (.int .i64 x27.1))]) [0] [0] 1 (wC wN) (lT lN) ?_
   exact ⟨w26, rfl, rfl, rfl⟩
  ·replace hm := yes_f hc25 hm
   refine Kd ?_
   refine pu ?_
   refine pu ?_
   refine Kb ?_
   refine Kk rfl (fun hc32 => ?_) (fun hc32 => ?_)
   ·replace hm := yes_t hc32 hm
    refine Kd ?_
    refine pu ?_
    obtain ⟨x34, q34, hm⟩ := Kc hm
    refine pG (Kh4 m0 o0 T0 c0_0 k0_2 x34 q34) Wl Pf Pf ?_
    rintro _ _ _ ⟨w33, rfl, rfl, rfl⟩
    refine pu ?_
    refine Kb ?_
    refine Kr ?_
    refine KE ?_
    refine Kt ?_
    have er35 := Ke hm; subst er35
    refine rP (t' := [(2, .v (.int .i64 x34.1))]) [0] [0] 1 (wC wN) (lT lN) ?_
    exact ⟨w33, rfl, rfl, rfl⟩
   ·replace hm := yes_f hc32 hm
    refine Kp ?_
    refine KF ?_
    refine Ka ?_
    refine Kd ?_
    refine pu ?_
    obtain ⟨x36, q36, hm⟩ := Kc hm
    refine pG (Ki9 m0 o0 T0 c0_0 (.cur k0_2) x36 q36) Wl Pf Pf ?_
    rintro _ _ _ ⟨rfl, rfl, rfl⟩
    refine pu ?_
    refine Kb ?_
    refine Kg ?_
    refine Kd ?_
    refine pu ?_
    refine pu ?_
    refine Kb ?_
    refine Kk rfl (fun hc38 => ?_) (fun hc38 => ?_)
    ·replace hm := yes_t hc38 hm
     exact (KR hm).elim
    ·replace hm := yes_f hc38 hm
     refine Kp ?_
     refine Ka ?_
     refine Kd ?_
     refine pu ?_
     refine pu ?_
     obtain ⟨x40, q40, hm⟩ := Kc hm
     refine pG (Kc8 m0 (3 : Int) x36 (0 : Int) o0 T0 c0_0 k0_2 x40 q40) Wl Pf Pf ?_
     rintro _ _ _ ⟨w39, rfl, rfl, rfl⟩
     refine pu ?_
     refine Kb ?_
     refine Kr ?_
     have er41 := Ke hm; subst er41
     refine rP (t' := [(2, .v (.int .i64 x40.1))]) [0] [0] 1 (wC wN) (lT lN) ?_
     exact ⟨w39, rfl, rfl, rfl⟩
noncomputable def KfT (a0 : List UInt8) : Option (List Kac × Int × Int) :=
 (bif (decide ((20000 : Int) < (a0.length : Int))) then none else (Option.bind (α := List UInt8 × Int × List Kac) (loopM (fun (s23 : List UInt8 × Int × List Kac) => (bif (decide (s23.2.1 < (a0.length : Int))) then ((KcQ (⟨s23.1, s23.2.1, s23.2.2⟩ : K6)).bind fun x38 => (bif (x38.1 != (0 : Int)) then none else some (.next (x38.2.gB, x38.2.gAt, x38.2.gL)))) else some (.done (s23.1, s23.2.1, s23.2.2)))) (a0, (0 : Int), ([] : List Kac))) fun y22 => ((app 40 y22.2.2 ([(⟨(0 : Int), ByteArray.empty, (0 : Int), (a0.length : Int)⟩ : Kac)] : List Kac)).bind fun x40 => some (x40, (0 : Int), (0 : Int)))))
theorem KlX (a0 : List UInt8) (r : List Kac × Int × Int) (h0 : KfT a0 = some r) : CallsD Tryz.prog 74 [.lst 1 (a0.map byteD) .no] [] [] (fun d h k => ∃ y0, d = .tup [.lst 4 (r.1.map KB) (.cur y0), .v (.int .i64 r.2.1), .v (.int .i64 r.2.2)] ∧ h = [] ∧ k = [(4, y0)]) := by
 have hm := Kw h0
 unfold KfT at hm
 clear h0
 refine K0 htab Tryz.func74 rfl rfl rfl rfl rfl (fun C => ?_)
 refine Kd ?_
 iterate 3 refine pu ?_
 refine Kb ?_
 refine Kg ?_
 refine Kd ?_
 refine pu ?_
 refine Kaa htab rfl rfl rfl rfl rfl rfl rfl (by first | exact KM | rfl) ?_
 refine pu ?_
 refine Kb ?_
 refine Kk rfl (fun hc2 => ?_) (fun hc2 => ?_)
 ·replace hm := yes_t hc2 hm
  exact (KR hm).elim
 ·replace hm := yes_f hc2 hm
  refine Kp ?_
  refine Ka ?_
  refine Kd ?_
  refine pu ?_
  refine Kdg (r := [.lst 1 (a0.map byteD) .no, .v (.int .i64 (0 : Int)), .lst 1 [] .full]) htab rfl rfl rfl rfl rfl rfl rfl rfl rfl ?_
  refine p_box rfl rfl rfl rfl rfl rfl rfl (fun b3 => ?_)
  refine pu ?_
  refine Kb ?_
  refine Kg ?_
  obtain ⟨y22, q22, ho22⟩ := Kc hm
  refine K5 (Y := Value) (fun z22 => (⟨[(0, .lst 1 (a0.map byteD) .no), (5, .ptr b3 0)], [(b3, Blk.cells [.lst 1 (y22.1.map byteD) .no, .v (.int .i64 y22.2.1), .lst 4 (y22.2.2.map KB) (.cur z22)] 177)], [(4, z22)]⟩ : S)) ?_ ?_
  ·clear hm; have hm := Kw q22
   refine KA ?_
   obtain ⟨u23, hl23, hq23⟩ := yes_m hm
   refine Kav (Y := Value) hl23 (fun s23 z23 => (⟨[(0, .lst 1 (a0.map byteD) .no), (5, .ptr b3 0)], [(b3, Blk.cells [.lst 1 (s23.1.map byteD) .no, .v (.int .i64 s23.2.1), .lst 4 (s23.2.2.map KB) (.cur z23)] 177)], [(4, z23)]⟩ : S)) ?_ ?_
   ·skip
    refine WkX.cellF (off := 2) 4 0 rfl rfl (by first | exact Or.inl rfl | exact Or.inr rfl) (fun w35 => ?_)
    exact WkX.of w35 (WkS.perm (WkS.cons rfl (Wk.refl _) (WkS.cons rfl (Wk.refl _) (WkS.nil))) Pf Pf)
   ·intro G23 s23 z23 hm
    refine Kg ?_
    refine Kd ?_
    iterate 3 refine pu ?_
    refine pL 0 ?_
    refine pu ?_
    refine Kaa htab rfl rfl rfl rfl rfl rfl rfl (by first | exact KM | rfl) ?_
    refine pu ?_
    refine Kb ?_
    refine Kk rfl (fun hc36 => ?_) (fun hc36 => ?_)
    ·replace hm := yes_t hc36 hm
     refine Kp ?_
     refine Ka ?_
     refine KA ?_
     refine Kd ?_
     refine pu ?_
     obtain ⟨x38, q38, hm⟩ := Kc hm
     refine pG (Kja (⟨s23.1, s23.2.1, s23.2.2⟩ : K6) b3 177 .no z23 x38 q38) Wl Pf Pf ?_
     rintro _ _ _ ⟨w37, rfl, rfl, rfl⟩
     refine pu ?_
     refine KK ?_
     refine pu ?_
     refine pu ?_
     refine Kb ?_
     refine Kk rfl (fun hc39 => ?_) (fun hc39 => ?_)
     ·replace hm := yes_t hc39 hm
      exact (KR hm).elim
     ·replace hm := yes_f hc39 hm
      refine Kp ?_
      refine KF ?_
      refine Ka ⟨_, Kam hm, ?_⟩
      exact WkX.of w37 (WkS.perm (WkS.cons rfl (Wk.refl _) (WkS.cons rfl (Wk.refl _) (WkS.nil))) Pf Pf)
    ·replace hm := yes_f hc36 hm
     refine Kad ?_
     refine KC ?_
     have e23 := KP hm; subst e23; clear hm; have hm := hq23
     refine KC ?_
     refine K7 ?_
     have e22 := Ke hm; subst e22
     refine ⟨rfl, ?_⟩
     exact WkX.of z23 (WkS.perm (WkS.cons rfl (Wk.refl _) (WkS.cons rfl (Wk.refl _) (WkS.nil))) Pf Pf)
  ·intro s22 hw22; clear hm; have hm := ho22; clear q22 ho22
   refine Ka ?_
   refine KQ hw22 (fun z22 => ?_)
   refine Kd ?_
   iterate 3 refine pu ?_
   refine pL 0 ?_
   refine pu ?_
   refine Kaa htab rfl rfl rfl rfl rfl rfl rfl (by first | exact KM | rfl) ?_
   refine Kdg (r := [.v (.int .i64 (0 : Int)), .v (.string ByteArray.empty), .v (.int .i64 (0 : Int)), .v (.int .i64 (a0.length : Int))]) htab rfl rfl rfl rfl rfl rfl rfl rfl rfl ?_
   refine p_lit htab rfl rfl rfl rfl rfl rfl rfl rfl rfl rfl rfl rfl rfl rfl ?_
   refine p_eq (i := 36) (d' := .lst 4 (([(⟨(0 : Int), ByteArray.empty, (0 : Int), (a0.length : Int)⟩ : Kac)] : List Kac).map KB) .full) rfl (Wk.lst0 (.cons (WkC.refl _) (.nil))) ?_
   obtain ⟨x40, q40, hm⟩ := Kc hm
   refine Ke3 0 htab rfl rfl rfl rfl rfl rfl rfl rfl rfl rfl rfl rfl rfl rfl rfl rfl rfl (Kb5 q40) (fun v40 => ?_)
   refine Ke4 (i := 37) q40 rfl ?_
   iterate 3 refine pu ?_
   refine Kb ?_
   refine Kr ?_
   have er41 := Ke hm; subst er41
   refine rP (t' := [(2, .lst 4 (x40.map KB) (.cur v40)), (3, .v (.int .i64 (0 : Int))), (4, .v (.int .i64 (0 : Int)))]) [] [0] 0 (wC (wC (wC wN))) (lT (lT (lT lN))) ?_
   exact ⟨v40, rfl, rfl, rfl⟩
structure Ku where
 gL : List Kac
 gAt : Int
 gE : Int
 gVars : Int
 gOpen : Int
noncomputable def Kee (a0 : List Kac) (a1 : Int) : Option (Ku × Bool) :=
 (bif (decide ((0 : Int) ≤ a1)) then some ((⟨a0, a1, (0 : Int), (0 : Int), (0 : Int)⟩ : Ku), (decide (a1 ≤ (a0.length : Int)))) else some ((⟨a0, a1, (0 : Int), (0 : Int), (0 : Int)⟩ : Ku), false))
theorem Kkw (a0 : List Kac) (a1 : Int) (r : Ku × Bool) (h0 : Kee a0 a1 = some r) : CallsD Tryz.prog 75 [.lst 4 (a0.map KB) .no, .v (.int .i64 a1)] [] [] (fun d h k => ∃ y0, d = .tup [.ptr y0 0, .v (.bool r.2)] ∧ h = [(y0, Blk.cells [.lst 4 (r.1.gL.map KB) .no, .v (.int .i64 r.1.gAt), .v (.int .i64 r.1.gE), .v (.int .i64 r.1.gVars), .v (.int .i64 r.1.gOpen)] 139)] ∧ k = []) := by
 have hm := Kw h0
 unfold Kee at hm
 clear h0
 refine K0 htab Tryz.func75 rfl rfl rfl rfl rfl (fun C => ?_)
 refine Kd ?_
 refine pu ?_
 refine pu ?_
 refine KK ?_
 refine pu ?_
 refine pu ?_
 refine Kdg (r := [.lst 4 (a0.map KB) .no, .v (.int .i64 a1), .v (.int .i64 (0 : Int)), .v (.int .i64 (0 : Int)), .v (.int .i64 (0 : Int))]) htab rfl rfl rfl rfl rfl rfl rfl rfl rfl ?_
 refine p_box rfl rfl rfl rfl rfl rfl rfl (fun b1 => ?_)
 iterate 3 refine pu ?_
 refine Kaj (i := 12) rfl (fun hg2 => ?_) (fun hg2 => ?_)
 ·replace hm := yes_t hg2 hm
  refine pu ?_
  refine pu ?_
  refine Kaa htab rfl rfl rfl rfl rfl rfl rfl (by first | exact KM | rfl) ?_
  refine pu ?_
  refine K3 rfl rfl rfl rfl rfl rfl ?_
  refine pu ?_
  refine pu ?_
  refine Kb ?_
  refine Kr ?_
  have er3 := Ke hm; subst er3
  refine rP (t' := [(4, .ptr b1 0), (5, .v (.bool (decide (a1 ≤ (a0.length : Int)))))]) [0] [] 1 (wC (wC wN)) (lT (lT lN)) ?_
  exact ⟨b1, rfl, rfl, rfl⟩
 ·replace hm := yes_f hg2 hm
  iterate 4 refine pK ?_
  refine KO rfl rfl rfl rfl rfl rfl ?_
  refine pu ?_
  refine pu ?_
  refine Kb ?_
  refine Kr ?_
  have er4 := Ke hm; subst er4
  refine rP (t' := [(4, .ptr b1 0), (5, .v (.bool false))]) [0] [] 1 (wC (wC wN)) (lT (lT lN)) ?_
  exact ⟨b1, rfl, rfl, rfl⟩
noncomputable def Kbh (m0 : Ku) (a1 : Int) : Option (Kac) :=
 (bif (decide ((m0.gL.length : Int) ≤ (IntKind.i64.wrap (m0.gAt + a1)))) then none else ((idx m0.gL (IntKind.i64.wrap (m0.gAt + a1))).bind fun x4 => some x4))
theorem KcA (m0 : Ku) (a1 : Int) (o0 : Nat) (T0 : TypeId) (c0_0 : Cap) (r : Kac) (h0 : Kbh m0 a1 = some r) : CallsD Tryz.prog 111 [.ptr o0 0, .v (.int .i64 a1)] [(o0, Blk.cells [.lst 4 (m0.gL.map KB) c0_0, .v (.int .i64 m0.gAt), .v (.int .i64 m0.gE), .v (.int .i64 m0.gVars), .v (.int .i64 m0.gOpen)] T0)] [] (fun d h k => d = KB r ∧ h = [(o0, Blk.cells [.lst 4 (m0.gL.map KB) c0_0, .v (.int .i64 m0.gAt), .v (.int .i64 m0.gE), .v (.int .i64 m0.gVars), .v (.int .i64 m0.gOpen)] T0)] ∧ k = []) := by
 have hm := Kw h0
 unfold Kbh at hm
 clear h0
 refine K0 htab Tryz.func111 rfl rfl rfl rfl rfl (fun C => ?_)
 refine Kd ?_
 refine Kar htab rfl rfl rfl rfl rfl rfl rfl (fun b1 => ?_)
 refine Kb ?_
 refine Kg ?_
 refine Kg ?_
 refine KZ 11 [] [[],[0],[0,1],[0,1,2],[],[0,1,2],[],[6],[6,7],[6,7,8],[6,7,8,9]] [0,1,2,6,7,8,9] [[],[0],[0,1],[0,1,2],[],[0,1,2,3,4],[],[6],[6,7],[6,7,8],[6,7,8,9],[0,1,2,3,4,5,6,7,8,9,10]] (by kernel_rfl) (by kernel_rfl) (by kernel_rfl) (by rfl) (by rfl) (by kernel_rfl) ?_
 iterate 7 apply Exists.intro
 intro bs
 iterate 3 refine zep ?_
 refine z_qM rfl rfl (KI 0 htab rfl rfl rfl rfl rfl) rfl rfl rfl rfl rfl rfl ?_
 refine zqp ?_
 refine zqp ?_
 iterate 3 refine zep ?_
 refine z_eM rfl rfl (KI 0 htab rfl rfl rfl rfl rfl) rfl rfl rfl rfl rfl rfl ?_
 refine z_q rfl rfl (KdF htab rfl rfl rfl rfl (by first | exact KM | rfl)) rfl rfl rfl rfl rfl rfl ?_
 refine z_nil rfl rfl (fun e he => by simp [isAl] at he) ?_
 refine pu ?_
 refine Kb ?_
 refine Kk rfl (fun hc3 => ?_) (fun hc3 => ?_)
 ·replace hm := yes_t hc3 hm
  exact (KR hm).elim
 ·replace hm := yes_f hc3 hm
  refine Kp ?_
  refine Ka ?_
  refine Kg ?_
  refine KZ 10 [] [[],[0],[0,1],[0,1,2],[],[4],[4,5],[4,5,6],[],[4,5,6]] [0,1,2,3,4,5,6] [[],[0],[0,1],[0,1,2],[],[4],[4,5],[4,5,6],[],[4,5,6,7,8],[0,1,2,3,4,5,6,7,8,9],[0,1,2,3,4,5,6,7,8,9,10],[0,1,2,3,4,5,6,7,8,9,10,11]] (by kernel_rfl) (by kernel_rfl) (by kernel_rfl) (by rfl) (by rfl) (by kernel_rfl) ?_
  iterate 7 apply Exists.intro
  intro bs
  iterate 3 refine zep ?_
  refine z_eM rfl rfl (KI 0 htab rfl rfl rfl rfl rfl) rfl rfl rfl rfl rfl rfl ?_
  iterate 3 refine zep ?_
  refine z_qM rfl rfl (KI 0 htab rfl rfl rfl rfl rfl) rfl rfl rfl rfl rfl rfl ?_
  refine zqp ?_
  refine zqp ?_
  refine z_nil rfl rfl (fun e he => by simp [isAl] at he) ?_
  obtain ⟨x4, q4, hm⟩ := Kc hm
  refine KaD htab rfl rfl rfl rfl rfl rfl rfl rfl rfl rfl (Kz q4) (KG q4) ?_
  refine Kat (d := KB x4) htab rfl rfl rfl rfl rfl rfl rfl rfl ?_
  refine pS1 (ds' := [.v (.int .i64 x4.gKind), .v (.string x4.gText), .v (.int .i64 x4.gN), .v (.int .i64 x4.gAt)]) ?_
  refine Kb ?_
  refine Kr ?_
  have er5 := Ke hm; subst er5
  refine rP (t' := [(4, .ptr b1 0)]) [0,0] [] 1 (wC wN) (lC 1 lN) ?_
  exact ⟨rfl, rfl, rfl⟩
noncomputable def KbP (m0 : Ku) (a1 : Int) (a2 : ByteArray) : Option (Bool) :=
 ((Kbh m0 a1).bind fun x1 => (bif (x1.gKind == (3 : Int)) then some (decide (x1.gText = a2)) else some false))
theorem Kd2 (m0 : Ku) (a1 : Int) (a2 : ByteArray) (o0 : Nat) (T0 : TypeId) (c0_0 : Cap) (r : Bool) (h0 : KbP m0 a1 a2 = some r) : CallsD Tryz.prog 118 [.ptr o0 0, .v (.int .i64 a1), .v (.string a2)] [(o0, Blk.cells [.lst 4 (m0.gL.map KB) c0_0, .v (.int .i64 m0.gAt), .v (.int .i64 m0.gE), .v (.int .i64 m0.gVars), .v (.int .i64 m0.gOpen)] T0)] [] (fun d h k => d = .v (.bool r) ∧ h = [(o0, Blk.cells [.lst 4 (m0.gL.map KB) c0_0, .v (.int .i64 m0.gAt), .v (.int .i64 m0.gE), .v (.int .i64 m0.gVars), .v (.int .i64 m0.gOpen)] T0)] ∧ k = []) := by
 have hm := Kw h0
 unfold KbP at hm
 clear h0
 refine K0 htab Tryz.func118 rfl rfl rfl rfl rfl (fun C => ?_)
 refine Kd ?_
 refine pu ?_
 refine KK ?_
 refine pu ?_
 refine pu ?_
 obtain ⟨x1, q1, hm⟩ := Kc hm
 refine pG (KcA m0 a1 o0 T0 c0_0 x1 q1) Wl Pf Pf ?_
 rintro _ _ _ ⟨rfl, rfl, rfl⟩
 refine Kar htab rfl rfl rfl rfl rfl rfl rfl (fun b2 => ?_)
 refine pS1 (ds' := [.v (.int .i64 x1.gKind), .v (.string x1.gText), .v (.int .i64 x1.gN), .v (.int .i64 x1.gAt)]) ?_
 refine KK ?_
 refine pu ?_
 refine pL 1 ?_
 refine pu ?_
 refine pu ?_
 refine Kaj (i := 14) rfl (fun hg3 => ?_) (fun hg3 => ?_)
 ·replace hm := yes_t hg3 hm
  refine pu ?_
  refine pL 1 ?_
  refine pu ?_
  refine pu ?_
  refine K3 rfl rfl rfl rfl rfl rfl ?_
  refine pu ?_
  refine Kb ?_
  refine Kr ?_
  have er4 := Ke hm; subst er4
  refine rP (t' := [(6, .v (.bool (decide (x1.gText = a2))))]) [0] [] 1 (wC wN) (lT lN) ?_
  exact ⟨rfl, rfl, rfl⟩
 ·replace hm := yes_f hg3 hm
  iterate 4 refine pK ?_
  refine KO rfl rfl rfl rfl rfl rfl ?_
  refine pu ?_
  refine Kb ?_
  refine Kr ?_
  have er5 := Ke hm; subst er5
  refine rP (t' := [(6, .v (.bool false))]) [0] [] 1 (wC wN) (lT lN) ?_
  exact ⟨rfl, rfl, rfl⟩
noncomputable def Kbn (m0 : Ku) (a1 : List ByteArray) : Option (Ku) :=
 (Option.bind (α := Int) (loopM (fun (s28 : Int × Int) => (bif (decide (s28.1 < (a1.length : Int))) then ((idx a1 s28.1).bind fun x42 => (bif (m0.gE != (0 : Int)) then none else ((KbP (⟨m0.gL, s28.2, m0.gE, m0.gVars, m0.gOpen⟩ : Ku) (0 : Int) x42).bind fun x44 => (bif (!x44) then none else some (.next ((IntKind.i64.wrap (s28.1 + (1 : Int))), (IntKind.i64.wrap (s28.2 + (1 : Int))))))))) else some (.done s28.2))) ((0 : Int), m0.gAt)) fun y27 => some (⟨m0.gL, y27, m0.gE, m0.gVars, m0.gOpen⟩ : Ku))
theorem KcJ (m0 : Ku) (a1 : List ByteArray) (o0 : Nat) (T0 : TypeId) (c0_0 : Cap) (r : Ku) (h0 : Kbn m0 a1 = some r) : CallsD Tryz.prog 112 [.ptr o0 0, .lst 1 (a1.map eStr) .no] [(o0, Blk.cells [.lst 4 (m0.gL.map KB) c0_0, .v (.int .i64 m0.gAt), .v (.int .i64 m0.gE), .v (.int .i64 m0.gVars), .v (.int .i64 m0.gOpen)] T0)] [] (fun d h k => d = .tup [] ∧ h = [(o0, Blk.cells [.lst 4 (r.gL.map KB) c0_0, .v (.int .i64 r.gAt), .v (.int .i64 r.gE), .v (.int .i64 r.gVars), .v (.int .i64 r.gOpen)] T0)] ∧ k = []) := by
 have hm := Kw h0
 unfold Kbn at hm
 clear h0
 refine K0 htab Tryz.func112 rfl rfl rfl rfl rfl (fun C => ?_)
 refine Kd ?_
 refine pu ?_
 refine Kaa htab rfl rfl rfl rfl rfl rfl rfl (by first | exact KM | rfl) ?_
 refine pu ?_
 refine Kb ?_
 obtain ⟨y27, q27, ho27⟩ := Kc hm
 refine K5 (Y := Unit) (fun z27 => (⟨[], [(o0, Blk.cells [.lst 4 (m0.gL.map KB) c0_0, .v (.int .i64 y27), .v (.int .i64 m0.gE), .v (.int .i64 m0.gVars), .v (.int .i64 m0.gOpen)] T0)], []⟩ : S)) ?_ ?_
 ·clear hm; have hm := Kw q27
  refine KA ?_
  obtain ⟨u28, hl28, hq28⟩ := yes_m hm
  refine Kav (Y := Unit) hl28 (fun s28 z28 => (⟨[(0, .ptr o0 0), (6, .lst 1 (a1.map eStr) .no), (7, .v (.int .i64 (a1.length : Int))), (8, .v (.int .i64 s28.1))], [(o0, Blk.cells [.lst 4 (m0.gL.map KB) c0_0, .v (.int .i64 s28.2), .v (.int .i64 m0.gE), .v (.int .i64 m0.gVars), .v (.int .i64 m0.gOpen)] T0)], []⟩ : S)) ?_ ?_
  ·skip
   exact WkX.of () (WkS.perm (WkS.cons rfl (Wk.refl _) (WkS.cons rfl (Wk.refl _) (WkS.cons rfl (Wk.refl _) (WkS.cons rfl (Wk.refl _) (WkS.nil))))) Pf Pf)
  ·intro G28 s28 z28 hm
   refine Kd ?_
   refine pu ?_
   refine Kb ?_
   refine Kg ?_
   refine Kk rfl (fun hc41 => ?_) (fun hc41 => ?_)
   ·replace hm := yes_t hc41 hm
    refine Kp ?_
    refine Ka ?_
    refine Kg ?_
    refine KA ?_
    refine Kd ?_
    obtain ⟨x42, q42, hm⟩ := Kc hm
    refine KaD htab rfl rfl rfl rfl rfl rfl rfl rfl rfl rfl (Kz q42) (KG q42) ?_
    refine Kat htab rfl rfl rfl rfl rfl rfl rfl rfl ?_
    refine pu ?_
    refine Kb ?_
    refine Kg ?_
    refine KA ?_
    refine Kd ?_
    iterate 3 refine pu ?_
    refine pL 0 ?_
    refine pu ?_
    refine pu ?_
    refine Kb ?_
    refine Kk rfl (fun hc43 => ?_) (fun hc43 => ?_)
    ·replace hm := yes_t hc43 hm
     exact (KR hm).elim
    ·replace hm := yes_f hc43 hm
     refine Kd ?_
     refine pu ?_
     refine pu ?_
     obtain ⟨x44, q44, hm⟩ := Kc hm
     refine pG (Kd2 (⟨m0.gL, s28.2, m0.gE, m0.gVars, m0.gOpen⟩ : Ku) (0 : Int) x42 o0 T0 c0_0 x44 q44) Wl Pf Pf ?_
     rintro _ _ _ ⟨rfl, rfl, rfl⟩
     refine pu ?_
     refine pu ?_
     refine Kb ?_
     refine Kk rfl (fun hc45 => ?_) (fun hc45 => ?_)
     ·replace hm := yes_t hc45 hm
      exact (KR hm).elim
     ·replace hm := yes_f hc45 hm
      refine Kp ?_
      refine KF ?_
      refine Ka ?_
      refine Kx ?_
      iterate 3 refine pu ?_
      refine pL 0 ?_
      iterate 3 refine pu ?_
      refine pS0 (ds' := [.lst 4 (m0.gL.map KB) c0_0, .v (.int .i64 (IntKind.i64.wrap (s28.2 + (1 : Int)))), .v (.int .i64 m0.gE), .v (.int .i64 m0.gVars), .v (.int .i64 m0.gOpen)]) ?_
      refine Ky ?_
      refine KF ?_
      refine Ka ?_
      refine Kx ?_
      refine pu ?_
      refine pu ?_
      refine Ky ?_
      refine Ka ⟨_, Kam hm, ?_⟩
      exact WkX.of () (WkS.perm (WkS.cons rfl (Wk.refl _) (WkS.cons rfl (Wk.refl _) (WkS.cons rfl (Wk.refl _) (WkS.cons rfl (Wk.refl _) (WkS.nil))))) Pf Pf)
   ·replace hm := yes_f hc41 hm
    refine Kad ?_
    refine KC ?_
    have e28 := KP hm; subst e28; clear hm; have hm := hq28
    refine KC ?_
    refine K7 ?_
    have e27 := Ke hm; subst e27
    refine ⟨rfl, ?_⟩
    exact WkX.of () (WkS.perm (WkS.nil) Pf Pf)
 ·intro s27 hw27; clear hm; have hm := ho27; clear q27 ho27
  refine retX.wkX hw27 (fun z27 => ?_)
  have er46 := Ke hm; subst er46
  refine rP (t' := []) [0] [] 1 wN lN ?_
  exact ⟨rfl, rfl, rfl⟩
noncomputable def Kcn (m0 : Ku) : Option (ByteArray × Ku) :=
 (bif (m0.gE != (0 : Int)) then none else ((Kbh m0 (0 : Int)).bind fun x3 => (bif (x3.gKind != (1 : Int)) then none else some (x3.gText, (⟨m0.gL, (IntKind.i64.wrap (m0.gAt + (1 : Int))), m0.gE, m0.gVars, m0.gOpen⟩ : Ku)))))
theorem Kh5 (m0 : Ku) (o0 : Nat) (T0 : TypeId) (c0_0 : Cap) (r : ByteArray × Ku) (h0 : Kcn m0 = some r) : CallsD Tryz.prog 113 [.ptr o0 0] [(o0, Blk.cells [.lst 4 (m0.gL.map KB) c0_0, .v (.int .i64 m0.gAt), .v (.int .i64 m0.gE), .v (.int .i64 m0.gVars), .v (.int .i64 m0.gOpen)] T0)] [] (fun d h k => d = .v (.string r.1) ∧ h = [(o0, Blk.cells [.lst 4 (r.2.gL.map KB) c0_0, .v (.int .i64 r.2.gAt), .v (.int .i64 r.2.gE), .v (.int .i64 r.2.gVars), .v (.int .i64 r.2.gOpen)] T0)] ∧ k = []) := by
 have hm := Kw h0
 unfold Kcn at hm
 clear h0
 refine K0 htab Tryz.func113 rfl rfl rfl rfl rfl (fun C => ?_)
 refine Kd ?_
 refine pu ?_
 refine Kb ?_
 refine Kg ?_
 refine Kd ?_
 iterate 3 refine pu ?_
 refine pL 0 ?_
 refine pu ?_
 refine Kb ?_
 refine Kk rfl (fun hc2 => ?_) (fun hc2 => ?_)
 ·replace hm := yes_t hc2 hm
  exact (KR hm).elim
 ·replace hm := yes_f hc2 hm
  refine Kp ?_
  refine Ka ?_
  refine Kd ?_
  refine pu ?_
  obtain ⟨x3, q3, hm⟩ := Kc hm
  refine pG (KcA m0 (0 : Int) o0 T0 c0_0 x3 q3) Wl Pf Pf ?_
  rintro _ _ _ ⟨rfl, rfl, rfl⟩
  refine Kar htab rfl rfl rfl rfl rfl rfl rfl (fun b4 => ?_)
  refine pS1 (ds' := [.v (.int .i64 x3.gKind), .v (.string x3.gText), .v (.int .i64 x3.gN), .v (.int .i64 x3.gAt)]) ?_
  refine Kb ?_
  refine Kg ?_
  refine Kd ?_
  refine pu ?_
  refine pL 1 ?_
  refine pu ?_
  refine Kb ?_
  refine Kk rfl (fun hc6 => ?_) (fun hc6 => ?_)
  ·replace hm := yes_t hc6 hm
   exact (KR hm).elim
  ·replace hm := yes_f hc6 hm
   refine Kp ?_
   refine Ka ?_
   refine Kd ?_
   iterate 3 refine pu ?_
   refine pL 0 ?_
   iterate 3 refine pu ?_
   refine pS0 (ds' := [.lst 4 (m0.gL.map KB) c0_0, .v (.int .i64 (IntKind.i64.wrap (m0.gAt + (1 : Int)))), .v (.int .i64 m0.gE), .v (.int .i64 m0.gVars), .v (.int .i64 m0.gOpen)]) ?_
   refine KK ?_
   refine pu ?_
   refine pL 1 ?_
   refine pu ?_
   refine Kb ?_
   refine Kr ?_
   have er7 := Ke hm; subst er7
   refine rP (t' := [(2, .v (.string x3.gText))]) [0] [] 1 (wC wN) (lT lN) ?_
   exact ⟨rfl, rfl, rfl⟩
noncomputable def Ka0 (m0 : Ku) (a1 : ByteArray) : Option (Bool × Ku) :=
 (Option.bind (α := Bool) (bif (m0.gE != (0 : Int)) then some true else ((KbP m0 (0 : Int) a1).bind fun x5 => some (!x5))) fun y3 => (bif y3 then some (false, m0) else some (true, (⟨m0.gL, (IntKind.i64.wrap (m0.gAt + (1 : Int))), m0.gE, m0.gVars, m0.gOpen⟩ : Ku))))
theorem KbG (m0 : Ku) (a1 : ByteArray) (o0 : Nat) (T0 : TypeId) (c0_0 : Cap) (r : Bool × Ku) (h0 : Ka0 m0 a1 = some r) : CallsD Tryz.prog 147 [.ptr o0 0, .v (.string a1)] [(o0, Blk.cells [.lst 4 (m0.gL.map KB) c0_0, .v (.int .i64 m0.gAt), .v (.int .i64 m0.gE), .v (.int .i64 m0.gVars), .v (.int .i64 m0.gOpen)] T0)] [] (fun d h k => d = .v (.bool r.1) ∧ h = [(o0, Blk.cells [.lst 4 (r.2.gL.map KB) c0_0, .v (.int .i64 r.2.gAt), .v (.int .i64 r.2.gE), .v (.int .i64 r.2.gVars), .v (.int .i64 r.2.gOpen)] T0)] ∧ k = []) := by
 have hm := Kw h0
 unfold Ka0 at hm
 clear h0
 refine K0 htab Tryz.func147 rfl rfl rfl rfl rfl (fun C => ?_)
 refine Kd ?_
 refine pu ?_
 refine Kb ?_
 refine Kg ?_
 refine Kg ?_
 obtain ⟨y3, q3, ho3⟩ := Kc hm
 refine K5 (Y := Unit) (fun z3 => (⟨[(0, .ptr o0 0), (15, .v (.bool y3))], [(o0, Blk.cells [.lst 4 (m0.gL.map KB) c0_0, .v (.int .i64 m0.gAt), .v (.int .i64 m0.gE), .v (.int .i64 m0.gVars), .v (.int .i64 m0.gOpen)] T0)], []⟩ : S)) ?_ ?_
 ·clear hm; have hm := Kw q3
  refine Kx ?_
  iterate 3 refine pu ?_
  refine pL 0 ?_
  refine pu ?_
  refine pu ?_
  refine Kaj (i := 10) rfl (fun hg4 => ?_) (fun hg4 => ?_)
  ·replace hm := yes_t hg4 hm
   iterate 4 refine pK ?_
   refine K3 rfl rfl rfl rfl rfl rfl ?_
   refine Ky ?_
   have e3 := Ke hm; subst e3
   refine ⟨rfl, ?_⟩
   exact WkX.of () (WkS.perm (WkS.cons rfl (Wk.refl _) (WkS.cons rfl (Wk.refl _) (WkS.nil))) Pf Pf)
  ·replace hm := yes_f hg4 hm
   refine pu ?_
   refine pu ?_
   obtain ⟨x5, q5, hm⟩ := Kc hm
   refine pG (Kd2 m0 (0 : Int) a1 o0 T0 c0_0 x5 q5) Wl Pf Pf ?_
   rintro _ _ _ ⟨rfl, rfl, rfl⟩
   refine pu ?_
   refine KO rfl rfl rfl rfl rfl rfl ?_
   refine Ky ?_
   have e3 := Ke hm; subst e3
   refine ⟨rfl, ?_⟩
   exact WkX.of () (WkS.perm (WkS.cons rfl (Wk.refl _) (WkS.cons rfl (Wk.refl _) (WkS.nil))) Pf Pf)
 ·intro s3 hw3; clear hm; have hm := ho3; clear q3 ho3
  refine Ka ?_
  refine KQ hw3 (fun z3 => ?_)
  refine Kk rfl (fun hc7 => ?_) (fun hc7 => ?_)
  ·replace hm := yes_t hc7 hm
   refine Kd ?_
   refine pu ?_
   refine Kb ?_
   refine Kr ?_
   refine Kt ?_
   have er8 := Ke hm; subst er8
   refine rP (t' := [(4, .v (.bool false))]) [0] [] 1 (wC wN) (lT lN) ?_
   exact ⟨rfl, rfl, rfl⟩
  ·replace hm := yes_f hc7 hm
   refine Kp ?_
   refine Ka ?_
   refine Kd ?_
   iterate 3 refine pu ?_
   refine pL 0 ?_
   iterate 3 refine pu ?_
   refine pS0 (ds' := [.lst 4 (m0.gL.map KB) c0_0, .v (.int .i64 (IntKind.i64.wrap (m0.gAt + (1 : Int)))), .v (.int .i64 m0.gE), .v (.int .i64 m0.gVars), .v (.int .i64 m0.gOpen)]) ?_
   refine KK ?_
   refine pu ?_
   refine Kb ?_
   refine Kr ?_
   have er9 := Ke hm; subst er9
   refine rP (t' := [(4, .v (.bool true))]) [0] [] 1 (wC wN) (lT lN) ?_
   exact ⟨rfl, rfl, rfl⟩
noncomputable def Kcc (m0 : Ku) : Option (List K8 × Ku) :=
 ((Kbn m0 ([(ByteArray.mk #[40])] : List ByteArray)).bind fun x1 => ((Ka0 x1 (ByteArray.mk #[41])).bind fun x2 => (bif x2.1 then some (([] : List K8), x2.2) else none)))
theorem Khz (m0 : Ku) (o0 : Nat) (T0 : TypeId) (c0_0 : Cap) (r : List K8 × Ku) (h0 : Kcc m0 = some r) : CallsD Tryz.prog 114 [.ptr o0 0, .fn (.func 115) [.ptr o0 0] []] [(o0, Blk.cells [.lst 4 (m0.gL.map KB) c0_0, .v (.int .i64 m0.gAt), .v (.int .i64 m0.gE), .v (.int .i64 m0.gVars), .v (.int .i64 m0.gOpen)] T0)] [] (fun d h k => ∃ y0, d = .lst 2 (r.1.map Kj) (.cur y0) ∧ h = [(o0, Blk.cells [.lst 4 (r.2.gL.map KB) c0_0, .v (.int .i64 r.2.gAt), .v (.int .i64 r.2.gE), .v (.int .i64 r.2.gVars), .v (.int .i64 r.2.gOpen)] T0)] ∧ k = [(2, y0)]) := by
 have hm := Kw h0
 unfold Kcc at hm
 clear h0
 refine K0 htab Tryz.func114 rfl rfl rfl rfl rfl (fun C => ?_)
 refine Kd ?_
 refine pu ?_
 refine KK ?_
 refine pu ?_
 refine KK ?_
 refine pu ?_
 refine p_lit htab rfl rfl rfl rfl rfl rfl rfl rfl rfl rfl rfl rfl rfl rfl ?_
 refine p_eq (i := 7) (d' := .lst 1 (([(ByteArray.mk #[40])] : List ByteArray).map eStr) .full) rfl (Wk.lst0 (.cons (WkC.refl _) (.nil))) ?_
 obtain ⟨x1, q1, hm⟩ := Kc hm
 refine Kgd (KcJ m0 ([(ByteArray.mk #[40])] : List ByteArray) o0 T0 c0_0 x1 q1) rfl rfl rfl rfl rfl (WkL.cons (Wk.refl _) (WkL.cons (Wk.no) Wl)) Pf Pf ?_
 rintro _ _ _ ⟨rfl, rfl, rfl⟩
 refine Kb ?_
 refine Kg ?_
 refine Kd ?_
 refine pu ?_
 obtain ⟨x2, q2, hm⟩ := Kc hm
 refine pG (KbG x1 (ByteArray.mk #[41]) o0 T0 c0_0 x2 q2) Wl Pf Pf ?_
 rintro _ _ _ ⟨rfl, rfl, rfl⟩
 refine Kb ?_
 refine Kk rfl (fun hc4 => ?_) (fun hc4 => ?_)
 ·replace hm := yes_t hc4 hm
  refine Kd ?_
  refine pu ?_
  refine pu ?_
  refine Kb ?_
  refine Kr ?_
  refine Kt ?_
  have er5 := Ke hm; subst er5
  refine retX.tokN (i := 4) 2 rfl (fun w6 => ?_)
  refine rP (t' := [(4, .lst 2 (([] : List K8).map Kj) (.cur w6))]) [0] [0] 1 (wC wN) (lT lN) ?_
  exact ⟨w6, rfl, rfl, rfl⟩
 ·replace hm := yes_f hc4 hm
  exact (KR hm).elim
noncomputable def KbD (m2 : Km) (m1 : Ku) : Option (Unit) :=
 (Option.bind (α := Unit) (loopM (fun (s17 : Unit) => (Option.bind (α := Bool) (bif (m1.gE == (0 : Int)) then ((KbP m1 (0 : Int) (ByteArray.mk #[105, 110, 116])).bind fun x29 => some x29) else some false) fun y27 => (bif y27 then none else some (.done ())))) ()) fun y16 => some ())
theorem Kgi (m2 : Km) (m1 : Ku) (o0 : Nat) (T0 : TypeId) (o1 : Nat) (T1 : TypeId) (c1_0 : Cap) (o2 : Nat) (T2 : TypeId) (c2_1 : Cap) (c2_2 : Cap) (c2_3 : Cap) (r : Unit) (h0 : KbD m2 m1 = some r) : CallsD Tryz.prog 117 [.ptr o0 0, .ptr o2 0] [(o0, Blk.cells [.ptr o1 0] T0), (o1, Blk.cells [.lst 4 (m1.gL.map KB) c1_0, .v (.int .i64 m1.gAt), .v (.int .i64 m1.gE), .v (.int .i64 m1.gVars), .v (.int .i64 m1.gOpen)] T1), (o2, Blk.cells [.v (.string m2.gName), .lst 2 (m2.gParams.map Kj) c2_1, .lst 2 (m2.gLocals.map Kj) c2_2, .lst 7 (m2.gBody.map Kf) c2_3, .v (.int .i64 m2.gAt)] T2)] [] (fun d h k => d = .tup [] ∧ h = [(o0, Blk.cells [.ptr o1 0] T0), (o1, Blk.cells [.lst 4 (m1.gL.map KB) c1_0, .v (.int .i64 m1.gAt), .v (.int .i64 m1.gE), .v (.int .i64 m1.gVars), .v (.int .i64 m1.gOpen)] T1), (o2, Blk.cells [.v (.string m2.gName), .lst 2 (m2.gParams.map Kj) c2_1, .lst 2 (m2.gLocals.map Kj) c2_2, .lst 7 (m2.gBody.map Kf) c2_3, .v (.int .i64 m2.gAt)] T2)] ∧ k = []) := by
 have hm := Kw h0
 unfold KbD at hm
 clear h0
 refine K0 htab Tryz.func117 rfl rfl rfl rfl rfl (fun C => ?_)
 obtain ⟨y16, q16, ho16⟩ := Kc hm
 refine K5 (Y := Unit) (fun z16 => (⟨[], [(o0, Blk.cells [.ptr o1 0] T0), (o1, Blk.cells [.lst 4 (m1.gL.map KB) c1_0, .v (.int .i64 m1.gAt), .v (.int .i64 m1.gE), .v (.int .i64 m1.gVars), .v (.int .i64 m1.gOpen)] T1), (o2, Blk.cells [.v (.string m2.gName), .lst 2 (m2.gParams.map Kj) c2_1, .lst 2 (m2.gLocals.map Kj) c2_2, .lst 7 (m2.gBody.map Kf) c2_3, .v (.int .i64 m2.gAt)] T2)], []⟩ : S)) ?_ ?_
 ·clear hm; have hm := Kw q16
  refine KA ?_
  obtain ⟨u17, hl17, hq17⟩ := yes_m hm
  refine Kav (Y := Unit) hl17 (fun s17 z17 => (⟨[(0, .ptr o0 0), (1, .ptr o2 0)], [(o0, Blk.cells [.ptr o1 0] T0), (o1, Blk.cells [.lst 4 (m1.gL.map KB) c1_0, .v (.int .i64 m1.gAt), .v (.int .i64 m1.gE), .v (.int .i64 m1.gVars), .v (.int .i64 m1.gOpen)] T1), (o2, Blk.cells [.v (.string m2.gName), .lst 2 (m2.gParams.map Kj) c2_1, .lst 2 (m2.gLocals.map Kj) c2_2, .lst 7 (m2.gBody.map Kf) c2_3, .v (.int .i64 m2.gAt)] T2)], []⟩ : S)) ?_ ?_
  ·skip
   exact WkX.of () (WkS.perm (WkS.cons rfl (Wk.refl _) (WkS.cons rfl (Wk.refl _) (WkS.nil))) Pf Pf)
  ·intro G17 s17 z17 hm
   refine Kg ?_
   refine Kg ?_
   obtain ⟨y27, q27, ho27⟩ := Kc hm
   refine K5 (Y := Unit) (fun z27 => (⟨[(0, .ptr o0 0), (1, .ptr o2 0), (10, .v (.bool y27))], [(o0, Blk.cells [.ptr o1 0] T0), (o1, Blk.cells [.lst 4 (m1.gL.map KB) c1_0, .v (.int .i64 m1.gAt), .v (.int .i64 m1.gE), .v (.int .i64 m1.gVars), .v (.int .i64 m1.gOpen)] T1), (o2, Blk.cells [.v (.string m2.gName), .lst 2 (m2.gParams.map Kj) c2_1, .lst 2 (m2.gLocals.map Kj) c2_2, .lst 7 (m2.gBody.map Kf) c2_3, .v (.int .i64 m2.gAt)] T2)], []⟩ : S)) ?_ ?_
   ·clear hm; have hm := Kw q27
    refine Kx ?_
    refine pL 0 ?_
    refine pu ?_
    refine pu ?_
    refine pL 1 ?_
    refine pu ?_
    refine pu ?_
    refine Kaj (i := 7) rfl (fun hg28 => ?_) (fun hg28 => ?_)
    ·replace hm := yes_t hg28 hm
     refine pL 0 ?_
     obtain ⟨x29, q29, hm⟩ := Kc hm
     refine pG (Kd2 m1 (0 : Int) (ByteArray.mk #[105, 110, 116]) o1 T1 c1_0 x29 q29) Wl ((Kah (j := 1) rfl).trans (List.Perm.cons _ Pf)) Pf ?_
     rintro _ _ _ ⟨rfl, rfl, rfl⟩
     refine K3 rfl rfl rfl rfl rfl rfl ?_
     refine Ky ?_
     have e27 := Ke hm; subst e27
     refine ⟨rfl, ?_⟩
     exact WkX.of () (WkS.perm (WkS.cons rfl (Wk.refl _) (WkS.cons rfl (Wk.refl _) (WkS.cons rfl (Wk.refl _) (WkS.nil)))) ((Kah (j := 1) rfl).trans (List.Perm.cons _ ((Kah (j := 0) rfl).trans (List.Perm.cons _ ((Kah (j := 0) rfl).trans (List.Perm.cons _ Pf)))))) Pf)
    ·replace hm := yes_f hg28 hm
     refine pK ?_
     refine pK ?_
     refine KO rfl rfl rfl rfl rfl rfl ?_
     refine Ky ?_
     have e27 := Ke hm; subst e27
     refine ⟨rfl, ?_⟩
     exact WkX.of () (WkS.perm (WkS.cons rfl (Wk.refl _) (WkS.cons rfl (Wk.refl _) (WkS.cons rfl (Wk.refl _) (WkS.nil)))) Pf Pf)
   ·intro s27 hw27; clear hm; have hm := ho27; clear q27 ho27
    refine Ka ?_
    refine KQ hw27 (fun z27 => ?_)
    refine Kk rfl (fun hc30 => ?_) (fun hc30 => ?_)
    ·replace hm := yes_t hc30 hm
     exact (KR hm).elim
    ·replace hm := yes_f hc30 hm
     refine Kad ?_
     refine KC ?_
     have e17 := KP hm; subst e17; clear hm; have hm := hq17
     refine KC ?_
     refine K7 ?_
     have e16 := Ke hm; subst e16
     refine ⟨rfl, ?_⟩
     exact WkX.of () (WkS.perm (WkS.nil) Pf Pf)
 ·intro s16 hw16; clear hm; have hm := ho16; clear q16 ho16
  refine retX.wkX hw16 (fun z16 => ?_)
  first | (have er31 := Ke hm; subst er31) | skip
  refine rP (t' := []) [0,0,0] [] 3 wN lN ?_
  exact ⟨rfl, rfl, rfl⟩
structure KS where
 gL : List Kac
 gAt : Int
 gE : Int
noncomputable def Kcg (m0 : KS) : Option (Kac) :=
 (bif (decide ((m0.gL.length : Int) ≤ m0.gAt)) then none else ((idx m0.gL m0.gAt).bind fun x4 => some x4))
theorem KfU (m0 : KS) (o0 : Nat) (T0 : TypeId) (c0_0 : Cap) (r : Kac) (h0 : Kcg m0 = some r) : CallsD Tryz.prog 215 [.ptr o0 0] [(o0, Blk.cells [.lst 4 (m0.gL.map KB) c0_0, .v (.int .i64 m0.gAt), .v (.int .i64 m0.gE)] T0)] [] (fun d h k => d = KB r ∧ h = [(o0, Blk.cells [.lst 4 (m0.gL.map KB) c0_0, .v (.int .i64 m0.gAt), .v (.int .i64 m0.gE)] T0)] ∧ k = []) := by
 have hm := Kw h0
 unfold Kcg at hm
 clear h0
 refine K0 htab Tryz.func215 rfl rfl rfl rfl rfl (fun C => ?_)
 refine Kd ?_
 refine Kar htab rfl rfl rfl rfl rfl rfl rfl (fun b1 => ?_)
 refine Kb ?_
 refine Kg ?_
 refine Kg ?_
 refine KZ 9 [] [[],[0],[0,1],[0,1,2],[],[4],[4,5],[4,5,6],[4,5,6,7]] [0,1,2,4,5,6,7] [[],[0],[0,1],[0,1,2],[],[4],[4,5],[4,5,6],[4,5,6,7],[0,1,2,3,4,5,6,7,8]] (by kernel_rfl) (by kernel_rfl) (by kernel_rfl) (by rfl) (by rfl) (by kernel_rfl) ?_
 iterate 7 apply Exists.intro
 intro bs
 iterate 3 refine zep ?_
 refine z_qM rfl rfl (KI 0 htab rfl rfl rfl rfl rfl) rfl rfl rfl rfl rfl rfl ?_
 iterate 3 refine zep ?_
 refine z_eM rfl rfl (KI 0 htab rfl rfl rfl rfl rfl) rfl rfl rfl rfl rfl rfl ?_
 refine z_q rfl rfl (KdF htab rfl rfl rfl rfl (by first | exact KM | rfl)) rfl rfl rfl rfl rfl rfl ?_
 refine z_nil rfl rfl (fun e he => by simp [isAl] at he) ?_
 refine pu ?_
 refine Kb ?_
 refine Kk rfl (fun hc3 => ?_) (fun hc3 => ?_)
 ·replace hm := yes_t hc3 hm
  exact (KR hm).elim
 ·replace hm := yes_f hc3 hm
  refine Kp ?_
  refine Ka ?_
  refine Kg ?_
  refine KZ 8 [] [[],[0],[0,1],[0,1,2],[],[4],[4,5],[4,5,6]] [0,1,2,3,4,5,6] [[],[0],[0,1],[0,1,2],[],[4],[4,5],[4,5,6],[0,1,2,3,4,5,6,7],[0,1,2,3,4,5,6,7,8],[0,1,2,3,4,5,6,7,8,9]] (by kernel_rfl) (by kernel_rfl) (by kernel_rfl) (by rfl) (by rfl) (by kernel_rfl) ?_
  iterate 7 apply Exists.intro
  intro bs
  iterate 3 refine zep ?_
  refine z_eM rfl rfl (KI 0 htab rfl rfl rfl rfl rfl) rfl rfl rfl rfl rfl rfl ?_
  iterate 3 refine zep ?_
  refine z_qM rfl rfl (KI 0 htab rfl rfl rfl rfl rfl) rfl rfl rfl rfl rfl rfl ?_
  refine z_nil rfl rfl (fun e he => by simp [isAl] at he) ?_
  obtain ⟨x4, q4, hm⟩ := Kc hm
  refine KaD htab rfl rfl rfl rfl rfl rfl rfl rfl rfl rfl (Kz q4) (KG q4) ?_
  refine Kat (d := KB x4) htab rfl rfl rfl rfl rfl rfl rfl rfl ?_
  refine pS1 (ds' := [.v (.int .i64 x4.gKind), .v (.string x4.gText), .v (.int .i64 x4.gN), .v (.int .i64 x4.gAt)]) ?_
  refine Kb ?_
  refine Kr ?_
  have er5 := Ke hm; subst er5
  refine rP (t' := [(2, .ptr b1 0)]) [0,0] [] 1 (wC wN) (lC 1 lN) ?_
  exact ⟨rfl, rfl, rfl⟩
noncomputable def KcR (m0 : KS) : Option (Kh × KS) :=
 ((Kcg m0).bind fun x2 => (bif (m0.gE != (0 : Int)) then none else (bif (x2.gKind == (2 : Int)) then some ((⟨(1 : Int), x2.gN, ByteArray.empty, [], x2.gAt⟩ : Kh), (⟨m0.gL, (IntKind.i64.wrap (m0.gAt + (1 : Int))), m0.gE⟩ : KS)) else none)))
theorem Kjb (m0 : KS) (o0 : Nat) (T0 : TypeId) (c0_0 : Cap) (r : Kh × KS) (h0 : KcR m0 = some r) : CallsD Tryz.prog 214 [.ptr o0 0] [(o0, Blk.cells [.lst 4 (m0.gL.map KB) c0_0, .v (.int .i64 m0.gAt), .v (.int .i64 m0.gE)] T0)] [] (fun d h k => d = Kn r.1 ∧ h = [(o0, Blk.cells [.lst 4 (r.2.gL.map KB) c0_0, .v (.int .i64 r.2.gAt), .v (.int .i64 r.2.gE)] T0)] ∧ k = []) := by
 have hm := Kw h0
 unfold KcR at hm
 clear h0
 refine K0 htab Tryz.func214 rfl rfl rfl rfl rfl (fun C => ?_)
 refine Kd ?_
 refine Kar htab rfl rfl rfl rfl rfl rfl rfl (fun b1 => ?_)
 refine Kb ?_
 refine Kg ?_
 obtain ⟨x2, q2, hm⟩ := Kc hm
 refine KhO 8 [(6, [.v (.int .i64 (0 : Int)), .v (.string ByteArray.empty), .v (.int .i64 (0 : Int)), .v (.int .i64 (0 : Int))], 133)] [(6, 7, [.v (.int .i64 x2.gKind), .v (.string x2.gText), .v (.int .i64 x2.gN), .v (.int .i64 x2.gAt)])] [[],[0],[],[2],[2,3],[2,3,4],[],[0,1,6]] [0,1,2,3,4,6,7] [[],[0],[],[2],[2,3],[2,3,4],[],[0,1,6],[0,1,2,3,4,5,6,7]] (by kernel_rfl) (by kernel_rfl) (by kernel_rfl) (by rfl) (by rfl) (by kernel_rfl) ?_
 iterate 5 apply Exists.intro
 refine ⟨.any, ?_⟩
 refine ⟨.any, ?_⟩
 intro bs
 refine zf_e rfl rfl (Kay htab rfl) rfl rfl rfl rfl rfl rfl rfl ?_
 refine zf_callB 0 rfl rfl (KfU m0 o0 T0 c0_0 x2 q2) rfl rfl Wl rfl rfl rfl rfl rfl rfl rfl rfl ?_
 iterate 3 refine zf_e rfl rfl (Kay htab rfl) rfl rfl rfl rfl rfl rfl rfl ?_
 refine zf_qM rfl rfl (KI 0 htab rfl rfl rfl rfl rfl) rfl rfl rfl rfl rfl rfl ?_
 refine Kg6 rfl htab rfl rfl rfl rfl rfl rfl rfl rfl rfl rfl (by simp [dOf, eI64]) (by simp) ?_
 refine KjY (e := 6) (zs := [.v (.int .i64 (0 : Int)), .v (.string ByteArray.empty), .v (.int .i64 (0 : Int)), .v (.int .i64 (0 : Int))]) (T' := 133) (ds' := [.v (.int .i64 x2.gKind), .v (.string x2.gText), .v (.int .i64 x2.gN), .v (.int .i64 x2.gAt)]) htab rfl rfl rfl rfl rfl rfl rfl rfl rfl (by simp) (by simp) rfl rfl rfl rfl rfl rfl rfl rfl rfl ?_
 refine zf_nil (h' := [(o0, Blk.cells [.lst 4 (m0.gL.map KB) c0_0, .v (.int .i64 m0.gAt), .v (.int .i64 m0.gE)] T0), (b1, Blk.cells [.v (.int .i64 (0 : Int)), .v (.int .i64 (0 : Int)), .v (.string ByteArray.empty), .lst 1 [] .full, .v (.int .i64 (0 : Int))] 166), (bs 6, Blk.cells [.v (.int .i64 x2.gKind), .v (.string x2.gText), .v (.int .i64 x2.gN), .v (.int .i64 x2.gAt)] 133)]) rfl rfl rfl (fun e he => by simp [isAl] at he; subst he; rfl) ?_
 obtain ⟨b3, hb3⟩ : ∃ b, bs 6 = b := ⟨_, rfl⟩
 simp only [hb3]
 clear hb3
 refine pu ?_
 refine Kb ?_
 refine Kg ?_
 refine Kd ?_
 iterate 3 refine pu ?_
 refine pL 0 ?_
 refine pu ?_
 refine Kb ?_
 refine Kk rfl (fun hc5 => ?_) (fun hc5 => ?_)
 ·replace hm := yes_t hc5 hm
  exact (KR hm).elim
 ·replace hm := yes_f hc5 hm
  refine Kp ?_
  refine Ka ?_
  refine Kd ?_
  iterate 3 refine pu ?_
  refine pL 0 ?_
  iterate 3 refine pu ?_
  refine pS0 (ds' := [.lst 4 (m0.gL.map KB) c0_0, .v (.int .i64 (IntKind.i64.wrap (m0.gAt + (1 : Int)))), .v (.int .i64 m0.gE)]) ?_
  refine Kb ?_
  refine Kg ?_
  refine Kd ?_
  refine pu ?_
  refine pL 2 ?_
  refine Kb ?_
  refine KA ?_
  refine Kd ?_
  refine pu ?_
  refine pu ?_
  refine Kb ?_
  refine Kk rfl (fun hc8 => ?_) (fun hc8 => ?_)
  ·replace hm := yes_t hc8 hm
   refine Kd ?_
   refine pu ?_
   refine pL 2 ?_
   refine pu ?_
   refine pL 2 ?_
   refine Kdg (r := [.v (.int .i64 (1 : Int)), .v (.int .i64 x2.gN), .v (.string ByteArray.empty), .lst 1 [] .full, .v (.int .i64 x2.gAt)]) htab rfl rfl rfl rfl rfl rfl rfl rfl rfl ?_
   refine pS1 (ds' := [.v (.int .i64 (1 : Int)), .v (.int .i64 x2.gN), .v (.string ByteArray.empty), .lst 1 [] .full, .v (.int .i64 x2.gAt)]) ?_
   refine Kb ?_
   refine Kr ?_
   refine KE ?_
   refine Kt ?_
   have er9 := Ke hm; subst er9
   refine retX.wk (WkS.bl1 (ds' := [.v (.int .i64 (1 : Int)), .v (.int .i64 x2.gN), .v (.string ByteArray.empty), .lst 5 (([] : List Kh).map Kn) .no, .v (.int .i64 x2.gAt)]) (rC (rC (rC (WkR.cons (WkC.nil) rfl (rC WkR.nil)))))) ?_
   refine rP (t' := [(2, .ptr b1 0)]) [0,0] [] 1 (wC wN) (lC 1 lN) ?_
   exact ⟨by first | rfl | (simp only [wrapD, KD]; done) | (simp only [wrapD, KD]; rfl), rfl, rfl⟩
  ·replace hm := yes_f hc8 hm
   exact (KR hm).elim
noncomputable def Kdo (a0 : ByteArray) (a1 : ByteArray) (a2 : Int) (a3 : ByteArray) (a4 : Int) : Option (Int) :=
 (bif (decide (a0 = a1)) then none else (bif (decide (a0 = a3)) then none else some (0 : Int)))
theorem Kfh (a0 : ByteArray) (a1 : ByteArray) (a2 : Int) (a3 : ByteArray) (a4 : Int) (r : Int) (h0 : Kdo a0 a1 a2 a3 a4 = some r) : CallsD Tryz.prog 221 [.v (.string a0), .v (.string a1), .v (.int .i64 a2), .v (.string a3), .v (.int .i64 a4)] [] [] (fun d h k => d = .v (.int .i64 r) ∧ h = [] ∧ k = []) := by
 have hm := Kw h0
 unfold Kdo at hm
 clear h0
 refine K0 htab Tryz.func221 rfl rfl rfl rfl rfl (fun C => ?_)
 refine Kd ?_
 refine pu ?_
 refine Kb ?_
 refine Kg ?_
 refine Kd ?_
 refine pu ?_
 refine Kb ?_
 refine KA ?_
 refine Kd ?_
 iterate 3 refine pu ?_
 refine Kb ?_
 refine Kk rfl (fun hc1 => ?_) (fun hc1 => ?_)
 ·replace hm := yes_t hc1 hm
  exact (KR hm).elim
 ·replace hm := yes_f hc1 hm
  refine Kd ?_
  iterate 3 refine pu ?_
  refine Kb ?_
  refine Kk rfl (fun hc2 => ?_) (fun hc2 => ?_)
  ·replace hm := yes_t hc2 hm
   exact (KR hm).elim
  ·replace hm := yes_f hc2 hm
   refine Kp ?_
   refine KF ?_
   refine Ka ?_
   refine Kd ?_
   refine pu ?_
   refine Kb ?_
   refine Kr ?_
   have er3 := Ke hm; subst er3
   refine rP (t' := [(10, .v (.int .i64 (0 : Int)))]) [] [] 0 (wC wN) (lT lN) ?_
   exact ⟨rfl, rfl, rfl⟩
noncomputable def Kef (a0 : Int) (a1 : ByteArray) : Option (Int) :=
 (bif (a0 == (0 : Int)) then (bif (decide (a1 = (ByteArray.mk #[124, 124]))) then none else some (0 : Int)) else (bif (a0 == (1 : Int)) then (bif (decide (a1 = (ByteArray.mk #[38, 38]))) then none else some (0 : Int)) else (bif (a0 == (2 : Int)) then ((Kdo a1 (ByteArray.mk #[61, 61]) (14 : Int) (ByteArray.mk #[33, 61]) (15 : Int)).bind fun x8 => some x8) else (bif (a0 == (3 : Int)) then ((Kdo a1 (ByteArray.mk #[60]) (12 : Int) (ByteArray.mk #[60, 61]) (13 : Int)).bind fun x11 => some x11) else (bif (a0 == (4 : Int)) then ((Kdo a1 (ByteArray.mk #[43]) (10 : Int) (ByteArray.mk #[45]) (11 : Int)).bind fun x14 => some x14) else (bif (a0 == (5 : Int)) then (bif (decide (a1 = (ByteArray.mk #[37]))) then none else ((Kdo a1 (ByteArray.mk #[42]) (7 : Int) (ByteArray.mk #[47]) (8 : Int)).bind fun x19 => some x19)) else none))))))
theorem Kkx (a0 : Int) (a1 : ByteArray) (r : Int) (h0 : Kef a0 a1 = some r) : CallsD Tryz.prog 216 [.v (.int .i64 a0), .v (.string a1)] [] [] (fun d h k => d = .v (.int .i64 r) ∧ h = [] ∧ k = []) := by
 have hm := Kw h0
 unfold Kef at hm
 clear h0
 refine K0 htab Tryz.func216 rfl rfl rfl rfl rfl (fun C => ?_)
 refine Kd ?_
 refine pu ?_
 refine Kb ?_
 refine Kg ?_
 refine Kd ?_
 refine pu ?_
 refine Kb ?_
 refine KA ?_
 refine Kd ?_
 refine pu ?_
 refine pu ?_
 refine Kb ?_
 refine Kk rfl (fun hc1 => ?_) (fun hc1 => ?_)
 ·replace hm := yes_t hc1 hm
  refine Kd ?_
  refine pu ?_
  refine pu ?_
  refine Kb ?_
  refine Kk rfl (fun hc2 => ?_) (fun hc2 => ?_)
  ·replace hm := yes_t hc2 hm
   exact (KR hm).elim
  ·replace hm := yes_f hc2 hm
   refine Kp ?_
   refine KF ?_
   refine Ka ?_
   refine Kd ?_
   refine pu ?_
   refine Kb ?_
   refine Kr ?_
   have er3 := Ke hm; subst er3
   refine rP (t' := [(4, .v (.int .i64 (0 : Int)))]) [] [] 0 (wC wN) (lT lN) ?_
   exact ⟨rfl, rfl, rfl⟩
 ·replace hm := yes_f hc1 hm
  refine Kd ?_
  refine pu ?_
  refine pu ?_
  refine Kb ?_
  refine Kk rfl (fun hc4 => ?_) (fun hc4 => ?_)
  ·replace hm := yes_t hc4 hm
   refine Kd ?_
   refine pu ?_
   refine pu ?_
   refine Kb ?_
   refine Kk rfl (fun hc5 => ?_) (fun hc5 => ?_)
   ·replace hm := yes_t hc5 hm
    exact (KR hm).elim
   ·replace hm := yes_f hc5 hm
    refine Kp ?_
    refine KF ?_
    refine Ka ?_
    refine Kd ?_
    refine pu ?_
    refine Kb ?_
    refine Kr ?_
    have er6 := Ke hm; subst er6
    refine rP (t' := [(4, .v (.int .i64 (0 : Int)))]) [] [] 0 (wC wN) (lT lN) ?_
    exact ⟨rfl, rfl, rfl⟩
  ·replace hm := yes_f hc4 hm
   refine Kd ?_
   refine pu ?_
   refine pu ?_
   refine Kb ?_
   refine Kk rfl (fun hc7 => ?_) (fun hc7 => ?_)
   ·replace hm := yes_t hc7 hm
    refine Kd ?_
    refine pu ?_
    obtain ⟨x8, q8, hm⟩ := Kc hm
    refine KN (Kfh a1 (ByteArray.mk #[61, 61]) (14 : Int) (ByteArray.mk #[33, 61]) (15 : Int) x8 q8) rfl rfl rfl rfl rfl Wl ?_
    rintro _ rfl
    refine pu ?_
    refine Kb ?_
    refine Kr ?_
    refine KE ?_
    refine Kt ?_
    have er9 := Ke hm; subst er9
    refine rP (t' := [(4, .v (.int .i64 x8))]) [] [] 0 (wC wN) (lT lN) ?_
    exact ⟨rfl, rfl, rfl⟩
   ·replace hm := yes_f hc7 hm
    refine Kd ?_
    refine pu ?_
    refine pu ?_
    refine Kb ?_
    refine Kk rfl (fun hc10 => ?_) (fun hc10 => ?_)
    ·replace hm := yes_t hc10 hm
     refine Kd ?_
     refine pu ?_
     obtain ⟨x11, q11, hm⟩ := Kc hm
     refine KN (Kfh a1 (ByteArray.mk #[60]) (12 : Int) (ByteArray.mk #[60, 61]) (13 : Int) x11 q11) rfl rfl rfl rfl rfl Wl ?_
     rintro _ rfl
     refine pu ?_
     refine Kb ?_
     refine Kr ?_
     refine KE ?_
     refine Kt ?_
     have er12 := Ke hm; subst er12
     refine rP (t' := [(4, .v (.int .i64 x11))]) [] [] 0 (wC wN) (lT lN) ?_
     exact ⟨rfl, rfl, rfl⟩
    ·replace hm := yes_f hc10 hm
     refine Kd ?_
     refine pu ?_
     refine pu ?_
     refine Kb ?_
     refine Kk rfl (fun hc13 => ?_) (fun hc13 => ?_)
     ·replace hm := yes_t hc13 hm
      refine Kd ?_
      refine pu ?_
      obtain ⟨x14, q14, hm⟩ := Kc hm
      refine KN (Kfh a1 (ByteArray.mk #[43]) (10 : Int) (ByteArray.mk #[45]) (11 : Int) x14 q14) rfl rfl rfl rfl rfl Wl ?_
      rintro _ rfl
      refine pu ?_
      refine Kb ?_
      refine Kr ?_
      refine KE ?_
      refine Kt ?_
      have er15 := Ke hm; subst er15
      refine rP (t' := [(4, .v (.int .i64 x14))]) [] [] 0 (wC wN) (lT lN) ?_
      exact ⟨rfl, rfl, rfl⟩
     ·replace hm := yes_f hc13 hm
      refine Kd ?_
      refine pu ?_
      refine pu ?_
      refine Kb ?_
      refine Kk rfl (fun hc16 => ?_) (fun hc16 => ?_)
      ·replace hm := yes_t hc16 hm
       refine Kg ?_
       refine Kd ?_
       refine pu ?_
       refine pu ?_
       refine Kb ?_
       refine Kk rfl (fun hc18 => ?_) (fun hc18 => ?_)
       ·replace hm := yes_t hc18 hm
        exact (KR hm).elim
       ·replace hm := yes_f hc18 hm
        refine Kp ?_
        refine Ka ?_
        refine Kd ?_
        refine pu ?_
        obtain ⟨x19, q19, hm⟩ := Kc hm
        refine KN (Kfh a1 (ByteArray.mk #[42]) (7 : Int) (ByteArray.mk #[47]) (8 : Int) x19 q19) rfl rfl rfl rfl rfl Wl ?_
        rintro _ rfl
        refine pu ?_
        refine Kb ?_
        refine Kr ?_
        refine KE ?_
        refine Kt ?_
        have er20 := Ke hm; subst er20
        refine rP (t' := [(4, .v (.int .i64 x19))]) [] [] 0 (wC wN) (lT lN) ?_
        exact ⟨rfl, rfl, rfl⟩
      ·replace hm := yes_f hc16 hm
       exact (KR hm).elim
noncomputable def Kbo (g0 : (KS) → (Int) → Option (Kh × KS)) (m0 : KS) (a1 : Int) : Option (Kh × KS) :=
 (bif (a1 == (6 : Int)) then ((KcR m0).bind fun x5 => some (x5.1, x5.2)) else ((g0 m0 (IntKind.i64.wrap (a1 + (1 : Int)))).bind fun x7 => (Option.bind (α := Unit) (loopM (fun (s28 : Unit) => (bif (x7.2.gE == (0 : Int)) then ((Kcg x7.2).bind fun x37 => (bif (x37.gKind == (3 : Int)) then ((Kef a1 x37.gText).bind fun x40 => (bif (x40 == (0 : Int)) then some (.done ()) else none)) else none)) else none)) ()) fun y27 => some (x7.1, x7.2))))
theorem Kis (g0 : (KS) → (Int) → Option (Kh × KS)) (hg0 : ∀ (m0 : KS) (a1 : Int) (o0 : Nat) (T0 : TypeId) (c0_0 : Cap) (r : Kh × KS) (h0 : g0 m0 a1 = some r), CallsD Tryz.prog 209 [.ptr o0 0, .v (.int .i64 a1)] [(o0, Blk.cells [.lst 4 (m0.gL.map KB) c0_0, .v (.int .i64 m0.gAt), .v (.int .i64 m0.gE)] T0)] [] (fun d h k => d = Kn r.1 ∧ h = [(o0, Blk.cells [.lst 4 (r.2.gL.map KB) c0_0, .v (.int .i64 r.2.gAt), .v (.int .i64 r.2.gE)] T0)] ∧ k = [])) (m0 : KS) (a1 : Int) (o0 : Nat) (T0 : TypeId) (c0_0 : Cap) (r : Kh × KS) (h0 : Kbo g0 m0 a1 = some r) : CallsD Tryz.prog 209 [.ptr o0 0, .v (.int .i64 a1)] [(o0, Blk.cells [.lst 4 (m0.gL.map KB) c0_0, .v (.int .i64 m0.gAt), .v (.int .i64 m0.gE)] T0)] [] (fun d h k => d = Kn r.1 ∧ h = [(o0, Blk.cells [.lst 4 (r.2.gL.map KB) c0_0, .v (.int .i64 r.2.gAt), .v (.int .i64 r.2.gE)] T0)] ∧ k = []) := by
 have hm := Kw h0
 unfold Kbo at hm
 clear h0
 refine K0 htab Tryz.func209 rfl rfl rfl rfl rfl (fun C => ?_)
 refine Kd ?_
 refine Kar htab rfl rfl rfl rfl rfl rfl rfl (fun b1 => ?_)
 refine Kb ?_
 refine Kg ?_
 refine Kd ?_
 refine pu ?_
 refine pu ?_
 refine Kb ?_
 refine Kk rfl (fun hc4 => ?_) (fun hc4 => ?_)
 ·replace hm := yes_t hc4 hm
  refine Kd ?_
  refine pu ?_
  obtain ⟨x5, q5, hm⟩ := Kc hm
  refine pG (Kjb m0 o0 T0 c0_0 x5 q5) Wl Pf Pf ?_
  rintro _ _ _ ⟨rfl, rfl, rfl⟩
  refine p_eq (i := 13) rfl (Wk.of_eq (KD x5.1)) ?_
  refine pS1 (ds' := [.v (.int .i64 x5.1.gOp), .v (.int .i64 x5.1.gN), .v (.string x5.1.gName), .lst 5 (x5.1.gKids.map Kn) .no, .v (.int .i64 x5.1.gAt)]) ?_
  refine Kb ?_
  refine Kr ?_
  refine Kt ?_
  have er6 := Ke hm; subst er6
  refine rP (t' := [(4, .ptr b1 0)]) [0,0] [] 1 (wC wN) (lC 1 lN) ?_
  exact ⟨by first | rfl | (simp only [wrapD, KD]; done) | (simp only [wrapD, KD]; rfl), rfl, rfl⟩
 ·replace hm := yes_f hc4 hm
  refine Kp ?_
  refine Ka ?_
  refine Kd ?_
  iterate 3 refine pu ?_
  obtain ⟨x7, q7, hm⟩ := Kc hm
  refine pG (hg0 m0 (IntKind.i64.wrap (a1 + (1 : Int))) o0 T0 c0_0 x7 q7) Wl Pf Pf ?_
  rintro _ _ _ ⟨rfl, rfl, rfl⟩
  refine p_eq (i := 17) rfl (Wk.of_eq (KD x7.1)) ?_
  refine Kar htab rfl rfl rfl rfl rfl rfl rfl (fun b8 => ?_)
  refine pS2 (ds' := [.v (.int .i64 x7.1.gOp), .v (.int .i64 x7.1.gN), .v (.string x7.1.gName), .lst 5 (x7.1.gKids.map Kn) .no, .v (.int .i64 x7.1.gAt)]) ?_
  refine Kb ?_
  refine Kg ?_
  obtain ⟨y27, q27, ho27⟩ := Kc hm
  refine K5 (Y := Unit) (fun z27 => (⟨[(4, .ptr b1 0), (5, .ptr b8 0)], [(o0, Blk.cells [.lst 4 (x7.2.gL.map KB) c0_0, .v (.int .i64 x7.2.gAt), .v (.int .i64 x7.2.gE)] T0), (b1, Blk.cells [.v (.int .i64 (0 : Int)), .v (.int .i64 (0 : Int)), .v (.string ByteArray.empty), .lst 1 [] .full, .v (.int .i64 (0 : Int))] 166), (b8, Blk.cells [.v (.int .i64 x7.1.gOp), .v (.int .i64 x7.1.gN), .v (.string x7.1.gName), .lst 5 (x7.1.gKids.map Kn) .no, .v (.int .i64 x7.1.gAt)] 166)], []⟩ : S)) ?_ ?_
  ·clear hm; have hm := Kw q27
   refine KA ?_
   obtain ⟨u28, hl28, hq28⟩ := yes_m hm
   refine Kav (Y := Unit) hl28 (fun s28 z28 => (⟨[(0, .ptr o0 0), (1, .v (.int .i64 a1)), (4, .ptr b1 0), (5, .ptr b8 0)], [(o0, Blk.cells [.lst 4 (x7.2.gL.map KB) c0_0, .v (.int .i64 x7.2.gAt), .v (.int .i64 x7.2.gE)] T0), (b1, Blk.cells [.v (.int .i64 (0 : Int)), .v (.int .i64 (0 : Int)), .v (.string ByteArray.empty), .lst 1 [] .full, .v (.int .i64 (0 : Int))] 166), (b8, Blk.cells [.v (.int .i64 x7.1.gOp), .v (.int .i64 x7.1.gN), .v (.string x7.1.gName), .lst 5 (x7.1.gKids.map Kn) .no, .v (.int .i64 x7.1.gAt)] 166)], []⟩ : S)) ?_ ?_
   ·skip
    exact WkX.of () (WkS.perm (WkS.cons rfl (Wk.refl _) (WkS.cons rfl (Wk.refl _) (WkS.cons rfl (Wk.refl _) (WkS.cons rfl (Wk.refl _) (WkS.nil))))) Pf Pf)
   ·intro G28 s28 z28 hm
    refine Kg ?_
    refine Kd ?_
    iterate 3 refine pu ?_
    refine pL 0 ?_
    refine pu ?_
    refine Kb ?_
    refine Kk rfl (fun hc36 => ?_) (fun hc36 => ?_)
    ·replace hm := yes_t hc36 hm
     refine Kp ?_
     refine Ka ?_
     refine KA ?_
     refine Kg ?_
     obtain ⟨x37, q37, hm⟩ := Kc hm
     refine KhO 8 [(6, [.v (.int .i64 (0 : Int)), .v (.string ByteArray.empty), .v (.int .i64 (0 : Int)), .v (.int .i64 (0 : Int))], 133)] [(6, 7, [.v (.int .i64 x37.gKind), .v (.string x37.gText), .v (.int .i64 x37.gN), .v (.int .i64 x37.gAt)])] [[],[0],[],[2],[2,3],[2,3,4],[],[0,1,6]] [0,1,2,3,4,6,7] [[],[0],[],[2],[2,3],[2,3,4],[],[0,1,6],[0,1,2,3,4,5,6,7]] (by kernel_rfl) (by kernel_rfl) (by kernel_rfl) (by rfl) (by rfl) (by kernel_rfl) ?_
     iterate 5 apply Exists.intro
     refine ⟨.any, ?_⟩
     refine ⟨.any, ?_⟩
     intro bs
     refine zf_e rfl rfl (Kay htab rfl) rfl rfl rfl rfl rfl rfl rfl ?_
     refine zf_callB 0 rfl rfl (KfU x7.2 o0 T0 c0_0 x37 q37) rfl rfl Wl rfl rfl rfl rfl rfl rfl rfl rfl ?_
     iterate 3 refine zf_e rfl rfl (Kay htab rfl) rfl rfl rfl rfl rfl rfl rfl ?_
     refine zf_qM rfl rfl (KI 0 htab rfl rfl rfl rfl rfl) rfl rfl rfl rfl rfl rfl ?_
     refine Kg6 rfl htab rfl rfl rfl rfl rfl rfl rfl rfl rfl rfl (by simp [dOf, eI64]) (by simp) ?_
     refine KjY (e := 6) (zs := [.v (.int .i64 (0 : Int)), .v (.string ByteArray.empty), .v (.int .i64 (0 : Int)), .v (.int .i64 (0 : Int))]) (T' := 133) (ds' := [.v (.int .i64 x37.gKind), .v (.string x37.gText), .v (.int .i64 x37.gN), .v (.int .i64 x37.gAt)]) htab rfl rfl rfl rfl rfl rfl rfl rfl rfl (by simp) (by simp) rfl rfl rfl rfl rfl rfl rfl rfl rfl ?_
     refine zf_nil (h' := [(o0, Blk.cells [.lst 4 (x7.2.gL.map KB) c0_0, .v (.int .i64 x7.2.gAt), .v (.int .i64 x7.2.gE)] T0), (b1, Blk.cells [.v (.int .i64 (0 : Int)), .v (.int .i64 (0 : Int)), .v (.string ByteArray.empty), .lst 1 [] .full, .v (.int .i64 (0 : Int))] 166), (b8, Blk.cells [.v (.int .i64 x7.1.gOp), .v (.int .i64 x7.1.gN), .v (.string x7.1.gName), .lst 5 (x7.1.gKids.map Kn) .no, .v (.int .i64 x7.1.gAt)] 166), (bs 6, Blk.cells [.v (.int .i64 x37.gKind), .v (.string x37.gText), .v (.int .i64 x37.gN), .v (.int .i64 x37.gAt)] 133)]) rfl rfl rfl (fun e he => by simp [isAl] at he; subst he; rfl) ?_
     obtain ⟨b38, hb38⟩ : ∃ b, bs 6 = b := ⟨_, rfl⟩
     simp only [hb38]
     clear hb38
     refine pu ?_
     refine KK ?_
     refine pu ?_
     refine Kb ?_
     refine Kg ?_
     refine Kd ?_
     refine pu ?_
     refine pL 3 ?_
     refine pu ?_
     refine Kb ?_
     refine Kk rfl (fun hc39 => ?_) (fun hc39 => ?_)
     ·replace hm := yes_t hc39 hm
      refine Kx ?_
      refine pu ?_
      refine pu ?_
      refine pL 3 ?_
      obtain ⟨x40, q40, hm⟩ := Kc hm
      refine KN (Kkx a1 x37.gText x40 q40) rfl rfl rfl rfl rfl Wl ?_
      rintro _ rfl
      refine pu ?_
      refine Kb ?_
      refine Kg ?_
      refine Kd ?_
      refine pu ?_
      refine pu ?_
      refine Kb ?_
      refine Kk rfl (fun hc41 => ?_) (fun hc41 => ?_)
      ·replace hm := yes_t hc41 hm
       refine Kad ?_
       refine KC ?_
       refine KiT rfl ?_
       have e28 := KP hm; subst e28; clear hm; have hm := hq28
       refine KC ?_
       refine K7 ?_
       have e27 := Ke hm; subst e27
       refine ⟨rfl, ?_⟩
       exact WkX.of () (WkS.perm (WkS.cons rfl (Wk.refl _) (WkS.cons rfl (Wk.refl _) (WkS.nil))) Pf Pf)
      ·replace hm := yes_f hc41 hm
       exact (KR hm).elim
     ·replace hm := yes_f hc39 hm
      exact (KR hm).elim
    ·replace hm := yes_f hc36 hm
     exact (KR hm).elim
  ·intro s27 hw27; clear hm; have hm := ho27; clear q27 ho27
   refine Ka ?_
   refine KQ hw27 (fun z27 => ?_)
   refine Kd ?_
   refine Kai (d := .agg [.v (.int .i64 x7.1.gOp), .v (.int .i64 x7.1.gN), .v (.string x7.1.gName), .lst 5 (x7.1.gKids.map Kn) .no, .v (.int .i64 x7.1.gAt)]) 2 htab rfl rfl rfl rfl rfl rfl rfl rfl ?_
   refine pS1 (ds' := [.v (.int .i64 x7.1.gOp), .v (.int .i64 x7.1.gN), .v (.string x7.1.gName), .lst 5 (x7.1.gKids.map Kn) .no, .v (.int .i64 x7.1.gAt)]) ?_
   refine Kb ?_
   refine Kr ?_
   have er42 := Ke hm; subst er42
   refine rP (t' := [(4, .ptr b1 0)]) [0,0] [] 1 (wC wN) (lC 1 lN) ?_
   exact ⟨by first | rfl | (simp only [wrapD, KD]; done) | (simp only [wrapD, KD]; rfl), rfl, rfl⟩
noncomputable def Ka1 : Nat → ((KS) → (Int) → Option (Kh × KS))
 | 0 => (fun _ _ => none)
 | n + 1 => (Kbo ((Ka1 n)))
theorem KfA : ∀ n, (∀ (m0 : KS) (a1 : Int) (o0 : Nat) (T0 : TypeId) (c0_0 : Cap) (r : Kh × KS) (h0 : (Ka1 n) m0 a1 = some r), CallsD Tryz.prog 209 [.ptr o0 0, .v (.int .i64 a1)] [(o0, Blk.cells [.lst 4 (m0.gL.map KB) c0_0, .v (.int .i64 m0.gAt), .v (.int .i64 m0.gE)] T0)] [] (fun d h k => d = Kn r.1 ∧ h = [(o0, Blk.cells [.lst 4 (r.2.gL.map KB) c0_0, .v (.int .i64 r.2.gAt), .v (.int .i64 r.2.gE)] T0)] ∧ k = []))
  | 0 => fun _ _ _ _ _ _ h0 => by cases h0
  | n + 1 => by
    have ih := KfA n
    exact Kis (Ka1 n) ih
theorem KfB : ∀ n, (∀ (m0 : KS) (a1 : Int), Le ((Ka1 n) m0 a1) ((Ka1 (n + 1)) m0 a1))
  | 0 => fun _ _ => Le.none _
  | n + 1 => by
    have ih := KfB n
    exact fun m0 a1 => by show Le (Kbo ((Ka1 n)) m0 a1) (Kbo ((Ka1 (n + 1))) m0 a1); unfold Kbo; repeat (first | exact Le.refl _ | exact ih _ _ | assumption | (refine Le.bind ?_ (fun _ => ?_)) | (refine Le.cond ?_ ?_) | (refine Le.loop (fun _ => ?_)) | (refine Le.elim (fun _ => ?_) (fun _ => ?_)))
noncomputable def Kd3 (m0 : KS) (a1 : Int) : Option (Kh × KS) := anyN fun n => (Ka1 n) m0 a1
theorem Kjx (m0 : KS) (a1 : Int) {r : Kh × KS} (n : Nat) (h : (Ka1 n) m0 a1 = some r) : Kd3 m0 a1 = some r := Kej (fun m => (KfB m) m0 a1) h
theorem Kjy (m0 : KS) (a1 : Int) (o0 : Nat) (T0 : TypeId) (c0_0 : Cap) (r : Kh × KS) (h0 : Kd3 m0 a1 = some r) : CallsD Tryz.prog 209 [.ptr o0 0, .v (.int .i64 a1)] [(o0, Blk.cells [.lst 4 (m0.gL.map KB) c0_0, .v (.int .i64 m0.gAt), .v (.int .i64 m0.gE)] T0)] [] (fun d h k => d = Kn r.1 ∧ h = [(o0, Blk.cells [.lst 4 (r.2.gL.map KB) c0_0, .v (.int .i64 r.2.gAt), .v (.int .i64 r.2.gE)] T0)] ∧ k = []) :=
 let ⟨n, hn⟩ := Kdu h0; (KfA n) m0 a1 o0 T0 c0_0 r hn
noncomputable def KfV (a0 : List Kac) (a1 : Int) : Option (Kh × Int × Int) :=
 (Option.bind (α := Bool) (bif (decide (a1 < (0 : Int))) then some true else some (decide ((a0.length : Int) < a1))) fun y3 => (bif y3 then none else ((Kd3 (⟨a0, a1, (0 : Int)⟩ : KS) (0 : Int)).bind fun x8 => (bif (x8.2.gE != (0 : Int)) then none else some (x8.1, x8.2.gAt, (0 : Int))))))
theorem KlY (a0 : List Kac) (a1 : Int) (r : Kh × Int × Int) (h0 : KfV a0 a1 = some r) : CallsD Tryz.prog 197 [.lst 4 (a0.map KB) .no, .v (.int .i64 a1)] [] [] (fun d h k => d = .tup [Kn r.1, .v (.int .i64 r.2.1), .v (.int .i64 r.2.2)] ∧ h = [] ∧ k = []) := by
 have hm := Kw h0
 unfold KfV at hm
 clear h0
 refine K0 htab Tryz.func197 rfl rfl rfl rfl rfl (fun C => ?_)
 refine Kd ?_
 refine Kar htab rfl rfl rfl rfl rfl rfl rfl (fun b1 => ?_)
 refine pu ?_
 refine pu ?_
 refine Kb ?_
 refine Kg ?_
 refine Kg ?_
 obtain ⟨y3, q3, ho3⟩ := Kc hm
 refine K5 (Y := Unit) (fun z3 => (⟨[(0, .lst 4 (a0.map KB) .no), (1, .v (.int .i64 a1)), (4, .ptr b1 0), (17, .v (.bool y3))], [(b1, Blk.cells [.v (.int .i64 (0 : Int)), .v (.int .i64 (0 : Int)), .v (.string ByteArray.empty), .lst 1 [] .full, .v (.int .i64 (0 : Int))] 166)], []⟩ : S)) ?_ ?_
 ·clear hm; have hm := Kw q3
  refine Kx ?_
  iterate 3 refine pu ?_
  refine Kaj (i := 12) rfl (fun hg4 => ?_) (fun hg4 => ?_)
  ·replace hm := yes_t hg4 hm
   iterate 4 refine pK ?_
   refine K3 rfl rfl rfl rfl rfl rfl ?_
   refine Ky ?_
   have e3 := Ke hm; subst e3
   refine ⟨rfl, ?_⟩
   exact WkX.of () (WkS.perm (WkS.cons rfl (Wk.refl _) (WkS.cons rfl (Wk.refl _) (WkS.cons rfl (Wk.refl _) (WkS.cons rfl (Wk.refl _) (WkS.nil))))) Pf Pf)
  ·replace hm := yes_f hg4 hm
   refine pu ?_
   refine pu ?_
   refine Kaa htab rfl rfl rfl rfl rfl rfl rfl (by first | exact KM | rfl) ?_
   refine pu ?_
   refine KO rfl rfl rfl rfl rfl rfl ?_
   refine Ky ?_
   have e3 := Ke hm; subst e3
   refine ⟨rfl, ?_⟩
   exact WkX.of () (WkS.perm (WkS.cons rfl (Wk.refl _) (WkS.cons rfl (Wk.refl _) (WkS.cons rfl (Wk.refl _) (WkS.cons rfl (Wk.refl _) (WkS.nil))))) Pf Pf)
 ·intro s3 hw3; clear hm; have hm := ho3; clear q3 ho3
  refine Ka ?_
  refine KQ hw3 (fun z3 => ?_)
  refine Kk rfl (fun hc6 => ?_) (fun hc6 => ?_)
  ·replace hm := yes_t hc6 hm
   exact (KR hm).elim
  ·replace hm := yes_f hc6 hm
   refine Kp ?_
   refine Ka ?_
   refine Kd ?_
   refine pu ?_
   refine pu ?_
   refine Kdg (r := [.lst 4 (a0.map KB) .no, .v (.int .i64 a1), .v (.int .i64 (0 : Int))]) htab rfl rfl rfl rfl rfl rfl rfl rfl rfl ?_
   refine p_box rfl rfl rfl rfl rfl rfl rfl (fun b7 => ?_)
   refine pu ?_
   refine KK ?_
   refine pu ?_
   refine KK ?_
   refine pu ?_
   refine pu ?_
   obtain ⟨x8, q8, hm⟩ := Kc hm
   refine KgV (Kjy (⟨a0, a1, (0 : Int)⟩ : KS) (0 : Int) b7 258 .no x8 q8) rfl rfl rfl rfl rfl rfl rfl Wl ((Kah (j := 1) rfl).trans (List.Perm.cons _ Pf)) Pf ?_
   rintro _ _ _ ⟨rfl, rfl, rfl⟩
   refine p_eq (i := 25) rfl (Wk.of_eq (KD x8.1)) ?_
   refine Kar htab rfl rfl rfl rfl rfl rfl rfl (fun b9 => ?_)
   refine pS2 (ds' := [.v (.int .i64 x8.1.gOp), .v (.int .i64 x8.1.gN), .v (.string x8.1.gName), .lst 5 (x8.1.gKids.map Kn) .no, .v (.int .i64 x8.1.gAt)]) ?_
   refine Kb ?_
   refine Kg ?_
   refine Kd ?_
   iterate 3 refine pu ?_
   refine pL 0 ?_
   refine pu ?_
   refine Kb ?_
   refine Kk rfl (fun hc11 => ?_) (fun hc11 => ?_)
   ·replace hm := yes_t hc11 hm
    exact (KR hm).elim
   ·replace hm := yes_f hc11 hm
    refine Kp ?_
    refine Ka ?_
    refine Kg ?_
    refine Klz 6 [] [[],[],[1],[1,2],[1,2,3],[0]] [0,1,2,3,4,5] [[],[],[1],[1,2],[1,2,3],[0],[0,1,2,3,4,5],[0,1,2,3,4,5,6]] 5 (by kernel_rfl) (by kernel_rfl) (by kernel_rfl) (by rfl) (by rfl) (by kernel_rfl) ?_
    refine ⟨[(b7, Blk.cells [.lst 4 (x8.2.gL.map KB) .no, .v (.int .i64 x8.2.gAt), .v (.int .i64 x8.2.gE)] 258), (b1, Blk.cells [.v (.int .i64 x8.1.gOp), .v (.int .i64 x8.1.gN), .v (.string x8.1.gName), .lst 5 (x8.1.gKids.map Kn) .no, .v (.int .i64 x8.1.gAt)] 166), (b9, Blk.cells [.v (.int .i64 x8.1.gOp), .v (.int .i64 x8.1.gN), .v (.string x8.1.gName), .lst 5 (x8.1.gKids.map Kn) .no, .v (.int .i64 x8.1.gAt)] 166)], ?_⟩
    iterate 5 apply Exists.intro
    refine ⟨.any, ?_⟩
    intro bs v12
    refine zh_M rfl rfl (fun _ => KI (d := .agg [.v (.int .i64 x8.1.gOp), .v (.int .i64 x8.1.gN), .v (.string x8.1.gName), .lst 5 (x8.1.gKids.map Kn) .no, .v (.int .i64 x8.1.gAt)]) 2 htab rfl rfl rfl rfl rfl) (offB rfl) rfl rfl rfl rfl rfl rfl rfl rfl ?_
    iterate 3 refine zh_e rfl rfl (Kay htab rfl) rfl rfl rfl rfl rfl rfl rfl rfl ?_
    refine zh_M rfl rfl (fun _ => KI 0 htab rfl rfl rfl rfl rfl) (fun _ => KI 0 htab rfl rfl rfl rfl rfl) rfl rfl rfl rfl rfl rfl rfl rfl ?_
    refine zh_store 1 htab rfl rfl rfl rfl rfl rfl rfl rfl rfl rfl rfl rfl rfl rfl rfl rfl ?_
    refine zh_nil rfl rfl rfl rfl (fun e he => by simp [isAl] at he) ?_
    refine pu ?_
    refine pu ?_
    refine Kb ?_
    refine Kr ?_
    have er13 := Ke hm; subst er13
    refine rP (t' := [(4, .ptr b1 0), (5, .v (.int .i64 x8.2.gAt)), (6, .v (.int .i64 (0 : Int)))]) [1] [] 0 (wC (wC (wC wN))) (lC 0 (lT (lT lN))) ?_
    exact ⟨by first | rfl | (simp only [wrapD, KD]; done) | (simp only [wrapD, KD]; rfl), rfl, rfl⟩
abbrev nlGs2_6 : List (List Nat) := nlD [] [(0,[]),(0,[0]),(2,[1]),(3,[2]),(0,[]),(0,[4]),(6,[5]),(7,[6]),(0,[]),(0,[8]),(10,[9]),(11,[10]),(12,[11]),(8,[8,9,10,11]),(4,[3,4,5,6,8,9,10,11]),(15,[14]),(16,[15]),(17,[]),(17,[]),(0,[]),(17,[16,19]),(21,[20])]
abbrev nlGs2_7 : List (List Nat) := nlD [] [(0,[]),(0,[0]),(2,[1]),(3,[2]),(0,[]),(0,[4]),(6,[5]),(7,[6]),(0,[]),(0,[8]),(10,[9]),(11,[10]),(12,[11]),(8,[7,8,9,10,11,12]),(4,[3,4,5,6,7,8,9,10,11,12,13]),(15,[14]),(16,[15]),(17,[]),(17,[]),(0,[]),(17,[16,19]),(17,[16,17,19,20]),(17,[16,17,18,19,20,21])]
noncomputable def Kco (m0 : Ku) : Option (Kh × Ku) :=
 (bif (m0.gE != (0 : Int)) then none else ((KfV m0.gL (min m0.gAt (m0.gL.length : Int))).bind fun x4 => (bif (x4.2.2 != (0 : Int)) then none else some (x4.1, (⟨m0.gL, x4.2.1, m0.gE, m0.gVars, m0.gOpen⟩ : Ku)))))
theorem Kh6 (m0 : Ku) (o0 : Nat) (T0 : TypeId) (c0_0 : Cap) (r : Kh × Ku) (h0 : Kco m0 = some r) : CallsD Tryz.prog 174 [.ptr o0 0] [(o0, Blk.cells [.lst 4 (m0.gL.map KB) c0_0, .v (.int .i64 m0.gAt), .v (.int .i64 m0.gE), .v (.int .i64 m0.gVars), .v (.int .i64 m0.gOpen)] T0)] [] (fun d h k => d = Kn r.1 ∧ h = [(o0, Blk.cells [.lst 4 (r.2.gL.map KB) c0_0, .v (.int .i64 r.2.gAt), .v (.int .i64 r.2.gE), .v (.int .i64 r.2.gVars), .v (.int .i64 r.2.gOpen)] T0)] ∧ k = []) := by
 have hm := Kw h0
 unfold Kco at hm
 clear h0
 refine K0 htab Tryz.func174 rfl rfl rfl rfl rfl (fun C => ?_)
 refine Kd ?_
 refine Kar htab rfl rfl rfl rfl rfl rfl rfl (fun b1 => ?_)
 refine Kb ?_
 refine Kg ?_
 refine Kd ?_
 iterate 3 refine pu ?_
 refine pL 0 ?_
 refine pu ?_
 refine Kb ?_
 refine Kk rfl (fun hc3 => ?_) (fun hc3 => ?_)
 ·replace hm := yes_t hc3 hm
  exact (KR hm).elim
 ·replace hm := yes_f hc3 hm
  refine Kp ?_
  refine Ka ?_
  refine Kg ?_
  obtain ⟨x4, q4, hm⟩ := Kc hm
  refine KhO 22 [(19, [.v (.int .i64 (0 : Int)), .v (.int .i64 (0 : Int)), .v (.string ByteArray.empty), .lst 1 [] .full, .v (.int .i64 (0 : Int))], 166)] [(19, 20, [.v (.int .i64 x4.1.gOp), .v (.int .i64 x4.1.gN), .v (.string x4.1.gName), .lst 5 (x4.1.gKids.map Kn) .no, .v (.int .i64 x4.1.gAt)])] nlGs2_6 [0,1,2,3,4,5,6,8,9,10,11,14,15,16,19,20] nlGs2_7 (by kernel_rfl) (by kernel_rfl) (by kernel_rfl) (by rfl) (by rfl) (by kernel_rfl) ?_
  iterate 14 apply Exists.intro
  refine ⟨.any, ?_⟩
  refine ⟨.any, ?_⟩
  intro bs
  iterate 3 refine zf_e rfl rfl (Kay htab rfl) rfl rfl rfl rfl rfl rfl rfl ?_
  refine zf_eM rfl rfl (KI 0 htab rfl rfl rfl rfl rfl) rfl rfl rfl rfl rfl rfl rfl ?_
  iterate 3 refine zf_e rfl rfl (Kay htab rfl) rfl rfl rfl rfl rfl rfl rfl ?_
  refine zf_qM rfl rfl (KI 0 htab rfl rfl rfl rfl rfl) rfl rfl rfl rfl rfl rfl ?_
  iterate 3 refine zf_e rfl rfl (Kay htab rfl) rfl rfl rfl rfl rfl rfl rfl ?_
  refine zf_eM rfl rfl (KI 0 htab rfl rfl rfl rfl rfl) rfl rfl rfl rfl rfl rfl rfl ?_
  refine zf_q rfl rfl (KdF htab rfl rfl rfl rfl (by first | exact KM | rfl)) rfl rfl rfl rfl rfl rfl ?_
  refine zf_q rfl rfl (x_min rfl rfl rfl) rfl rfl rfl rfl rfl rfl ?_
  refine zf_call rfl rfl (KlY m0.gL (min m0.gAt (m0.gL.length : Int)) x4 q4) rfl rfl (WkL.cons (Wk.no) (WkL.cons (Wk.refl _) Wl)) rfl rfl rfl rfl rfl rfl rfl ?_
  refine zf_e rfl rfl (Kay htab rfl) rfl rfl rfl rfl rfl rfl rfl ?_
  refine zf_e rfl rfl (Ex.wk (Kay htab rfl) (Wk.of_eq (KD x4.1))) rfl rfl rfl rfl rfl rfl rfl ?_
  refine zf_q rfl rfl (Kay htab rfl) rfl rfl rfl rfl rfl rfl ?_
  refine zf_q rfl rfl (Kay htab rfl) rfl rfl rfl rfl rfl rfl ?_
  refine Kg6 rfl htab rfl rfl rfl rfl rfl rfl rfl rfl rfl rfl (by simp [dOf, eI64]) (by simp) ?_
  refine KjY (e := 19) (zs := [.v (.int .i64 (0 : Int)), .v (.int .i64 (0 : Int)), .v (.string ByteArray.empty), .lst 1 [] .full, .v (.int .i64 (0 : Int))]) (T' := 166) (ds' := [.v (.int .i64 x4.1.gOp), .v (.int .i64 x4.1.gN), .v (.string x4.1.gName), .lst 5 (x4.1.gKids.map Kn) .no, .v (.int .i64 x4.1.gAt)]) htab rfl rfl rfl rfl rfl rfl rfl rfl rfl (by simp) (by simp) rfl rfl rfl rfl rfl rfl rfl rfl rfl ?_
  refine zf_q rfl rfl (Kay htab rfl) rfl rfl rfl rfl rfl rfl ?_
  refine zf_nil (h' := [(o0, Blk.cells [.lst 4 (m0.gL.map KB) c0_0, .v (.int .i64 m0.gAt), .v (.int .i64 m0.gE), .v (.int .i64 m0.gVars), .v (.int .i64 m0.gOpen)] T0), (b1, Blk.cells [.v (.int .i64 (0 : Int)), .v (.int .i64 (0 : Int)), .v (.string ByteArray.empty), .lst 1 [] .full, .v (.int .i64 (0 : Int))] 166), (bs 19, Blk.cells [.v (.int .i64 x4.1.gOp), .v (.int .i64 x4.1.gN), .v (.string x4.1.gName), .lst 5 (x4.1.gKids.map Kn) .no, .v (.int .i64 x4.1.gAt)] 166)]) rfl rfl rfl (fun e he => by simp [isAl] at he; subst he; rfl) ?_
  obtain ⟨b5, hb5⟩ : ∃ b, bs 19 = b := ⟨_, rfl⟩
  simp only [hb5]
  clear hb5
  refine pu ?_
  refine Kb ?_
  refine Kg ?_
  refine Kd ?_
  refine pu ?_
  refine pu ?_
  refine Kb ?_
  refine Kk rfl (fun hc7 => ?_) (fun hc7 => ?_)
  ·replace hm := yes_t hc7 hm
   exact (KR hm).elim
  ·replace hm := yes_f hc7 hm
   refine Kp ?_
   refine Ka ?_
   refine Kd ?_
   iterate 4 refine pu ?_
   refine pS0 (ds' := [.lst 4 (m0.gL.map KB) c0_0, .v (.int .i64 x4.2.1), .v (.int .i64 m0.gE), .v (.int .i64 m0.gVars), .v (.int .i64 m0.gOpen)]) ?_
   refine KK ?_
   refine Kai (d := .agg [.v (.int .i64 x4.1.gOp), .v (.int .i64 x4.1.gN), .v (.string x4.1.gName), .lst 5 (x4.1.gKids.map Kn) .no, .v (.int .i64 x4.1.gAt)]) 2 htab rfl rfl rfl rfl rfl rfl rfl rfl ?_
   refine pS1 (ds' := [.v (.int .i64 x4.1.gOp), .v (.int .i64 x4.1.gN), .v (.string x4.1.gName), .lst 5 (x4.1.gKids.map Kn) .no, .v (.int .i64 x4.1.gAt)]) ?_
   refine Kb ?_
   refine Kr ?_
   have er8 := Ke hm; subst er8
   refine rP (t' := [(2, .ptr b1 0)]) [0,0] [] 1 (wC wN) (lC 1 lN) ?_
   exact ⟨by first | rfl | (simp only [wrapD, KD]; done) | (simp only [wrapD, KD]; rfl), rfl, rfl⟩
noncomputable def Kcp (m0 : Ku) : Option (Ki × Ku) :=
 ((Kbh m0 (0 : Int)).bind fun x2 => (bif (x2.gKind == (1 : Int)) then none else ((Ka0 m0 (ByteArray.mk #[42])).bind fun x6 => (bif x6.1 then none else ((Ka0 x6.2 (ByteArray.mk #[105, 102])).bind fun x8 => (bif x8.1 then none else ((Ka0 x8.2 (ByteArray.mk #[119, 104, 105, 108, 101])).bind fun x10 => (bif x10.1 then none else ((Ka0 x10.2 (ByteArray.mk #[114, 101, 116, 117, 114, 110])).bind fun x12 => (bif x12.1 then ((Kco x12.2).bind fun x14 => ((Kbn x14.2 ([(ByteArray.mk #[59])] : List ByteArray)).bind fun x15 => some ((⟨(8 : Int), ByteArray.empty, ByteArray.empty, ([x14.1] : List Kh), [], [], x2.gAt⟩ : Ki), x15))) else none))))))))))
theorem Kh7 (m0 : Ku) (o0 : Nat) (T0 : TypeId) (c0_0 : Cap) (r : Ki × Ku) (h0 : Kcp m0 = some r) : CallsD Tryz.prog 148 [.ptr o0 0] [(o0, Blk.cells [.lst 4 (m0.gL.map KB) c0_0, .v (.int .i64 m0.gAt), .v (.int .i64 m0.gE), .v (.int .i64 m0.gVars), .v (.int .i64 m0.gOpen)] T0)] [] (fun d h k => d = Kf r.1 ∧ h = [(o0, Blk.cells [.lst 4 (r.2.gL.map KB) c0_0, .v (.int .i64 r.2.gAt), .v (.int .i64 r.2.gE), .v (.int .i64 r.2.gVars), .v (.int .i64 r.2.gOpen)] T0)] ∧ k = []) := by
 have hm := Kw h0
 unfold Kcp at hm
 clear h0
 refine K0 htab Tryz.func148 rfl rfl rfl rfl rfl (fun C => ?_)
 refine Kd ?_
 refine Kar htab rfl rfl rfl rfl rfl rfl rfl (fun b1 => ?_)
 refine KK ?_
 refine pu ?_
 obtain ⟨x2, q2, hm⟩ := Kc hm
 refine pG (KcA m0 (0 : Int) o0 T0 c0_0 x2 q2) Wl Pf Pf ?_
 rintro _ _ _ ⟨rfl, rfl, rfl⟩
 refine Kar htab rfl rfl rfl rfl rfl rfl rfl (fun b3 => ?_)
 refine pS2 (ds' := [.v (.int .i64 x2.gKind), .v (.string x2.gText), .v (.int .i64 x2.gN), .v (.int .i64 x2.gAt)]) ?_
 refine KK ?_
 refine pu ?_
 refine pL 2 ?_
 refine Kdg (r := [.v (.int .i64 (0 : Int)), .v (.string ByteArray.empty), .v (.string ByteArray.empty), .lst 1 [] .full, .lst 1 [] .full, .lst 1 [] .full, .v (.int .i64 x2.gAt)]) htab rfl rfl rfl rfl rfl rfl rfl rfl rfl ?_
 refine Kar htab rfl rfl rfl rfl rfl rfl rfl (fun b4 => ?_)
 refine pS3 (ds' := [.v (.int .i64 (0 : Int)), .v (.string ByteArray.empty), .v (.string ByteArray.empty), .lst 1 [] .full, .lst 1 [] .full, .lst 1 [] .full, .v (.int .i64 x2.gAt)]) ?_
 refine Kb ?_
 refine Kg ?_
 refine KA ?_
 refine Kd ?_
 refine pu ?_
 refine pL 2 ?_
 refine pu ?_
 refine pu ?_
 refine Kb ?_
 refine Kk rfl (fun hc5 => ?_) (fun hc5 => ?_)
 ·replace hm := yes_t hc5 hm
  exact (KR hm).elim
 ·replace hm := yes_f hc5 hm
  refine Kd ?_
  refine pu ?_
  obtain ⟨x6, q6, hm⟩ := Kc hm
  refine pG (KbG m0 (ByteArray.mk #[42]) o0 T0 c0_0 x6 q6) Wl Pf Pf ?_
  rintro _ _ _ ⟨rfl, rfl, rfl⟩
  refine pu ?_
  refine Kb ?_
  refine Kk rfl (fun hc7 => ?_) (fun hc7 => ?_)
  ·replace hm := yes_t hc7 hm
   exact (KR hm).elim
  ·replace hm := yes_f hc7 hm
   refine Kd ?_
   refine pu ?_
   obtain ⟨x8, q8, hm⟩ := Kc hm
   refine pG (KbG x6.2 (ByteArray.mk #[105, 102]) o0 T0 c0_0 x8 q8) Wl Pf Pf ?_
   rintro _ _ _ ⟨rfl, rfl, rfl⟩
   refine pu ?_
   refine Kb ?_
   refine Kk rfl (fun hc9 => ?_) (fun hc9 => ?_)
   ·replace hm := yes_t hc9 hm
    exact (KR hm).elim
   ·replace hm := yes_f hc9 hm
    refine Kd ?_
    refine pu ?_
    obtain ⟨x10, q10, hm⟩ := Kc hm
    refine pG (KbG x8.2 (ByteArray.mk #[119, 104, 105, 108, 101]) o0 T0 c0_0 x10 q10) Wl Pf Pf ?_
    rintro _ _ _ ⟨rfl, rfl, rfl⟩
    refine pu ?_
    refine Kb ?_
    refine Kk rfl (fun hc11 => ?_) (fun hc11 => ?_)
    ·replace hm := yes_t hc11 hm
     exact (KR hm).elim
    ·replace hm := yes_f hc11 hm
     refine Kd ?_
     refine pu ?_
     obtain ⟨x12, q12, hm⟩ := Kc hm
     refine pG (KbG x10.2 (ByteArray.mk #[114, 101, 116, 117, 114, 110]) o0 T0 c0_0 x12 q12) Wl Pf Pf ?_
     rintro _ _ _ ⟨rfl, rfl, rfl⟩
     refine pu ?_
     refine Kb ?_
     refine Kk rfl (fun hc13 => ?_) (fun hc13 => ?_)
     ·replace hm := yes_t hc13 hm
      refine Kd ?_
      refine pu ?_
      obtain ⟨x14, q14, hm⟩ := Kc hm
      refine pG (Kh6 x12.2 o0 T0 c0_0 x14 q14) Wl Pf Pf ?_
      rintro _ _ _ ⟨rfl, rfl, rfl⟩
      refine p_eq (i := 69) rfl (Wk.of_eq (KD x14.1)) ?_
      refine p_lit htab rfl rfl rfl rfl rfl rfl rfl rfl rfl rfl rfl rfl rfl rfl ?_
      refine p_eq (i := 70) (d' := .lst 5 (([x14.1] : List Kh).map Kn) .full) rfl (Wk.lst0 (.cons (WkC.trans (WkC.agg (WkR.refl _)) (WkC.of_eq (KD x14.1).symm)) (.nil))) ?_
      refine pu ?_
      refine pS3 (ds' := [.v (.int .i64 (8 : Int)), .v (.string ByteArray.empty), .v (.string ByteArray.empty), .lst 1 [] .full, .lst 1 [] .full, .lst 1 [] .full, .v (.int .i64 x2.gAt)]) ?_
      refine pu ?_
      refine pS3 (ds' := [.v (.int .i64 (8 : Int)), .v (.string ByteArray.empty), .v (.string ByteArray.empty), .lst 5 (([x14.1] : List Kh).map Kn) .full, .lst 1 [] .full, .lst 1 [] .full, .v (.int .i64 x2.gAt)]) ?_
      refine Kb ?_
      refine Kx ?_
      refine pu ?_
      refine p_lit htab rfl rfl rfl rfl rfl rfl rfl rfl rfl rfl rfl rfl rfl rfl ?_
      refine p_eq (i := 74) (d' := .lst 1 (([(ByteArray.mk #[59])] : List ByteArray).map eStr) .full) rfl (Wk.lst0 (.cons (WkC.refl _) (.nil))) ?_
      obtain ⟨x15, q15, hm⟩ := Kc hm
      refine Kgd (KcJ x14.2 ([(ByteArray.mk #[59])] : List ByteArray) o0 T0 c0_0 x15 q15) rfl rfl rfl rfl rfl (WkL.cons (Wk.refl _) (WkL.cons (Wk.no) Wl)) Pf Pf ?_
      rintro _ _ _ ⟨rfl, rfl, rfl⟩
      refine Ky ?_
      refine KF ?_
      refine Ka ?_
      refine Kd ?_
      refine Kai (d := .agg [.v (.int .i64 (8 : Int)), .v (.string ByteArray.empty), .v (.string ByteArray.empty), .lst 5 (([x14.1] : List Kh).map Kn) .full, .lst 1 [] .full, .lst 1 [] .full, .v (.int .i64 x2.gAt)]) 3 htab rfl rfl rfl rfl rfl rfl rfl rfl ?_
      refine pS1 (ds' := [.v (.int .i64 (8 : Int)), .v (.string ByteArray.empty), .v (.string ByteArray.empty), .lst 5 (([x14.1] : List Kh).map Kn) .full, .lst 1 [] .full, .lst 1 [] .full, .v (.int .i64 x2.gAt)]) ?_
      refine Kb ?_
      refine Kr ?_
      have er16 := Ke hm; subst er16
      refine retX.wk (WkS.bl1 (ds' := [.v (.int .i64 (8 : Int)), .v (.string ByteArray.empty), .v (.string ByteArray.empty), .lst 5 (([x14.1] : List Kh).map Kn) .no, .lst 7 (([] : List Ki).map Kf) .no, .lst 7 (([] : List Ki).map Kf) .no, .v (.int .i64 x2.gAt)]) (rC (rC (rC (rO (WkR.cons (WkC.nil) rfl (WkR.cons (WkC.nil) rfl (rC WkR.nil)))))))) ?_
      refine rP (t' := [(2, .ptr b1 0)]) [0,0] [] 1 (wC wN) (lC 1 lN) ?_
      exact ⟨by first | rfl | (simp only [wrapD, KU]; done) | (simp only [wrapD, KU]; rfl), rfl, rfl⟩
     ·replace hm := yes_f hc13 hm
      exact (KR hm).elim
end Go.Proofs.YtipfljkjjddapaaGreatDoor.Ab
namespace Go.Proofs.YtipfljkjjddapaaGreatDoor.Ab
open Go
set_option linter.all false
noncomputable def Kcd (m0 : Ku) (m2 : Km) : Option (List Ki × Ku) :=
 ((Kbn m0 ([(ByteArray.mk #[123])] : List ByteArray)).bind fun x1 => (bif (decide ((24 : Int) ≤ x1.gOpen)) then none else ((KbD m2 (⟨x1.gL, x1.gAt, x1.gE, x1.gVars, (IntKind.i64.wrap (x1.gOpen + (1 : Int)))⟩ : Ku)).bind fun x4 => (Option.bind (α := List Ki × List Kac × Int × Int × Int × Int) (loopM (fun (s35 : List Ki × List Kac × Int × Int × Int × Int) => (Option.bind (α := Bool × List Kac × Int × Int × Int × Int) (bif (s35.2.2.2.1 == (0 : Int)) then ((Ka0 (⟨s35.2.1, s35.2.2.1, s35.2.2.2.1, s35.2.2.2.2.1, s35.2.2.2.2.2⟩ : Ku) (ByteArray.mk #[125])).bind fun x59 => some ((!x59.1), x59.2.gL, x59.2.gAt, x59.2.gE, x59.2.gVars, x59.2.gOpen)) else some (false, s35.2.1, s35.2.2.1, s35.2.2.2.1, s35.2.2.2.2.1, s35.2.2.2.2.2)) fun y57 => (bif y57.1 then ((Kcp (⟨y57.2.1, y57.2.2.1, y57.2.2.2.1, y57.2.2.2.2.1, y57.2.2.2.2.2⟩ : Ku)).bind fun x61 => ((app 120 s35.1 ([x61.1] : List Ki)).bind fun x62 => some (.next (x62, x61.2.gL, x61.2.gAt, x61.2.gE, x61.2.gVars, x61.2.gOpen)))) else some (.done (s35.1, y57.2.1, y57.2.2.1, y57.2.2.2.1, y57.2.2.2.2.1, y57.2.2.2.2.2))))) (([] : List Ki), x1.gL, x1.gAt, x1.gE, x1.gVars, (IntKind.i64.wrap (x1.gOpen + (1 : Int))))) fun y34 => some (y34.1, (⟨y34.2.1, y34.2.2.1, y34.2.2.2.1, y34.2.2.2.2.1, (IntKind.i64.wrap (y34.2.2.2.2.2 - (1 : Int)))⟩ : Ku))))))
theorem KhA (m0 : Ku) (m2 : Km) (o0 : Nat) (T0 : TypeId) (c0_0 : Cap) (o1 : Nat) (T1 : TypeId) (o2 : Nat) (T2 : TypeId) (c2_1 : Cap) (c2_2 : Cap) (c2_3 : Cap) (r : List Ki × Ku) (h0 : Kcd m0 m2 = some r) : CallsD Tryz.prog 116 [.ptr o0 0, .fn (.func 117) [] [.ptr o1 0, .ptr o2 0]] [(o0, Blk.cells [.lst 4 (m0.gL.map KB) c0_0, .v (.int .i64 m0.gAt), .v (.int .i64 m0.gE), .v (.int .i64 m0.gVars), .v (.int .i64 m0.gOpen)] T0), (o1, Blk.cells [.ptr o0 0] T1), (o2, Blk.cells [.v (.string m2.gName), .lst 2 (m2.gParams.map Kj) c2_1, .lst 2 (m2.gLocals.map Kj) c2_2, .lst 7 (m2.gBody.map Kf) c2_3, .v (.int .i64 m2.gAt)] T2)] [] (fun d h k => ∃ y0, d = .lst 7 (r.1.map Kf) (.cur y0) ∧ h = [(o0, Blk.cells [.lst 4 (r.2.gL.map KB) .no, .v (.int .i64 r.2.gAt), .v (.int .i64 r.2.gE), .v (.int .i64 r.2.gVars), .v (.int .i64 r.2.gOpen)] T0), (o1, Blk.cells [.ptr o0 0] T1), (o2, Blk.cells [.v (.string m2.gName), .lst 2 (m2.gParams.map Kj) c2_1, .lst 2 (m2.gLocals.map Kj) c2_2, .lst 7 (m2.gBody.map Kf) c2_3, .v (.int .i64 m2.gAt)] T2)] ∧ k = [(7, y0)]) := by
 have hm := Kw h0
 unfold Kcd at hm
 clear h0
 refine K0 htab Tryz.func116 rfl rfl rfl rfl rfl (fun C => ?_)
 refine Kd ?_
 refine pu ?_
 refine KK ?_
 iterate 3 refine pu ?_
 refine pL 0 ?_
 refine pu ?_
 refine KK ?_
 refine pu ?_
 refine p_lit htab rfl rfl rfl rfl rfl rfl rfl rfl rfl rfl rfl rfl rfl rfl ?_
 refine p_eq (i := 12) (d' := .lst 1 (([(ByteArray.mk #[123])] : List ByteArray).map eStr) .full) rfl (Wk.lst0 (.cons (WkC.refl _) (.nil))) ?_
 obtain ⟨x1, q1, hm⟩ := Kc hm
 refine Kgd (KcJ m0 ([(ByteArray.mk #[123])] : List ByteArray) o0 T0 c0_0 x1 q1) rfl rfl rfl rfl rfl (WkL.cons (Wk.refl _) (WkL.cons (Wk.no) Wl)) Pf Pf ?_
 rintro _ _ _ ⟨rfl, rfl, rfl⟩
 refine Kb ?_
 refine Kg ?_
 refine Kd ?_
 iterate 3 refine pu ?_
 refine pL 0 ?_
 refine pu ?_
 refine Kb ?_
 refine Kk rfl (fun hc3 => ?_) (fun hc3 => ?_)
 ·replace hm := yes_t hc3 hm
  exact (KR hm).elim
 ·replace hm := yes_f hc3 hm
  refine Kp ?_
  refine Ka ?_
  refine Kd ?_
  iterate 3 refine pu ?_
  refine pL 0 ?_
  iterate 3 refine pu ?_
  refine pS0 (ds' := [.lst 4 (x1.gL.map KB) c0_0, .v (.int .i64 x1.gAt), .v (.int .i64 x1.gE), .v (.int .i64 x1.gVars), .v (.int .i64 (IntKind.i64.wrap (x1.gOpen + (1 : Int))))]) ?_
  refine KK ?_
  refine pu ?_
  obtain ⟨x4, q4, hm⟩ := Kc hm
  refine KgV (Kgi m2 (⟨x1.gL, x1.gAt, x1.gE, x1.gVars, (IntKind.i64.wrap (x1.gOpen + (1 : Int)))⟩ : Ku) o1 T1 o0 T0 c0_0 o2 T2 c2_1 c2_2 c2_3 x4 q4) rfl rfl rfl rfl rfl rfl rfl Wl ((Kah (j := 1) rfl).trans (List.Perm.cons _ ((Kah (j := 0) rfl).trans (List.Perm.cons _ ((Kah (j := 0) rfl).trans (List.Perm.cons _ Pf)))))) Pf ?_
  rintro _ _ _ ⟨rfl, rfl, rfl⟩
  refine KK ?_
  refine pu ?_
  refine Kb ?_
  refine Kg ?_
  obtain ⟨y34, q34, ho34⟩ := Kc hm
  refine K5 (Y := Value) (fun z34 => (⟨[(0, .ptr o0 0), (6, .lst 7 (y34.1.map Kf) (.cur z34))], [(o1, Blk.cells [.ptr o0 0] T1), (o0, Blk.cells [.lst 4 (y34.2.1.map KB) .no, .v (.int .i64 y34.2.2.1), .v (.int .i64 y34.2.2.2.1), .v (.int .i64 y34.2.2.2.2.1), .v (.int .i64 y34.2.2.2.2.2)] T0), (o2, Blk.cells [.v (.string m2.gName), .lst 2 (m2.gParams.map Kj) c2_1, .lst 2 (m2.gLocals.map Kj) c2_2, .lst 7 (m2.gBody.map Kf) c2_3, .v (.int .i64 m2.gAt)] T2)], [(7, z34)]⟩ : S)) ?_ ?_
  ·clear hm; have hm := Kw q34
   refine KA ?_
   obtain ⟨u35, hl35, hq35⟩ := yes_m hm
   refine Kav (Y := Value) hl35 (fun s35 z35 => (⟨[(0, .ptr o0 0), (6, .lst 7 (s35.1.map Kf) (.cur z35))], [(o1, Blk.cells [.ptr o0 0] T1), (o0, Blk.cells [.lst 4 (s35.2.1.map KB) .no, .v (.int .i64 s35.2.2.1), .v (.int .i64 s35.2.2.2.1), .v (.int .i64 s35.2.2.2.2.1), .v (.int .i64 s35.2.2.2.2.2)] T0), (o2, Blk.cells [.v (.string m2.gName), .lst 2 (m2.gParams.map Kj) c2_1, .lst 2 (m2.gLocals.map Kj) c2_2, .lst 7 (m2.gBody.map Kf) c2_3, .v (.int .i64 m2.gAt)] T2)], [(7, z35)]⟩ : S)) ?_ ?_
   ·skip
    refine WkX.tokN (i := 6) 7 rfl (fun w54 => ?_)
    refine WkX.wk (WkS.bl1 (ds' := [.lst 4 (x1.gL.map KB) .no, .v (.int .i64 x1.gAt), .v (.int .i64 x1.gE), .v (.int .i64 x1.gVars), .v (.int .i64 (IntKind.i64.wrap (x1.gOpen + (1 : Int))))]) (rO (rC (rC (rC (rC WkR.nil)))))) ?_
    exact WkX.of w54 (WkS.perm (WkS.cons rfl (Wk.refl _) (WkS.cons rfl (Wk.refl _) (WkS.nil))) Pf Pf)
   ·intro G35 s35 z35 hm
    refine Kg ?_
    refine Kg ?_
    obtain ⟨y57, q57, ho57⟩ := Kc hm
    refine K5 (Y := Unit) (fun z57 => (⟨[(0, .ptr o0 0), (6, .lst 7 (s35.1.map Kf) (.cur z35)), (40, .v (.bool y57.1))], [(o1, Blk.cells [.ptr o0 0] T1), (o0, Blk.cells [.lst 4 (y57.2.1.map KB) .no, .v (.int .i64 y57.2.2.1), .v (.int .i64 y57.2.2.2.1), .v (.int .i64 y57.2.2.2.2.1), .v (.int .i64 y57.2.2.2.2.2)] T0), (o2, Blk.cells [.v (.string m2.gName), .lst 2 (m2.gParams.map Kj) c2_1, .lst 2 (m2.gLocals.map Kj) c2_2, .lst 7 (m2.gBody.map Kf) c2_3, .v (.int .i64 m2.gAt)] T2)], [(7, z35)]⟩ : S)) ?_ ?_
    ·clear hm; have hm := Kw q57
     refine Kx ?_
     iterate 3 refine pu ?_
     refine pL 1 ?_
     refine pu ?_
     refine pu ?_
     refine Kaj (i := 36) rfl (fun hg58 => ?_) (fun hg58 => ?_)
     ·replace hm := yes_t hg58 hm
      refine pu ?_
      obtain ⟨x59, q59, hm⟩ := Kc hm
      refine pG (KbG (⟨s35.2.1, s35.2.2.1, s35.2.2.2.1, s35.2.2.2.2.1, s35.2.2.2.2.2⟩ : Ku) (ByteArray.mk #[125]) o0 T0 .no x59 q59) Wl ((Kah (j := 1) rfl).trans (List.Perm.cons _ Pf)) Pf ?_
      rintro _ _ _ ⟨rfl, rfl, rfl⟩
      refine pu ?_
      refine K3 rfl rfl rfl rfl rfl rfl ?_
      refine Ky ?_
      have e57 := Ke hm; subst e57
      refine ⟨rfl, ?_⟩
      exact WkX.of () (WkS.perm (WkS.cons rfl (Wk.refl _) (WkS.cons rfl (Wk.refl _) (WkS.cons rfl (Wk.refl _) (WkS.nil)))) ((Kah (j := 1) rfl).trans (List.Perm.cons _ ((Kah (j := 0) rfl).trans (List.Perm.cons _ ((Kah (j := 0) rfl).trans (List.Perm.cons _ Pf)))))) Pf)
     ·replace hm := yes_f hg58 hm
      iterate 3 refine pK ?_
      refine KO rfl rfl rfl rfl rfl rfl ?_
      refine Ky ?_
      have e57 := Ke hm; subst e57
      refine ⟨rfl, ?_⟩
      exact WkX.of () (WkS.perm (WkS.cons rfl (Wk.refl _) (WkS.cons rfl (Wk.refl _) (WkS.cons rfl (Wk.refl _) (WkS.nil)))) Pf Pf)
    ·intro s57 hw57; clear hm; have hm := ho57; clear q57 ho57
     refine Ka ?_
     refine KQ hw57 (fun z57 => ?_)
     refine Kk rfl (fun hc60 => ?_) (fun hc60 => ?_)
     ·replace hm := yes_t hc60 hm
      refine Kp ?_
      refine Ka ?_
      refine KA ?_
      refine Kx ?_
      refine pu ?_
      refine pu ?_
      obtain ⟨x61, q61, hm⟩ := Kc hm
      refine pG (Kh7 (⟨y57.2.1, y57.2.2.1, y57.2.2.2.1, y57.2.2.2.2.1, y57.2.2.2.2.2⟩ : Ku) o0 T0 .no x61 q61) Wl ((Kah (j := 1) rfl).trans (List.Perm.cons _ Pf)) Pf ?_
      rintro _ _ _ ⟨rfl, rfl, rfl⟩
      refine p_eq (i := 43) rfl (Wk.of_eq (KU x61.1)) ?_
      refine p_lit htab rfl rfl rfl rfl rfl rfl rfl rfl rfl rfl rfl rfl rfl rfl ?_
      refine p_eq (i := 44) (d' := .lst 7 (([x61.1] : List Ki).map Kf) .full) rfl (Wk.lst0 (.cons (WkC.trans (WkC.agg (WkR.refl _)) (WkC.of_eq (KU x61.1).symm)) (.nil))) ?_
      obtain ⟨x62, q62, hm⟩ := Kc hm
      refine Ke3 0 htab rfl rfl rfl rfl rfl rfl rfl rfl rfl rfl rfl rfl rfl rfl rfl rfl rfl (Kb5 q62) (fun v62 => ?_)
      refine Ke4 (i := 45) q62 rfl ?_
      refine pu ?_
      refine Ky ?_
      refine KF ?_
      refine Ka ⟨_, Kam hm, ?_⟩
      exact WkX.of v62 (WkS.perm (WkS.cons rfl (Wk.refl _) (WkS.cons rfl (Wk.refl _) (WkS.nil))) ((Kah (j := 1) rfl).trans (List.Perm.cons _ ((Kah (j := 0) rfl).trans (List.Perm.cons _ ((Kah (j := 0) rfl).trans (List.Perm.cons _ Pf)))))) Pf)
     ·replace hm := yes_f hc60 hm
      refine Kad ?_
      refine KC ?_
      have e35 := KP hm; subst e35; clear hm; have hm := hq35
      refine KC ?_
      refine K7 ?_
      have e34 := Ke hm; subst e34
      refine ⟨rfl, ?_⟩
      exact WkX.of z35 (WkS.perm (WkS.cons rfl (Wk.refl _) (WkS.cons rfl (Wk.refl _) (WkS.nil))) Pf Pf)
  ·intro s34 hw34; clear hm; have hm := ho34; clear q34 ho34
   refine Ka ?_
   refine KQ hw34 (fun z34 => ?_)
   refine Kd ?_
   iterate 3 refine pu ?_
   refine pL 1 ?_
   iterate 3 refine pu ?_
   refine pS1 (ds' := [.lst 4 (y34.2.1.map KB) .no, .v (.int .i64 y34.2.2.1), .v (.int .i64 y34.2.2.2.1), .v (.int .i64 y34.2.2.2.2.1), .v (.int .i64 (IntKind.i64.wrap (y34.2.2.2.2.2 - (1 : Int))))]) ?_
   refine KK ?_
   refine pu ?_
   refine pu ?_
   refine Kb ?_
   refine Kr ?_
   have er63 := Ke hm; subst er63
   refine rP (t' := [(4, .lst 7 (y34.1.map Kf) (.cur z34))]) [1,0,0] [0] 3 (wC wN) (lT lN) ?_
   exact ⟨z34, rfl, rfl, rfl⟩
noncomputable def Kgu (a0 : Kh) : Option (Int) :=
 (Option.bind (α := Unit) (loopM (fun (s8 : Unit) => (bif (decide ((0 : Int) < (a0.gKids.length : Int))) then none else some (.done ()))) ()) fun y7 => some (1 : Int))
theorem Kma (a0 : Kh) (r : Int) (h0 : Kgu a0 = some r) : CallsD Tryz.prog 149 [Kn a0] [] [] (fun d h k => d = .v (.int .i64 r) ∧ h = [] ∧ k = []) := by
 have hm := Kw h0
 unfold Kgu at hm
 clear h0
 refine K0 htab Tryz.func149 rfl rfl rfl rfl rfl (fun C => ?_)
 refine w_eq (i := 0) rfl (Wk.of_eq (KD a0)) ?_
 refine Kd ?_
 refine p_box rfl rfl rfl rfl rfl rfl rfl (fun b1 => ?_)
 refine pu ?_
 refine KK ?_
 refine pu ?_
 refine Kb ?_
 refine Kg ?_
 refine Kd ?_
 refine pu ?_
 refine pL 0 ?_
 refine Kaa htab rfl rfl rfl rfl rfl rfl rfl (by first | exact KM | rfl) ?_
 refine pu ?_
 refine Kb ?_
 obtain ⟨y7, q7, ho7⟩ := Kc hm
 refine K5 (Y := Unit) (fun z7 => (⟨[(3, .v (.int .i64 (1 : Int)))], [], []⟩ : S)) ?_ ?_
 ·clear hm; have hm := Kw q7
  refine KA ?_
  obtain ⟨u8, hl8, hq8⟩ := yes_m hm
  refine Kav (Y := Unit) hl8 (fun s8 z8 => (⟨[(3, .v (.int .i64 (1 : Int))), (7, .lst 5 (a0.gKids.map Kn) .no), (8, .v (.int .i64 (a0.gKids.length : Int))), (9, .v (.int .i64 (0 : Int)))], [], []⟩ : S)) ?_ ?_
  ·skip
   exact WkX.of () (WkS.perm (WkS.cons rfl (Wk.refl _) (WkS.cons rfl (Wk.refl _) (WkS.cons rfl (Wk.refl _) (WkS.cons rfl (Wk.refl _) (WkS.nil))))) Pf Pf)
  ·intro G8 s8 z8 hm
   refine Kd ?_
   refine pu ?_
   refine Kb ?_
   refine Kg ?_
   refine Kk rfl (fun hc11 => ?_) (fun hc11 => ?_)
   ·replace hm := yes_t hc11 hm
    exact (KR hm).elim
   ·replace hm := yes_f hc11 hm
    refine Kad ?_
    refine KC ?_
    have e8 := KP hm; subst e8; clear hm; have hm := hq8
    refine KC ?_
    refine K7 ?_
    have e7 := Ke hm; subst e7
    refine ⟨rfl, ?_⟩
    exact WkX.of () (WkS.perm (WkS.cons rfl (Wk.refl _) (WkS.nil)) Pf Pf)
 ·intro s7 hw7; clear hm; have hm := ho7; clear q7 ho7
  refine Ka ?_
  refine KQ hw7 (fun z7 => ?_)
  refine Kd ?_
  refine pu ?_
  refine pu ?_
  refine Kb ?_
  refine Kr ?_
  have er12 := Ke hm; subst er12
  refine rP (t' := [(2, .v (.int .i64 (1 : Int)))]) [] [] 0 (wC wN) (lT lN) ?_
  exact ⟨rfl, rfl, rfl⟩
noncomputable def KcD (g0 : (List Ki) → Option (Int)) (a0 : List Ki) : Option (Int) :=
 (Option.bind (α := Int) (loopM (fun (s115 : Int × Int) => (bif (decide (s115.2 < (a0.length : Int))) then ((idx a0 s115.2).bind fun x191 => ((g0 x191.gKids).bind fun x193 => ((g0 x191.gElse).bind fun x194 => (Option.bind (α := Int) (loopM (fun (s211 : Int × Int) => (bif (decide (s211.2 < (x191.gExps.length : Int))) then ((idx x191.gExps s211.2).bind fun x223 => ((Kgu x223).bind fun x225 => some (.next ((IntKind.i64.wrap (s211.1 + x225)), (IntKind.i64.wrap (s211.2 + (1 : Int))))))) else some (.done s211.1))) ((IntKind.i64.wrap (s115.1 + (IntKind.i64.wrap ((IntKind.i64.wrap ((1 : Int) + x193)) + x194)))), (0 : Int))) fun y210 => some (.next (y210, (IntKind.i64.wrap (s115.2 + (1 : Int))))))))) else some (.done s115.1))) ((0 : Int), (0 : Int))) fun y114 => some y114)
theorem Kk1 (g0 : (List Ki) → Option (Int)) (hg0 : ∀ (a0 : List Ki) (r : Int) (h0 : g0 a0 = some r), CallsD Tryz.prog 119 [.lst 7 (a0.map Kf) .no] [] [] (fun d h k => d = .v (.int .i64 r) ∧ h = [] ∧ k = [])) (a0 : List Ki) (r : Int) (h0 : KcD g0 a0 = some r) : CallsD Tryz.prog 119 [.lst 7 (a0.map Kf) .no] [] [] (fun d h k => d = .v (.int .i64 r) ∧ h = [] ∧ k = []) := by
 have hm := Kw h0
 unfold KcD at hm
 clear h0
 refine K0 htab Tryz.func119 rfl rfl rfl rfl rfl (fun C => ?_)
 refine Kd ?_
 refine pu ?_
 refine KK ?_
 refine pu ?_
 refine Kb ?_
 refine Kg ?_
 refine Kd ?_
 refine pu ?_
 refine Kaa htab rfl rfl rfl rfl rfl rfl rfl (by first | exact KM | rfl) ?_
 refine pu ?_
 refine Kb ?_
 obtain ⟨y114, q114, ho114⟩ := Kc hm
 refine K5 (Y := Unit) (fun z114 => (⟨[(3, .v (.int .i64 y114))], [], []⟩ : S)) ?_ ?_
 ·clear hm; have hm := Kw q114
  refine KA ?_
  obtain ⟨u115, hl115, hq115⟩ := yes_m hm
  refine Kav (Y := Unit) hl115 (fun s115 z115 => (⟨[(3, .v (.int .i64 s115.1)), (8, .lst 7 (a0.map Kf) .no), (9, .v (.int .i64 (a0.length : Int))), (10, .v (.int .i64 s115.2))], [], []⟩ : S)) ?_ ?_
  ·skip
   exact WkX.of () (WkS.perm (WkS.cons rfl (Wk.refl _) (WkS.cons rfl (Wk.refl _) (WkS.cons rfl (Wk.refl _) (WkS.cons rfl (Wk.refl _) (WkS.nil))))) Pf Pf)
  ·intro G115 s115 z115 hm
   refine Kd ?_
   refine pu ?_
   refine Kb ?_
   refine Kg ?_
   refine Kk rfl (fun hc190 => ?_) (fun hc190 => ?_)
   ·replace hm := yes_t hc190 hm
    refine Kp ?_
    refine Ka ?_
    refine Kg ?_
    refine KA ?_
    refine Kd ?_
    obtain ⟨x191, q191, hm⟩ := Kc hm
    refine KaD htab rfl rfl rfl rfl rfl rfl rfl rfl rfl rfl (Kz q191) (KG q191) ?_
    refine p_eq (i := 12) rfl (Wk.of_eq (congrArg D.el (KU x191))) ?_
    refine Kat (d := .agg [.v (.int .i64 x191.gOp), .v (.string x191.gName), .v (.string x191.gFunc), .lst 5 (x191.gExps.map Kn) .no, .lst 7 (x191.gKids.map Kf) .no, .lst 7 (x191.gElse.map Kf) .no, .v (.int .i64 x191.gAt)]) htab rfl rfl rfl rfl rfl rfl rfl rfl ?_
    refine Kar htab rfl rfl rfl rfl rfl rfl rfl (fun b192 => ?_)
    refine pS0 (ds' := [.v (.int .i64 x191.gOp), .v (.string x191.gName), .v (.string x191.gFunc), .lst 5 (x191.gExps.map Kn) .no, .lst 7 (x191.gKids.map Kf) .no, .lst 7 (x191.gElse.map Kf) .no, .v (.int .i64 x191.gAt)]) ?_
    refine Kb ?_
    refine Kg ?_
    obtain ⟨x193, q193, hm⟩ := Kc hm
    obtain ⟨x194, q194, hm⟩ := Kc hm
    refine KZ 9 [] [[],[],[1],[1,2],[1,2,3],[],[5],[1,2,3,5,6],[1,2,3,5,6,7]] [1,2,3,5,6,7] [[],[],[1],[1,2],[1,2,3],[],[5],[1,2,3,5,6],[1,2,3,4,5,6,7],[0,1,2,3,4,5,6,7,8],[0,1,2,3,4,5,6,7,8,9]] (by kernel_rfl) (by kernel_rfl) (by kernel_rfl) (by rfl) (by rfl) (by kernel_rfl) ?_
    iterate 6 apply Exists.intro
    intro bs
    refine zqp ?_
    refine zep ?_
    refine z_eM rfl rfl (KI 0 htab rfl rfl rfl rfl rfl) rfl rfl rfl rfl rfl rfl ?_
    refine Kbj rfl rfl (hg0 x191.gKids x193 q193) rfl rfl Wl rfl rfl rfl rfl rfl rfl ?_
    refine zqp ?_
    refine zep ?_
    refine z_eM rfl rfl (KI 0 htab rfl rfl rfl rfl rfl) rfl rfl rfl rfl rfl rfl ?_
    refine Kbj rfl rfl (hg0 x191.gElse x194 q194) rfl rfl Wl rfl rfl rfl rfl rfl rfl ?_
    refine zqp ?_
    refine z_nil rfl rfl (fun e he => by simp [isAl] at he) ?_
    refine pu ?_
    refine pu ?_
    refine KK ?_
    refine pu ?_
    refine pL 0 ?_
    refine Kaa htab rfl rfl rfl rfl rfl rfl rfl (by first | exact KM | rfl) ?_
    refine pu ?_
    refine Kb ?_
    obtain ⟨y210, q210, ho210⟩ := Kc hm
    refine K5 (Y := Unit) (fun z210 => (⟨[(3, .v (.int .i64 y210)), (8, .lst 7 (a0.map Kf) .no), (9, .v (.int .i64 (a0.length : Int))), (10, .v (.int .i64 s115.2))], [], []⟩ : S)) ?_ ?_
    ·clear hm; have hm := Kw q210
     refine KA ?_
     obtain ⟨u211, hl211, hq211⟩ := yes_m hm
     refine Kav (Y := Unit) hl211 (fun s211 z211 => (⟨[(3, .v (.int .i64 s211.1)), (8, .lst 7 (a0.map Kf) .no), (9, .v (.int .i64 (a0.length : Int))), (10, .v (.int .i64 s115.2)), (25, .lst 5 (x191.gExps.map Kn) .no), (26, .v (.int .i64 (x191.gExps.length : Int))), (27, .v (.int .i64 s211.2))], [], []⟩ : S)) ?_ ?_
     ·skip
      exact WkX.of () (WkS.perm (WkS.cons rfl (Wk.refl _) (WkS.cons rfl (Wk.refl _) (WkS.cons rfl (Wk.refl _) (WkS.cons rfl (Wk.refl _) (WkS.cons rfl (Wk.refl _) (WkS.cons rfl (Wk.refl _) (WkS.cons rfl (Wk.refl _) (WkS.nil)))))))) Pf Pf)
     ·intro G211 s211 z211 hm
      refine Kd ?_
      refine pu ?_
      refine Kb ?_
      refine Kg ?_
      refine Kk rfl (fun hc222 => ?_) (fun hc222 => ?_)
      ·replace hm := yes_t hc222 hm
       refine Kp ?_
       refine Ka ?_
       refine Kg ?_
       refine KA ?_
       refine Kd ?_
       obtain ⟨x223, q223, hm⟩ := Kc hm
       refine KaD htab rfl rfl rfl rfl rfl rfl rfl rfl rfl rfl (Kz q223) (KG q223) ?_
       refine p_eq (i := 29) rfl (Wk.of_eq (congrArg D.el (KD x223))) ?_
       refine Kat (d := .agg [.v (.int .i64 x223.gOp), .v (.int .i64 x223.gN), .v (.string x223.gName), .lst 5 (x223.gKids.map Kn) .no, .v (.int .i64 x223.gAt)]) htab rfl rfl rfl rfl rfl rfl rfl rfl ?_
       refine Kar htab rfl rfl rfl rfl rfl rfl rfl (fun b224 => ?_)
       refine pS0 (ds' := [.v (.int .i64 x223.gOp), .v (.int .i64 x223.gN), .v (.string x223.gName), .lst 5 (x223.gKids.map Kn) .no, .v (.int .i64 x223.gAt)]) ?_
       refine Kb ?_
       refine Kx ?_
       refine pu ?_
       refine Kai (d := .agg [.v (.int .i64 x223.gOp), .v (.int .i64 x223.gN), .v (.string x223.gName), .lst 5 (x223.gKids.map Kn) .no, .v (.int .i64 x223.gAt)]) 0 htab rfl rfl rfl rfl rfl rfl rfl rfl ?_
       obtain ⟨x225, q225, hm⟩ := Kc hm
       refine KN (Kma x223 x225 q225) rfl rfl rfl rfl rfl (WkL.cons (Wk.trans (Wk.agg (WkR.refl _)) (Wk.of_eq (KD x223).symm)) Wl) ?_
       rintro _ rfl
       refine pu ?_
       refine pu ?_
       refine Ky ?_
       refine KF ?_
       refine Ka ?_
       refine Kx ?_
       refine pu ?_
       refine pu ?_
       refine Ky ?_
       refine Ka ⟨_, Kam hm, ?_⟩
       exact WkX.of () (WkS.perm (WkS.cons rfl (Wk.refl _) (WkS.cons rfl (Wk.refl _) (WkS.cons rfl (Wk.refl _) (WkS.cons rfl (Wk.refl _) (WkS.cons rfl (Wk.refl _) (WkS.cons rfl (Wk.refl _) (WkS.cons rfl (Wk.refl _) (WkS.nil)))))))) Pf Pf)
      ·replace hm := yes_f hc222 hm
       refine Kad ?_
       refine KC ?_
       have e211 := KP hm; subst e211; clear hm; have hm := hq211
       refine KC ?_
       refine K7 ?_
       have e210 := Ke hm; subst e210
       refine ⟨rfl, ?_⟩
       exact WkX.of () (WkS.perm (WkS.cons rfl (Wk.refl _) (WkS.cons rfl (Wk.refl _) (WkS.cons rfl (Wk.refl _) (WkS.cons rfl (Wk.refl _) (WkS.nil))))) Pf Pf)
    ·intro s210 hw210; clear hm; have hm := ho210; clear q210 ho210
     refine KF ?_
     refine Ka ?_
     refine KQ hw210 (fun z210 => ?_)
     refine Kx ?_
     refine pu ?_
     refine pu ?_
     refine Ky ?_
     refine Ka ⟨_, Kam hm, ?_⟩
     exact WkX.of () (WkS.perm (WkS.cons rfl (Wk.refl _) (WkS.cons rfl (Wk.refl _) (WkS.cons rfl (Wk.refl _) (WkS.cons rfl (Wk.refl _) (WkS.nil))))) Pf Pf)
   ·replace hm := yes_f hc190 hm
    refine Kad ?_
    refine KC ?_
    have e115 := KP hm; subst e115; clear hm; have hm := hq115
    refine KC ?_
    refine K7 ?_
    have e114 := Ke hm; subst e114
    refine ⟨rfl, ?_⟩
    exact WkX.of () (WkS.perm (WkS.cons rfl (Wk.refl _) (WkS.nil)) Pf Pf)
 ·intro s114 hw114; clear hm; have hm := ho114; clear q114 ho114
  refine Ka ?_
  refine KQ hw114 (fun z114 => ?_)
  refine Kd ?_
  refine pu ?_
  refine pu ?_
  refine Kb ?_
  refine Kr ?_
  have er226 := Ke hm; subst er226
  refine rP (t' := [(2, .v (.int .i64 y114))]) [] [] 0 (wC wN) (lT lN) ?_
  exact ⟨rfl, rfl, rfl⟩
noncomputable def KbW : Nat → ((List Ki) → Option (Int))
 | 0 => (fun _ => none)
 | n + 1 => (KcD ((KbW n)))
theorem KhS : ∀ n, (∀ (a0 : List Ki) (r : Int) (h0 : (KbW n) a0 = some r), CallsD Tryz.prog 119 [.lst 7 (a0.map Kf) .no] [] [] (fun d h k => d = .v (.int .i64 r) ∧ h = [] ∧ k = []))
  | 0 => fun _ _ h0 => by cases h0
  | n + 1 => by
    have ih := KhS n
    exact Kk1 (KbW n) ih
theorem KhT : ∀ n, (∀ (a0 : List Ki), Le ((KbW n) a0) ((KbW (n + 1)) a0))
  | 0 => fun _ => Le.none _
  | n + 1 => by
    have ih := KhT n
    exact fun a0 => by show Le (KcD ((KbW n)) a0) (KcD ((KbW (n + 1))) a0); unfold KcD; repeat (first | exact Le.refl _ | exact ih _ | assumption | (refine Le.bind ?_ (fun _ => ?_)) | (refine Le.cond ?_ ?_) | (refine Le.loop (fun _ => ?_)) | (refine Le.elim (fun _ => ?_) (fun _ => ?_)))
noncomputable def KgM (a0 : List Ki) : Option (Int) := anyN fun n => (KbW n) a0
theorem KlZ (a0 : List Ki) {r : Int} (n : Nat) (h : (KbW n) a0 = some r) : KgM a0 = some r := Kej (fun m => (KhT m) a0) h
theorem Kl0 (a0 : List Ki) (r : Int) (h0 : KgM a0 = some r) : CallsD Tryz.prog 119 [.lst 7 (a0.map Kf) .no] [] [] (fun d h k => d = .v (.int .i64 r) ∧ h = [] ∧ k = []) :=
 let ⟨n, hn⟩ := Kdu h0; (KhS n) a0  r hn
noncomputable def KbN (m0 : Ku) : Option (Km × Ku) :=
 ((Kbh m0 (0 : Int)).bind fun x3 => ((Kbn m0 ([(ByteArray.mk #[105, 110, 116])] : List ByteArray)).bind fun x5 => ((Kcn x5).bind fun x6 => ((Kcc x6.2).bind fun x8 => ((Kcd x8.2 (⟨x6.1, x8.1, [], [], x3.gAt⟩ : Km)).bind fun x10 => (Option.bind (α := Bool) (bif (x10.2.gE == (0 : Int)) then ((KgM x10.1).bind fun x15 => some (decide ((800 : Int) < x15))) else some false) fun y13 => (bif y13 then none else some ((⟨x6.1, x8.1, [], x10.1, x3.gAt⟩ : Km), x10.2))))))))
theorem KgD (m0 : Ku) (o0 : Nat) (T0 : TypeId) (c0_0 : Cap) (r : Km × Ku) (h0 : KbN m0 = some r) : CallsD Tryz.prog 76 [.ptr o0 0] [(o0, Blk.cells [.lst 4 (m0.gL.map KB) c0_0, .v (.int .i64 m0.gAt), .v (.int .i64 m0.gE), .v (.int .i64 m0.gVars), .v (.int .i64 m0.gOpen)] T0)] [] (fun d h k => ∃ y0 y1, d = .agg [.v (.string r.1.gName), .lst 2 (r.1.gParams.map Kj) (.cur y0), .lst 2 (r.1.gLocals.map Kj) .no, .lst 7 (r.1.gBody.map Kf) (.cur y1), .v (.int .i64 r.1.gAt)] ∧ h = [(o0, Blk.cells [.lst 4 (r.2.gL.map KB) .no, .v (.int .i64 r.2.gAt), .v (.int .i64 r.2.gE), .v (.int .i64 r.2.gVars), .v (.int .i64 r.2.gOpen)] T0)] ∧ k = [(2, y0), (7, y1)]) := by
 have hm := Kw h0
 unfold KbN at hm
 clear h0
 refine K0 htab Tryz.func76 rfl rfl rfl rfl rfl (fun C => ?_)
 refine Kd ?_
 refine p_box rfl rfl rfl rfl rfl rfl rfl (fun b1 => ?_)
 refine Kar htab rfl rfl rfl rfl rfl rfl rfl (fun b2 => ?_)
 refine KK ?_
 refine pL 1 ?_
 obtain ⟨x3, q3, hm⟩ := Kc hm
 refine pG (KcA m0 (0 : Int) o0 T0 c0_0 x3 q3) Wl Pf Pf ?_
 rintro _ _ _ ⟨rfl, rfl, rfl⟩
 refine pu ?_
 refine Kdg (r := [.v (.string ByteArray.empty), .lst 1 [] .full, .lst 1 [] .full, .lst 1 [] .full, .v (.int .i64 x3.gAt)]) htab rfl rfl rfl rfl rfl rfl rfl rfl rfl ?_
 refine Kar htab rfl rfl rfl rfl rfl rfl rfl (fun b4 => ?_)
 refine pS3 (ds' := [.v (.string ByteArray.empty), .lst 1 [] .full, .lst 1 [] .full, .lst 1 [] .full, .v (.int .i64 x3.gAt)]) ?_
 refine KK ?_
 refine pL 1 ?_
 refine p_lit htab rfl rfl rfl rfl rfl rfl rfl rfl rfl rfl rfl rfl rfl rfl ?_
 refine p_eq (i := 10) (d' := .lst 1 (([(ByteArray.mk #[105, 110, 116])] : List ByteArray).map eStr) .full) rfl (Wk.lst0 (.cons (WkC.refl _) (.nil))) ?_
 obtain ⟨x5, q5, hm⟩ := Kc hm
 refine Kgd (KcJ m0 ([(ByteArray.mk #[105, 110, 116])] : List ByteArray) o0 T0 c0_0 x5 q5) rfl rfl rfl rfl rfl (WkL.cons (Wk.refl _) (WkL.cons (Wk.no) Wl)) Pf Pf ?_
 rintro _ _ _ ⟨rfl, rfl, rfl⟩
 refine KK ?_
 refine pL 1 ?_
 refine pu ?_
 refine pu ?_
 refine pL 0 ?_
 refine pu ?_
 refine KK ?_
 refine pL 1 ?_
 obtain ⟨x6, q6, hm⟩ := Kc hm
 refine pG (Kh5 x5 o0 T0 c0_0 x6 q6) Wl Pf Pf ?_
 rintro _ _ _ ⟨rfl, rfl, rfl⟩
 refine pu ?_
 refine pS3 (ds' := [.v (.string x6.1), .lst 1 [] .full, .lst 1 [] .full, .lst 1 [] .full, .v (.int .i64 x3.gAt)]) ?_
 refine KK ?_
 refine pL 1 ?_
 refine pL 1 ?_
 refine pu ?_
 obtain ⟨x8, q8, hm⟩ := Kc hm
 refine pG (Khz x6.2 o0 T0 c0_0 x8 q8) Wl Pf Pf ?_
 rintro _ _ _ ⟨w7, rfl, rfl, rfl⟩
 refine pu ?_
 refine pS3 (ds' := [.v (.string x6.1), .lst 2 (x8.1.map Kj) (.cur w7), .lst 1 [] .full, .lst 1 [] .full, .v (.int .i64 x3.gAt)]) ?_
 refine KK ?_
 refine pL 1 ?_
 refine pu ?_
 refine o_blk 3 rfl (ds' := [.v (.string x6.1), .lst 2 (x8.1.map Kj) (.cur w7), .lst 2 (([] : List K8).map Kj) .full, .lst 1 [] .full, .v (.int .i64 x3.gAt)]) (rC (rC (WkR.cons (WkC.nilF) rfl (rC (rC WkR.nil))))) rfl ?_
 refine o_blk 3 rfl (ds' := [.v (.string x6.1), .lst 2 (x8.1.map Kj) (.cur w7), .lst 2 (([] : List K8).map Kj) .full, .lst 7 (([] : List Ki).map Kf) .full, .v (.int .i64 x3.gAt)]) (rC (rC (rC (WkR.cons (WkC.nilF) rfl (rC WkR.nil))))) rfl ?_
 obtain ⟨x10, q10, hm⟩ := Kc hm
 refine pG (KhA x8.2 (⟨x6.1, x8.1, [], [], x3.gAt⟩ : Km) o0 T0 c0_0 b1 134 b4 49 (.cur w7) .full .full x10 q10) Wl ((Kah (j := 0) rfl).trans (List.Perm.cons _ ((Kah (j := 0) rfl).trans (List.Perm.cons _ ((Kah (j := 1) rfl).trans (List.Perm.cons _ Pf)))))) Pf ?_
 rintro _ _ _ ⟨w9, rfl, rfl, rfl⟩
 refine pu ?_
 refine pS2 (ds' := [.v (.string x6.1), .lst 2 (x8.1.map Kj) (.cur w7), .lst 2 (([] : List K8).map Kj) .full, .lst 7 (x10.1.map Kf) (.cur w9), .v (.int .i64 x3.gAt)]) ?_
 refine Kb ?_
 refine Kg ?_
 refine Kg ?_
 obtain ⟨y13, q13, ho13⟩ := Kc hm
 refine K5 (Y := Unit) (fun z13 => (⟨[(1, .ptr b1 0), (2, .ptr b2 0), (3, .ptr b4 0), (4, .v (.int .i64 x5.gAt)), (38, .v (.bool y13))], [(o0, Blk.cells [.lst 4 (x10.2.gL.map KB) .no, .v (.int .i64 x10.2.gAt), .v (.int .i64 x10.2.gE), .v (.int .i64 x10.2.gVars), .v (.int .i64 x10.2.gOpen)] T0), (b1, Blk.cells [.ptr o0 0] 134), (b4, Blk.cells [.v (.string x6.1), .lst 2 (x8.1.map Kj) (.cur w7), .lst 2 (([] : List K8).map Kj) .full, .lst 7 (x10.1.map Kf) (.cur w9), .v (.int .i64 x3.gAt)] 49), (b2, Blk.cells [.v (.string ByteArray.empty), .lst 1 [] .full, .lst 1 [] .full, .lst 1 [] .full, .v (.int .i64 (0 : Int))] 49)], [(7, w9), (2, w7)]⟩ : S)) ?_ ?_
 ·clear hm; have hm := Kw q13
  refine Kx ?_
  refine pL 1 ?_
  refine pu ?_
  refine pu ?_
  refine pL 0 ?_
  refine pu ?_
  refine pu ?_
  refine Kaj (i := 33) rfl (fun hg14 => ?_) (fun hg14 => ?_)
  ·replace hm := yes_t hg14 hm
   refine pu ?_
   refine pL 2 ?_
   obtain ⟨x15, q15, hm⟩ := Kc hm
   refine KN (Kl0 x10.1 x15 q15) rfl rfl rfl rfl rfl (WkL.cons (Wk.no) Wl) ?_
   rintro _ rfl
   refine pu ?_
   refine K3 rfl rfl rfl rfl rfl rfl ?_
   refine Ky ?_
   have e13 := Ke hm; subst e13
   refine ⟨rfl, ?_⟩
   exact WkX.of () (WkS.perm (WkS.cons rfl (Wk.refl _) (WkS.cons rfl (Wk.refl _) (WkS.cons rfl (Wk.refl _) (WkS.cons rfl (Wk.refl _) (WkS.cons rfl (Wk.refl _) (WkS.nil)))))) Pf Pf)
  ·replace hm := yes_f hg14 hm
   iterate 4 refine pK ?_
   refine KO rfl rfl rfl rfl rfl rfl ?_
   refine Ky ?_
   have e13 := Ke hm; subst e13
   refine ⟨rfl, ?_⟩
   exact WkX.of () (WkS.perm (WkS.cons rfl (Wk.refl _) (WkS.cons rfl (Wk.refl _) (WkS.cons rfl (Wk.refl _) (WkS.cons rfl (Wk.refl _) (WkS.cons rfl (Wk.refl _) (WkS.nil)))))) Pf Pf)
 ·intro s13 hw13; clear hm; have hm := ho13; clear q13 ho13
  refine Ka ?_
  refine KQ hw13 (fun z13 => ?_)
  refine Kk rfl (fun hc16 => ?_) (fun hc16 => ?_)
  ·replace hm := yes_t hc16 hm
   exact (KR hm).elim
  ·replace hm := yes_f hc16 hm
   refine Kp ?_
   refine Ka ?_
   refine Kd ?_
   refine Kai (d := .agg [.v (.string x6.1), .lst 2 (x8.1.map Kj) (.cur w7), .lst 2 (([] : List K8).map Kj) .full, .lst 7 (x10.1.map Kf) (.cur w9), .v (.int .i64 x3.gAt)]) 2 htab rfl rfl rfl rfl rfl rfl rfl rfl ?_
   refine pS3 (ds' := [.v (.string x6.1), .lst 2 (x8.1.map Kj) (.cur w7), .lst 2 (([] : List K8).map Kj) .full, .lst 7 (x10.1.map Kf) (.cur w9), .v (.int .i64 x3.gAt)]) ?_
   refine Kb ?_
   refine Kr ?_
   have er17 := Ke hm; subst er17
   refine retX.wk (WkS.bl3 (ds' := [.v (.string x6.1), .lst 2 (x8.1.map Kj) (.cur w7), .lst 2 (([] : List K8).map Kj) .no, .lst 7 (x10.1.map Kf) (.cur w9), .v (.int .i64 x3.gAt)]) (rC (rC (rO (rC (rC WkR.nil)))))) ?_
   refine rP (t' := [(2, .ptr b2 0)]) [0,2] [1,0] 1 (wC wN) (lC 1 lN) ?_
   exact ⟨w7, w9, rfl, rfl, rfl⟩
noncomputable def KeJ (a0 : List Kac) (a1 : Int) : Option (Km × Int × Int) :=
 ((Kee a0 a1).bind fun x3 => (bif (!x3.2) then none else ((KbN x3.1).bind fun x8 => (bif (x8.2.gE != (0 : Int)) then none else some (x8.1, x8.2.gAt, (0 : Int))))))
theorem Kk2 (a0 : List Kac) (a1 : Int) (r : Km × Int × Int) (h0 : KeJ a0 a1 = some r) : CallsD Tryz.prog 40 [.lst 4 (a0.map KB) .no, .v (.int .i64 a1)] [] [] (fun d h k => ∃ y0 y1, d = .tup [.agg [.v (.string r.1.gName), .lst 2 (r.1.gParams.map Kj) (.cur y0), .lst 2 (r.1.gLocals.map Kj) .no, .lst 7 (r.1.gBody.map Kf) (.cur y1), .v (.int .i64 r.1.gAt)], .v (.int .i64 r.2.1), .v (.int .i64 r.2.2)] ∧ h = [] ∧ k = [(2, y0), (7, y1)]) := by
 have hm := Kw h0
 unfold KeJ at hm
 clear h0
 refine K0 htab Tryz.func40 rfl rfl rfl rfl rfl (fun C => ?_)
 refine Kd ?_
 refine Kar htab rfl rfl rfl rfl rfl rfl rfl (fun b1 => ?_)
 refine pu ?_
 refine pu ?_
 refine KK ?_
 refine pu ?_
 refine pu ?_
 obtain ⟨x3, q3, hm⟩ := Kc hm
 refine pG (Kkw a0 a1 x3 q3) Wl Pf Pf ?_
 rintro _ _ _ ⟨w2, rfl, rfl, rfl⟩
 iterate 5 refine pu ?_
 refine Kb ?_
 refine Kg ?_
 refine Kd ?_
 refine pu ?_
 refine pu ?_
 refine Kb ?_
 refine Kk rfl (fun hc5 => ?_) (fun hc5 => ?_)
 ·replace hm := yes_t hc5 hm
  exact (KR hm).elim
 ·replace hm := yes_f hc5 hm
  refine Kp ?_
  refine Ka ?_
  refine Kd ?_
  refine pu ?_
  obtain ⟨x8, q8, hm⟩ := Kc hm
  refine pG (KgD x3.1 w2 139 .no x8 q8) Wl Pf Pf ?_
  rintro _ _ _ ⟨w6, w7, rfl, rfl, rfl⟩
  refine Kar htab rfl rfl rfl rfl rfl rfl rfl (fun b9 => ?_)
  refine pS2 (ds' := [.v (.string x8.1.gName), .lst 2 (x8.1.gParams.map Kj) (.cur w6), .lst 2 (x8.1.gLocals.map Kj) .no, .lst 7 (x8.1.gBody.map Kf) (.cur w7), .v (.int .i64 x8.1.gAt)]) ?_
  refine Kb ?_
  refine Kg ?_
  refine Kd ?_
  iterate 3 refine pu ?_
  refine pL 0 ?_
  refine pu ?_
  refine Kb ?_
  refine Kk rfl (fun hc11 => ?_) (fun hc11 => ?_)
  ·replace hm := yes_t hc11 hm
   exact (KR hm).elim
  ·replace hm := yes_f hc11 hm
   refine Kp ?_
   refine Ka ?_
   refine Kg ?_
   refine Klz 6 [] [[],[],[1],[1,2],[1,2,3],[0]] [0,1,2,3,4,5] [[],[],[1],[1,2],[1,2,3],[0],[0,1,2,3,4,5],[0,1,2,3,4,5,6]] 5 (by kernel_rfl) (by kernel_rfl) (by kernel_rfl) (by rfl) (by rfl) (by kernel_rfl) ?_
   refine ⟨[(w2, Blk.cells [.lst 4 (x8.2.gL.map KB) .no, .v (.int .i64 x8.2.gAt), .v (.int .i64 x8.2.gE), .v (.int .i64 x8.2.gVars), .v (.int .i64 x8.2.gOpen)] 139), (b1, Blk.cells [.v (.string x8.1.gName), .lst 2 (x8.1.gParams.map Kj) (.cur w6), .lst 2 (x8.1.gLocals.map Kj) .no, .lst 7 (x8.1.gBody.map Kf) (.cur w7), .v (.int .i64 x8.1.gAt)] 49), (b9, Blk.cells [.v (.string x8.1.gName), .lst 2 (x8.1.gParams.map Kj) (.cur w6), .lst 2 (x8.1.gLocals.map Kj) .no, .lst 7 (x8.1.gBody.map Kf) (.cur w7), .v (.int .i64 x8.1.gAt)] 49)], ?_⟩
   iterate 5 apply Exists.intro
   refine ⟨.any, ?_⟩
   intro bs v12
   refine zh_M rfl rfl (fun _ => KI (d := .agg [.v (.string x8.1.gName), .lst 2 (x8.1.gParams.map Kj) (.cur w6), .lst 2 (x8.1.gLocals.map Kj) .no, .lst 7 (x8.1.gBody.map Kf) (.cur w7), .v (.int .i64 x8.1.gAt)]) 2 htab rfl rfl rfl rfl rfl) (offB rfl) rfl rfl rfl rfl rfl rfl rfl rfl ?_
   iterate 3 refine zh_e rfl rfl (Kay htab rfl) rfl rfl rfl rfl rfl rfl rfl rfl ?_
   refine zh_M rfl rfl (fun _ => KI 0 htab rfl rfl rfl rfl rfl) (fun _ => KI 0 htab rfl rfl rfl rfl rfl) rfl rfl rfl rfl rfl rfl rfl rfl ?_
   refine zh_store 1 htab rfl rfl rfl rfl rfl rfl rfl rfl rfl rfl rfl rfl rfl rfl rfl rfl ?_
   refine zh_nil rfl rfl rfl rfl (fun e he => by simp [isAl] at he) ?_
   refine pu ?_
   refine pu ?_
   refine Kb ?_
   refine Kr ?_
   have er13 := Ke hm; subst er13
   refine rP (t' := [(4, .ptr b1 0), (5, .v (.int .i64 x8.2.gAt)), (6, .v (.int .i64 (0 : Int)))]) [1] [0,0] 0 (wC (wC (wC wN))) (lC 0 (lT (lT lN))) ?_
   exact ⟨w6, w7, rfl, rfl, rfl⟩
noncomputable def Kb7 (a0 : List UInt8) : Option (Km × Int × Int) :=
 ((KfT a0).bind fun x4 => (bif (x4.2.2 != (0 : Int)) then none else ((KeJ x4.1 (0 : Int)).bind fun x9 => ((idx x4.1 (min x9.2.1 (IntKind.i64.wrap ((x4.1.length : Int) - (1 : Int))))).bind fun x11 => (bif (x9.2.2 != (0 : Int)) then none else (bif (x11.gKind != (0 : Int)) then none else some (x9.1, (0 : Int), (0 : Int))))))))
theorem Khk (a0 : List UInt8) (r : Km × Int × Int) (h0 : Kb7 a0 = some r) : CallsD Tryz.prog 39 [.lst 1 (a0.map byteD) .no, .fn (.func 40) [] []] [] [] (fun d h k => ∃ y0 y1, d = .tup [.agg [.v (.string r.1.gName), .lst 2 (r.1.gParams.map Kj) (.cur y0), .lst 2 (r.1.gLocals.map Kj) .no, .lst 7 (r.1.gBody.map Kf) (.cur y1), .v (.int .i64 r.1.gAt)], .v (.int .i64 r.2.1), .v (.int .i64 r.2.2)] ∧ h = [] ∧ k = [(2, y0), (7, y1)]) := by
 have hm := Kw h0
 unfold Kb7 at hm
 clear h0
 refine K0 htab Tryz.func39 rfl rfl rfl rfl rfl (fun C => ?_)
 refine Kd ?_
 refine Kar htab rfl rfl rfl rfl rfl rfl rfl (fun b1 => ?_)
 refine pu ?_
 refine pu ?_
 refine KK ?_
 refine Kar htab rfl rfl rfl rfl rfl rfl rfl (fun b2 => ?_)
 refine KK ?_
 refine pu ?_
 obtain ⟨x4, q4, hm⟩ := Kc hm
 refine pG (KlX a0 x4 q4) Wl Pf Pf ?_
 rintro _ _ _ ⟨w3, rfl, rfl, rfl⟩
 iterate 7 refine pu ?_
 refine Kb ?_
 refine Kg ?_
 refine Kd ?_
 refine pu ?_
 refine pu ?_
 refine Kb ?_
 refine Kk rfl (fun hc6 => ?_) (fun hc6 => ?_)
 ·replace hm := yes_t hc6 hm
  exact (KR hm).elim
 ·replace hm := yes_f hc6 hm
  refine Kp ?_
  refine Ka ?_
  refine Kd ?_
  refine pu ?_
  refine pu ?_
  obtain ⟨x9, q9, hm⟩ := Kc hm
  refine KgV (Kk2 x4.1 (0 : Int) x9 q9) rfl rfl rfl rfl rfl rfl rfl (WkL.cons (Wk.no) (WkL.cons (Wk.refl _) Wl)) Pf Pf ?_
  rintro _ _ _ ⟨w7, w8, rfl, rfl, rfl⟩
  iterate 4 refine pu ?_
  refine Kar htab rfl rfl rfl rfl rfl rfl rfl (fun b10 => ?_)
  refine pS2 (ds' := [.v (.string x9.1.gName), .lst 2 (x9.1.gParams.map Kj) (.cur w7), .lst 2 (x9.1.gLocals.map Kj) .no, .lst 7 (x9.1.gBody.map Kf) (.cur w8), .v (.int .i64 x9.1.gAt)]) ?_
  refine pu ?_
  refine pu ?_
  refine KK ?_
  iterate 3 refine pu ?_
  refine Kaa htab rfl rfl rfl rfl rfl rfl rfl (by first | exact KM | rfl) ?_
  refine pu ?_
  refine p_min rfl rfl rfl rfl rfl rfl ?_
  obtain ⟨x11, q11, hm⟩ := Kc hm
  refine KaD htab rfl rfl rfl rfl rfl rfl rfl rfl rfl rfl (Kz q11) (KG q11) ?_
  refine Kat (d := KB x11) htab rfl rfl rfl rfl rfl rfl rfl rfl ?_
  refine Kar htab rfl rfl rfl rfl rfl rfl rfl (fun b12 => ?_)
  refine pS3 (ds' := [.v (.int .i64 x11.gKind), .v (.string x11.gText), .v (.int .i64 x11.gN), .v (.int .i64 x11.gAt)]) ?_
  refine Kb ?_
  refine Kg ?_
  refine KA ?_
  refine Kd ?_
  iterate 3 refine pu ?_
  refine Kb ?_
  refine Kk rfl (fun hc17 => ?_) (fun hc17 => ?_)
  ·replace hm := yes_t hc17 hm
   exact (KR hm).elim
  ·replace hm := yes_f hc17 hm
   refine Kd ?_
   refine pu ?_
   refine pL 3 ?_
   refine pu ?_
   refine pu ?_
   refine Kb ?_
   refine Kk rfl (fun hc19 => ?_) (fun hc19 => ?_)
   ·replace hm := yes_t hc19 hm
    exact (KR hm).elim
   ·replace hm := yes_f hc19 hm
    refine Kp ?_
    refine KF ?_
    refine Ka ?_
    refine Kd ?_
    refine Kai (d := .agg [.v (.string x9.1.gName), .lst 2 (x9.1.gParams.map Kj) (.cur w7), .lst 2 (x9.1.gLocals.map Kj) .no, .lst 7 (x9.1.gBody.map Kf) (.cur w8), .v (.int .i64 x9.1.gAt)]) 2 htab rfl rfl rfl rfl rfl rfl rfl rfl ?_
    refine pS0 (ds' := [.v (.string x9.1.gName), .lst 2 (x9.1.gParams.map Kj) (.cur w7), .lst 2 (x9.1.gLocals.map Kj) .no, .lst 7 (x9.1.gBody.map Kf) (.cur w8), .v (.int .i64 x9.1.gAt)]) ?_
    refine pu ?_
    refine pu ?_
    refine Kb ?_
    refine Kr ?_
    have er20 := Ke hm; subst er20
    refine rP (t' := [(4, .ptr b1 0), (5, .v (.int .i64 (0 : Int))), (6, .v (.int .i64 (0 : Int)))]) [0] [0,0] 0 (wC (wC (wC wN))) (lC 0 (lT (lT lN))) ?_
    exact ⟨w7, w8, rfl, rfl, rfl⟩
noncomputable def Kc5 (a0 : List UInt8) : Option (Km × Int × Int) :=
 ((Kb7 a0).bind fun x4 => some (x4.1, x4.2.1, x4.2.2))
theorem Kjz (a0 : List UInt8) (r : Km × Int × Int) (h0 : Kc5 a0 = some r) : CallsD Tryz.prog 17 [.lst 1 (a0.map byteD) .no] [] [] (fun d h k => ∃ y0 y1, d = .tup [.agg [.v (.string r.1.gName), .lst 2 (r.1.gParams.map Kj) (.cur y0), .lst 2 (r.1.gLocals.map Kj) .no, .lst 7 (r.1.gBody.map Kf) (.cur y1), .v (.int .i64 r.1.gAt)], .v (.int .i64 r.2.1), .v (.int .i64 r.2.2)] ∧ h = [] ∧ k = [(2, y0), (7, y1)]) := by
 have hm := Kw h0
 unfold Kc5 at hm
 clear h0
 refine K0 htab Tryz.func17 rfl rfl rfl rfl rfl (fun C => ?_)
 refine Kd ?_
 refine Kar htab rfl rfl rfl rfl rfl rfl rfl (fun b1 => ?_)
 refine pu ?_
 refine pu ?_
 refine KK ?_
 refine pu ?_
 obtain ⟨x4, q4, hm⟩ := Kc hm
 refine pG (Khk a0 x4 q4) Wl Pf Pf ?_
 rintro _ _ _ ⟨w2, w3, rfl, rfl, rfl⟩
 iterate 3 refine pu ?_
 refine pS0 (ds' := [.v (.string x4.1.gName), .lst 2 (x4.1.gParams.map Kj) (.cur w2), .lst 2 (x4.1.gLocals.map Kj) .no, .lst 7 (x4.1.gBody.map Kf) (.cur w3), .v (.int .i64 x4.1.gAt)]) ?_
 refine pu ?_
 refine pu ?_
 refine Kb ?_
 refine Kr ?_
 have er5 := Ke hm; subst er5
 refine rP (t' := [(2, .ptr b1 0), (3, .v (.int .i64 x4.2.1)), (4, .v (.int .i64 x4.2.2))]) [0] [0,0] 0 (wC (wC (wC wN))) (lC 0 (lT (lT lN))) ?_
 exact ⟨w2, w3, rfl, rfl, rfl⟩
end Go.Proofs.YtipfljkjjddapaaGreatDoor.Ab
namespace Go.Proofs.YtipfljkjjddapaaGreatDoor.Ab
open Go
set_option linter.all false
abbrev GL := List Nat
def isG (rl : GL) (e : Nat) : Bool := rl.contains e
abbrev CL := List (Nat × Nat)
def CC (cl : CL) (S : Nat → Bool) : Prop := ∀ p ∈ cl, S p.2 = true → S p.1 = true
theorem CC.up {cl : CL} {S : Nat → Bool} {i : Nat} (h : CC cl S) (hi : ∀ p ∈ cl, p.2 = i → S p.1 = true) : CC cl (Jx.upd S i true) := by
 intro p hp
 have up : ∀ j, S j = true → Jx.upd S i true j = true := fun j hj => by
  by_cases q : j = i
  ·subst q; exact Jx.upd_same _ _ _
  ·rw [Jx.upd_ne _ _ q]; exact hj
 by_cases q : p.2 = i
 ·exact fun _ => up _ (hi p hp q)
 ·rw [Jx.upd_ne _ _ q]; exact fun h2 => up _ (h p hp h2)
def dG (vl : GL) (e : Nat) (d : D) (v : Value) : D := bif isG vl e then .v v else d
section
variable (P : Program) (C : Ctx) (N : Nat) (l : List Oper) (m : Nat) (De : Nat → D) (al : AL) (rl vl : GL) (cl : CL) (G : Nat → Value → List (Nat × Blk) → List (Nat × Value) → Prop) (h0 : Nat → List (Nat × Blk)) (k0 : Nat → List (Nat × Value)) (pre : List (List Nat)) (ev : List Nat) (h : List (Nat × Blk)) (k : List (Nat × Value)) (Q : Exit → S → Prop)
def dEg (bs : Nat → Value) (e : Nat) : D := bif isAl al e then .ptr (blk (bs e)) 0 else dG vl e (De e) (bs e)
def TOKg (H0 : Hp) (bs : Nat → Value) (vals : Nat → Value) (te : TE) (a : Act) : Prop :=
 ∀ j d o, look3 te j = some (d, o) → ∃ v, a.tmps[j]? = some v ∧ (o = none → ∀ H, H0.le H → Rep H d v) ∧ ∀ e, o = some e → v = vals e ∧ d = dEg De al vl bs e ∧ ev.contains e = true
end
section
variable {P : Program} {C : Ctx} {N : Nat} {l : List Oper} {m : Nat} {De : Nat → D} {al : AL} {rl vl : GL} {cl : CL} {G : Nat → Value → List (Nat × Blk) → List (Nat × Value) → Prop} {h0 : Nat → List (Nat × Blk)} {k0 : Nat → List (Nat × Value)} {pre : List (List Nat)} {ev : List Nat} {h : List (Nat × Blk)} {k : List (Nat × Value)} {Q : Exit → S → Prop} {tab : List (Option TI)} {bs : Nat → Value} {i : Nat} {o : Oper} {rest : List Oper} {te : TE}
theorem TOKg.put {H0 : Hp} {vals : Nat → Value} {a : Act} (kt : TOKg De al vl ev H0 bs vals te a) {j : Nat} {d : D} {o : Option Nat} {v : Value} (hj : j < a.tmps.size) (h1 : o = none → ∀ H, H0.le H → Rep H d v) (h2 : ∀ e, o = some e → v = vals e ∧ d = dEg De al vl bs e ∧ ev.contains e = true) :
    TOKg De al vl ev H0 bs vals ((j, d, o) :: te) (a.put (some j) v) := by
  intro j' d' o' e
  simp only [look3] at e
  simp only [Act.put]
  cases hb : Nat.beq j j' with
  | true =>
    rw [hb] at e; simp at e
    obtain ⟨rfl, rfl⟩ := e
    have := Nat.eq_of_beq_eq_true hb; subst this
    exact ⟨v, by simp [hj], h1, h2⟩
  | false =>
    rw [hb] at e; simp at e
    have hne : j ≠ j' := Nat.ne_of_beq_eq_false hb
    obtain ⟨u, h3, h4⟩ := kt j' d' o' e
    exact ⟨u, by rw [Array.getElem?_setIfInBounds_ne hne]; exact h3, h4⟩
end
section
variable {P : Program} {C : Ctx} {N : Nat} {l : List Oper} {m : Nat} {De : Nat → D} {al : AL} {rl vl : GL} {cl : CL} {G : Nat → Value → List (Nat × Blk) → List (Nat × Value) → Prop} {h0 : Nat → List (Nat × Blk)} {k0 : Nat → List (Nat × Value)} {pre : List (List Nat)} {ev : List Nat} {h : List (Nat × Blk)} {k : List (Nat × Value)} {Q : Exit → S → Prop} {tab : List (Option TI)} {bs : Nat → Value} {i : Nat} {o : Oper} {rest : List Oper} {te : TE}
end
end Go.Proofs.YtipfljkjjddapaaGreatDoor.Ab
namespace Go.Proofs.YtipfljkjjddapaaGreatDoor.Ab
open Go
set_option linter.all false
def KaP (a0 : List Km) : Option (List Km) := app 96 a0 []
theorem Kc0 (a0 : List Km) (r : List Km) (h0 : KaP a0 = some r) : CallsD Tryz.prog 55 [.lst 5 (a0.map Ko) .no] [] [] (fun d h k => ∃ y0, d = .lst 5 (r.map Ko) (.cur y0) ∧ h = [] ∧ k = [(5, y0)]) := by
 obtain ⟨hr, hb⟩ := Kik h0
 simp only [List.append_nil] at hr
 subst hr
 have q : app 96 ([] : List Km) r = some r := app_of (by simp only [List.length_nil, Nat.zero_add]; simpa using hb)
 refine K0 htab Tryz.func55 rfl rfl rfl rfl rfl (fun C => ?_)
 refine Kg ?_
 refine Kx ?_
 refine KcM htab rfl rfl rfl rfl ?_
 refine Ky ?_
 refine Ka ?_
 refine Kg ?_
 refine Kg ?_
 refine Kx ?_
 refine KcM htab rfl rfl rfl rfl ?_
 refine p_isnil htab rfl rfl rfl rfl rfl rfl rfl (fun b hn => ?_)
 refine Ky ?_
 refine Ka ?_
 refine Kk rfl (fun hc => ?_) (fun hc => ?_)
 ·have hnil := hn hc
  simp only [List.map_eq_nil_iff] at hnil
  subst hnil
  refine Kg ?_
  refine Kx ?_
  refine KcM htab rfl rfl rfl rfl ?_
  refine Ky ?_
  refine Ka ?_
  refine Kr ?_
  refine Kt ?_
  refine retX.tokN (i := 2) 5 rfl (fun y => ?_)
  refine retX.of (s' := ⟨[(2, .lst 5 (([] : List Km).map Ko) (.cur y))], [], [(5, y)]⟩) (WkS.perm (WkS.cons rfl (Wk.refl _) (WkS.nil)) (List.Perm.refl _) (List.Perm.refl _)) (Kgc (hh := []) (.inl rfl) (KdU (KdY rfl) (Kgb)) (List.nil_sublist _) (List.Sublist.refl _) ?_)
  exact ⟨y, rfl, rfl, rfl⟩
 ·refine Kp ?_
  refine Ka ?_
  refine Kg ?_
  refine Kx ?_
  refine p_lit0 htab rfl rfl rfl rfl rfl rfl rfl rfl ?_
  refine KcM htab rfl rfl rfl rfl ?_
  refine p_appF htab rfl rfl rfl rfl rfl rfl rfl rfl rfl rfl rfl rfl rfl rfl rfl (by simpa using hb) (fun v => ?_)
  refine KcM htab rfl rfl rfl rfl ?_
  refine Ky ?_
  refine Ka ?_
  refine Kr ?_
  refine retX.of (s' := ⟨[(2, .lst 5 (r.map Ko) (.cur v))], [], [(5, v)]⟩) (WkS.perm (WkS.cons rfl (Wk.refl _) (WkS.nil)) (List.Perm.refl _) (List.Perm.refl _)) (Kgc (hh := []) (.inl rfl) (KdU (KdY rfl) (Kgb)) (List.nil_sublist _) (List.Sublist.refl _) ?_)
  exact ⟨v, rfl, rfl, rfl⟩
theorem KeY (a0 : List Km) (r : List Km) (h0 : KaP a0 = some r) : CallsD Tryz.prog 55 [.lst 5 (a0.map Ko) .no] [] [] (fun d h k => d = .lst 5 (r.map Ko) .no ∧ h = [] ∧ k = []) :=
 (Kc0 a0 r h0).drop fun d h k ⟨y0, e, _, _⟩ => by subst e; exact Wk.no
structure Kan where
 gP : Kl
noncomputable def KbC (m0 : Kan) : Option (Kl) :=
 ((Kb0 m0.gP).bind fun x4 => some x4)
theorem Kfb (m0 : Kan) (o0 : Nat) (T0 : TypeId) (c0_0 : Cap) (c0_1 : Cap) (r : Kl) (h0 : KbC m0 = some r) : CallsD Tryz.prog 12 [.ptr o0 0] [(o0, Blk.cells [.lst 4 (m0.gP.gGlobals.map Ks) c0_0, .lst 5 (m0.gP.gFuncs.map Ko) c0_1] T0)] [] (fun d h k => d = KL r ∧ h = [(o0, Blk.cells [.lst 4 (m0.gP.gGlobals.map Ks) c0_0, .lst 5 (m0.gP.gFuncs.map Ko) c0_1] T0)] ∧ k = []) := by
 have hm := Kw h0
 unfold KbC at hm
 clear h0
 refine K0 htab Tryz.func12 rfl rfl rfl rfl rfl (fun C => ?_)
 refine Kd ?_
 refine Kar htab rfl rfl rfl rfl rfl rfl rfl (fun b1 => ?_)
 refine Kb ?_
 refine Kg ?_
 refine Kd ?_
 refine pu ?_
 refine p_eqP htab rfl rfl rfl rfl rfl rfl rfl rfl rfl rfl ?_
 refine Kb ?_
 refine KeB rfl ?_
 refine Kp ?_
 refine Ka ?_
 refine Kd ?_
 iterate 3 refine pu ?_
 refine Kai (d := .agg [.lst 4 (m0.gP.gGlobals.map Ks) c0_0, .lst 5 (m0.gP.gFuncs.map Ko) c0_1]) 0 htab rfl rfl rfl rfl rfl rfl rfl rfl ?_
 obtain ⟨x4, q4, hm⟩ := Kc hm
 refine Kgd (Kfr m0.gP x4 q4) rfl rfl rfl rfl rfl (WkL.cons (Wk.agg (rO (rO WkR.nil))) Wl) Pf Pf ?_
 rintro _ _ _ ⟨w2, w3, rfl, rfl, rfl⟩
 refine pS1 (ds' := [.lst 4 (x4.gGlobals.map Ks) (.cur w2), .lst 5 (x4.gFuncs.map Ko) (.cur w3)]) ?_
 refine Kb ?_
 refine Kr ?_
 have er5 := Ke hm; subst er5
 refine retX.wk (WkS.bl1 (ds' := [.lst 4 (x4.gGlobals.map Ks) .no, .lst 5 (x4.gFuncs.map Ko) .no]) (rO (rO WkR.nil))) ?_
 refine rP (t' := [(2, .ptr b1 0)]) [0,0] [] 1 (wC wN) (lC 1 lN) ?_
 exact ⟨rfl, rfl, rfl⟩
noncomputable def store_New : Option (Kan) :=
 some (⟨(⟨[], []⟩ : Kl)⟩ : Kan)
theorem Kmb  (r : Kan) (h0 : store_New = some r) : CallsD Tryz.prog 6 [] [] [] (fun d h k => ∃ y0 y1 y2, d = .ptr y0 0 ∧ h = [(y0, Blk.cells [.lst 4 (r.gP.gGlobals.map Ks) (.cur y1), .lst 5 (r.gP.gFuncs.map Ko) (.cur y2)] 59)] ∧ k = [(4, y1), (5, y2)]) := by
 have hm := Kw h0
 unfold store_New at hm
 clear h0
 refine K0 htab Tryz.func6 rfl rfl rfl rfl rfl (fun C => ?_)
 refine Kd ?_
 refine pu ?_
 refine KK ?_
 refine Kdg (r := [.lst 1 [] .full, .lst 1 [] .full]) htab rfl rfl rfl rfl rfl rfl rfl rfl rfl ?_
 refine p_box rfl rfl rfl rfl rfl rfl rfl (fun b1 => ?_)
 refine pu ?_
 refine Kb ?_
 refine Kr ?_
 have er2 := Ke hm; subst er2
 refine retX.cellF (off := 0) 4 0 rfl rfl (by first | exact Or.inl rfl | exact Or.inr rfl) (fun w3 => ?_)
 refine retX.cellF (off := 1) 5 0 rfl rfl (by first | exact Or.inl rfl | exact Or.inr rfl) (fun w4 => ?_)
 refine rP (t' := [(0, .ptr b1 0)]) [0] [1,0] 1 (wC wN) (lT lN) ?_
 exact ⟨b1, w3, w4, rfl, rfl, rfl⟩
noncomputable def KcE (a0 : Km) (m0 : Km) : Option (Bool) :=
 some (decide (a0.gName = m0.gName))
theorem Kit (a0 : Km) (m0 : Km) (o0 : Nat) (T0 : TypeId) (c0_1 : Cap) (c0_2 : Cap) (c0_3 : Cap) (r : Bool) (h0 : KcE a0 m0 = some r) : CallsD Tryz.prog 46 [Ko a0, .ptr o0 0] [(o0, Blk.cells [.v (.string m0.gName), .lst 2 (m0.gParams.map Kj) c0_1, .lst 2 (m0.gLocals.map Kj) c0_2, .lst 7 (m0.gBody.map Kf) c0_3, .v (.int .i64 m0.gAt)] T0)] [] (fun d h k => d = .v (.bool r) ∧ h = [(o0, Blk.cells [.v (.string m0.gName), .lst 2 (m0.gParams.map Kj) c0_1, .lst 2 (m0.gLocals.map Kj) c0_2, .lst 7 (m0.gBody.map Kf) c0_3, .v (.int .i64 m0.gAt)] T0)] ∧ k = []) := by
 have hm := Kw h0
 unfold KcE at hm
 clear h0
 refine K0 htab Tryz.func46 rfl rfl rfl rfl rfl (fun C => ?_)
 refine Kd ?_
 refine p_box rfl rfl rfl rfl rfl rfl rfl (fun b1 => ?_)
 refine pu ?_
 refine KK ?_
 refine pu ?_
 refine pL 1 ?_
 refine pu ?_
 refine pL 0 ?_
 refine pu ?_
 refine pu ?_
 refine Kb ?_
 refine Kr ?_
 have er2 := Ke hm; subst er2
 refine rP (t' := [(3, .v (.bool (decide (a0.gName = m0.gName))))]) [0] [] 1 (wC wN) (lT lN) ?_
 exact ⟨rfl, rfl, rfl⟩
noncomputable def KaT (a0 : List Km) (m0 : Km) : Option (Int) :=
 (Option.bind (α := Unit) (loopM (fun (s18 : Int) => (bif (decide (s18 < (a0.length : Int))) then ((idx a0 s18).bind fun x30 => ((KcE x30 m0).bind fun x31 => (bif x31 then none else some (.next (IntKind.i64.wrap (s18 + (1 : Int))))))) else some (.done ()))) (0 : Int)) fun y17 => some (-1 : Int))
theorem Kex (a0 : List Km) (m0 : Km) (o0 : Nat) (T0 : TypeId) (c0_1 : Cap) (c0_2 : Cap) (c0_3 : Cap) (r : Int) (h0 : KaT a0 m0 = some r) : CallsD Tryz.prog 82 [.lst 5 (a0.map Ko) .no, .fn (.func 46) [] [.ptr o0 0]] [(o0, Blk.cells [.v (.string m0.gName), .lst 2 (m0.gParams.map Kj) c0_1, .lst 2 (m0.gLocals.map Kj) c0_2, .lst 7 (m0.gBody.map Kf) c0_3, .v (.int .i64 m0.gAt)] T0)] [] (fun d h k => d = .v (.int .i64 r) ∧ h = [(o0, Blk.cells [.v (.string m0.gName), .lst 2 (m0.gParams.map Kj) c0_1, .lst 2 (m0.gLocals.map Kj) c0_2, .lst 7 (m0.gBody.map Kf) c0_3, .v (.int .i64 m0.gAt)] T0)] ∧ k = []) := by
 have hm := Kw h0
 unfold KaT at hm
 clear h0
 refine K0 htab Tryz.func82 rfl rfl rfl rfl rfl (fun C => ?_)
 refine Kd ?_
 refine pu ?_
 refine Kb ?_
 refine Kg ?_
 refine Kd ?_
 refine pu ?_
 refine Kaa htab rfl rfl rfl rfl rfl rfl rfl (by first | exact KM | rfl) ?_
 refine pu ?_
 refine Kb ?_
 obtain ⟨y17, q17, ho17⟩ := Kc hm
 refine K5 (Y := Unit) (fun z17 => (⟨[], [(o0, Blk.cells [.v (.string m0.gName), .lst 2 (m0.gParams.map Kj) c0_1, .lst 2 (m0.gLocals.map Kj) c0_2, .lst 7 (m0.gBody.map Kf) c0_3, .v (.int .i64 m0.gAt)] T0)], []⟩ : S)) ?_ ?_
 ·clear hm; have hm := Kw q17
  refine KA ?_
  obtain ⟨u18, hl18, hq18⟩ := yes_m hm
  refine Kav (Y := Unit) hl18 (fun s18 z18 => (⟨[(0, .lst 5 (a0.map Ko) .no), (1, .fn (.func 46) [] [.ptr o0 0]), (7, .v (.int .i64 (a0.length : Int))), (8, .v (.int .i64 s18))], [(o0, Blk.cells [.v (.string m0.gName), .lst 2 (m0.gParams.map Kj) c0_1, .lst 2 (m0.gLocals.map Kj) c0_2, .lst 7 (m0.gBody.map Kf) c0_3, .v (.int .i64 m0.gAt)] T0)], []⟩ : S)) ?_ ?_
  ·skip
   exact WkX.of () (WkS.perm (WkS.cons rfl (Wk.refl _) (WkS.cons rfl (Wk.refl _) (WkS.cons rfl (Wk.refl _) (WkS.cons rfl (Wk.refl _) (WkS.nil))))) Pf Pf)
  ·intro G18 s18 z18 hm
   refine Kd ?_
   refine pu ?_
   refine Kb ?_
   refine Kg ?_
   refine Kk rfl (fun hc29 => ?_) (fun hc29 => ?_)
   ·replace hm := yes_t hc29 hm
    refine Kp ?_
    refine Ka ?_
    refine Kg ?_
    refine KA ?_
    refine Kd ?_
    refine pu ?_
    refine pu ?_
    refine KK ?_
    iterate 3 refine pu ?_
    obtain ⟨x30, q30, hm⟩ := Kc hm
    refine KaD htab rfl rfl rfl rfl rfl rfl rfl rfl rfl rfl (Kz q30) (KG q30) ?_
    refine Kat (d := Ko x30) htab rfl rfl rfl rfl rfl rfl rfl rfl ?_
    obtain ⟨x31, q31, hm⟩ := Kc hm
    refine KgV (Kit x30 m0 o0 T0 c0_1 c0_2 c0_3 x31 q31) rfl rfl rfl rfl rfl rfl rfl Wl Pf Pf ?_
    rintro _ _ _ ⟨rfl, rfl, rfl⟩
    refine Kb ?_
    refine Kk rfl (fun hc32 => ?_) (fun hc32 => ?_)
    ·replace hm := yes_t hc32 hm
     exact (KR hm).elim
    ·replace hm := yes_f hc32 hm
     refine Kp ?_
     refine KF ?_
     refine Ka ?_
     refine Kx ?_
     refine pu ?_
     refine pu ?_
     refine Ky ?_
     refine Ka ⟨_, Kam hm, ?_⟩
     exact WkX.of () (WkS.perm (WkS.cons rfl (Wk.refl _) (WkS.cons rfl (Wk.refl _) (WkS.cons rfl (Wk.refl _) (WkS.cons rfl (Wk.refl _) (WkS.nil))))) Pf Pf)
   ·replace hm := yes_f hc29 hm
    refine Kad ?_
    refine KC ?_
    have e18 := KP hm; subst e18; clear hm; have hm := hq18
    refine KC ?_
    refine K7 ?_
    have e17 := Ke hm; subst e17
    refine ⟨rfl, ?_⟩
    exact WkX.of () (WkS.perm (WkS.nil) Pf Pf)
 ·intro s17 hw17; clear hm; have hm := ho17; clear q17 ho17
  refine Ka ?_
  refine KQ hw17 (fun z17 => ?_)
  refine Kd ?_
  refine pu ?_
  refine Kb ?_
  refine Kr ?_
  have er33 := Ke hm; subst er33
  refine rP (t' := [(4, .v (.int .i64 (-1 : Int)))]) [0] [] 1 (wC wN) (lT lN) ?_
  exact ⟨rfl, rfl, rfl⟩
noncomputable def KcF (a0 : List Km) (a1 : Km) (m0 : Km) : Option (List Km × Int) :=
 ((KaP a0).bind fun x3 => ((KaT x3 m0).bind fun x4 => (bif (decide (x4 < (0 : Int))) then ((app 96 x3 ([a1] : List Km)).bind fun x8 => some (x8, (x3.length : Int))) else none)))
theorem Kiu (a0 : List Km) (a1 : Km) (m0 : Km) (o0 : Nat) (T0 : TypeId) (c0_1 : Cap) (c0_2 : Cap) (c0_3 : Cap) (r : List Km × Int) (h0 : KcF a0 a1 m0 = some r) : CallsD Tryz.prog 45 [.lst 5 (a0.map Ko) .no, Ko a1, .fn (.func 46) [] [.ptr o0 0]] [(o0, Blk.cells [.v (.string m0.gName), .lst 2 (m0.gParams.map Kj) c0_1, .lst 2 (m0.gLocals.map Kj) c0_2, .lst 7 (m0.gBody.map Kf) c0_3, .v (.int .i64 m0.gAt)] T0)] [] (fun d h k => d = .tup [.lst 5 (r.1.map Ko) .no, .v (.int .i64 r.2)] ∧ h = [(o0, Blk.cells [.v (.string m0.gName), .lst 2 (m0.gParams.map Kj) c0_1, .lst 2 (m0.gLocals.map Kj) c0_2, .lst 7 (m0.gBody.map Kf) c0_3, .v (.int .i64 m0.gAt)] T0)] ∧ k = []) := by
 have hm := Kw h0
 unfold KcF at hm
 clear h0
 refine K0 htab Tryz.func45 rfl rfl rfl rfl rfl (fun C => ?_)
 refine Kd ?_
 refine p_box rfl rfl rfl rfl rfl rfl rfl (fun b1 => ?_)
 refine pu ?_
 refine pu ?_
 refine KK ?_
 refine pu ?_
 obtain ⟨x3, q3, hm⟩ := Kc hm
 refine pG (Kc0 a0 x3 q3) Wl Pf Pf ?_
 rintro _ _ _ ⟨w2, rfl, rfl, rfl⟩
 refine pu ?_
 refine KK ?_
 refine pu ?_
 refine pu ?_
 obtain ⟨x4, q4, hm⟩ := Kc hm
 refine Kgd (Kex x3 m0 o0 T0 c0_1 c0_2 c0_3 x4 q4) rfl rfl rfl rfl rfl (WkL.cons (Wk.no) (WkL.cons (Wk.refl _) Wl)) Pf Pf ?_
 rintro _ _ _ ⟨rfl, rfl, rfl⟩
 refine pu ?_
 refine Kb ?_
 refine Kg ?_
 refine Kd ?_
 refine pu ?_
 refine pu ?_
 refine Kb ?_
 refine Kk rfl (fun hc7 => ?_) (fun hc7 => ?_)
 ·replace hm := yes_t hc7 hm
  refine Kd ?_
  refine pu ?_
  refine Kai (d := Ko a1) 1 htab rfl rfl rfl rfl rfl rfl rfl rfl ?_
  refine p_lit htab rfl rfl rfl rfl rfl rfl rfl rfl rfl rfl rfl rfl rfl rfl ?_
  refine p_eq (i := 19) (d' := .lst 5 (([a1] : List Km).map Ko) .full) rfl (Wk.lst0 (.cons (WkC.refl _) (.nil))) ?_
  obtain ⟨x8, q8, hm⟩ := Kc hm
  refine Ke3 0 htab rfl rfl rfl rfl rfl rfl rfl rfl rfl rfl rfl rfl rfl rfl rfl rfl rfl (Kb5 q8) (fun v8 => ?_)
  refine Ke4 (i := 20) q8 rfl ?_
  refine pu ?_
  refine Kaa htab rfl rfl rfl rfl rfl rfl rfl (by first | exact KM | rfl) ?_
  refine pu ?_
  refine pu ?_
  refine Kb ?_
  refine Kr ?_
  refine Kt ?_
  have er9 := Ke hm; subst er9
  refine rP (t' := [(6, .lst 5 (x8.map Ko) .no), (7, .v (.int .i64 (x3.length : Int)))]) [0] [] 1 (WkS.cons rfl (Wk.no) (wC wN)) (lT (lT lN)) ?_
  exact ⟨rfl, rfl, rfl⟩
 ·replace hm := yes_f hc7 hm
  exact (KR hm).elim
noncomputable def Kdp (m0 : Kan) (a1 : Kl) (a2 : Int) : Option (Int × Int × Kan) :=
 ((KbZ a1).bind fun x2 => (bif (x2.2.2 == (0 : Int)) then some ((0 : Int), (0 : Int), (⟨a1⟩ : Kan)) else none))
theorem KjM (m0 : Kan) (a1 : Kl) (a2 : Int) (o0 : Nat) (T0 : TypeId) (c0_0 : Cap) (c0_1 : Cap) (r : Int × Int × Kan) (h0 : Kdp m0 a1 a2 = some r) : CallsD Tryz.prog 47 [.ptr o0 0, KL a1, .v (.int .i64 a2)] [(o0, Blk.cells [.lst 4 (m0.gP.gGlobals.map Ks) c0_0, .lst 5 (m0.gP.gFuncs.map Ko) c0_1] T0)] [] (fun d h k => d = .tup [.v (.int .i64 r.1), .v (.int .i64 r.2.1)] ∧ h = [(o0, Blk.cells [.lst 4 (r.2.2.gP.gGlobals.map Ks) .no, .lst 5 (r.2.2.gP.gFuncs.map Ko) .no] T0)] ∧ k = []) := by
 have hm := Kw h0
 unfold Kdp at hm
 clear h0
 refine K0 htab Tryz.func47 rfl rfl rfl rfl rfl (fun C => ?_)
 refine Kd ?_
 refine p_box rfl rfl rfl rfl rfl rfl rfl (fun b1 => ?_)
 refine pu ?_
 refine pu ?_
 refine KK ?_
 refine Kai (d := KL a1) 1 htab rfl rfl rfl rfl rfl rfl rfl rfl ?_
 obtain ⟨x2, q2, hm⟩ := Kc hm
 refine KN (Kfo a1 x2 q2) rfl rfl rfl rfl rfl Wl ?_
 rintro _ rfl
 iterate 7 refine pu ?_
 refine Kb ?_
 refine Kg ?_
 refine KA ?_
 refine Kd ?_
 iterate 3 refine pu ?_
 refine Kb ?_
 refine Kk rfl (fun hc5 => ?_) (fun hc5 => ?_)
 ·replace hm := yes_t hc5 hm
  refine Kd ?_
  refine pu ?_
  refine Kai (d := KL a1) 1 htab rfl rfl rfl rfl rfl rfl rfl rfl ?_
  refine pu ?_
  refine pu ?_
  refine pS0 (ds' := [.lst 4 (a1.gGlobals.map Ks) .no, .lst 5 (a1.gFuncs.map Ko) .no]) ?_
  refine KK ?_
  refine pu ?_
  refine pu ?_
  refine Kb ?_
  refine Kr ?_
  refine KE ?_
  refine Kt ?_
  have er6 := Ke hm; subst er6
  refine rP (t' := [(6, .v (.int .i64 (0 : Int))), (7, .v (.int .i64 (0 : Int)))]) [0] [] 1 (wC (wC wN)) (lT (lT lN)) ?_
  exact ⟨rfl, rfl, rfl⟩
 ·replace hm := yes_f hc5 hm
  exact (KR hm).elim
abbrev nlSt2_1 : List (List Nat) := nlD [] [(0,[]),(0,[0]),(2,[1]),(3,[2]),(4,[3]),(0,[]),(0,[]),(5,[4,5,6]),(8,[7]),(9,[8]),(9,[8]),(10,[9]),(12,[10,11])]
abbrev nlSt2_2 : List (List Nat) := nlD [] [(0,[]),(0,[]),(0,[1]),(3,[2]),(4,[3]),(5,[4]),(0,[]),(6,[5,6]),(0,[]),(0,[8]),(10,[9]),(11,[10]),(12,[11]),(13,[12]),(0,[]),(14,[]),(0,[0,1,2,3,4,5,6,7,8,9,10,11,12]),(17,[16]),(18,[])]
abbrev nlSt2_3 : List (List Nat) := nlD [] [(0,[]),(0,[]),(0,[1]),(3,[2]),(4,[3]),(5,[4]),(0,[]),(6,[5,6]),(0,[]),(0,[8]),(10,[9]),(11,[10]),(12,[11]),(13,[12]),(0,[]),(14,[13,14]),(0,[0,1,2,3,4,5,6,7,8,9,10,11,12,13,14,15]),(17,[16]),(18,[]),(18,[17,18]),(20,[19])]
noncomputable def Kc6 (m0 : Kan) (a1 : List UInt8) : Option (Int × Int × Kan) :=
 ((Kc5 a1).bind fun x3 => (bif (x3.2.2 != (0 : Int)) then none else ((KcF m0.gP.gFuncs x3.1 x3.1).bind fun x7 => ((Kdp m0 (⟨m0.gP.gGlobals, x7.1⟩ : Kl) (IntKind.i64.wrap ((m0.gP.gGlobals.length : Int) + x7.2))).bind fun x8 => some (x8.1, x8.2.1, x8.2.2)))))
theorem KjA (m0 : Kan) (a1 : List UInt8) (o0 : Nat) (T0 : TypeId) (c0_0 : Cap) (c0_1 : Cap) (r : Int × Int × Kan) (h0 : Kc6 m0 a1 = some r) : CallsD Tryz.prog 21 [.ptr o0 0, .lst 1 (a1.map byteD) .no] [(o0, Blk.cells [.lst 4 (m0.gP.gGlobals.map Ks) c0_0, .lst 5 (m0.gP.gFuncs.map Ko) c0_1] T0)] [] (fun d h k => d = .tup [.v (.int .i64 r.1), .v (.int .i64 r.2.1)] ∧ h = [(o0, Blk.cells [.lst 4 (r.2.2.gP.gGlobals.map Ks) .no, .lst 5 (r.2.2.gP.gFuncs.map Ko) .no] T0)] ∧ k = []) := by
 have hm := Kw h0
 unfold Kc6 at hm
 clear h0
 refine K0 htab Tryz.func21 rfl rfl rfl rfl rfl (fun C => ?_)
 refine Kd ?_
 refine pu ?_
 refine pu ?_
 refine Kb ?_
 refine Kg ?_
 refine Kd ?_
 refine pu ?_
 refine p_eqP htab rfl rfl rfl rfl rfl rfl rfl rfl rfl rfl ?_
 refine Kb ?_
 refine KeB rfl ?_
 refine Kp ?_
 refine Ka ?_
 refine Kd ?_
 refine pu ?_
 obtain ⟨x3, q3, hm⟩ := Kc hm
 refine pG (Kjz a1 x3 q3) Wl Pf Pf ?_
 rintro _ _ _ ⟨w1, w2, rfl, rfl, rfl⟩
 iterate 4 refine pu ?_
 refine Kar htab rfl rfl rfl rfl rfl rfl rfl (fun b4 => ?_)
 refine pS1 (ds' := [.v (.string x3.1.gName), .lst 2 (x3.1.gParams.map Kj) (.cur w1), .lst 2 (x3.1.gLocals.map Kj) .no, .lst 7 (x3.1.gBody.map Kf) (.cur w2), .v (.int .i64 x3.1.gAt)]) ?_
 refine pu ?_
 refine pu ?_
 refine Kb ?_
 refine Kg ?_
 refine Kd ?_
 refine pu ?_
 refine pu ?_
 refine Kb ?_
 refine Kk rfl (fun hc6 => ?_) (fun hc6 => ?_)
 ·replace hm := yes_t hc6 hm
  exact (KR hm).elim
 ·replace hm := yes_f hc6 hm
  refine Kp ?_
  refine Ka ?_
  refine Kg ?_
  obtain ⟨x7, q7, hm⟩ := Kc hm
  refine KZ 12 [] [[],[0],[0,1],[0,1,2],[0,1,2,3],[],[],[0,1,2,3,4,5,6],[0,1,2,3,4,5,6,7],[0,1,2,3,4,5,6,7,8],[0,1,2,3,4,5,6,7,8],[0,1,2,3,4,5,6,7,8,9]] [0,1,2,3,4,5,6,7,8,9,11] nlSt2_1 (by kernel_rfl) (by kernel_rfl) (by kernel_rfl) (by rfl) (by rfl) (by kernel_rfl) ?_
  iterate 11 apply Exists.intro
  intro bs
  iterate 4 refine zep ?_
  refine z_eM rfl rfl (KI 0 htab rfl rfl rfl rfl rfl) rfl rfl rfl rfl rfl rfl ?_
  refine z_eM rfl rfl (KI (d := .agg [.v (.string x3.1.gName), .lst 2 (x3.1.gParams.map Kj) (.cur w1), .lst 2 (x3.1.gLocals.map Kj) .no, .lst 7 (x3.1.gBody.map Kf) (.cur w2), .v (.int .i64 x3.1.gAt)]) 1 htab rfl rfl rfl rfl rfl) rfl rfl rfl rfl rfl rfl ?_
  refine zep ?_
  refine Kij 1 rfl rfl (Kiu m0.gP.gFuncs x3.1 x3.1 b4 49 (.cur w1) .no (.cur w2) x7 q7) rfl rfl (WkL.cons (Wk.no) (WkL.cons (Wk.agg (rC (rO (rC (rO (rC WkR.nil)))))) (WkL.cons (Wk.refl _) Wl))) rfl rfl rfl rfl rfl rfl rfl ?_
  refine zep ?_
  refine zep ?_
  refine zqp ?_
  refine zep ?_
  refine z_nil rfl rfl (fun e he => by simp [isAl] at he) ?_
  refine pu ?_
  refine Kb ?_
  refine Kg ?_
  obtain ⟨x8, q8, hm⟩ := Kc hm
  refine wpD_heavyX (X := BK) 19 [] nlSt2_2 [0,1,2,3,4,5,6,7,8,9,10,11,12,16] nlSt2_3 ⟨16, fun x => x.1 ++ [(b4, Blk.cells [.v (.string x3.1.gName), .lst 2 (x3.1.gParams.map Kj) (.cur w1), .lst 2 (x3.1.gLocals.map Kj) .no, .lst 7 (x3.1.gBody.map Kf) (.cur w2), .v (.int .i64 x3.1.gAt)] 49)], fun x => x.2 ++ [(2, w1), (7, w2)], fun x => x.1 = [(o0, Blk.cells [.lst 4 (x8.2.2.gP.gGlobals.map Ks) .no, .lst 5 (x8.2.2.gP.gFuncs.map Ko) .no] T0)] ∧ x.2 = []⟩ ([], []) (by kernel_rfl) (by kernel_rfl) (by kernel_rfl) (by rfl) (by rfl) (by kernel_rfl) ?_
  iterate 14 apply Exists.intro
  intro bs
  iterate 5 refine zx_e rfl rfl (Kay htab rfl) rfl rfl rfl rfl rfl rfl rfl rfl ?_
  refine zx_M rfl rfl (fun _ => KI 0 htab rfl rfl rfl rfl rfl) (offB rfl) rfl rfl rfl rfl rfl rfl rfl rfl ?_
  refine zx_e rfl rfl (Kay htab rfl) rfl rfl rfl rfl rfl rfl rfl rfl ?_
  refine zx_e rfl rfl (KjW (r := [.lst 4 (m0.gP.gGlobals.map Ks) c0_0, .lst 5 (x7.1.map Ko) .no]) htab rfl rfl rfl rfl rfl rfl) rfl rfl rfl rfl rfl rfl rfl rfl ?_
  iterate 4 refine zx_e rfl rfl (Kay htab rfl) rfl rfl rfl rfl rfl rfl rfl rfl ?_
  refine zx_M rfl rfl (fun _ => KI 0 htab rfl rfl rfl rfl rfl) (offB rfl) rfl rfl rfl rfl rfl rfl rfl rfl ?_
  refine zx_q rfl rfl (KdF htab rfl rfl rfl rfl (by first | exact KM | rfl)) rfl rfl rfl rfl rfl rfl ?_
  refine zx_q rfl rfl (Kay htab rfl) rfl rfl rfl rfl rfl rfl ?_
  refine zx_q rfl rfl (Kay htab rfl) rfl rfl rfl rfl rfl rfl ?_
  refine zx_callH (h1 := [(o0, Blk.cells [.lst 4 (m0.gP.gGlobals.map Ks) c0_0, .lst 5 (m0.gP.gFuncs.map Ko) c0_1] T0)]) (k1 := []) (d := .tup [.v (.int .i64 x8.1), .v (.int .i64 x8.2.1)]) rfl rfl rfl (KjM m0 (⟨m0.gP.gGlobals, x7.1⟩ : Kl) (IntKind.i64.wrap ((m0.gP.gGlobals.length : Int) + x7.2)) o0 T0 c0_0 c0_1 x8 q8) rfl rfl (WkL.cons (Wk.refl _) (WkL.cons (Wk.agg (rO (rC WkR.nil))) (WkL.cons (Wk.refl _) Wl))) Pf Pf (fun _ => rfl) (fun _ => rfl) (fun d' h' k' ⟨e1, e2, e3⟩ => ⟨⟨e2, e3⟩, by subst e1; exact Wk.refl _⟩) rfl rfl rfl rfl rfl rfl ?_
  refine zx_q rfl rfl (Kay htab rfl) rfl rfl rfl rfl rfl rfl ?_
  refine zx_q rfl rfl (Kay htab rfl) rfl rfl rfl rfl rfl rfl ?_
  refine zx_nilB (h2 := [(b4, Blk.cells [.v (.string x3.1.gName), .lst 2 (x3.1.gParams.map Kj) (.cur w1), .lst 2 (x3.1.gLocals.map Kj) .no, .lst 7 (x3.1.gBody.map Kf) (.cur w2), .v (.int .i64 x3.1.gAt)] 49)]) (hz := [(b4, Blk.cells [.v (.string x3.1.gName), .lst 2 (x3.1.gParams.map Kj) (.cur w1), .lst 2 (x3.1.gLocals.map Kj) .no, .lst 7 (x3.1.gBody.map Kf) (.cur w2), .v (.int .i64 x3.1.gAt)] 49)]) rfl rfl (fun _ => rfl) (fun _ => rfl) rfl (fun e he => by simp [isAl] at he) ?_
  rintro _ _ ⟨rfl, rfl⟩
  refine pu ?_
  refine pu ?_
  refine Kb ?_
  refine Kr ?_
  have er9 := Ke hm; subst er9
  refine rP (t' := [(4, .v (.int .i64 x8.1)), (5, .v (.int .i64 x8.2.1))]) [0] [] 1 (wC (wC wN)) (lT (lT lN)) ?_
  exact ⟨rfl, rfl, rfl⟩
noncomputable def KaL (a0 : List Kaw) (m0 : ByteArray) : Option (Int) :=
 (Option.bind (α := Unit) (loopM (fun (s7 : Unit) => (bif (decide ((0 : Int) < (a0.length : Int))) then none else some (.done ()))) ()) fun y6 => some (-1 : Int))
theorem KdT (a0 : List Kaw) (m0 : ByteArray) (o0 : Nat) (T0 : TypeId) (r : Int) (h0 : KaL a0 m0 = some r) : CallsD Tryz.prog 85 [.lst 4 (a0.map Ks) .no, .fn (.func 53) [] [.ptr o0 0]] [(o0, Blk.cells [.v (.string m0)] T0)] [] (fun d h k => d = .v (.int .i64 r) ∧ h = [(o0, Blk.cells [.v (.string m0)] T0)] ∧ k = []) := by
 have hm := Kw h0
 unfold KaL at hm
 clear h0
 refine K0 htab Tryz.func85 rfl rfl rfl rfl rfl (fun C => ?_)
 refine Kd ?_
 refine pu ?_
 refine Kb ?_
 refine Kg ?_
 refine Kd ?_
 refine pu ?_
 refine Kaa htab rfl rfl rfl rfl rfl rfl rfl (by first | exact KM | rfl) ?_
 refine pu ?_
 refine Kb ?_
 obtain ⟨y6, q6, ho6⟩ := Kc hm
 refine K5 (Y := Unit) (fun z6 => (⟨[], [(o0, Blk.cells [.v (.string m0)] T0)], []⟩ : S)) ?_ ?_
 ·clear hm; have hm := Kw q6
  refine KA ?_
  obtain ⟨u7, hl7, hq7⟩ := yes_m hm
  refine Kav (Y := Unit) hl7 (fun s7 z7 => (⟨[(0, .lst 4 (a0.map Ks) .no), (1, .fn (.func 53) [] [.ptr o0 0]), (7, .v (.int .i64 (a0.length : Int))), (8, .v (.int .i64 (0 : Int)))], [(o0, Blk.cells [.v (.string m0)] T0)], []⟩ : S)) ?_ ?_
  ·skip
   exact WkX.of () (WkS.perm (WkS.cons rfl (Wk.refl _) (WkS.cons rfl (Wk.refl _) (WkS.cons rfl (Wk.refl _) (WkS.cons rfl (Wk.refl _) (WkS.nil))))) Pf Pf)
  ·intro G7 s7 z7 hm
   refine Kd ?_
   refine pu ?_
   refine Kb ?_
   refine Kg ?_
   refine Kk rfl (fun hc10 => ?_) (fun hc10 => ?_)
   ·replace hm := yes_t hc10 hm
    exact (KR hm).elim
   ·replace hm := yes_f hc10 hm
    refine Kad ?_
    refine KC ?_
    have e7 := KP hm; subst e7; clear hm; have hm := hq7
    refine KC ?_
    refine K7 ?_
    have e6 := Ke hm; subst e6
    refine ⟨rfl, ?_⟩
    exact WkX.of () (WkS.perm (WkS.nil) Pf Pf)
 ·intro s6 hw6; clear hm; have hm := ho6; clear q6 ho6
  refine Ka ?_
  refine KQ hw6 (fun z6 => ?_)
  refine Kd ?_
  refine pu ?_
  refine Kb ?_
  refine Kr ?_
  have er11 := Ke hm; subst er11
  refine rP (t' := [(4, .v (.int .i64 (-1 : Int)))]) [0] [] 1 (wC wN) (lT lN) ?_
  exact ⟨rfl, rfl, rfl⟩
noncomputable def KaH (a0 : List Kaw) (m0 : ByteArray) : Option (List Kaw) :=
 ((KaL a0 m0).bind fun x1 => (bif (x1 == (-1 : Int)) then some a0 else none))
theorem KdH (a0 : List Kaw) (m0 : ByteArray) (o0 : Nat) (T0 : TypeId) (r : List Kaw) (h0 : KaH a0 m0 = some r) : CallsD Tryz.prog 51 [.lst 4 (a0.map Ks) .no, .fn (.func 53) [] [.ptr o0 0]] [(o0, Blk.cells [.v (.string m0)] T0)] [] (fun d h k => d = .lst 4 (r.map Ks) .no ∧ h = [(o0, Blk.cells [.v (.string m0)] T0)] ∧ k = []) := by
 have hm := Kw h0
 unfold KaH at hm
 clear h0
 refine K0 htab Tryz.func51 rfl rfl rfl rfl rfl (fun C => ?_)
 refine Kd ?_
 refine pu ?_
 refine KK ?_
 refine pu ?_
 refine pu ?_
 obtain ⟨x1, q1, hm⟩ := Kc hm
 refine pG (KdT a0 m0 o0 T0 x1 q1) Wl Pf Pf ?_
 rintro _ _ _ ⟨rfl, rfl, rfl⟩
 refine pu ?_
 refine Kb ?_
 refine Kg ?_
 refine Kd ?_
 refine pu ?_
 refine pu ?_
 refine Kb ?_
 refine Kk rfl (fun hc3 => ?_) (fun hc3 => ?_)
 ·replace hm := yes_t hc3 hm
  refine Kd ?_
  refine pu ?_
  refine pu ?_
  refine Kb ?_
  refine Kr ?_
  refine Kt ?_
  have er4 := Ke hm; subst er4
  refine rP (t' := [(4, .lst 4 (a0.map Ks) .no)]) [0] [] 1 (wC wN) (lT lN) ?_
  exact ⟨rfl, rfl, rfl⟩
 ·replace hm := yes_f hc3 hm
  exact (KR hm).elim
noncomputable def KcG (a0 : Km) (m0 : ByteArray) : Option (Bool) :=
 some (decide (a0.gName = m0))
theorem Kiv (a0 : Km) (m0 : ByteArray) (o0 : Nat) (T0 : TypeId) (r : Bool) (h0 : KcG a0 m0 = some r) : CallsD Tryz.prog 56 [Ko a0, .ptr o0 0] [(o0, Blk.cells [.v (.string m0)] T0)] [] (fun d h k => d = .v (.bool r) ∧ h = [(o0, Blk.cells [.v (.string m0)] T0)] ∧ k = []) := by
 have hm := Kw h0
 unfold KcG at hm
 clear h0
 refine K0 htab Tryz.func56 rfl rfl rfl rfl rfl (fun C => ?_)
 refine Kd ?_
 refine p_box rfl rfl rfl rfl rfl rfl rfl (fun b1 => ?_)
 refine pu ?_
 refine KK ?_
 refine pu ?_
 refine pL 1 ?_
 refine pL 0 ?_
 refine pu ?_
 refine pu ?_
 refine Kb ?_
 refine Kr ?_
 have er2 := Ke hm; subst er2
 refine rP (t' := [(3, .v (.bool (decide (a0.gName = m0))))]) [0] [] 1 (wC wN) (lT lN) ?_
 exact ⟨rfl, rfl, rfl⟩
noncomputable def KaQ (a0 : List Km) (m0 : ByteArray) : Option (Int) :=
 (Option.bind (α := Unit) (loopM (fun (s18 : Int) => (bif (decide (s18 < (a0.length : Int))) then ((idx a0 s18).bind fun x30 => ((KcG x30 m0).bind fun x31 => (bif x31 then none else some (.next (IntKind.i64.wrap (s18 + (1 : Int))))))) else some (.done ()))) (0 : Int)) fun y17 => some (-1 : Int))
theorem Ken (a0 : List Km) (m0 : ByteArray) (o0 : Nat) (T0 : TypeId) (r : Int) (h0 : KaQ a0 m0 = some r) : CallsD Tryz.prog 82 [.lst 5 (a0.map Ko) .no, .fn (.func 56) [] [.ptr o0 0]] [(o0, Blk.cells [.v (.string m0)] T0)] [] (fun d h k => d = .v (.int .i64 r) ∧ h = [(o0, Blk.cells [.v (.string m0)] T0)] ∧ k = []) := by
 have hm := Kw h0
 unfold KaQ at hm
 clear h0
 refine K0 htab Tryz.func82 rfl rfl rfl rfl rfl (fun C => ?_)
 refine Kd ?_
 refine pu ?_
 refine Kb ?_
 refine Kg ?_
 refine Kd ?_
 refine pu ?_
 refine Kaa htab rfl rfl rfl rfl rfl rfl rfl (by first | exact KM | rfl) ?_
 refine pu ?_
 refine Kb ?_
 obtain ⟨y17, q17, ho17⟩ := Kc hm
 refine K5 (Y := Unit) (fun z17 => (⟨[], [(o0, Blk.cells [.v (.string m0)] T0)], []⟩ : S)) ?_ ?_
 ·clear hm; have hm := Kw q17
  refine KA ?_
  obtain ⟨u18, hl18, hq18⟩ := yes_m hm
  refine Kav (Y := Unit) hl18 (fun s18 z18 => (⟨[(0, .lst 5 (a0.map Ko) .no), (1, .fn (.func 56) [] [.ptr o0 0]), (7, .v (.int .i64 (a0.length : Int))), (8, .v (.int .i64 s18))], [(o0, Blk.cells [.v (.string m0)] T0)], []⟩ : S)) ?_ ?_
  ·skip
   exact WkX.of () (WkS.perm (WkS.cons rfl (Wk.refl _) (WkS.cons rfl (Wk.refl _) (WkS.cons rfl (Wk.refl _) (WkS.cons rfl (Wk.refl _) (WkS.nil))))) Pf Pf)
  ·intro G18 s18 z18 hm
   refine Kd ?_
   refine pu ?_
   refine Kb ?_
   refine Kg ?_
   refine Kk rfl (fun hc29 => ?_) (fun hc29 => ?_)
   ·replace hm := yes_t hc29 hm
    refine Kp ?_
    refine Ka ?_
    refine Kg ?_
    refine KA ?_
    refine Kd ?_
    refine pu ?_
    refine pu ?_
    refine KK ?_
    iterate 3 refine pu ?_
    obtain ⟨x30, q30, hm⟩ := Kc hm
    refine KaD htab rfl rfl rfl rfl rfl rfl rfl rfl rfl rfl (Kz q30) (KG q30) ?_
    refine Kat (d := Ko x30) htab rfl rfl rfl rfl rfl rfl rfl rfl ?_
    obtain ⟨x31, q31, hm⟩ := Kc hm
    refine KgV (Kiv x30 m0 o0 T0 x31 q31) rfl rfl rfl rfl rfl rfl rfl Wl Pf Pf ?_
    rintro _ _ _ ⟨rfl, rfl, rfl⟩
    refine Kb ?_
    refine Kk rfl (fun hc32 => ?_) (fun hc32 => ?_)
    ·replace hm := yes_t hc32 hm
     exact (KR hm).elim
    ·replace hm := yes_f hc32 hm
     refine Kp ?_
     refine KF ?_
     refine Ka ?_
     refine Kx ?_
     refine pu ?_
     refine pu ?_
     refine Ky ?_
     refine Ka ⟨_, Kam hm, ?_⟩
     exact WkX.of () (WkS.perm (WkS.cons rfl (Wk.refl _) (WkS.cons rfl (Wk.refl _) (WkS.cons rfl (Wk.refl _) (WkS.cons rfl (Wk.refl _) (WkS.nil))))) Pf Pf)
   ·replace hm := yes_f hc29 hm
    refine Kad ?_
    refine KC ?_
    have e18 := KP hm; subst e18; clear hm; have hm := hq18
    refine KC ?_
    refine K7 ?_
    have e17 := Ke hm; subst e17
    refine ⟨rfl, ?_⟩
    exact WkX.of () (WkS.perm (WkS.nil) Pf Pf)
 ·intro s17 hw17; clear hm; have hm := ho17; clear q17 ho17
  refine Ka ?_
  refine KQ hw17 (fun z17 => ?_)
  refine Kd ?_
  refine pu ?_
  refine Kb ?_
  refine Kr ?_
  have er33 := Ke hm; subst er33
  refine rP (t' := [(4, .v (.int .i64 (-1 : Int)))]) [0] [] 1 (wC wN) (lT lN) ?_
  exact ⟨rfl, rfl, rfl⟩
noncomputable def KaR (a0 : List Km) (m0 : ByteArray) : Option (List Km) :=
 ((KaQ a0 m0).bind fun x1 => (bif (x1 == (-1 : Int)) then some a0 else none))
theorem Keo (a0 : List Km) (m0 : ByteArray) (o0 : Nat) (T0 : TypeId) (r : List Km) (h0 : KaR a0 m0 = some r) : CallsD Tryz.prog 54 [.lst 5 (a0.map Ko) .no, .fn (.func 56) [] [.ptr o0 0]] [(o0, Blk.cells [.v (.string m0)] T0)] [] (fun d h k => d = .lst 5 (r.map Ko) .no ∧ h = [(o0, Blk.cells [.v (.string m0)] T0)] ∧ k = []) := by
 have hm := Kw h0
 unfold KaR at hm
 clear h0
 refine K0 htab Tryz.func54 rfl rfl rfl rfl rfl (fun C => ?_)
 refine Kd ?_
 refine pu ?_
 refine KK ?_
 refine pu ?_
 refine pu ?_
 obtain ⟨x1, q1, hm⟩ := Kc hm
 refine pG (Ken a0 m0 o0 T0 x1 q1) Wl Pf Pf ?_
 rintro _ _ _ ⟨rfl, rfl, rfl⟩
 refine pu ?_
 refine Kb ?_
 refine Kg ?_
 refine Kd ?_
 refine pu ?_
 refine pu ?_
 refine Kb ?_
 refine Kk rfl (fun hc3 => ?_) (fun hc3 => ?_)
 ·replace hm := yes_t hc3 hm
  refine Kd ?_
  refine pu ?_
  refine pu ?_
  refine Kb ?_
  refine Kr ?_
  refine Kt ?_
  have er4 := Ke hm; subst er4
  refine rP (t' := [(4, .lst 5 (a0.map Ko) .no)]) [0] [] 1 (wC wN) (lT lN) ?_
  exact ⟨rfl, rfl, rfl⟩
 ·replace hm := yes_f hc3 hm
  exact (KR hm).elim
abbrev nlSt2_4 : List (List Nat) := nlD [] [(0,[]),(0,[0]),(2,[1]),(3,[2]),(4,[3]),(5,[4]),(0,[]),(6,[5,6]),(0,[]),(0,[8]),(10,[9]),(11,[10]),(12,[11]),(8,[7,8,9,10,11,12]),(0,[]),(14,[13,14]),(16,[15]),(0,[])]
abbrev nlSt2_5 : List (List Nat) := nlD [] [(0,[]),(0,[0]),(2,[1]),(3,[2]),(4,[3]),(5,[4]),(0,[]),(6,[5,6]),(0,[]),(0,[8]),(10,[9]),(11,[10]),(12,[11]),(8,[7,8,9,10,11,12]),(0,[]),(14,[13,14]),(16,[15]),(0,[]),(17,[16,17])]
abbrev nlSt2_6 : List (List Nat) := nlD [] [(0,[]),(0,[0]),(2,[1]),(0,[]),(0,[3]),(5,[4]),(6,[5]),(7,[6]),(8,[7]),(3,[3,4,5,6,7]),(10,[]),(10,[]),(10,[11]),(13,[12]),(10,[]),(10,[14]),(16,[15]),(17,[16]),(18,[17]),(19,[18])]
abbrev nlSt2_7 : List (List Nat) := nlD [] [(0,[]),(0,[0]),(2,[1]),(0,[]),(0,[3]),(5,[4]),(6,[5]),(7,[6]),(8,[7]),(3,[2,3,4,5,6,7,8]),(10,[9]),(11,[10]),(12,[11]),(13,[12]),(12,[]),(12,[14]),(16,[15]),(17,[16]),(18,[17]),(19,[18]),(14,[13,14,15,16,17,18,19]),(21,[20])]
noncomputable def Kc7 (m0 : Kan) (a1 : ByteArray) : Option (Int) :=
 ((KaB m0.gP.gGlobals).bind fun x3 => ((KaH x3 a1).bind fun x4 => ((KaP m0.gP.gFuncs).bind fun x6 => ((KaR x6 a1).bind fun x7 => (bif ((x4.length : Int) == (m0.gP.gGlobals.length : Int)) then (bif ((x7.length : Int) == (m0.gP.gFuncs.length : Int)) then some (7 : Int) else none) else none)))))
theorem KjB (m0 : Kan) (a1 : ByteArray) (o0 : Nat) (T0 : TypeId) (c0_0 : Cap) (c0_1 : Cap) (r : Int) (h0 : Kc7 m0 a1 = some r) : CallsD Tryz.prog 23 [.ptr o0 0, .v (.string a1)] [(o0, Blk.cells [.lst 4 (m0.gP.gGlobals.map Ks) c0_0, .lst 5 (m0.gP.gFuncs.map Ko) c0_1] T0)] [] (fun d h k => d = .v (.int .i64 r) ∧ h = [(o0, Blk.cells [.lst 4 (m0.gP.gGlobals.map Ks) c0_0, .lst 5 (m0.gP.gFuncs.map Ko) c0_1] T0)] ∧ k = []) := by
 have hm := Kw h0
 unfold Kc7 at hm
 clear h0
 refine K0 htab Tryz.func23 rfl rfl rfl rfl rfl (fun C => ?_)
 refine Kd ?_
 refine p_box rfl rfl rfl rfl rfl rfl rfl (fun b1 => ?_)
 refine pu ?_
 refine Kb ?_
 refine Kg ?_
 refine Kd ?_
 refine pu ?_
 refine p_eqP htab rfl rfl rfl rfl rfl rfl rfl rfl rfl rfl ?_
 refine Kb ?_
 refine KeB rfl ?_
 refine Kp ?_
 refine Ka ?_
 refine Kg ?_
 obtain ⟨x3, q3, hm⟩ := Kc hm
 obtain ⟨x4, q4, hm⟩ := Kc hm
 obtain ⟨x6, q6, hm⟩ := Kc hm
 obtain ⟨x7, q7, hm⟩ := Kc hm
 refine KZ 18 [(17, [.lst 1 [] .full, .lst 1 [] .full], 28)] nlSt2_4 [0,1,2,3,4,5,6,7,8,9,10,11,12,13,14,15,16,17] nlSt2_5 (by kernel_rfl) (by kernel_rfl) (by kernel_rfl) (by rfl) (by rfl) (by kernel_rfl) ?_
 iterate 17 apply Exists.intro
 refine ⟨.any, ?_⟩
 intro bs
 iterate 4 refine zep ?_
 refine z_eM rfl rfl (KI 0 htab rfl rfl rfl rfl rfl) rfl rfl rfl rfl rfl rfl ?_
 refine Kbj rfl rfl (Kem m0.gP.gGlobals x3 q3) rfl rfl (WkL.cons (Wk.no) Wl) rfl rfl rfl rfl rfl rfl ?_
 refine zep ?_
 refine Kij 1 rfl rfl (KdH x3 a1 b1 9 x4 q4) rfl rfl Wl rfl rfl rfl rfl rfl rfl rfl ?_
 iterate 4 refine zep ?_
 refine z_eM rfl rfl (KI 0 htab rfl rfl rfl rfl rfl) rfl rfl rfl rfl rfl rfl ?_
 refine Kbj rfl rfl (KeY m0.gP.gFuncs x6 q6) rfl rfl (WkL.cons (Wk.no) Wl) rfl rfl rfl rfl rfl rfl ?_
 refine zep ?_
 refine Kij 1 rfl rfl (Keo x6 a1 b1 9 x7 q7) rfl rfl Wl rfl rfl rfl rfl rfl rfl rfl ?_
 refine z_e rfl rfl (KjW (r := [.lst 4 (x4.map Ks) .no, .lst 5 (x7.map Ko) .no]) htab rfl rfl rfl rfl rfl rfl) rfl rfl rfl rfl rfl rfl ?_
 refine z_alloc rfl htab rfl rfl rfl rfl rfl rfl rfl rfl (by simp [dOf, eI64]) (by simp) ?_
 refine z_nil rfl (by simp only [List.map_cons, List.map_nil]; exact rfl) (fun e he => by simp [isAl] at he; subst he; rfl) ?_
 obtain ⟨b8, hb8⟩ : ∃ b, bs 17 = b := ⟨_, rfl⟩
 simp only [hb8]
 clear hb8
 refine pS2 (ds' := [.lst 4 (x4.map Ks) .no, .lst 5 (x7.map Ko) .no]) ?_
 refine Kb ?_
 refine Kg ?_
 refine Kg ?_
 refine bycB ((x4.length : Int) == (m0.gP.gGlobals.length : Int)) (fun hs16 => ?_) (fun hs16 => ?_)
 ·replace hm := yes_t hs16 hm
  refine KZ 20 [] nlSt2_6 [0,1,3,4,5,6,7,11,12,14,15,16,17,18] nlSt2_7 (by kernel_rfl) (by kernel_rfl) (by kernel_rfl) (by rfl) (by rfl) (by kernel_rfl) ?_
  iterate 14 apply Exists.intro
  intro bs
  refine zep ?_
  refine z_eM rfl rfl (KI 2 htab rfl rfl rfl rfl rfl) rfl rfl rfl rfl rfl rfl ?_
  refine z_q rfl rfl (KdF htab rfl rfl rfl rfl (by first | exact KM | rfl)) rfl rfl rfl rfl rfl rfl ?_
  iterate 4 refine zep ?_
  refine z_eM rfl rfl (KI 0 htab rfl rfl rfl rfl rfl) rfl rfl rfl rfl rfl rfl ?_
  refine z_q rfl rfl (KdF htab rfl rfl rfl rfl (by first | exact KM | rfl)) rfl rfl rfl rfl rfl rfl ?_
  refine zqp ?_
  refine zqp ?_
  refine Kas (j := 37) (b' := true) rfl hs16 ?_
  refine zep ?_
  refine z_eM rfl rfl (KI 2 htab rfl rfl rfl rfl rfl) rfl rfl rfl rfl rfl rfl ?_
  refine z_q rfl rfl (KdF htab rfl rfl rfl rfl (by first | exact KM | rfl)) rfl rfl rfl rfl rfl rfl ?_
  iterate 4 refine zep ?_
  refine z_eM rfl rfl (KI 0 htab rfl rfl rfl rfl rfl) rfl rfl rfl rfl rfl rfl ?_
  refine z_q rfl rfl (KdF htab rfl rfl rfl rfl (by first | exact KM | rfl)) rfl rfl rfl rfl rfl rfl ?_
  refine z_nil rfl rfl (fun e he => by simp [isAl] at he) ?_
  refine pu ?_
  refine K3 rfl rfl rfl rfl rfl rfl ?_
  refine Kb ?_
  refine Kk rfl (fun hc18 => ?_) (fun hc18 => ?_)
  ·replace hm := yes_t hc18 hm
   refine Kd ?_
   refine pu ?_
   refine Kb ?_
   refine Kr ?_
   refine Kt ?_
   have er19 := Ke hm; subst er19
   refine rP (t' := [(4, .v (.int .i64 (7 : Int)))]) [0] [] 1 (wC wN) (lT lN) ?_
   exact ⟨rfl, rfl, rfl⟩
  ·replace hm := yes_f hc18 hm
   exact (KR hm).elim
 ·replace hm := yes_f hs16 hm
  exact (KR hm).elim
noncomputable def l36_lives : Option (Bool) :=
 (store_New.bind fun x4 => ((Kc6 x4 ([(105 : UInt8), (110 : UInt8), (116 : UInt8), (32 : UInt8), (109 : UInt8), (97 : UInt8), (105 : UInt8), (110 : UInt8), (40 : UInt8), (41 : UInt8), (32 : UInt8), (123 : UInt8), (32 : UInt8), (114 : UInt8), (101 : UInt8), (116 : UInt8), (117 : UInt8), (114 : UInt8), (110 : UInt8), (32 : UInt8), (51 : UInt8), (59 : UInt8), (32 : UInt8), (125 : UInt8)] : List UInt8)).bind fun x5 => (bif (x5.1 == (0 : Int)) then (bif (x5.2.1 == (0 : Int)) then ((KbC x5.2.2).bind fun x8 => (bif ((x8.gFuncs.length : Int) == (1 : Int)) then ((Kc7 x5.2.2 (ByteArray.mk #[102])).bind fun x10 => some (x10 == (7 : Int))) else some false)) else some false) else some false)))
theorem KjN  (r : Bool) (h0 : l36_lives = some r) : CallsD Tryz.prog 15 [] [] [] (fun d h k => d = .v (.bool r) ∧ h = [] ∧ k = []) := by
 have hm := Kw h0
 unfold l36_lives at hm
 clear h0
 refine K0 htab Tryz.func15 rfl rfl rfl rfl rfl (fun C => ?_)
 refine Kd ?_
 refine pu ?_
 refine KK ?_
 obtain ⟨x4, q4, hm⟩ := Kc hm
 refine pG (Kmb x4 q4) Wl Pf Pf ?_
 rintro _ _ _ ⟨w1, w2, w3, rfl, rfl, rfl⟩
 refine pu ?_
 refine Kb ?_
 refine Kg ?_
 refine Kd ?_
 refine pu ?_
 refine p_eqP htab rfl rfl rfl rfl rfl rfl rfl rfl rfl rfl ?_
 refine Kb ?_
 refine KeB rfl ?_
 refine Kp ?_
 refine Ka ?_
 refine Kd ?_
 refine pu ?_
 refine p_litB htab rfl rfl rfl rfl rfl rfl rfl rfl rfl rfl rfl rfl rfl rfl rfl rfl rfl rfl rfl ?_
 refine p_eq (i := 10) (d' := .lst 1 (([(105 : UInt8), (110 : UInt8), (116 : UInt8), (32 : UInt8), (109 : UInt8), (97 : UInt8), (105 : UInt8), (110 : UInt8), (40 : UInt8), (41 : UInt8), (32 : UInt8), (123 : UInt8), (32 : UInt8), (114 : UInt8), (101 : UInt8), (116 : UInt8), (117 : UInt8), (114 : UInt8), (110 : UInt8), (32 : UInt8), (51 : UInt8), (59 : UInt8), (32 : UInt8), (125 : UInt8)] : List UInt8).map byteD) .no) rfl (Wk.lst0 (.cons (WkC.refl _) (.cons (WkC.refl _) (.cons (WkC.refl _) (.cons (WkC.refl _) (.cons (WkC.refl _) (.cons (WkC.refl _) (.cons (WkC.refl _) (.cons (WkC.refl _) (.cons (WkC.refl _) (.cons (WkC.refl _) (.cons (WkC.refl _) (.cons (WkC.refl _) (.cons (WkC.refl _) (.cons (WkC.refl _) (.cons (WkC.refl _) (.cons (WkC.refl _) (.cons (WkC.refl _) (.cons (WkC.refl _) (.cons (WkC.refl _) (.cons (WkC.refl _) (.cons (WkC.refl _) (.cons (WkC.refl _) (.cons (WkC.refl _) (.cons (WkC.refl _) (.nil)))))))))))))))))))))))))) ?_
 obtain ⟨x5, q5, hm⟩ := Kc hm
 refine pG (KjA x4 ([(105 : UInt8), (110 : UInt8), (116 : UInt8), (32 : UInt8), (109 : UInt8), (97 : UInt8), (105 : UInt8), (110 : UInt8), (40 : UInt8), (41 : UInt8), (32 : UInt8), (123 : UInt8), (32 : UInt8), (114 : UInt8), (101 : UInt8), (116 : UInt8), (117 : UInt8), (114 : UInt8), (110 : UInt8), (32 : UInt8), (51 : UInt8), (59 : UInt8), (32 : UInt8), (125 : UInt8)] : List UInt8) w1 59 (.cur w2) (.cur w3) x5 q5) Wl Pf Pf ?_
 rintro _ _ _ ⟨rfl, rfl, rfl⟩
 iterate 5 refine pu ?_
 refine KK ?_
 iterate 3 refine pu ?_
 refine Kaj (i := 16) rfl (fun hg6 => ?_) (fun hg6 => ?_)
 ·replace hm := yes_t hg6 hm
  refine pu ?_
  refine pu ?_
  refine K3 rfl rfl rfl rfl rfl rfl ?_
  refine pu ?_
  refine Kaj (i := 20) rfl (fun hg7 => ?_) (fun hg7 => ?_)
  ·replace hm := yes_t hg7 hm
   refine pu ?_
   obtain ⟨x8, q8, hm⟩ := Kc hm
   refine pG (Kfb x5.2.2 w1 59 .no .no x8 q8) Wl Pf Pf ?_
   rintro _ _ _ ⟨rfl, rfl, rfl⟩
   refine pu ?_
   refine Kaa htab rfl rfl rfl rfl rfl rfl rfl (by first | exact KM | rfl) ?_
   refine pu ?_
   refine K3 rfl rfl rfl rfl rfl rfl ?_
   refine pu ?_
   refine Kaj (i := 27) rfl (fun hg9 => ?_) (fun hg9 => ?_)
   ·replace hm := yes_t hg9 hm
    refine pu ?_
    obtain ⟨x10, q10, hm⟩ := Kc hm
    refine pG (KjB x5.2.2 (ByteArray.mk #[102]) w1 59 .no .no x10 q10) Wl Pf Pf ?_
    rintro _ _ _ ⟨rfl, rfl, rfl⟩
    refine pu ?_
    refine K3 rfl rfl rfl rfl rfl rfl ?_
    refine pu ?_
    refine Kb ?_
    refine Kr ?_
    have er11 := Ke hm; subst er11
    refine rP (t' := [(0, .v (.bool (x10 == (7 : Int))))]) [] [] 0 (wC wN) (lT lN) ?_
    exact ⟨rfl, rfl, rfl⟩
   ·replace hm := yes_f hg9 hm
    iterate 3 refine pK ?_
    refine KO rfl rfl rfl rfl rfl rfl ?_
    refine pu ?_
    refine Kb ?_
    refine Kr ?_
    have er12 := Ke hm; subst er12
    refine rP (t' := [(0, .v (.bool false))]) [] [] 0 (wC wN) (lT lN) ?_
    exact ⟨rfl, rfl, rfl⟩
  ·replace hm := yes_f hg7 hm
   iterate 5 refine pK ?_
   refine KO rfl rfl rfl rfl rfl rfl ?_
   refine pu ?_
   iterate 3 refine pK ?_
   refine KO rfl rfl rfl rfl rfl rfl ?_
   refine pu ?_
   refine Kb ?_
   refine Kr ?_
   have er13 := Ke hm; subst er13
   refine rP (t' := [(0, .v (.bool false))]) [] [] 0 (wC wN) (lT lN) ?_
   exact ⟨rfl, rfl, rfl⟩
 ·replace hm := yes_f hg6 hm
  refine pK ?_
  refine pK ?_
  refine KO rfl rfl rfl rfl rfl rfl ?_
  refine pu ?_
  iterate 5 refine pK ?_
  refine KO rfl rfl rfl rfl rfl rfl ?_
  refine pu ?_
  iterate 3 refine pK ?_
  refine KO rfl rfl rfl rfl rfl rfl ?_
  refine pu ?_
  refine Kb ?_
  refine Kr ?_
  have er14 := Ke hm; subst er14
  refine rP (t' := [(0, .v (.bool false))]) [] [] 0 (wC wN) (lT lN) ?_
  exact ⟨rfl, rfl, rfl⟩
end Go.Proofs.YtipfljkjjddapaaGreatDoor.Ab
