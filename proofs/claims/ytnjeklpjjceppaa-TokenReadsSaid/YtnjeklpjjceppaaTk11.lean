/- Layer 10: what was proved by hand, as functions of plain data; the law. -/
import Derived.Test.YtnjeklpjjceppaaTk9
import Derived.Test.YtnjeklpjjceppaaTr3
namespace Go.Proofs.Ytnjeklpjjceppaa.Ab
open Go
set_option linter.all false
structure TApiToken where
  gKind : Int
  gText : ByteArray
  gN : Int
  gAt : Int
def eTApiToken (x : TApiToken) : D := .agg [.v (.int .i64 x.gKind), .v (.string x.gText), .v (.int .i64 x.gN), .v (.int .i64 x.gAt)]
def tokT (x : Tok) : TApiToken := ⟨x.kind, x.text, x.n, (x.at_ : Int)⟩
theorem tokT_enc (l : List Tok) : (l.map tokT).map eTApiToken = l.map tokD := by
  rw [List.map_map]; rfl
def tkRead (s : List UInt8) : List TApiToken × Int × Int :=
  match readR s with
  | .ok l => (l.map tokT, 0, 0)
  | .bad a e => ([], (a : Int), e)
noncomputable def token_Read_big (a0 : List UInt8) : Option (List TApiToken × Int × Int) :=
  (bif (decide ((20000 : Int) < (a0.length : Int))) then some (([] : List TApiToken), (0 : Int), (6 : Int)) else none)
set_option maxRecDepth 100000 in
set_option maxHeartbeats 2000000 in
theorem token_Read_big_ok (a0 : List UInt8) (r : List TApiToken × Int × Int) (h0 : token_Read_big a0 = some r) : CallsD Try.prog 6 [.lst 1 (a0.map byteD) .no] [] [] (fun d h k => ∃ y0, d = .tup [.lst 4 (r.1.map eTApiToken) (.cur y0), .v (.int .i64 r.2.1), .v (.int .i64 r.2.2)] ∧ h = [] ∧ k = [(4, y0)]) := by
  have hm := yes_of h0
  unfold token_Read_big at hm
  clear h0
  refine enterX htab Try.func6 rfl rfl rfl rfl rfl (fun C => ?_)
  refine wpD_seq ?_
  refine wpD_region ?_
  refine p_pure htab rfl rfl rfl rfl ?_
  refine p_pure htab rfl rfl rfl rfl ?_
  refine p_pure htab rfl rfl rfl rfl ?_
  refine ops_nil ?_
  refine then_normal ?_
  refine wpD_seq ?_
  refine wpD_seq ?_
  refine wpD_region ?_
  refine p_pure htab rfl rfl rfl rfl ?_
  refine p_lenL htab rfl rfl rfl rfl rfl rfl rfl (by first | exact map_len | rfl) ?_
  refine p_pure htab rfl rfl rfl rfl ?_
  refine ops_nil ?_
  refine then_normal ?_
  refine wpD_cond rfl (fun hc2 => ?_) (fun hc2 => ?_)
  · replace hm := yes_t hc2 hm
    refine wpD_seq ?_
    refine wpD_region ?_
    refine p_pure htab rfl rfl rfl rfl ?_
    refine p_pure htab rfl rfl rfl rfl ?_
    refine p_pure htab rfl rfl rfl rfl ?_
    refine ops_nil ?_
    refine then_normal ?_
    refine wpD_ret ?_
    refine then_ret ?_
    have er3 := yes_eq hm; subst er3
    refine retX.tokN (i := 2) 4 rfl (fun w4 => ?_)
    refine retX.of (s' := ⟨[(2, .lst 4 (([] : List TApiToken).map eTApiToken) (.cur w4)), (3, .v (.int .i64 (0 : Int))), (4, .v (.int .i64 (6 : Int)))], [], [(4, w4)]⟩) (WkS.perm (WkS.cons rfl (Wk.refl _) (WkS.cons rfl (Wk.refl _) (WkS.cons rfl (Wk.refl _) (WkS.nil)))) (List.Perm.refl _) (List.Perm.refl _)) (retD_mk (hh := []) (.inl rfl) (resL_cons (resOne_tmp rfl) (resL_cons (resOne_tmp rfl) (resL_cons (resOne_tmp rfl) (resL_nil)))) (List.nil_sublist _) (List.Sublist.refl _) ?_)
    exact ⟨w4, rfl, rfl, rfl⟩
  · replace hm := yes_f hc2 hm
    exact (yes_none hm).elim
theorem Wk.tup {l l' : List D} (h : WkL l l') : Wk (.tup l) (.tup l') := fun H y q => by
  obtain ⟨vs, e, r⟩ := rep_tup_inv q
  refine ⟨?_, ?_⟩
  · rw [e]; simp only [Value.cells, RepC]
    exact ⟨vs, rfl, h H vs r⟩
  · rw [e]; rfl
theorem tkRead_ok (s : List UInt8) : CallsD Try.prog 6 [.lst 1 (s.map byteD) .no] [] [] (fun d h k => d = .tup [.lst 4 ((tkRead s).1.map eTApiToken) .no, .v (.int .i64 (tkRead s).2.1), .v (.int .i64 (tkRead s).2.2)] ∧ h = [] ∧ k = []) := by
  by_cases hb : 20000 < s.length
  · have e : tkRead s = ([], 0, 6) := by unfold tkRead readR; rw [if_pos hb]; rfl
    have q : token_Read_big s = some ([], 0, 6) := by
      unfold token_Read_big
      rw [decide_eq_true (show (20000 : Int) < (s.length : Int) by omega)]; rfl
    rw [e]
    exact (token_Read_big_ok s _ q).drop fun d h k ⟨y0, r, _, _⟩ => by subst r; exact Wk.tup (WkL.cons Wk.no (WkL.refl _))
  refine (read_any s (by omega)).drop fun d h k ⟨r, _, _⟩ => ?_
  unfold tkRead
  cases e : readR s with
  | ok l =>
    rw [e] at r
    obtain ⟨c, rfl⟩ := r
    simp only [tokT_enc]
    exact Wk.tup (WkL.cons Wk.no (WkL.refl _))
  | bad a e' =>
    rw [e] at r
    simp only [resD] at r
    subst r
    exact Wk.tup (WkL.cons Wk.nil0 (WkL.refl _))
def lM (many : Bool) : List Tok := if many then List.replicate 4000 ⟨0, ByteArray.empty, 0, 0⟩ else []
theorem lM_len (many : Bool) : decide (4000 ≤ (lM many).length) = many := by
  cases many with
  | false => rfl
  | true => show decide (4000 ≤ (List.replicate 4000 _).length) = true; rw [List.length_replicate]; rfl
def rOne (s : ByteArray) (many : Bool) : TApiToken × Int :=
  (⟨kindOf (stepO s.data.toList (lM many)), textOf s.data.toList (stepO s.data.toList (lM many)), numOf (stepO s.data.toList (lM many)), 0⟩, errOf (stepO s.data.toList (lM many)))
def rOneP (s : ByteArray) (_many : Bool) : Bool := decide (s.data.toList.length ≤ 140737488355328) && (match s.data.toList with | [] => false | c :: _ => kindI (c.toNat : Int) != 1)
theorem rOne_ok (s : ByteArray) (many : Bool) (h : rOneP s many = true) : CallsD Try.prog 17 [.v (.string s), .v (.bool many)] [] [] (fun d h k => d = .tup [eTApiToken (rOne s many).1, .v (.int .i64 (rOne s many).2)] ∧ h = [] ∧ k = []) := by
  unfold rOneP at h
  cases e : s.data.toList with
  | nil => rw [e] at h; simp at h
  | cons c r' =>
    rw [e] at h
    simp only [Bool.and_eq_true, decide_eq_true_eq, bne_iff_ne, ne_eq] at h
    have hs : s = ⟨(c :: r').toArray⟩ := by
      apply ByteArray.ext
      apply Array.toList_inj.1
      simpa using e
    have := rone_any (c :: r') c r' rfl (lM many) h.2 h.1
    rw [lM_len] at this
    rw [hs]
    exact this
noncomputable def r10_Read (a0 : List UInt8) : Option (List TApiToken × Int × Int) :=
  (bif (decide ((20000 : Int) < (a0.length : Int))) then some (([] : List TApiToken), (0 : Int), (6 : Int)) else (Option.bind (α := (List TApiToken) ⊕ (List TApiToken × Int × Int)) (loopM (fun (s56 : List TApiToken × Int) => (bif (decide (s56.2 < ((ByteArray.mk a0.toArray).size : Int))) then ((bAt (ByteArray.mk a0.toArray) s56.2).bind fun x89 => (Option.bind (α := Bool) (bif ((x89.toNat : Int) == (32 : Int)) then some true else (bif ((x89.toNat : Int) == (9 : Int)) then some true else (bif ((x89.toNat : Int) == (10 : Int)) then some true else some ((x89.toNat : Int) == (13 : Int))))) fun y93 => (bif y93 then some (.next (s56.1, (IntKind.i64.wrap (s56.2 + (1 : Int))))) else ((cutS (ByteArray.mk a0.toArray) s56.2 (((ByteArray.mk a0.toArray)).size : Int)).bind fun x98 => ((need (rOneP x98 (decide ((4000 : Int) ≤ (s56.1.length : Int))))).bind fun x99 => (bif (((rOne x98 (decide ((4000 : Int) ≤ (s56.1.length : Int)))).2) != (0 : Int)) then some (.done (.inr (([] : List TApiToken), s56.2, (rOne x98 (decide ((4000 : Int) ≤ (s56.1.length : Int)))).2))) else ((app 40 s56.1 ([(⟨((rOne x98 (decide ((4000 : Int) ≤ (s56.1.length : Int)))).1).gKind, ((rOne x98 (decide ((4000 : Int) ≤ (s56.1.length : Int)))).1).gText, ((rOne x98 (decide ((4000 : Int) ≤ (s56.1.length : Int)))).1).gN, s56.2⟩ : TApiToken)] : List TApiToken)).bind fun x104 => some (.next (x104, (IntKind.i64.wrap (s56.2 + ((((rOne x98 (decide ((4000 : Int) ≤ (s56.1.length : Int)))).1).gText).size : Int)))))))))))) else some (.done (.inl s56.1)))) ([], (0 : Int))) (Sum.elim (fun y55 => ((app 40 y55 ([(⟨(0 : Int), ByteArray.empty, (0 : Int), (a0.length : Int)⟩ : TApiToken)] : List TApiToken)).bind fun x105 => some (x105, (0 : Int), (0 : Int)))) (fun r => some r))))
set_option maxRecDepth 100000 in
set_option maxHeartbeats 2000000 in
theorem r10_Read_ok (a0 : List UInt8) (r : List TApiToken × Int × Int) (h0 : r10_Read a0 = some r) : CallsD Try.prog 7 [.lst 1 (a0.map byteD) .no] [] [] (fun d h k => ∃ y0, d = .tup [.lst 4 (r.1.map eTApiToken) (.cur y0), .v (.int .i64 r.2.1), .v (.int .i64 r.2.2)] ∧ h = [] ∧ k = [(4, y0)]) := by
  have hm := yes_of h0
  unfold r10_Read at hm
  clear h0
  refine enterX htab Try.func7 rfl rfl rfl rfl rfl (fun C => ?_)
  refine wpD_seq ?_
  refine wpD_region ?_
  refine p_pure htab rfl rfl rfl rfl ?_
  refine p_pure htab rfl rfl rfl rfl ?_
  refine p_pure htab rfl rfl rfl rfl ?_
  refine ops_nil ?_
  refine then_normal ?_
  refine wpD_seq ?_
  refine wpD_seq ?_
  refine wpD_region ?_
  refine p_pure htab rfl rfl rfl rfl ?_
  refine p_lenL htab rfl rfl rfl rfl rfl rfl rfl (by first | exact map_len | rfl) ?_
  refine p_pure htab rfl rfl rfl rfl ?_
  refine ops_nil ?_
  refine then_normal ?_
  refine wpD_cond rfl (fun hc2 => ?_) (fun hc2 => ?_)
  · replace hm := yes_t hc2 hm
    refine wpD_seq ?_
    refine wpD_region ?_
    refine p_pure htab rfl rfl rfl rfl ?_
    refine p_pure htab rfl rfl rfl rfl ?_
    refine p_pure htab rfl rfl rfl rfl ?_
    refine ops_nil ?_
    refine then_normal ?_
    refine wpD_ret ?_
    refine then_ret ?_
    have er3 := yes_eq hm; subst er3
    refine retX.tokN (i := 2) 4 rfl (fun w4 => ?_)
    refine retX.of (s' := ⟨[(2, .lst 4 (([] : List TApiToken).map eTApiToken) (.cur w4)), (3, .v (.int .i64 (0 : Int))), (4, .v (.int .i64 (6 : Int)))], [], [(4, w4)]⟩) (WkS.perm (WkS.cons rfl (Wk.refl _) (WkS.cons rfl (Wk.refl _) (WkS.cons rfl (Wk.refl _) (WkS.nil)))) (List.Perm.refl _) (List.Perm.refl _)) (retD_mk (hh := []) (.inl rfl) (resL_cons (resOne_tmp rfl) (resL_cons (resOne_tmp rfl) (resL_cons (resOne_tmp rfl) (resL_nil)))) (List.nil_sublist _) (List.Sublist.refl _) ?_)
    exact ⟨w4, rfl, rfl, rfl⟩
  · replace hm := yes_f hc2 hm
    refine wpD_skip ?_
    refine then_normal ?_
    refine wpD_seq ?_
    refine wpD_region ?_
    refine p_pure htab rfl rfl rfl rfl ?_
    refine p_toStr htab rfl rfl rfl rfl rfl rfl rfl rfl rfl rfl rfl ?_
    refine p_pure htab rfl rfl rfl rfl ?_
    refine ops_nil ?_
    refine then_normal ?_
    refine wpD_seq ?_
    refine wpD_region ?_
    refine p_pure htab rfl rfl rfl rfl ?_
    refine ops_nil ?_
    refine then_normal ?_
    refine wpD_seq ?_
    refine wpD_region ?_
    refine p_pure htab rfl rfl rfl rfl ?_
    refine ops_nil ?_
    refine then_normal ?_
    refine wpD_seq ?_
    obtain ⟨x55, q55, ho55⟩ := yes_bind hm
    refine wpD_midX (τ := List TApiToken) (Y := Value) (fun y55 z55 => (⟨[(0, .lst 1 (a0.map byteD) .no), (6, .lst 4 (y55.map eTApiToken) (.cur z55))], [], [(4, z55)]⟩ : S)) x55 ?_ ?_
    · clear hm; have hm := yes_of q55
      refine wpD_block ?_
      obtain ⟨u56, hl56, hq56⟩ := yes_m hm
      refine loop_M (Y := Value) hl56 (fun s56 z56 => (⟨[(0, .lst 1 (a0.map byteD) .no), (5, .v (.string (ByteArray.mk a0.toArray))), (6, .lst 4 (s56.1.map eTApiToken) (.cur z56)), (7, .v (.int .i64 s56.2))], [], [(4, z56)]⟩ : S)) ?_ ?_
      · skip
        refine WkX.tokN (i := 6) 4 rfl (fun w87 => ?_)
        exact WkX.of w87 (WkS.perm (WkS.cons rfl (Wk.refl _) (WkS.cons rfl (Wk.refl _) (WkS.cons rfl (Wk.refl _) (WkS.cons rfl (Wk.refl _) (WkS.nil))))) (List.Perm.refl _) (List.Perm.refl _))
      · intro G56 s56 z56 hm
        refine wpD_seq ?_
        refine wpD_seq ?_
        refine wpD_region ?_
        refine p_pure htab rfl rfl rfl rfl ?_
        refine p_pure htab rfl rfl rfl rfl ?_
        refine p_lenS htab rfl rfl rfl rfl rfl rfl rfl rfl ?_
        refine p_pure htab rfl rfl rfl rfl ?_
        refine ops_nil ?_
        refine then_normal ?_
        refine wpD_cond rfl (fun hc88 => ?_) (fun hc88 => ?_)
        · replace hm := yes_t hc88 hm
          refine wpD_skip ?_
          refine then_normal ?_
          refine wpD_block ?_
          refine wpD_seq ?_
          refine wpD_region ?_
          refine p_pure htab rfl rfl rfl rfl ?_
          refine p_pure htab rfl rfl rfl rfl ?_
          obtain ⟨x89, q89, hm⟩ := yes_bind hm
          refine p_byte htab rfl rfl rfl rfl rfl rfl rfl rfl (bAt_nonneg q89) (bAt_ok q89) ?_
          refine p_pure htab rfl rfl rfl rfl ?_
          refine ops_nil ?_
          refine then_normal ?_
          refine wpD_seq ?_
          refine wpD_seq ?_
          obtain ⟨y93, q93, ho93⟩ := yes_bind hm
          refine wpD_mid (Y := Unit) (fun z93 => (⟨[(0, .lst 1 (a0.map byteD) .no), (5, .v (.string (ByteArray.mk a0.toArray))), (6, .lst 4 (s56.1.map eTApiToken) (.cur z56)), (7, .v (.int .i64 s56.2)), (36, .v (.bool y93))], [], [(4, z56)]⟩ : S)) ?_ ?_
          · clear hm; have hm := yes_of q93
            refine wpD_region ?_
            refine p_pure htab rfl rfl rfl rfl ?_
            refine p_pure htab rfl rfl rfl rfl ?_
            refine p_pure htab rfl rfl rfl rfl ?_
            refine p_split (i := 25) rfl (fun hg94 => ?_) (fun hg94 => ?_)
            · replace hm := yes_t hg94 hm
              refine p_skip rfl rfl rfl ?_
              refine p_skip rfl rfl rfl ?_
              refine p_pickT rfl rfl rfl rfl rfl rfl ?_
              refine p_pure htab rfl rfl rfl rfl ?_
              refine p_skip rfl rfl rfl ?_
              refine p_skip rfl rfl rfl ?_
              refine p_pickT rfl rfl rfl rfl rfl rfl ?_
              refine p_pure htab rfl rfl rfl rfl ?_
              refine p_skip rfl rfl rfl ?_
              refine p_skip rfl rfl rfl ?_
              refine p_pickT rfl rfl rfl rfl rfl rfl ?_
              refine ops_nil ?_
              have e93 := yes_eq hm; subst e93
              refine ⟨rfl, ?_⟩
              exact WkX.of () (WkS.perm (WkS.cons rfl (Wk.refl _) (WkS.cons rfl (Wk.refl _) (WkS.cons rfl (Wk.refl _) (WkS.cons rfl (Wk.refl _) (WkS.cons rfl (Wk.refl _) (WkS.nil)))))) (List.Perm.refl _) (List.Perm.refl _))
            · replace hm := yes_f hg94 hm
              refine p_pure htab rfl rfl rfl rfl ?_
              refine p_pure htab rfl rfl rfl rfl ?_
              refine p_pickF rfl rfl rfl rfl rfl rfl ?_
              refine p_pure htab rfl rfl rfl rfl ?_
              refine p_split (i := 29) rfl (fun hg95 => ?_) (fun hg95 => ?_)
              · replace hm := yes_t hg95 hm
                refine p_skip rfl rfl rfl ?_
                refine p_skip rfl rfl rfl ?_
                refine p_pickT rfl rfl rfl rfl rfl rfl ?_
                refine p_pure htab rfl rfl rfl rfl ?_
                refine p_skip rfl rfl rfl ?_
                refine p_skip rfl rfl rfl ?_
                refine p_pickT rfl rfl rfl rfl rfl rfl ?_
                refine ops_nil ?_
                have e93 := yes_eq hm; subst e93
                refine ⟨rfl, ?_⟩
                exact WkX.of () (WkS.perm (WkS.cons rfl (Wk.refl _) (WkS.cons rfl (Wk.refl _) (WkS.cons rfl (Wk.refl _) (WkS.cons rfl (Wk.refl _) (WkS.cons rfl (Wk.refl _) (WkS.nil)))))) (List.Perm.refl _) (List.Perm.refl _))
              · replace hm := yes_f hg95 hm
                refine p_pure htab rfl rfl rfl rfl ?_
                refine p_pure htab rfl rfl rfl rfl ?_
                refine p_pickF rfl rfl rfl rfl rfl rfl ?_
                refine p_pure htab rfl rfl rfl rfl ?_
                refine p_split (i := 33) rfl (fun hg96 => ?_) (fun hg96 => ?_)
                · replace hm := yes_t hg96 hm
                  refine p_skip rfl rfl rfl ?_
                  refine p_skip rfl rfl rfl ?_
                  refine p_pickT rfl rfl rfl rfl rfl rfl ?_
                  refine ops_nil ?_
                  have e93 := yes_eq hm; subst e93
                  refine ⟨rfl, ?_⟩
                  exact WkX.of () (WkS.perm (WkS.cons rfl (Wk.refl _) (WkS.cons rfl (Wk.refl _) (WkS.cons rfl (Wk.refl _) (WkS.cons rfl (Wk.refl _) (WkS.cons rfl (Wk.refl _) (WkS.nil)))))) (List.Perm.refl _) (List.Perm.refl _))
                · replace hm := yes_f hg96 hm
                  refine p_pure htab rfl rfl rfl rfl ?_
                  refine p_pure htab rfl rfl rfl rfl ?_
                  refine p_pickF rfl rfl rfl rfl rfl rfl ?_
                  refine ops_nil ?_
                  have e93 := yes_eq hm; subst e93
                  refine ⟨rfl, ?_⟩
                  exact WkX.of () (WkS.perm (WkS.cons rfl (Wk.refl _) (WkS.cons rfl (Wk.refl _) (WkS.cons rfl (Wk.refl _) (WkS.cons rfl (Wk.refl _) (WkS.cons rfl (Wk.refl _) (WkS.nil)))))) (List.Perm.refl _) (List.Perm.refl _))
          · intro s93 hw93; clear hm; have hm := ho93; clear q93 ho93
            refine then_normal ?_
            refine wpD_wkX hw93 (fun z93 => ?_)
            refine wpD_cond rfl (fun hc97 => ?_) (fun hc97 => ?_)
            · replace hm := yes_t hc97 hm
              refine wpD_seq ?_
              refine wpD_region ?_
              refine p_pure htab rfl rfl rfl rfl ?_
              refine p_pure htab rfl rfl rfl rfl ?_
              refine p_pure htab rfl rfl rfl rfl ?_
              refine ops_nil ?_
              refine then_normal ?_
              refine wpD_exit ?_
              refine then_exit ?_
              refine block_hit ?_
              refine then_normal ⟨_, lp_next hm, ?_⟩
              exact WkX.of z56 (WkS.perm (WkS.cons rfl (Wk.refl _) (WkS.cons rfl (Wk.refl _) (WkS.cons rfl (Wk.refl _) (WkS.cons rfl (Wk.refl _) (WkS.nil))))) (List.Perm.refl _) (List.Perm.refl _))
            · replace hm := yes_f hc97 hm
              refine wpD_skip ?_
              refine then_normal ?_
              refine wpD_seq ?_
              refine wpD_region ?_
              refine p_pure htab rfl rfl rfl rfl ?_
              refine p_pure htab rfl rfl rfl rfl ?_
              obtain ⟨x98, q98, hm⟩ := yes_bind hm
              refine p_cutS q98 htab rfl rfl rfl rfl rfl rfl rfl rfl rfl rfl rfl ?_
              refine p_pure htab rfl rfl rfl rfl ?_
              refine p_lenL htab rfl rfl rfl rfl rfl rfl rfl (by first | exact map_len | rfl) ?_
              refine p_pure htab rfl rfl rfl rfl ?_
              obtain ⟨x99, q99, hm⟩ := yes_bind hm
              refine p_call0 (rOne_ok x98 (decide ((4000 : Int) ≤ (s56.1.length : Int))) (need_ok q99)) rfl rfl rfl rfl rfl (WkL.refl _) ?_
              rintro _ rfl
              refine p_pure htab rfl rfl rfl rfl ?_
              refine p_pure htab rfl rfl rfl rfl ?_
              refine p_pure htab rfl rfl rfl rfl ?_
              refine p_alloc htab rfl rfl rfl rfl rfl rfl rfl (fun b100 => ?_)
              refine p_store (ds' := [.v (.int .i64 (((rOne x98 (decide ((4000 : Int) ≤ (s56.1.length : Int)))).1).gKind)), .v (.string (((rOne x98 (decide ((4000 : Int) ≤ (s56.1.length : Int)))).1).gText)), .v (.int .i64 (((rOne x98 (decide ((4000 : Int) ≤ (s56.1.length : Int)))).1).gN)), .v (.int .i64 (((rOne x98 (decide ((4000 : Int) ≤ (s56.1.length : Int)))).1).gAt))]) (h' := [(b100, Blk.cells [.v (.int .i64 (((rOne x98 (decide ((4000 : Int) ≤ (s56.1.length : Int)))).1).gKind)), .v (.string (((rOne x98 (decide ((4000 : Int) ≤ (s56.1.length : Int)))).1).gText)), .v (.int .i64 (((rOne x98 (decide ((4000 : Int) ≤ (s56.1.length : Int)))).1).gN)), .v (.int .i64 (((rOne x98 (decide ((4000 : Int) ≤ (s56.1.length : Int)))).1).gAt))] 40)]) 0 htab rfl rfl rfl rfl rfl rfl rfl rfl rfl rfl rfl rfl ?_
              refine p_pure htab rfl rfl rfl rfl ?_
              refine ops_nil ?_
              refine then_normal ?_
              refine wpD_seq ?_
              refine wpD_seq ?_
              refine wpD_region ?_
              refine p_pure htab rfl rfl rfl rfl ?_
              refine p_pure htab rfl rfl rfl rfl ?_
              refine ops_nil ?_
              refine then_normal ?_
              refine wpD_cond rfl (fun hc101 => ?_) (fun hc101 => ?_)
              · replace hm := yes_t hc101 hm
                refine wpD_seq ?_
                refine wpD_region ?_
                refine p_pure htab rfl rfl rfl rfl ?_
                refine p_pure htab rfl rfl rfl rfl ?_
                refine p_pure htab rfl rfl rfl rfl ?_
                refine p_pure htab rfl rfl rfl rfl ?_
                refine p_pure htab rfl rfl rfl rfl ?_
                refine ops_nil ?_
                refine then_normal ?_
                refine wpD_ret ?_
                refine then_ret ?_
                refine block_ret ?_
                have e56 := lp_done hm; subst e56; clear hm; have hm := hq56
                refine then_ret ?_
                refine block_ret ?_
                have e55 := yes_eq hm; subst e55; refine midX_inr ?_; clear hm; have hm := ho55; simp only [Sum.elim_inr] at hm
                refine then_ret ?_
                have er102 := yes_eq hm; subst er102
                refine retX.tokN (i := 2) 4 rfl (fun w103 => ?_)
                refine retX.of (s' := ⟨[(2, .lst 4 (([] : List TApiToken).map eTApiToken) (.cur w103)), (3, .v (.int .i64 s56.2)), (4, .v (.int .i64 ((rOne x98 (decide ((4000 : Int) ≤ (s56.1.length : Int)))).2)))], [], [(4, w103)]⟩) (WkS.perm (WkS.cons rfl (Wk.refl _) (WkS.cons rfl (Wk.refl _) (WkS.cons rfl (Wk.refl _) (WkS.nil)))) (List.Perm.refl _) (List.Perm.refl _)) (retD_mk (hh := []) (.inl rfl) (resL_cons (resOne_tmp rfl) (resL_cons (resOne_tmp rfl) (resL_cons (resOne_tmp rfl) (resL_nil)))) (List.nil_sublist _) (List.Sublist.refl _) ?_)
                exact ⟨w103, rfl, rfl, rfl⟩
              · replace hm := yes_f hc101 hm
                refine wpD_skip ?_
                refine then_normal ?_
                refine wpD_seq ?_
                refine wpD_region ?_
                refine p_pure htab rfl rfl rfl rfl ?_
                refine p_pure htab rfl rfl rfl rfl ?_
                refine p_store (ds' := [.v (.int .i64 (((rOne x98 (decide ((4000 : Int) ≤ (s56.1.length : Int)))).1).gKind)), .v (.string (((rOne x98 (decide ((4000 : Int) ≤ (s56.1.length : Int)))).1).gText)), .v (.int .i64 (((rOne x98 (decide ((4000 : Int) ≤ (s56.1.length : Int)))).1).gN)), .v (.int .i64 s56.2)]) (h' := [(b100, Blk.cells [.v (.int .i64 (((rOne x98 (decide ((4000 : Int) ≤ (s56.1.length : Int)))).1).gKind)), .v (.string (((rOne x98 (decide ((4000 : Int) ≤ (s56.1.length : Int)))).1).gText)), .v (.int .i64 (((rOne x98 (decide ((4000 : Int) ≤ (s56.1.length : Int)))).1).gN)), .v (.int .i64 s56.2)] 40)]) 0 htab rfl rfl rfl rfl rfl rfl rfl rfl rfl rfl rfl rfl ?_
                refine ops_nil ?_
                refine then_normal ?_
                refine wpD_seq ?_
                refine wpD_region ?_
                refine p_pure htab rfl rfl rfl rfl ?_
                refine p_load (d := eTApiToken (⟨((rOne x98 (decide ((4000 : Int) ≤ (s56.1.length : Int)))).1).gKind, ((rOne x98 (decide ((4000 : Int) ≤ (s56.1.length : Int)))).1).gText, ((rOne x98 (decide ((4000 : Int) ≤ (s56.1.length : Int)))).1).gN, s56.2⟩ : TApiToken)) 0 htab rfl rfl rfl rfl rfl rfl rfl rfl ?_
                refine p_lit htab rfl rfl rfl rfl rfl rfl rfl rfl rfl rfl rfl rfl rfl rfl ?_
                refine p_eq (i := 57) (d' := .lst 4 (([(⟨((rOne x98 (decide ((4000 : Int) ≤ (s56.1.length : Int)))).1).gKind, ((rOne x98 (decide ((4000 : Int) ≤ (s56.1.length : Int)))).1).gText, ((rOne x98 (decide ((4000 : Int) ≤ (s56.1.length : Int)))).1).gN, s56.2⟩ : TApiToken)] : List TApiToken).map eTApiToken) .full) rfl (Wk.lst0 (.cons (WkC.refl _) (.nil))) ?_
                obtain ⟨x104, q104, hm⟩ := yes_bind hm
                refine p_appC 0 htab rfl rfl rfl rfl rfl rfl rfl rfl rfl rfl rfl rfl rfl rfl rfl rfl rfl (app_bound q104) (fun v104 => ?_)
                refine p_mapD (i := 58) q104 rfl ?_
                refine p_pure htab rfl rfl rfl rfl ?_
                refine ops_nil ?_
                refine then_normal ?_
                refine wpD_region ?_
                refine p_pure htab rfl rfl rfl rfl ?_
                refine p_pure htab rfl rfl rfl rfl ?_
                refine p_load 0 htab rfl rfl rfl rfl rfl rfl rfl rfl ?_
                refine p_lenS htab rfl rfl rfl rfl rfl rfl rfl rfl ?_
                refine p_pure htab rfl rfl rfl rfl ?_
                refine p_pure htab rfl rfl rfl rfl ?_
                refine ops_nil ?_
                refine block_normal ?_
                refine then_normal ⟨_, lp_next hm, ?_⟩
                exact WkX.of v104 (WkS.perm (WkS.cons rfl (Wk.refl _) (WkS.cons rfl (Wk.refl _) (WkS.cons rfl (Wk.refl _) (WkS.cons rfl (Wk.refl _) (WkS.nil))))) (List.Perm.refl _) (List.Perm.refl _))
        · replace hm := yes_f hc88 hm
          refine wpD_exit ?_
          refine then_exit ?_
          have e56 := lp_done hm; subst e56; clear hm; have hm := hq56
          refine then_exit ?_
          refine block_hit ?_
          have e55 := yes_eq hm; subst e55
          refine midX_inl ?_
          exact WkX.of z56 (WkS.perm (WkS.cons rfl (Wk.refl _) (WkS.cons rfl (Wk.refl _) (WkS.nil))) (List.Perm.refl _) (List.Perm.refl _))
    · intro y55 s55 hx55 hw55; subst hx55; clear hm; have hm := ho55; simp only [Sum.elim_inl] at hm; clear q55 ho55
      refine then_normal ?_
      refine wpD_wkX hw55 (fun z55 => ?_)
      refine wpD_seq ?_
      refine wpD_region ?_
      refine p_pure htab rfl rfl rfl rfl ?_
      refine p_pure htab rfl rfl rfl rfl ?_
      refine p_lenL htab rfl rfl rfl rfl rfl rfl rfl (by first | exact map_len | rfl) ?_
      refine p_build (r := [.v (.int .i64 (0 : Int)), .v (.string ByteArray.empty), .v (.int .i64 (0 : Int)), .v (.int .i64 (a0.length : Int))]) htab rfl rfl rfl rfl rfl rfl rfl rfl rfl ?_
      refine p_lit htab rfl rfl rfl rfl rfl rfl rfl rfl rfl rfl rfl rfl rfl rfl ?_
      refine p_eq (i := 68) (d' := .lst 4 (([(⟨(0 : Int), ByteArray.empty, (0 : Int), (a0.length : Int)⟩ : TApiToken)] : List TApiToken).map eTApiToken) .full) rfl (Wk.lst0 (.cons (WkC.refl _) (.nil))) ?_
      obtain ⟨x105, q105, hm⟩ := yes_bind hm
      refine p_appC 0 htab rfl rfl rfl rfl rfl rfl rfl rfl rfl rfl rfl rfl rfl rfl rfl rfl rfl (app_bound q105) (fun v105 => ?_)
      refine p_mapD (i := 69) q105 rfl ?_
      refine p_pure htab rfl rfl rfl rfl ?_
      refine p_pure htab rfl rfl rfl rfl ?_
      refine p_pure htab rfl rfl rfl rfl ?_
      refine ops_nil ?_
      refine then_normal ?_
      refine wpD_ret ?_
      have er106 := yes_eq hm; subst er106
      refine retX.of (s' := ⟨[(2, .lst 4 (x105.map eTApiToken) (.cur v105)), (3, .v (.int .i64 (0 : Int))), (4, .v (.int .i64 (0 : Int)))], [], [(4, v105)]⟩) (WkS.perm (WkS.cons rfl (Wk.refl _) (WkS.cons rfl (Wk.refl _) (WkS.cons rfl (Wk.refl _) (WkS.nil)))) (List.Perm.refl _) (List.Perm.refl _)) (retD_mk (hh := []) (.inl rfl) (resL_cons (resOne_tmp rfl) (resL_cons (resOne_tmp rfl) (resL_cons (resOne_tmp rfl) (resL_nil)))) (List.nil_sublist _) (List.Sublist.refl _) ?_)
      exact ⟨v105, rfl, rfl, rfl⟩
noncomputable def r10_Same (a0 : List TApiToken) (a1 : List TApiToken) (a2 : Bool) : Option (Bool) :=
  (bif ((a0.length : Int) != (a1.length : Int)) then some false else (Option.bind (α := (Unit) ⊕ (Bool)) (loopM (fun (s88 : Int) => (bif (decide (s88 < (a0.length : Int))) then (Option.bind (α := Bool) ((idx a0 s88).bind fun x157 => ((idx a1 s88).bind fun x158 => (bif (x157.gKind != x158.gKind) then some true else ((idx a0 s88).bind fun x160 => ((idx a1 s88).bind fun x161 => (bif (!decide (x160.gText = x161.gText)) then some true else ((idx a0 s88).bind fun x163 => ((idx a1 s88).bind fun x164 => (bif (x163.gN != x164.gN) then some true else (bif a2 then ((idx a0 s88).bind fun x167 => ((idx a1 s88).bind fun x168 => some (x167.gAt != x168.gAt))) else some false)))))))))) fun y156 => (bif y156 then some (.done (.inr false)) else some (.next (IntKind.i64.wrap (s88 + (1 : Int)))))) else some (.done (.inl ())))) (0 : Int)) (Sum.elim (fun y87 => some true) (fun r => some r))))
set_option maxRecDepth 100000 in
set_option maxHeartbeats 2000000 in
theorem r10_Same_ok (a0 : List TApiToken) (a1 : List TApiToken) (a2 : Bool) (r : Bool) (h0 : r10_Same a0 a1 a2 = some r) : CallsD Try.prog 8 [.lst 4 (a0.map eTApiToken) .no, .lst 4 (a1.map eTApiToken) .no, .v (.bool a2)] [] [] (fun d h k => d = .v (.bool r) ∧ h = [] ∧ k = []) := by
  have hm := yes_of h0
  unfold r10_Same at hm
  clear h0
  refine enterX htab Try.func8 rfl rfl rfl rfl rfl (fun C => ?_)
  refine wpD_seq ?_
  refine wpD_region ?_
  refine p_pure htab rfl rfl rfl rfl ?_
  refine ops_nil ?_
  refine then_normal ?_
  refine wpD_seq ?_
  refine wpD_seq ?_
  refine wpD_region ?_
  refine p_pure htab rfl rfl rfl rfl ?_
  refine p_lenL htab rfl rfl rfl rfl rfl rfl rfl (by first | exact map_len | rfl) ?_
  refine p_pure htab rfl rfl rfl rfl ?_
  refine p_lenL htab rfl rfl rfl rfl rfl rfl rfl (by first | exact map_len | rfl) ?_
  refine p_pure htab rfl rfl rfl rfl ?_
  refine ops_nil ?_
  refine then_normal ?_
  refine wpD_cond rfl (fun hc2 => ?_) (fun hc2 => ?_)
  · replace hm := yes_t hc2 hm
    refine wpD_seq ?_
    refine wpD_region ?_
    refine p_pure htab rfl rfl rfl rfl ?_
    refine ops_nil ?_
    refine then_normal ?_
    refine wpD_ret ?_
    refine then_ret ?_
    have er3 := yes_eq hm; subst er3
    refine retX.of (s' := ⟨[(6, .v (.bool false))], [], []⟩) (WkS.perm (WkS.cons rfl (Wk.refl _) (WkS.nil)) (List.Perm.refl _) (List.Perm.refl _)) (retD_mk (hh := []) (.inl rfl) (resL_cons (resOne_tmp rfl) (resL_nil)) (List.nil_sublist _) (List.Sublist.refl _) ?_)
    exact ⟨rfl, rfl, rfl⟩
  · replace hm := yes_f hc2 hm
    refine wpD_skip ?_
    refine then_normal ?_
    refine wpD_seq ?_
    refine wpD_seq ?_
    refine wpD_region ?_
    refine p_pure htab rfl rfl rfl rfl ?_
    refine ops_nil ?_
    refine then_normal ?_
    obtain ⟨x87, q87, ho87⟩ := yes_bind hm
    refine wpD_midX (τ := Unit) (Y := Unit) (fun y87 z87 => (⟨[], [], []⟩ : S)) x87 ?_ ?_
    · clear hm; have hm := yes_of q87
      refine wpD_block ?_
      obtain ⟨u88, hl88, hq88⟩ := yes_m hm
      refine loop_M (Y := Unit) hl88 (fun s88 z88 => (⟨[(0, .lst 4 (a0.map eTApiToken) .no), (1, .lst 4 (a1.map eTApiToken) .no), (2, .v (.bool a2)), (7, .v (.int .i64 s88))], [], []⟩ : S)) ?_ ?_
      · skip
        exact WkX.of () (WkS.perm (WkS.cons rfl (Wk.refl _) (WkS.cons rfl (Wk.refl _) (WkS.cons rfl (Wk.refl _) (WkS.cons rfl (Wk.refl _) (WkS.nil))))) (List.Perm.refl _) (List.Perm.refl _))
      · intro G88 s88 z88 hm
        refine wpD_seq ?_
        refine wpD_seq ?_
        refine wpD_region ?_
        refine p_pure htab rfl rfl rfl rfl ?_
        refine p_pure htab rfl rfl rfl rfl ?_
        refine p_lenL htab rfl rfl rfl rfl rfl rfl rfl (by first | exact map_len | rfl) ?_
        refine p_pure htab rfl rfl rfl rfl ?_
        refine ops_nil ?_
        refine then_normal ?_
        refine wpD_cond rfl (fun hc143 => ?_) (fun hc143 => ?_)
        · replace hm := yes_t hc143 hm
          refine wpD_skip ?_
          refine then_normal ?_
          refine wpD_seq ?_
          refine wpD_block ?_
          refine wpD_seq ?_
          obtain ⟨y156, q156, ho156⟩ := yes_bind hm
          refine wpD_mid (Y := Unit) (fun z156 => (⟨[(0, .lst 4 (a0.map eTApiToken) .no), (1, .lst 4 (a1.map eTApiToken) .no), (2, .v (.bool a2)), (7, .v (.int .i64 s88)), (71, .v (.bool y156))], [], []⟩ : S)) ?_ ?_
          · clear hm; have hm := yes_of q156
            obtain ⟨x157, q157, hm⟩ := yes_bind hm
            obtain ⟨x158, q158, hm⟩ := yes_bind hm
            refine bycB (x157.gKind != x158.gKind) (fun hs159 => ?_) (fun hs159 => ?_)
            · replace hm := yes_t hs159 hm
              refine wpD_draws 50 [] [[],[],[0],[0,2],[0,2,3],[],[],[5],[5,7],[5,7,8],[0,2,3,5,7,8],[0,2,3,5,7,8],[0,2,3,5,7,8],[0,2,3,5,7,8],[0,2,3,5,7,8],[0,2,3,5,7,8],[0,2,3,5,7,8],[0,2,3,5,7,8],[0,2,3,5,7,8],[0,2,3,5,7,8],[0,2,3,5,7,8],[0,2,3,5,7,8],[0,2,3,5,7,8],[0,2,3,5,7,8],[0,2,3,5,7,8],[0,2,3,5,7,8],[0,2,3,5,7,8],[0,2,3,5,7,8],[0,2,3,5,7,8],[0,2,3,5,7,8],[0,2,3,5,7,8],[0,2,3,5,7,8],[0,2,3,5,7,8],[0,2,3,5,7,8],[0,2,3,5,7,8],[0,2,3,5,7,8],[0,2,3,5,7,8],[0,2,3,5,7,8],[0,2,3,5,7,8],[0,2,3,5,7,8],[0,2,3,5,7,8],[0,2,3,5,7,8],[0,2,3,5,7,8],[0,2,3,5,7,8],[0,2,3,5,7,8],[0,2,3,5,7,8],[0,2,3,5,7,8],[0,2,3,5,7,8],[0,2,3,5,7,8],[0,2,3,5,7,8]] [0,2,3,5,7,8] [[],[],[0,1],[0,1,2],[0,1,2,3],[],[],[5,6],[5,6,7],[5,6,7,8],[0,1,2,3,4,5,6,7,8,9],[0,1,2,3,4,5,6,7,8,9,10],[0,1,2,3,4,5,6,7,8,9,10,11],[0,1,2,3,4,5,6,7,8,9,10,11],[0,1,2,3,4,5,6,7,8,9,10,11,12,13],[0,1,2,3,4,5,6,7,8,9,10,11,12,13,14],[0,1,2,3,4,5,6,7,8,9,10,11,12,13,14,15],[0,1,2,3,4,5,6,7,8,9,10,11],[0,1,2,3,4,5,6,7,8,9,10,11],[0,1,2,3,4,5,6,7,8,9,10,11,17,18],[0,1,2,3,4,5,6,7,8,9,10,11,17,18,19],[0,1,2,3,4,5,6,7,8,9,10,11,17,18,19,20],[0,1,2,3,4,5,6,7,8,9,10,11,12,13,14,15,16,17,18,19,20,21],[0,1,2,3,4,5,6,7,8,9,10,11,12,13,14,15,16,17,18,19,20,21,22],[0,1,2,3,4,5,6,7,8,9,10,11,12,13,14,15,16,17,18,19,20,21,22,23],[0,1,2,3,4,5,6,7,8,9,10,11,12,13,14,15,16,17,18,19,20,21,22,23,24],[0,1,2,3,4,5,6,7,8,9,10,11,12,13,14,15,16,17,18,19,20,21,22,23,24],[0,1,2,3,4,5,6,7,8,9,10,11,12,13,14,15,16,17,18,19,20,21,22,23,24,25,26],[0,1,2,3,4,5,6,7,8,9,10,11,12,13,14,15,16,17,18,19,20,21,22,23,24,25,26,27],[0,1,2,3,4,5,6,7,8,9,10,11,12,13,14,15,16,17,18,19,20,21,22,23,24,25,26,27,28],[0,1,2,3,4,5,6,7,8,9,10,11,12,13,14,15,16,17,18,19,20,21,22,23,24],[0,1,2,3,4,5,6,7,8,9,10,11,12,13,14,15,16,17,18,19,20,21,22,23,24],[0,1,2,3,4,5,6,7,8,9,10,11,12,13,14,15,16,17,18,19,20,21,22,23,24,30,31],[0,1,2,3,4,5,6,7,8,9,10,11,12,13,14,15,16,17,18,19,20,21,22,23,24,30,31,32],[0,1,2,3,4,5,6,7,8,9,10,11,12,13,14,15,16,17,18,19,20,21,22,23,24,30,31,32,33],[0,1,2,3,4,5,6,7,8,9,10,11,12,13,14,15,16,17,18,19,20,21,22,23,24,25,26,27,28,29,30,31,32,33,34],[0,1,2,3,4,5,6,7,8,9,10,11,12,13,14,15,16,17,18,19,20,21,22,23,24,25,26,27,28,29,30,31,32,33,34,35],[0,1,2,3,4,5,6,7,8,9,10,11,12,13,14,15,16,17,18,19,20,21,22,23,24,25,26,27,28,29,30,31,32,33,34,35,36],[0,1,2,3,4,5,6,7,8,9,10,11,12,13,14,15,16,17,18,19,20,21,22,23,24,25,26,27,28,29,30,31,32,33,34,35,36,37],[0,1,2,3,4,5,6,7,8,9,10,11,12,13,14,15,16,17,18,19,20,21,22,23,24,25,26,27,28,29,30,31,32,33,34,35,36,37,38],[0,1,2,3,4,5,6,7,8,9,10,11,12,13,14,15,16,17,18,19,20,21,22,23,24,25,26,27,28,29,30,31,32,33,34,35,36,37,38,39],[0,1,2,3,4,5,6,7,8,9,10,11,12,13,14,15,16,17,18,19,20,21,22,23,24,25,26,27,28,29,30,31,32,33,34,35,36,37,38,39],[0,1,2,3,4,5,6,7,8,9,10,11,12,13,14,15,16,17,18,19,20,21,22,23,24,25,26,27,28,29,30,31,32,33,34,35,36,37,38,39,40,41],[0,1,2,3,4,5,6,7,8,9,10,11,12,13,14,15,16,17,18,19,20,21,22,23,24,25,26,27,28,29,30,31,32,33,34,35,36,37,38,39,40,41,42],[0,1,2,3,4,5,6,7,8,9,10,11,12,13,14,15,16,17,18,19,20,21,22,23,24,25,26,27,28,29,30,31,32,33,34,35,36,37,38,39,40,41,42,43],[0,1,2,3,4,5,6,7,8,9,10,11,12,13,14,15,16,17,18,19,20,21,22,23,24,25,26,27,28,29,30,31,32,33,34,35,36,37,38,39],[0,1,2,3,4,5,6,7,8,9,10,11,12,13,14,15,16,17,18,19,20,21,22,23,24,25,26,27,28,29,30,31,32,33,34,35,36,37,38,39],[0,1,2,3,4,5,6,7,8,9,10,11,12,13,14,15,16,17,18,19,20,21,22,23,24,25,26,27,28,29,30,31,32,33,34,35,36,37,38,39,45,46],[0,1,2,3,4,5,6,7,8,9,10,11,12,13,14,15,16,17,18,19,20,21,22,23,24,25,26,27,28,29,30,31,32,33,34,35,36,37,38,39,45,46,47],[0,1,2,3,4,5,6,7,8,9,10,11,12,13,14,15,16,17,18,19,20,21,22,23,24,25,26,27,28,29,30,31,32,33,34,35,36,37,38,39,45,46,47,48],[0,1,2,3,4,5,6,7,8,9,10,11,12,13,14,15,16,17,18,19,20,21,22,23,24,25,26,27,28,29,30,31,32,33,34,35,36,37,38,39,40,41,42,43,44,45,46,47,48,49],[0,1,2,3,4,5,6,7,8,9,10,11,12,13,14,15,16,17,18,19,20,21,22,23,24,25,26,27,28,29,30,31,32,33,34,35,36,37,38,39,40,41,42,43,44,45,46,47,48,49,50],[0,1,2,3,4,5,6,7,8,9,10,11,12,13,14,15,16,17,18,19,20,21,22,23,24,25,26,27,28,29,30,31,32,33,34,35,36,37,38,39,40,41,42,43,44,45,46,47,48,49,50,51]] (by kernel_rfl) (by kernel_rfl) (by kernel_rfl) (by rfl) (by rfl) (by kernel_rfl) ?_
              apply Exists.intro
              apply Exists.intro
              apply Exists.intro
              apply Exists.intro
              apply Exists.intro
              apply Exists.intro
              intro bs
              refine z_e rfl rfl (ex_pure htab rfl) rfl rfl rfl rfl rfl rfl ?_
              refine z_q rfl rfl (ex_pure htab rfl) rfl rfl rfl rfl rfl rfl ?_
              refine z_e rfl rfl (x_elem htab rfl rfl rfl rfl rfl rfl rfl (idx_nonneg q157) (idx_map q157)) rfl rfl rfl rfl rfl rfl ?_
              refine z_e rfl rfl (ex_pure htab rfl) rfl rfl rfl rfl rfl rfl ?_
              refine z_qM rfl rfl (xm_loadEl htab rfl rfl rfl rfl rfl) rfl rfl rfl rfl rfl rfl ?_
              refine z_e rfl rfl (ex_pure htab rfl) rfl rfl rfl rfl rfl rfl ?_
              refine z_q rfl rfl (ex_pure htab rfl) rfl rfl rfl rfl rfl rfl ?_
              refine z_e rfl rfl (x_elem htab rfl rfl rfl rfl rfl rfl rfl (idx_nonneg q158) (idx_map q158)) rfl rfl rfl rfl rfl rfl ?_
              refine z_e rfl rfl (ex_pure htab rfl) rfl rfl rfl rfl rfl rfl ?_
              refine z_qM rfl rfl (xm_loadEl htab rfl rfl rfl rfl rfl) rfl rfl rfl rfl rfl rfl ?_
              refine z_q rfl rfl (ex_pure htab rfl) rfl rfl rfl rfl rfl rfl ?_
              refine z_q rfl rfl (ex_pure htab rfl) rfl rfl rfl rfl rfl rfl ?_
              refine z_known (j := 30) (b' := true) rfl hs159 ?_
              refine z_skip rfl rfl rfl rfl ?_
              refine z_skip rfl rfl rfl rfl ?_
              refine z_skip rfl rfl rfl rfl ?_
              refine z_skip rfl rfl rfl rfl ?_
              refine z_skip rfl rfl rfl rfl ?_
              refine z_skip rfl rfl rfl rfl ?_
              refine z_skip rfl rfl rfl rfl ?_
              refine z_skip rfl rfl rfl rfl ?_
              refine z_skip rfl rfl rfl rfl ?_
              refine z_skip rfl rfl rfl rfl ?_
              refine z_skip rfl rfl rfl rfl ?_
              refine z_q rfl rfl (x_pickT rfl rfl rfl) rfl rfl rfl rfl rfl rfl ?_
              refine z_q rfl rfl (ex_pure htab rfl) rfl rfl rfl rfl rfl rfl ?_
              refine z_skip rfl rfl rfl rfl ?_
              refine z_skip rfl rfl rfl rfl ?_
              refine z_skip rfl rfl rfl rfl ?_
              refine z_skip rfl rfl rfl rfl ?_
              refine z_skip rfl rfl rfl rfl ?_
              refine z_skip rfl rfl rfl rfl ?_
              refine z_skip rfl rfl rfl rfl ?_
              refine z_skip rfl rfl rfl rfl ?_
              refine z_skip rfl rfl rfl rfl ?_
              refine z_skip rfl rfl rfl rfl ?_
              refine z_skip rfl rfl rfl rfl ?_
              refine z_q rfl rfl (x_pickT rfl rfl rfl) rfl rfl rfl rfl rfl rfl ?_
              refine z_q rfl rfl (ex_pure htab rfl) rfl rfl rfl rfl rfl rfl ?_
              refine z_skip rfl rfl rfl rfl ?_
              refine z_skip rfl rfl rfl rfl ?_
              refine z_skip rfl rfl rfl rfl ?_
              refine z_skip rfl rfl rfl rfl ?_
              refine z_skip rfl rfl rfl rfl ?_
              refine z_skip rfl rfl rfl rfl ?_
              refine z_skip rfl rfl rfl rfl ?_
              refine z_skip rfl rfl rfl rfl ?_
              refine z_skip rfl rfl rfl rfl ?_
              refine z_skip rfl rfl rfl rfl ?_
              refine z_skip rfl rfl rfl rfl ?_
              refine z_skip rfl rfl rfl rfl ?_
              refine z_nil rfl rfl (fun e he => by simp [isAl] at he) ?_
              refine p_skip rfl rfl rfl ?_
              refine p_skip rfl rfl rfl ?_
              refine p_pickT rfl rfl rfl rfl rfl rfl ?_
              refine ops_nil ?_
              have e156 := yes_eq hm; subst e156
              refine ⟨rfl, ?_⟩
              exact WkX.of () (WkS.perm (WkS.cons rfl (Wk.refl _) (WkS.cons rfl (Wk.refl _) (WkS.cons rfl (Wk.refl _) (WkS.cons rfl (Wk.refl _) (WkS.cons rfl (Wk.refl _) (WkS.nil)))))) (List.Perm.refl _) (List.Perm.refl _))
            · replace hm := yes_f hs159 hm
              obtain ⟨x160, q160, hm⟩ := yes_bind hm
              obtain ⟨x161, q161, hm⟩ := yes_bind hm
              refine bycB (!decide (x160.gText = x161.gText)) (fun hs162 => ?_) (fun hs162 => ?_)
              · replace hm := yes_t hs162 hm
                refine wpD_draws 50 [] [[],[],[0],[0,2],[0,2,3],[],[],[5],[5,7],[5,7,8],[0,2,3,5,7,8],[0,2,3,5,7,8],[0,2,3,5,7,8],[0,2,3,5,7,8],[0,2,3,5,7,8,12],[0,2,3,5,7,8,12,14],[0,2,3,5,7,8,12,14,15],[0,2,3,5,7,8],[0,2,3,5,7,8],[0,2,3,5,7,8,17],[0,2,3,5,7,8,17,19],[0,2,3,5,7,8,17,19,20],[0,2,3,5,7,8,12,14,15,17,19,20],[0,2,3,5,7,8,12,14,15,17,19,20],[0,2,3,5,7,8,12,14,15,17,19,20],[0,2,3,5,7,8,12,14,15,17,19,20],[0,2,3,5,7,8,12,14,15,17,19,20],[0,2,3,5,7,8,12,14,15,17,19,20],[0,2,3,5,7,8,12,14,15,17,19,20],[0,2,3,5,7,8,12,14,15,17,19,20],[0,2,3,5,7,8,12,14,15,17,19,20],[0,2,3,5,7,8,12,14,15,17,19,20],[0,2,3,5,7,8,12,14,15,17,19,20],[0,2,3,5,7,8,12,14,15,17,19,20],[0,2,3,5,7,8,12,14,15,17,19,20],[0,2,3,5,7,8,12,14,15,17,19,20],[0,2,3,5,7,8,12,14,15,17,19,20],[0,2,3,5,7,8,12,14,15,17,19,20],[0,2,3,5,7,8,12,14,15,17,19,20],[0,2,3,5,7,8,12,14,15,17,19,20],[0,2,3,5,7,8,12,14,15,17,19,20],[0,2,3,5,7,8,12,14,15,17,19,20],[0,2,3,5,7,8,12,14,15,17,19,20],[0,2,3,5,7,8,12,14,15,17,19,20],[0,2,3,5,7,8,12,14,15,17,19,20],[0,2,3,5,7,8,12,14,15,17,19,20],[0,2,3,5,7,8,12,14,15,17,19,20],[0,2,3,5,7,8,12,14,15,17,19,20],[0,2,3,5,7,8,12,14,15,17,19,20],[0,2,3,5,7,8,12,14,15,17,19,20]] [0,2,3,5,7,8,12,14,15,17,19,20] [[],[],[0,1],[0,1,2],[0,1,2,3],[],[],[5,6],[5,6,7],[5,6,7,8],[0,1,2,3,4,5,6,7,8,9],[0,1,2,3,4,5,6,7,8,9,10],[0,1,2,3,4,5,6,7,8,9,10,11],[0,1,2,3,4,5,6,7,8,9,10,11],[0,1,2,3,4,5,6,7,8,9,10,11,12,13],[0,1,2,3,4,5,6,7,8,9,10,11,12,13,14],[0,1,2,3,4,5,6,7,8,9,10,11,12,13,14,15],[0,1,2,3,4,5,6,7,8,9,10,11],[0,1,2,3,4,5,6,7,8,9,10,11],[0,1,2,3,4,5,6,7,8,9,10,11,17,18],[0,1,2,3,4,5,6,7,8,9,10,11,17,18,19],[0,1,2,3,4,5,6,7,8,9,10,11,17,18,19,20],[0,1,2,3,4,5,6,7,8,9,10,11,12,13,14,15,16,17,18,19,20,21],[0,1,2,3,4,5,6,7,8,9,10,11,12,13,14,15,16,17,18,19,20,21,22],[0,1,2,3,4,5,6,7,8,9,10,11,12,13,14,15,16,17,18,19,20,21,22,23],[0,1,2,3,4,5,6,7,8,9,10,11,12,13,14,15,16,17,18,19,20,21,22,23,24],[0,1,2,3,4,5,6,7,8,9,10,11,12,13,14,15,16,17,18,19,20,21,22,23,24],[0,1,2,3,4,5,6,7,8,9,10,11,12,13,14,15,16,17,18,19,20,21,22,23,24,25,26],[0,1,2,3,4,5,6,7,8,9,10,11,12,13,14,15,16,17,18,19,20,21,22,23,24,25,26,27],[0,1,2,3,4,5,6,7,8,9,10,11,12,13,14,15,16,17,18,19,20,21,22,23,24,25,26,27,28],[0,1,2,3,4,5,6,7,8,9,10,11,12,13,14,15,16,17,18,19,20,21,22,23,24],[0,1,2,3,4,5,6,7,8,9,10,11,12,13,14,15,16,17,18,19,20,21,22,23,24],[0,1,2,3,4,5,6,7,8,9,10,11,12,13,14,15,16,17,18,19,20,21,22,23,24,30,31],[0,1,2,3,4,5,6,7,8,9,10,11,12,13,14,15,16,17,18,19,20,21,22,23,24,30,31,32],[0,1,2,3,4,5,6,7,8,9,10,11,12,13,14,15,16,17,18,19,20,21,22,23,24,30,31,32,33],[0,1,2,3,4,5,6,7,8,9,10,11,12,13,14,15,16,17,18,19,20,21,22,23,24,25,26,27,28,29,30,31,32,33,34],[0,1,2,3,4,5,6,7,8,9,10,11,12,13,14,15,16,17,18,19,20,21,22,23,24,25,26,27,28,29,30,31,32,33,34,35],[0,1,2,3,4,5,6,7,8,9,10,11,12,13,14,15,16,17,18,19,20,21,22,23,24,25,26,27,28,29,30,31,32,33,34,35,36],[0,1,2,3,4,5,6,7,8,9,10,11,12,13,14,15,16,17,18,19,20,21,22,23,24,25,26,27,28,29,30,31,32,33,34,35,36,37],[0,1,2,3,4,5,6,7,8,9,10,11,12,13,14,15,16,17,18,19,20,21,22,23,24,25,26,27,28,29,30,31,32,33,34,35,36,37,38],[0,1,2,3,4,5,6,7,8,9,10,11,12,13,14,15,16,17,18,19,20,21,22,23,24,25,26,27,28,29,30,31,32,33,34,35,36,37,38,39],[0,1,2,3,4,5,6,7,8,9,10,11,12,13,14,15,16,17,18,19,20,21,22,23,24,25,26,27,28,29,30,31,32,33,34,35,36,37,38,39],[0,1,2,3,4,5,6,7,8,9,10,11,12,13,14,15,16,17,18,19,20,21,22,23,24,25,26,27,28,29,30,31,32,33,34,35,36,37,38,39,40,41],[0,1,2,3,4,5,6,7,8,9,10,11,12,13,14,15,16,17,18,19,20,21,22,23,24,25,26,27,28,29,30,31,32,33,34,35,36,37,38,39,40,41,42],[0,1,2,3,4,5,6,7,8,9,10,11,12,13,14,15,16,17,18,19,20,21,22,23,24,25,26,27,28,29,30,31,32,33,34,35,36,37,38,39,40,41,42,43],[0,1,2,3,4,5,6,7,8,9,10,11,12,13,14,15,16,17,18,19,20,21,22,23,24,25,26,27,28,29,30,31,32,33,34,35,36,37,38,39],[0,1,2,3,4,5,6,7,8,9,10,11,12,13,14,15,16,17,18,19,20,21,22,23,24,25,26,27,28,29,30,31,32,33,34,35,36,37,38,39],[0,1,2,3,4,5,6,7,8,9,10,11,12,13,14,15,16,17,18,19,20,21,22,23,24,25,26,27,28,29,30,31,32,33,34,35,36,37,38,39,45,46],[0,1,2,3,4,5,6,7,8,9,10,11,12,13,14,15,16,17,18,19,20,21,22,23,24,25,26,27,28,29,30,31,32,33,34,35,36,37,38,39,45,46,47],[0,1,2,3,4,5,6,7,8,9,10,11,12,13,14,15,16,17,18,19,20,21,22,23,24,25,26,27,28,29,30,31,32,33,34,35,36,37,38,39,45,46,47,48],[0,1,2,3,4,5,6,7,8,9,10,11,12,13,14,15,16,17,18,19,20,21,22,23,24,25,26,27,28,29,30,31,32,33,34,35,36,37,38,39,40,41,42,43,44,45,46,47,48,49],[0,1,2,3,4,5,6,7,8,9,10,11,12,13,14,15,16,17,18,19,20,21,22,23,24,25,26,27,28,29,30,31,32,33,34,35,36,37,38,39,40,41,42,43,44,45,46,47,48,49,50],[0,1,2,3,4,5,6,7,8,9,10,11,12,13,14,15,16,17,18,19,20,21,22,23,24,25,26,27,28,29,30,31,32,33,34,35,36,37,38,39,40,41,42,43,44,45,46,47,48,49,50,51]] (by kernel_rfl) (by kernel_rfl) (by kernel_rfl) (by rfl) (by rfl) (by kernel_rfl) ?_
                apply Exists.intro
                apply Exists.intro
                apply Exists.intro
                apply Exists.intro
                apply Exists.intro
                apply Exists.intro
                apply Exists.intro
                apply Exists.intro
                apply Exists.intro
                apply Exists.intro
                apply Exists.intro
                apply Exists.intro
                intro bs
                refine z_e rfl rfl (ex_pure htab rfl) rfl rfl rfl rfl rfl rfl ?_
                refine z_q rfl rfl (ex_pure htab rfl) rfl rfl rfl rfl rfl rfl ?_
                refine z_e rfl rfl (x_elem htab rfl rfl rfl rfl rfl rfl rfl (idx_nonneg q157) (idx_map q157)) rfl rfl rfl rfl rfl rfl ?_
                refine z_e rfl rfl (ex_pure htab rfl) rfl rfl rfl rfl rfl rfl ?_
                refine z_qM rfl rfl (xm_loadEl htab rfl rfl rfl rfl rfl) rfl rfl rfl rfl rfl rfl ?_
                refine z_e rfl rfl (ex_pure htab rfl) rfl rfl rfl rfl rfl rfl ?_
                refine z_q rfl rfl (ex_pure htab rfl) rfl rfl rfl rfl rfl rfl ?_
                refine z_e rfl rfl (x_elem htab rfl rfl rfl rfl rfl rfl rfl (idx_nonneg q158) (idx_map q158)) rfl rfl rfl rfl rfl rfl ?_
                refine z_e rfl rfl (ex_pure htab rfl) rfl rfl rfl rfl rfl rfl ?_
                refine z_qM rfl rfl (xm_loadEl htab rfl rfl rfl rfl rfl) rfl rfl rfl rfl rfl rfl ?_
                refine z_q rfl rfl (ex_pure htab rfl) rfl rfl rfl rfl rfl rfl ?_
                refine z_q rfl rfl (ex_pure htab rfl) rfl rfl rfl rfl rfl rfl ?_
                refine z_known (j := 30) (b' := false) rfl hs159 ?_
                refine z_e rfl rfl (ex_pure htab rfl) rfl rfl rfl rfl rfl rfl ?_
                refine z_q rfl rfl (ex_pure htab rfl) rfl rfl rfl rfl rfl rfl ?_
                refine z_e rfl rfl (x_elem htab rfl rfl rfl rfl rfl rfl rfl (idx_nonneg q160) (idx_map q160)) rfl rfl rfl rfl rfl rfl ?_
                refine z_e rfl rfl (ex_pure htab rfl) rfl rfl rfl rfl rfl rfl ?_
                refine z_qM rfl rfl (xm_loadEl htab rfl rfl rfl rfl rfl) rfl rfl rfl rfl rfl rfl ?_
                refine z_e rfl rfl (ex_pure htab rfl) rfl rfl rfl rfl rfl rfl ?_
                refine z_q rfl rfl (ex_pure htab rfl) rfl rfl rfl rfl rfl rfl ?_
                refine z_e rfl rfl (x_elem htab rfl rfl rfl rfl rfl rfl rfl (idx_nonneg q161) (idx_map q161)) rfl rfl rfl rfl rfl rfl ?_
                refine z_e rfl rfl (ex_pure htab rfl) rfl rfl rfl rfl rfl rfl ?_
                refine z_qM rfl rfl (xm_loadEl htab rfl rfl rfl rfl rfl) rfl rfl rfl rfl rfl rfl ?_
                refine z_q rfl rfl (ex_pure htab rfl) rfl rfl rfl rfl rfl rfl ?_
                refine z_q rfl rfl (x_pickF rfl rfl rfl) rfl rfl rfl rfl rfl rfl ?_
                refine z_q rfl rfl (ex_pure htab rfl) rfl rfl rfl rfl rfl rfl ?_
                refine z_known (j := 43) (b' := true) rfl hs162 ?_
                refine z_skip rfl rfl rfl rfl ?_
                refine z_skip rfl rfl rfl rfl ?_
                refine z_skip rfl rfl rfl rfl ?_
                refine z_skip rfl rfl rfl rfl ?_
                refine z_skip rfl rfl rfl rfl ?_
                refine z_skip rfl rfl rfl rfl ?_
                refine z_skip rfl rfl rfl rfl ?_
                refine z_skip rfl rfl rfl rfl ?_
                refine z_skip rfl rfl rfl rfl ?_
                refine z_skip rfl rfl rfl rfl ?_
                refine z_skip rfl rfl rfl rfl ?_
                refine z_q rfl rfl (x_pickT rfl rfl rfl) rfl rfl rfl rfl rfl rfl ?_
                refine z_q rfl rfl (ex_pure htab rfl) rfl rfl rfl rfl rfl rfl ?_
                refine z_skip rfl rfl rfl rfl ?_
                refine z_skip rfl rfl rfl rfl ?_
                refine z_skip rfl rfl rfl rfl ?_
                refine z_skip rfl rfl rfl rfl ?_
                refine z_skip rfl rfl rfl rfl ?_
                refine z_skip rfl rfl rfl rfl ?_
                refine z_skip rfl rfl rfl rfl ?_
                refine z_skip rfl rfl rfl rfl ?_
                refine z_skip rfl rfl rfl rfl ?_
                refine z_skip rfl rfl rfl rfl ?_
                refine z_skip rfl rfl rfl rfl ?_
                refine z_skip rfl rfl rfl rfl ?_
                refine z_nil rfl rfl (fun e he => by simp [isAl] at he) ?_
                refine p_skip rfl rfl rfl ?_
                refine p_skip rfl rfl rfl ?_
                refine p_pickT rfl rfl rfl rfl rfl rfl ?_
                refine ops_nil ?_
                have e156 := yes_eq hm; subst e156
                refine ⟨rfl, ?_⟩
                exact WkX.of () (WkS.perm (WkS.cons rfl (Wk.refl _) (WkS.cons rfl (Wk.refl _) (WkS.cons rfl (Wk.refl _) (WkS.cons rfl (Wk.refl _) (WkS.cons rfl (Wk.refl _) (WkS.nil)))))) (List.Perm.refl _) (List.Perm.refl _))
              · replace hm := yes_f hs162 hm
                obtain ⟨x163, q163, hm⟩ := yes_bind hm
                obtain ⟨x164, q164, hm⟩ := yes_bind hm
                refine bycB (x163.gN != x164.gN) (fun hs165 => ?_) (fun hs165 => ?_)
                · replace hm := yes_t hs165 hm
                  refine wpD_draws 50 [] [[],[],[0],[0,2],[0,2,3],[],[],[5],[5,7],[5,7,8],[0,2,3,5,7,8],[0,2,3,5,7,8],[0,2,3,5,7,8],[0,2,3,5,7,8],[0,2,3,5,7,8,12],[0,2,3,5,7,8,12,14],[0,2,3,5,7,8,12,14,15],[0,2,3,5,7,8],[0,2,3,5,7,8],[0,2,3,5,7,8,17],[0,2,3,5,7,8,17,19],[0,2,3,5,7,8,17,19,20],[0,2,3,5,7,8,12,14,15,17,19,20],[0,2,3,5,7,8,12,14,15,17,19,20],[0,2,3,5,7,8,12,14,15,17,19,20],[0,2,3,5,7,8,12,14,15,17,19,20],[0,2,3,5,7,8,12,14,15,17,19,20],[0,2,3,5,7,8,12,14,15,17,19,20,25],[0,2,3,5,7,8,12,14,15,17,19,20,25,27],[0,2,3,5,7,8,12,14,15,17,19,20,25,27,28],[0,2,3,5,7,8,12,14,15,17,19,20],[0,2,3,5,7,8,12,14,15,17,19,20],[0,2,3,5,7,8,12,14,15,17,19,20,30],[0,2,3,5,7,8,12,14,15,17,19,20,30,32],[0,2,3,5,7,8,12,14,15,17,19,20,30,32,33],[0,2,3,5,7,8,12,14,15,17,19,20,25,27,28,30,32,33],[0,2,3,5,7,8,12,14,15,17,19,20,25,27,28,30,32,33],[0,2,3,5,7,8,12,14,15,17,19,20,25,27,28,30,32,33],[0,2,3,5,7,8,12,14,15,17,19,20,25,27,28,30,32,33],[0,2,3,5,7,8,12,14,15,17,19,20,25,27,28,30,32,33],[0,2,3,5,7,8,12,14,15,17,19,20,25,27,28,30,32,33],[0,2,3,5,7,8,12,14,15,17,19,20,25,27,28,30,32,33],[0,2,3,5,7,8,12,14,15,17,19,20,25,27,28,30,32,33],[0,2,3,5,7,8,12,14,15,17,19,20,25,27,28,30,32,33],[0,2,3,5,7,8,12,14,15,17,19,20,25,27,28,30,32,33],[0,2,3,5,7,8,12,14,15,17,19,20,25,27,28,30,32,33],[0,2,3,5,7,8,12,14,15,17,19,20,25,27,28,30,32,33],[0,2,3,5,7,8,12,14,15,17,19,20,25,27,28,30,32,33],[0,2,3,5,7,8,12,14,15,17,19,20,25,27,28,30,32,33],[0,2,3,5,7,8,12,14,15,17,19,20,25,27,28,30,32,33]] [0,2,3,5,7,8,12,14,15,17,19,20,25,27,28,30,32,33] [[],[],[0,1],[0,1,2],[0,1,2,3],[],[],[5,6],[5,6,7],[5,6,7,8],[0,1,2,3,4,5,6,7,8,9],[0,1,2,3,4,5,6,7,8,9,10],[0,1,2,3,4,5,6,7,8,9,10,11],[0,1,2,3,4,5,6,7,8,9,10,11],[0,1,2,3,4,5,6,7,8,9,10,11,12,13],[0,1,2,3,4,5,6,7,8,9,10,11,12,13,14],[0,1,2,3,4,5,6,7,8,9,10,11,12,13,14,15],[0,1,2,3,4,5,6,7,8,9,10,11],[0,1,2,3,4,5,6,7,8,9,10,11],[0,1,2,3,4,5,6,7,8,9,10,11,17,18],[0,1,2,3,4,5,6,7,8,9,10,11,17,18,19],[0,1,2,3,4,5,6,7,8,9,10,11,17,18,19,20],[0,1,2,3,4,5,6,7,8,9,10,11,12,13,14,15,16,17,18,19,20,21],[0,1,2,3,4,5,6,7,8,9,10,11,12,13,14,15,16,17,18,19,20,21,22],[0,1,2,3,4,5,6,7,8,9,10,11,12,13,14,15,16,17,18,19,20,21,22,23],[0,1,2,3,4,5,6,7,8,9,10,11,12,13,14,15,16,17,18,19,20,21,22,23,24],[0,1,2,3,4,5,6,7,8,9,10,11,12,13,14,15,16,17,18,19,20,21,22,23,24],[0,1,2,3,4,5,6,7,8,9,10,11,12,13,14,15,16,17,18,19,20,21,22,23,24,25,26],[0,1,2,3,4,5,6,7,8,9,10,11,12,13,14,15,16,17,18,19,20,21,22,23,24,25,26,27],[0,1,2,3,4,5,6,7,8,9,10,11,12,13,14,15,16,17,18,19,20,21,22,23,24,25,26,27,28],[0,1,2,3,4,5,6,7,8,9,10,11,12,13,14,15,16,17,18,19,20,21,22,23,24],[0,1,2,3,4,5,6,7,8,9,10,11,12,13,14,15,16,17,18,19,20,21,22,23,24],[0,1,2,3,4,5,6,7,8,9,10,11,12,13,14,15,16,17,18,19,20,21,22,23,24,30,31],[0,1,2,3,4,5,6,7,8,9,10,11,12,13,14,15,16,17,18,19,20,21,22,23,24,30,31,32],[0,1,2,3,4,5,6,7,8,9,10,11,12,13,14,15,16,17,18,19,20,21,22,23,24,30,31,32,33],[0,1,2,3,4,5,6,7,8,9,10,11,12,13,14,15,16,17,18,19,20,21,22,23,24,25,26,27,28,29,30,31,32,33,34],[0,1,2,3,4,5,6,7,8,9,10,11,12,13,14,15,16,17,18,19,20,21,22,23,24,25,26,27,28,29,30,31,32,33,34,35],[0,1,2,3,4,5,6,7,8,9,10,11,12,13,14,15,16,17,18,19,20,21,22,23,24,25,26,27,28,29,30,31,32,33,34,35,36],[0,1,2,3,4,5,6,7,8,9,10,11,12,13,14,15,16,17,18,19,20,21,22,23,24,25,26,27,28,29,30,31,32,33,34,35,36,37],[0,1,2,3,4,5,6,7,8,9,10,11,12,13,14,15,16,17,18,19,20,21,22,23,24,25,26,27,28,29,30,31,32,33,34,35,36,37,38],[0,1,2,3,4,5,6,7,8,9,10,11,12,13,14,15,16,17,18,19,20,21,22,23,24,25,26,27,28,29,30,31,32,33,34,35,36,37,38,39],[0,1,2,3,4,5,6,7,8,9,10,11,12,13,14,15,16,17,18,19,20,21,22,23,24,25,26,27,28,29,30,31,32,33,34,35,36,37,38,39],[0,1,2,3,4,5,6,7,8,9,10,11,12,13,14,15,16,17,18,19,20,21,22,23,24,25,26,27,28,29,30,31,32,33,34,35,36,37,38,39,40,41],[0,1,2,3,4,5,6,7,8,9,10,11,12,13,14,15,16,17,18,19,20,21,22,23,24,25,26,27,28,29,30,31,32,33,34,35,36,37,38,39,40,41,42],[0,1,2,3,4,5,6,7,8,9,10,11,12,13,14,15,16,17,18,19,20,21,22,23,24,25,26,27,28,29,30,31,32,33,34,35,36,37,38,39,40,41,42,43],[0,1,2,3,4,5,6,7,8,9,10,11,12,13,14,15,16,17,18,19,20,21,22,23,24,25,26,27,28,29,30,31,32,33,34,35,36,37,38,39],[0,1,2,3,4,5,6,7,8,9,10,11,12,13,14,15,16,17,18,19,20,21,22,23,24,25,26,27,28,29,30,31,32,33,34,35,36,37,38,39],[0,1,2,3,4,5,6,7,8,9,10,11,12,13,14,15,16,17,18,19,20,21,22,23,24,25,26,27,28,29,30,31,32,33,34,35,36,37,38,39,45,46],[0,1,2,3,4,5,6,7,8,9,10,11,12,13,14,15,16,17,18,19,20,21,22,23,24,25,26,27,28,29,30,31,32,33,34,35,36,37,38,39,45,46,47],[0,1,2,3,4,5,6,7,8,9,10,11,12,13,14,15,16,17,18,19,20,21,22,23,24,25,26,27,28,29,30,31,32,33,34,35,36,37,38,39,45,46,47,48],[0,1,2,3,4,5,6,7,8,9,10,11,12,13,14,15,16,17,18,19,20,21,22,23,24,25,26,27,28,29,30,31,32,33,34,35,36,37,38,39,40,41,42,43,44,45,46,47,48,49],[0,1,2,3,4,5,6,7,8,9,10,11,12,13,14,15,16,17,18,19,20,21,22,23,24,25,26,27,28,29,30,31,32,33,34,35,36,37,38,39,40,41,42,43,44,45,46,47,48,49,50],[0,1,2,3,4,5,6,7,8,9,10,11,12,13,14,15,16,17,18,19,20,21,22,23,24,25,26,27,28,29,30,31,32,33,34,35,36,37,38,39,40,41,42,43,44,45,46,47,48,49,50,51]] (by kernel_rfl) (by kernel_rfl) (by kernel_rfl) (by rfl) (by rfl) (by kernel_rfl) ?_
                  apply Exists.intro
                  apply Exists.intro
                  apply Exists.intro
                  apply Exists.intro
                  apply Exists.intro
                  apply Exists.intro
                  apply Exists.intro
                  apply Exists.intro
                  apply Exists.intro
                  apply Exists.intro
                  apply Exists.intro
                  apply Exists.intro
                  apply Exists.intro
                  apply Exists.intro
                  apply Exists.intro
                  apply Exists.intro
                  apply Exists.intro
                  apply Exists.intro
                  intro bs
                  refine z_e rfl rfl (ex_pure htab rfl) rfl rfl rfl rfl rfl rfl ?_
                  refine z_q rfl rfl (ex_pure htab rfl) rfl rfl rfl rfl rfl rfl ?_
                  refine z_e rfl rfl (x_elem htab rfl rfl rfl rfl rfl rfl rfl (idx_nonneg q157) (idx_map q157)) rfl rfl rfl rfl rfl rfl ?_
                  refine z_e rfl rfl (ex_pure htab rfl) rfl rfl rfl rfl rfl rfl ?_
                  refine z_qM rfl rfl (xm_loadEl htab rfl rfl rfl rfl rfl) rfl rfl rfl rfl rfl rfl ?_
                  refine z_e rfl rfl (ex_pure htab rfl) rfl rfl rfl rfl rfl rfl ?_
                  refine z_q rfl rfl (ex_pure htab rfl) rfl rfl rfl rfl rfl rfl ?_
                  refine z_e rfl rfl (x_elem htab rfl rfl rfl rfl rfl rfl rfl (idx_nonneg q158) (idx_map q158)) rfl rfl rfl rfl rfl rfl ?_
                  refine z_e rfl rfl (ex_pure htab rfl) rfl rfl rfl rfl rfl rfl ?_
                  refine z_qM rfl rfl (xm_loadEl htab rfl rfl rfl rfl rfl) rfl rfl rfl rfl rfl rfl ?_
                  refine z_q rfl rfl (ex_pure htab rfl) rfl rfl rfl rfl rfl rfl ?_
                  refine z_q rfl rfl (ex_pure htab rfl) rfl rfl rfl rfl rfl rfl ?_
                  refine z_known (j := 30) (b' := false) rfl hs159 ?_
                  refine z_e rfl rfl (ex_pure htab rfl) rfl rfl rfl rfl rfl rfl ?_
                  refine z_q rfl rfl (ex_pure htab rfl) rfl rfl rfl rfl rfl rfl ?_
                  refine z_e rfl rfl (x_elem htab rfl rfl rfl rfl rfl rfl rfl (idx_nonneg q160) (idx_map q160)) rfl rfl rfl rfl rfl rfl ?_
                  refine z_e rfl rfl (ex_pure htab rfl) rfl rfl rfl rfl rfl rfl ?_
                  refine z_qM rfl rfl (xm_loadEl htab rfl rfl rfl rfl rfl) rfl rfl rfl rfl rfl rfl ?_
                  refine z_e rfl rfl (ex_pure htab rfl) rfl rfl rfl rfl rfl rfl ?_
                  refine z_q rfl rfl (ex_pure htab rfl) rfl rfl rfl rfl rfl rfl ?_
                  refine z_e rfl rfl (x_elem htab rfl rfl rfl rfl rfl rfl rfl (idx_nonneg q161) (idx_map q161)) rfl rfl rfl rfl rfl rfl ?_
                  refine z_e rfl rfl (ex_pure htab rfl) rfl rfl rfl rfl rfl rfl ?_
                  refine z_qM rfl rfl (xm_loadEl htab rfl rfl rfl rfl rfl) rfl rfl rfl rfl rfl rfl ?_
                  refine z_q rfl rfl (ex_pure htab rfl) rfl rfl rfl rfl rfl rfl ?_
                  refine z_q rfl rfl (x_pickF rfl rfl rfl) rfl rfl rfl rfl rfl rfl ?_
                  refine z_q rfl rfl (ex_pure htab rfl) rfl rfl rfl rfl rfl rfl ?_
                  refine z_known (j := 43) (b' := false) rfl hs162 ?_
                  refine z_e rfl rfl (ex_pure htab rfl) rfl rfl rfl rfl rfl rfl ?_
                  refine z_q rfl rfl (ex_pure htab rfl) rfl rfl rfl rfl rfl rfl ?_
                  refine z_e rfl rfl (x_elem htab rfl rfl rfl rfl rfl rfl rfl (idx_nonneg q163) (idx_map q163)) rfl rfl rfl rfl rfl rfl ?_
                  refine z_e rfl rfl (ex_pure htab rfl) rfl rfl rfl rfl rfl rfl ?_
                  refine z_qM rfl rfl (xm_loadEl htab rfl rfl rfl rfl rfl) rfl rfl rfl rfl rfl rfl ?_
                  refine z_e rfl rfl (ex_pure htab rfl) rfl rfl rfl rfl rfl rfl ?_
                  refine z_q rfl rfl (ex_pure htab rfl) rfl rfl rfl rfl rfl rfl ?_
                  refine z_e rfl rfl (x_elem htab rfl rfl rfl rfl rfl rfl rfl (idx_nonneg q164) (idx_map q164)) rfl rfl rfl rfl rfl rfl ?_
                  refine z_e rfl rfl (ex_pure htab rfl) rfl rfl rfl rfl rfl rfl ?_
                  refine z_qM rfl rfl (xm_loadEl htab rfl rfl rfl rfl rfl) rfl rfl rfl rfl rfl rfl ?_
                  refine z_q rfl rfl (ex_pure htab rfl) rfl rfl rfl rfl rfl rfl ?_
                  refine z_q rfl rfl (x_pickF rfl rfl rfl) rfl rfl rfl rfl rfl rfl ?_
                  refine z_q rfl rfl (ex_pure htab rfl) rfl rfl rfl rfl rfl rfl ?_
                  refine z_known (j := 56) (b' := true) rfl hs165 ?_
                  refine z_skip rfl rfl rfl rfl ?_
                  refine z_skip rfl rfl rfl rfl ?_
                  refine z_skip rfl rfl rfl rfl ?_
                  refine z_skip rfl rfl rfl rfl ?_
                  refine z_skip rfl rfl rfl rfl ?_
                  refine z_skip rfl rfl rfl rfl ?_
                  refine z_skip rfl rfl rfl rfl ?_
                  refine z_skip rfl rfl rfl rfl ?_
                  refine z_skip rfl rfl rfl rfl ?_
                  refine z_skip rfl rfl rfl rfl ?_
                  refine z_skip rfl rfl rfl rfl ?_
                  refine z_skip rfl rfl rfl rfl ?_
                  refine z_nil rfl rfl (fun e he => by simp [isAl] at he) ?_
                  refine p_skip rfl rfl rfl ?_
                  refine p_skip rfl rfl rfl ?_
                  refine p_pickT rfl rfl rfl rfl rfl rfl ?_
                  refine ops_nil ?_
                  have e156 := yes_eq hm; subst e156
                  refine ⟨rfl, ?_⟩
                  exact WkX.of () (WkS.perm (WkS.cons rfl (Wk.refl _) (WkS.cons rfl (Wk.refl _) (WkS.cons rfl (Wk.refl _) (WkS.cons rfl (Wk.refl _) (WkS.cons rfl (Wk.refl _) (WkS.nil)))))) (List.Perm.refl _) (List.Perm.refl _))
                · replace hm := yes_f hs165 hm
                  refine bycB a2 (fun hs166 => ?_) (fun hs166 => ?_)
                  · replace hm := yes_t hs166 hm
                    obtain ⟨x167, q167, hm⟩ := yes_bind hm
                    obtain ⟨x168, q168, hm⟩ := yes_bind hm
                    refine wpD_draws 50 [] [[],[],[0],[0,2],[0,2,3],[],[],[5],[5,7],[5,7,8],[0,2,3,5,7,8],[0,2,3,5,7,8],[0,2,3,5,7,8],[0,2,3,5,7,8],[0,2,3,5,7,8,12],[0,2,3,5,7,8,12,14],[0,2,3,5,7,8,12,14,15],[0,2,3,5,7,8],[0,2,3,5,7,8],[0,2,3,5,7,8,17],[0,2,3,5,7,8,17,19],[0,2,3,5,7,8,17,19,20],[0,2,3,5,7,8,12,14,15,17,19,20],[0,2,3,5,7,8,12,14,15,17,19,20],[0,2,3,5,7,8,12,14,15,17,19,20],[0,2,3,5,7,8,12,14,15,17,19,20],[0,2,3,5,7,8,12,14,15,17,19,20],[0,2,3,5,7,8,12,14,15,17,19,20,25],[0,2,3,5,7,8,12,14,15,17,19,20,25,27],[0,2,3,5,7,8,12,14,15,17,19,20,25,27,28],[0,2,3,5,7,8,12,14,15,17,19,20],[0,2,3,5,7,8,12,14,15,17,19,20],[0,2,3,5,7,8,12,14,15,17,19,20,30],[0,2,3,5,7,8,12,14,15,17,19,20,30,32],[0,2,3,5,7,8,12,14,15,17,19,20,30,32,33],[0,2,3,5,7,8,12,14,15,17,19,20,25,27,28,30,32,33],[0,2,3,5,7,8,12,14,15,17,19,20,25,27,28,30,32,33],[0,2,3,5,7,8,12,14,15,17,19,20,25,27,28,30,32,33],[0,2,3,5,7,8,12,14,15,17,19,20,25,27,28,30,32,33],[0,2,3,5,7,8,12,14,15,17,19,20,25,27,28,30,32,33],[0,2,3,5,7,8,12,14,15,17,19,20,25,27,28,30,32,33],[0,2,3,5,7,8,12,14,15,17,19,20,25,27,28,30,32,33],[0,2,3,5,7,8,12,14,15,17,19,20,25,27,28,30,32,33,40],[0,2,3,5,7,8,12,14,15,17,19,20,25,27,28,30,32,33,40,42],[0,2,3,5,7,8,12,14,15,17,19,20,25,27,28,30,32,33,40,42,43],[0,2,3,5,7,8,12,14,15,17,19,20,25,27,28,30,32,33],[0,2,3,5,7,8,12,14,15,17,19,20,25,27,28,30,32,33],[0,2,3,5,7,8,12,14,15,17,19,20,25,27,28,30,32,33,45],[0,2,3,5,7,8,12,14,15,17,19,20,25,27,28,30,32,33,45,47],[0,2,3,5,7,8,12,14,15,17,19,20,25,27,28,30,32,33,45,47,48]] [0,2,3,5,7,8,12,14,15,17,19,20,25,27,28,30,32,33,40,42,43,45,47,48] [[],[],[0,1],[0,1,2],[0,1,2,3],[],[],[5,6],[5,6,7],[5,6,7,8],[0,1,2,3,4,5,6,7,8,9],[0,1,2,3,4,5,6,7,8,9,10],[0,1,2,3,4,5,6,7,8,9,10,11],[0,1,2,3,4,5,6,7,8,9,10,11],[0,1,2,3,4,5,6,7,8,9,10,11,12,13],[0,1,2,3,4,5,6,7,8,9,10,11,12,13,14],[0,1,2,3,4,5,6,7,8,9,10,11,12,13,14,15],[0,1,2,3,4,5,6,7,8,9,10,11],[0,1,2,3,4,5,6,7,8,9,10,11],[0,1,2,3,4,5,6,7,8,9,10,11,17,18],[0,1,2,3,4,5,6,7,8,9,10,11,17,18,19],[0,1,2,3,4,5,6,7,8,9,10,11,17,18,19,20],[0,1,2,3,4,5,6,7,8,9,10,11,12,13,14,15,16,17,18,19,20,21],[0,1,2,3,4,5,6,7,8,9,10,11,12,13,14,15,16,17,18,19,20,21,22],[0,1,2,3,4,5,6,7,8,9,10,11,12,13,14,15,16,17,18,19,20,21,22,23],[0,1,2,3,4,5,6,7,8,9,10,11,12,13,14,15,16,17,18,19,20,21,22,23,24],[0,1,2,3,4,5,6,7,8,9,10,11,12,13,14,15,16,17,18,19,20,21,22,23,24],[0,1,2,3,4,5,6,7,8,9,10,11,12,13,14,15,16,17,18,19,20,21,22,23,24,25,26],[0,1,2,3,4,5,6,7,8,9,10,11,12,13,14,15,16,17,18,19,20,21,22,23,24,25,26,27],[0,1,2,3,4,5,6,7,8,9,10,11,12,13,14,15,16,17,18,19,20,21,22,23,24,25,26,27,28],[0,1,2,3,4,5,6,7,8,9,10,11,12,13,14,15,16,17,18,19,20,21,22,23,24],[0,1,2,3,4,5,6,7,8,9,10,11,12,13,14,15,16,17,18,19,20,21,22,23,24],[0,1,2,3,4,5,6,7,8,9,10,11,12,13,14,15,16,17,18,19,20,21,22,23,24,30,31],[0,1,2,3,4,5,6,7,8,9,10,11,12,13,14,15,16,17,18,19,20,21,22,23,24,30,31,32],[0,1,2,3,4,5,6,7,8,9,10,11,12,13,14,15,16,17,18,19,20,21,22,23,24,30,31,32,33],[0,1,2,3,4,5,6,7,8,9,10,11,12,13,14,15,16,17,18,19,20,21,22,23,24,25,26,27,28,29,30,31,32,33,34],[0,1,2,3,4,5,6,7,8,9,10,11,12,13,14,15,16,17,18,19,20,21,22,23,24,25,26,27,28,29,30,31,32,33,34,35],[0,1,2,3,4,5,6,7,8,9,10,11,12,13,14,15,16,17,18,19,20,21,22,23,24,25,26,27,28,29,30,31,32,33,34,35,36],[0,1,2,3,4,5,6,7,8,9,10,11,12,13,14,15,16,17,18,19,20,21,22,23,24,25,26,27,28,29,30,31,32,33,34,35,36,37],[0,1,2,3,4,5,6,7,8,9,10,11,12,13,14,15,16,17,18,19,20,21,22,23,24,25,26,27,28,29,30,31,32,33,34,35,36,37,38],[0,1,2,3,4,5,6,7,8,9,10,11,12,13,14,15,16,17,18,19,20,21,22,23,24,25,26,27,28,29,30,31,32,33,34,35,36,37,38,39],[0,1,2,3,4,5,6,7,8,9,10,11,12,13,14,15,16,17,18,19,20,21,22,23,24,25,26,27,28,29,30,31,32,33,34,35,36,37,38,39],[0,1,2,3,4,5,6,7,8,9,10,11,12,13,14,15,16,17,18,19,20,21,22,23,24,25,26,27,28,29,30,31,32,33,34,35,36,37,38,39,40,41],[0,1,2,3,4,5,6,7,8,9,10,11,12,13,14,15,16,17,18,19,20,21,22,23,24,25,26,27,28,29,30,31,32,33,34,35,36,37,38,39,40,41,42],[0,1,2,3,4,5,6,7,8,9,10,11,12,13,14,15,16,17,18,19,20,21,22,23,24,25,26,27,28,29,30,31,32,33,34,35,36,37,38,39,40,41,42,43],[0,1,2,3,4,5,6,7,8,9,10,11,12,13,14,15,16,17,18,19,20,21,22,23,24,25,26,27,28,29,30,31,32,33,34,35,36,37,38,39],[0,1,2,3,4,5,6,7,8,9,10,11,12,13,14,15,16,17,18,19,20,21,22,23,24,25,26,27,28,29,30,31,32,33,34,35,36,37,38,39],[0,1,2,3,4,5,6,7,8,9,10,11,12,13,14,15,16,17,18,19,20,21,22,23,24,25,26,27,28,29,30,31,32,33,34,35,36,37,38,39,45,46],[0,1,2,3,4,5,6,7,8,9,10,11,12,13,14,15,16,17,18,19,20,21,22,23,24,25,26,27,28,29,30,31,32,33,34,35,36,37,38,39,45,46,47],[0,1,2,3,4,5,6,7,8,9,10,11,12,13,14,15,16,17,18,19,20,21,22,23,24,25,26,27,28,29,30,31,32,33,34,35,36,37,38,39,45,46,47,48],[0,1,2,3,4,5,6,7,8,9,10,11,12,13,14,15,16,17,18,19,20,21,22,23,24,25,26,27,28,29,30,31,32,33,34,35,36,37,38,39,40,41,42,43,44,45,46,47,48,49],[0,1,2,3,4,5,6,7,8,9,10,11,12,13,14,15,16,17,18,19,20,21,22,23,24,25,26,27,28,29,30,31,32,33,34,35,36,37,38,39,40,41,42,43,44,45,46,47,48,49,50],[0,1,2,3,4,5,6,7,8,9,10,11,12,13,14,15,16,17,18,19,20,21,22,23,24,25,26,27,28,29,30,31,32,33,34,35,36,37,38,39,40,41,42,43,44,45,46,47,48,49,50,51]] (by kernel_rfl) (by kernel_rfl) (by kernel_rfl) (by rfl) (by rfl) (by kernel_rfl) ?_
                    apply Exists.intro
                    apply Exists.intro
                    apply Exists.intro
                    apply Exists.intro
                    apply Exists.intro
                    apply Exists.intro
                    apply Exists.intro
                    apply Exists.intro
                    apply Exists.intro
                    apply Exists.intro
                    apply Exists.intro
                    apply Exists.intro
                    apply Exists.intro
                    apply Exists.intro
                    apply Exists.intro
                    apply Exists.intro
                    apply Exists.intro
                    apply Exists.intro
                    apply Exists.intro
                    apply Exists.intro
                    apply Exists.intro
                    apply Exists.intro
                    apply Exists.intro
                    apply Exists.intro
                    intro bs
                    refine z_e rfl rfl (ex_pure htab rfl) rfl rfl rfl rfl rfl rfl ?_
                    refine z_q rfl rfl (ex_pure htab rfl) rfl rfl rfl rfl rfl rfl ?_
                    refine z_e rfl rfl (x_elem htab rfl rfl rfl rfl rfl rfl rfl (idx_nonneg q157) (idx_map q157)) rfl rfl rfl rfl rfl rfl ?_
                    refine z_e rfl rfl (ex_pure htab rfl) rfl rfl rfl rfl rfl rfl ?_
                    refine z_qM rfl rfl (xm_loadEl htab rfl rfl rfl rfl rfl) rfl rfl rfl rfl rfl rfl ?_
                    refine z_e rfl rfl (ex_pure htab rfl) rfl rfl rfl rfl rfl rfl ?_
                    refine z_q rfl rfl (ex_pure htab rfl) rfl rfl rfl rfl rfl rfl ?_
                    refine z_e rfl rfl (x_elem htab rfl rfl rfl rfl rfl rfl rfl (idx_nonneg q158) (idx_map q158)) rfl rfl rfl rfl rfl rfl ?_
                    refine z_e rfl rfl (ex_pure htab rfl) rfl rfl rfl rfl rfl rfl ?_
                    refine z_qM rfl rfl (xm_loadEl htab rfl rfl rfl rfl rfl) rfl rfl rfl rfl rfl rfl ?_
                    refine z_q rfl rfl (ex_pure htab rfl) rfl rfl rfl rfl rfl rfl ?_
                    refine z_q rfl rfl (ex_pure htab rfl) rfl rfl rfl rfl rfl rfl ?_
                    refine z_known (j := 30) (b' := false) rfl hs159 ?_
                    refine z_e rfl rfl (ex_pure htab rfl) rfl rfl rfl rfl rfl rfl ?_
                    refine z_q rfl rfl (ex_pure htab rfl) rfl rfl rfl rfl rfl rfl ?_
                    refine z_e rfl rfl (x_elem htab rfl rfl rfl rfl rfl rfl rfl (idx_nonneg q160) (idx_map q160)) rfl rfl rfl rfl rfl rfl ?_
                    refine z_e rfl rfl (ex_pure htab rfl) rfl rfl rfl rfl rfl rfl ?_
                    refine z_qM rfl rfl (xm_loadEl htab rfl rfl rfl rfl rfl) rfl rfl rfl rfl rfl rfl ?_
                    refine z_e rfl rfl (ex_pure htab rfl) rfl rfl rfl rfl rfl rfl ?_
                    refine z_q rfl rfl (ex_pure htab rfl) rfl rfl rfl rfl rfl rfl ?_
                    refine z_e rfl rfl (x_elem htab rfl rfl rfl rfl rfl rfl rfl (idx_nonneg q161) (idx_map q161)) rfl rfl rfl rfl rfl rfl ?_
                    refine z_e rfl rfl (ex_pure htab rfl) rfl rfl rfl rfl rfl rfl ?_
                    refine z_qM rfl rfl (xm_loadEl htab rfl rfl rfl rfl rfl) rfl rfl rfl rfl rfl rfl ?_
                    refine z_q rfl rfl (ex_pure htab rfl) rfl rfl rfl rfl rfl rfl ?_
                    refine z_q rfl rfl (x_pickF rfl rfl rfl) rfl rfl rfl rfl rfl rfl ?_
                    refine z_q rfl rfl (ex_pure htab rfl) rfl rfl rfl rfl rfl rfl ?_
                    refine z_known (j := 43) (b' := false) rfl hs162 ?_
                    refine z_e rfl rfl (ex_pure htab rfl) rfl rfl rfl rfl rfl rfl ?_
                    refine z_q rfl rfl (ex_pure htab rfl) rfl rfl rfl rfl rfl rfl ?_
                    refine z_e rfl rfl (x_elem htab rfl rfl rfl rfl rfl rfl rfl (idx_nonneg q163) (idx_map q163)) rfl rfl rfl rfl rfl rfl ?_
                    refine z_e rfl rfl (ex_pure htab rfl) rfl rfl rfl rfl rfl rfl ?_
                    refine z_qM rfl rfl (xm_loadEl htab rfl rfl rfl rfl rfl) rfl rfl rfl rfl rfl rfl ?_
                    refine z_e rfl rfl (ex_pure htab rfl) rfl rfl rfl rfl rfl rfl ?_
                    refine z_q rfl rfl (ex_pure htab rfl) rfl rfl rfl rfl rfl rfl ?_
                    refine z_e rfl rfl (x_elem htab rfl rfl rfl rfl rfl rfl rfl (idx_nonneg q164) (idx_map q164)) rfl rfl rfl rfl rfl rfl ?_
                    refine z_e rfl rfl (ex_pure htab rfl) rfl rfl rfl rfl rfl rfl ?_
                    refine z_qM rfl rfl (xm_loadEl htab rfl rfl rfl rfl rfl) rfl rfl rfl rfl rfl rfl ?_
                    refine z_q rfl rfl (ex_pure htab rfl) rfl rfl rfl rfl rfl rfl ?_
                    refine z_q rfl rfl (x_pickF rfl rfl rfl) rfl rfl rfl rfl rfl rfl ?_
                    refine z_q rfl rfl (ex_pure htab rfl) rfl rfl rfl rfl rfl rfl ?_
                    refine z_known (j := 56) (b' := false) rfl hs165 ?_
                    refine z_q rfl rfl (ex_pure htab rfl) rfl rfl rfl rfl rfl rfl ?_
                    refine z_q rfl rfl (ex_pure htab rfl) rfl rfl rfl rfl rfl rfl ?_
                    refine z_known (j := 58) (b' := true) rfl hs166 ?_
                    refine z_e rfl rfl (ex_pure htab rfl) rfl rfl rfl rfl rfl rfl ?_
                    refine z_q rfl rfl (ex_pure htab rfl) rfl rfl rfl rfl rfl rfl ?_
                    refine z_e rfl rfl (x_elem htab rfl rfl rfl rfl rfl rfl rfl (idx_nonneg q167) (idx_map q167)) rfl rfl rfl rfl rfl rfl ?_
                    refine z_e rfl rfl (ex_pure htab rfl) rfl rfl rfl rfl rfl rfl ?_
                    refine z_qM rfl rfl (xm_loadEl htab rfl rfl rfl rfl rfl) rfl rfl rfl rfl rfl rfl ?_
                    refine z_e rfl rfl (ex_pure htab rfl) rfl rfl rfl rfl rfl rfl ?_
                    refine z_q rfl rfl (ex_pure htab rfl) rfl rfl rfl rfl rfl rfl ?_
                    refine z_e rfl rfl (x_elem htab rfl rfl rfl rfl rfl rfl rfl (idx_nonneg q168) (idx_map q168)) rfl rfl rfl rfl rfl rfl ?_
                    refine z_e rfl rfl (ex_pure htab rfl) rfl rfl rfl rfl rfl rfl ?_
                    refine z_qM rfl rfl (xm_loadEl htab rfl rfl rfl rfl rfl) rfl rfl rfl rfl rfl rfl ?_
                    refine z_nil rfl rfl (fun e he => by simp [isAl] at he) ?_
                    refine p_pure htab rfl rfl rfl rfl ?_
                    refine p_pickT rfl rfl rfl rfl rfl rfl ?_
                    refine p_pickF rfl rfl rfl rfl rfl rfl ?_
                    refine ops_nil ?_
                    have e156 := yes_eq hm; subst e156
                    refine ⟨rfl, ?_⟩
                    exact WkX.of () (WkS.perm (WkS.cons rfl (Wk.refl _) (WkS.cons rfl (Wk.refl _) (WkS.cons rfl (Wk.refl _) (WkS.cons rfl (Wk.refl _) (WkS.cons rfl (Wk.refl _) (WkS.nil)))))) (List.Perm.refl _) (List.Perm.refl _))
                  · replace hm := yes_f hs166 hm
                    refine wpD_draws 50 [] [[],[],[0],[0,2],[0,2,3],[],[],[5],[5,7],[5,7,8],[0,2,3,5,7,8],[0,2,3,5,7,8],[0,2,3,5,7,8],[0,2,3,5,7,8],[0,2,3,5,7,8,12],[0,2,3,5,7,8,12,14],[0,2,3,5,7,8,12,14,15],[0,2,3,5,7,8],[0,2,3,5,7,8],[0,2,3,5,7,8,17],[0,2,3,5,7,8,17,19],[0,2,3,5,7,8,17,19,20],[0,2,3,5,7,8,12,14,15,17,19,20],[0,2,3,5,7,8,12,14,15,17,19,20],[0,2,3,5,7,8,12,14,15,17,19,20],[0,2,3,5,7,8,12,14,15,17,19,20],[0,2,3,5,7,8,12,14,15,17,19,20],[0,2,3,5,7,8,12,14,15,17,19,20,25],[0,2,3,5,7,8,12,14,15,17,19,20,25,27],[0,2,3,5,7,8,12,14,15,17,19,20,25,27,28],[0,2,3,5,7,8,12,14,15,17,19,20],[0,2,3,5,7,8,12,14,15,17,19,20],[0,2,3,5,7,8,12,14,15,17,19,20,30],[0,2,3,5,7,8,12,14,15,17,19,20,30,32],[0,2,3,5,7,8,12,14,15,17,19,20,30,32,33],[0,2,3,5,7,8,12,14,15,17,19,20,25,27,28,30,32,33],[0,2,3,5,7,8,12,14,15,17,19,20,25,27,28,30,32,33],[0,2,3,5,7,8,12,14,15,17,19,20,25,27,28,30,32,33],[0,2,3,5,7,8,12,14,15,17,19,20,25,27,28,30,32,33],[0,2,3,5,7,8,12,14,15,17,19,20,25,27,28,30,32,33],[0,2,3,5,7,8,12,14,15,17,19,20,25,27,28,30,32,33],[0,2,3,5,7,8,12,14,15,17,19,20,25,27,28,30,32,33],[0,2,3,5,7,8,12,14,15,17,19,20,25,27,28,30,32,33],[0,2,3,5,7,8,12,14,15,17,19,20,25,27,28,30,32,33],[0,2,3,5,7,8,12,14,15,17,19,20,25,27,28,30,32,33],[0,2,3,5,7,8,12,14,15,17,19,20,25,27,28,30,32,33],[0,2,3,5,7,8,12,14,15,17,19,20,25,27,28,30,32,33],[0,2,3,5,7,8,12,14,15,17,19,20,25,27,28,30,32,33],[0,2,3,5,7,8,12,14,15,17,19,20,25,27,28,30,32,33],[0,2,3,5,7,8,12,14,15,17,19,20,25,27,28,30,32,33]] [0,2,3,5,7,8,12,14,15,17,19,20,25,27,28,30,32,33] [[],[],[0,1],[0,1,2],[0,1,2,3],[],[],[5,6],[5,6,7],[5,6,7,8],[0,1,2,3,4,5,6,7,8,9],[0,1,2,3,4,5,6,7,8,9,10],[0,1,2,3,4,5,6,7,8,9,10,11],[0,1,2,3,4,5,6,7,8,9,10,11],[0,1,2,3,4,5,6,7,8,9,10,11,12,13],[0,1,2,3,4,5,6,7,8,9,10,11,12,13,14],[0,1,2,3,4,5,6,7,8,9,10,11,12,13,14,15],[0,1,2,3,4,5,6,7,8,9,10,11],[0,1,2,3,4,5,6,7,8,9,10,11],[0,1,2,3,4,5,6,7,8,9,10,11,17,18],[0,1,2,3,4,5,6,7,8,9,10,11,17,18,19],[0,1,2,3,4,5,6,7,8,9,10,11,17,18,19,20],[0,1,2,3,4,5,6,7,8,9,10,11,12,13,14,15,16,17,18,19,20,21],[0,1,2,3,4,5,6,7,8,9,10,11,12,13,14,15,16,17,18,19,20,21,22],[0,1,2,3,4,5,6,7,8,9,10,11,12,13,14,15,16,17,18,19,20,21,22,23],[0,1,2,3,4,5,6,7,8,9,10,11,12,13,14,15,16,17,18,19,20,21,22,23,24],[0,1,2,3,4,5,6,7,8,9,10,11,12,13,14,15,16,17,18,19,20,21,22,23,24],[0,1,2,3,4,5,6,7,8,9,10,11,12,13,14,15,16,17,18,19,20,21,22,23,24,25,26],[0,1,2,3,4,5,6,7,8,9,10,11,12,13,14,15,16,17,18,19,20,21,22,23,24,25,26,27],[0,1,2,3,4,5,6,7,8,9,10,11,12,13,14,15,16,17,18,19,20,21,22,23,24,25,26,27,28],[0,1,2,3,4,5,6,7,8,9,10,11,12,13,14,15,16,17,18,19,20,21,22,23,24],[0,1,2,3,4,5,6,7,8,9,10,11,12,13,14,15,16,17,18,19,20,21,22,23,24],[0,1,2,3,4,5,6,7,8,9,10,11,12,13,14,15,16,17,18,19,20,21,22,23,24,30,31],[0,1,2,3,4,5,6,7,8,9,10,11,12,13,14,15,16,17,18,19,20,21,22,23,24,30,31,32],[0,1,2,3,4,5,6,7,8,9,10,11,12,13,14,15,16,17,18,19,20,21,22,23,24,30,31,32,33],[0,1,2,3,4,5,6,7,8,9,10,11,12,13,14,15,16,17,18,19,20,21,22,23,24,25,26,27,28,29,30,31,32,33,34],[0,1,2,3,4,5,6,7,8,9,10,11,12,13,14,15,16,17,18,19,20,21,22,23,24,25,26,27,28,29,30,31,32,33,34,35],[0,1,2,3,4,5,6,7,8,9,10,11,12,13,14,15,16,17,18,19,20,21,22,23,24,25,26,27,28,29,30,31,32,33,34,35,36],[0,1,2,3,4,5,6,7,8,9,10,11,12,13,14,15,16,17,18,19,20,21,22,23,24,25,26,27,28,29,30,31,32,33,34,35,36,37],[0,1,2,3,4,5,6,7,8,9,10,11,12,13,14,15,16,17,18,19,20,21,22,23,24,25,26,27,28,29,30,31,32,33,34,35,36,37,38],[0,1,2,3,4,5,6,7,8,9,10,11,12,13,14,15,16,17,18,19,20,21,22,23,24,25,26,27,28,29,30,31,32,33,34,35,36,37,38,39],[0,1,2,3,4,5,6,7,8,9,10,11,12,13,14,15,16,17,18,19,20,21,22,23,24,25,26,27,28,29,30,31,32,33,34,35,36,37,38,39],[0,1,2,3,4,5,6,7,8,9,10,11,12,13,14,15,16,17,18,19,20,21,22,23,24,25,26,27,28,29,30,31,32,33,34,35,36,37,38,39,40,41],[0,1,2,3,4,5,6,7,8,9,10,11,12,13,14,15,16,17,18,19,20,21,22,23,24,25,26,27,28,29,30,31,32,33,34,35,36,37,38,39,40,41,42],[0,1,2,3,4,5,6,7,8,9,10,11,12,13,14,15,16,17,18,19,20,21,22,23,24,25,26,27,28,29,30,31,32,33,34,35,36,37,38,39,40,41,42,43],[0,1,2,3,4,5,6,7,8,9,10,11,12,13,14,15,16,17,18,19,20,21,22,23,24,25,26,27,28,29,30,31,32,33,34,35,36,37,38,39],[0,1,2,3,4,5,6,7,8,9,10,11,12,13,14,15,16,17,18,19,20,21,22,23,24,25,26,27,28,29,30,31,32,33,34,35,36,37,38,39],[0,1,2,3,4,5,6,7,8,9,10,11,12,13,14,15,16,17,18,19,20,21,22,23,24,25,26,27,28,29,30,31,32,33,34,35,36,37,38,39,45,46],[0,1,2,3,4,5,6,7,8,9,10,11,12,13,14,15,16,17,18,19,20,21,22,23,24,25,26,27,28,29,30,31,32,33,34,35,36,37,38,39,45,46,47],[0,1,2,3,4,5,6,7,8,9,10,11,12,13,14,15,16,17,18,19,20,21,22,23,24,25,26,27,28,29,30,31,32,33,34,35,36,37,38,39,45,46,47,48],[0,1,2,3,4,5,6,7,8,9,10,11,12,13,14,15,16,17,18,19,20,21,22,23,24,25,26,27,28,29,30,31,32,33,34,35,36,37,38,39,40,41,42,43,44,45,46,47,48,49],[0,1,2,3,4,5,6,7,8,9,10,11,12,13,14,15,16,17,18,19,20,21,22,23,24,25,26,27,28,29,30,31,32,33,34,35,36,37,38,39,40,41,42,43,44,45,46,47,48,49,50],[0,1,2,3,4,5,6,7,8,9,10,11,12,13,14,15,16,17,18,19,20,21,22,23,24,25,26,27,28,29,30,31,32,33,34,35,36,37,38,39,40,41,42,43,44,45,46,47,48,49,50,51]] (by kernel_rfl) (by kernel_rfl) (by kernel_rfl) (by rfl) (by rfl) (by kernel_rfl) ?_
                    apply Exists.intro
                    apply Exists.intro
                    apply Exists.intro
                    apply Exists.intro
                    apply Exists.intro
                    apply Exists.intro
                    apply Exists.intro
                    apply Exists.intro
                    apply Exists.intro
                    apply Exists.intro
                    apply Exists.intro
                    apply Exists.intro
                    apply Exists.intro
                    apply Exists.intro
                    apply Exists.intro
                    apply Exists.intro
                    apply Exists.intro
                    apply Exists.intro
                    intro bs
                    refine z_e rfl rfl (ex_pure htab rfl) rfl rfl rfl rfl rfl rfl ?_
                    refine z_q rfl rfl (ex_pure htab rfl) rfl rfl rfl rfl rfl rfl ?_
                    refine z_e rfl rfl (x_elem htab rfl rfl rfl rfl rfl rfl rfl (idx_nonneg q157) (idx_map q157)) rfl rfl rfl rfl rfl rfl ?_
                    refine z_e rfl rfl (ex_pure htab rfl) rfl rfl rfl rfl rfl rfl ?_
                    refine z_qM rfl rfl (xm_loadEl htab rfl rfl rfl rfl rfl) rfl rfl rfl rfl rfl rfl ?_
                    refine z_e rfl rfl (ex_pure htab rfl) rfl rfl rfl rfl rfl rfl ?_
                    refine z_q rfl rfl (ex_pure htab rfl) rfl rfl rfl rfl rfl rfl ?_
                    refine z_e rfl rfl (x_elem htab rfl rfl rfl rfl rfl rfl rfl (idx_nonneg q158) (idx_map q158)) rfl rfl rfl rfl rfl rfl ?_
                    refine z_e rfl rfl (ex_pure htab rfl) rfl rfl rfl rfl rfl rfl ?_
                    refine z_qM rfl rfl (xm_loadEl htab rfl rfl rfl rfl rfl) rfl rfl rfl rfl rfl rfl ?_
                    refine z_q rfl rfl (ex_pure htab rfl) rfl rfl rfl rfl rfl rfl ?_
                    refine z_q rfl rfl (ex_pure htab rfl) rfl rfl rfl rfl rfl rfl ?_
                    refine z_known (j := 30) (b' := false) rfl hs159 ?_
                    refine z_e rfl rfl (ex_pure htab rfl) rfl rfl rfl rfl rfl rfl ?_
                    refine z_q rfl rfl (ex_pure htab rfl) rfl rfl rfl rfl rfl rfl ?_
                    refine z_e rfl rfl (x_elem htab rfl rfl rfl rfl rfl rfl rfl (idx_nonneg q160) (idx_map q160)) rfl rfl rfl rfl rfl rfl ?_
                    refine z_e rfl rfl (ex_pure htab rfl) rfl rfl rfl rfl rfl rfl ?_
                    refine z_qM rfl rfl (xm_loadEl htab rfl rfl rfl rfl rfl) rfl rfl rfl rfl rfl rfl ?_
                    refine z_e rfl rfl (ex_pure htab rfl) rfl rfl rfl rfl rfl rfl ?_
                    refine z_q rfl rfl (ex_pure htab rfl) rfl rfl rfl rfl rfl rfl ?_
                    refine z_e rfl rfl (x_elem htab rfl rfl rfl rfl rfl rfl rfl (idx_nonneg q161) (idx_map q161)) rfl rfl rfl rfl rfl rfl ?_
                    refine z_e rfl rfl (ex_pure htab rfl) rfl rfl rfl rfl rfl rfl ?_
                    refine z_qM rfl rfl (xm_loadEl htab rfl rfl rfl rfl rfl) rfl rfl rfl rfl rfl rfl ?_
                    refine z_q rfl rfl (ex_pure htab rfl) rfl rfl rfl rfl rfl rfl ?_
                    refine z_q rfl rfl (x_pickF rfl rfl rfl) rfl rfl rfl rfl rfl rfl ?_
                    refine z_q rfl rfl (ex_pure htab rfl) rfl rfl rfl rfl rfl rfl ?_
                    refine z_known (j := 43) (b' := false) rfl hs162 ?_
                    refine z_e rfl rfl (ex_pure htab rfl) rfl rfl rfl rfl rfl rfl ?_
                    refine z_q rfl rfl (ex_pure htab rfl) rfl rfl rfl rfl rfl rfl ?_
                    refine z_e rfl rfl (x_elem htab rfl rfl rfl rfl rfl rfl rfl (idx_nonneg q163) (idx_map q163)) rfl rfl rfl rfl rfl rfl ?_
                    refine z_e rfl rfl (ex_pure htab rfl) rfl rfl rfl rfl rfl rfl ?_
                    refine z_qM rfl rfl (xm_loadEl htab rfl rfl rfl rfl rfl) rfl rfl rfl rfl rfl rfl ?_
                    refine z_e rfl rfl (ex_pure htab rfl) rfl rfl rfl rfl rfl rfl ?_
                    refine z_q rfl rfl (ex_pure htab rfl) rfl rfl rfl rfl rfl rfl ?_
                    refine z_e rfl rfl (x_elem htab rfl rfl rfl rfl rfl rfl rfl (idx_nonneg q164) (idx_map q164)) rfl rfl rfl rfl rfl rfl ?_
                    refine z_e rfl rfl (ex_pure htab rfl) rfl rfl rfl rfl rfl rfl ?_
                    refine z_qM rfl rfl (xm_loadEl htab rfl rfl rfl rfl rfl) rfl rfl rfl rfl rfl rfl ?_
                    refine z_q rfl rfl (ex_pure htab rfl) rfl rfl rfl rfl rfl rfl ?_
                    refine z_q rfl rfl (x_pickF rfl rfl rfl) rfl rfl rfl rfl rfl rfl ?_
                    refine z_q rfl rfl (ex_pure htab rfl) rfl rfl rfl rfl rfl rfl ?_
                    refine z_known (j := 56) (b' := false) rfl hs165 ?_
                    refine z_q rfl rfl (ex_pure htab rfl) rfl rfl rfl rfl rfl rfl ?_
                    refine z_q rfl rfl (ex_pure htab rfl) rfl rfl rfl rfl rfl rfl ?_
                    refine z_known (j := 58) (b' := false) rfl hs166 ?_
                    refine z_skip rfl rfl rfl rfl ?_
                    refine z_skip rfl rfl rfl rfl ?_
                    refine z_skip rfl rfl rfl rfl ?_
                    refine z_skip rfl rfl rfl rfl ?_
                    refine z_skip rfl rfl rfl rfl ?_
                    refine z_skip rfl rfl rfl rfl ?_
                    refine z_skip rfl rfl rfl rfl ?_
                    refine z_skip rfl rfl rfl rfl ?_
                    refine z_skip rfl rfl rfl rfl ?_
                    refine z_skip rfl rfl rfl rfl ?_
                    refine z_nil rfl rfl (fun e he => by simp [isAl] at he) ?_
                    refine p_skip rfl rfl rfl ?_
                    refine p_pickF rfl rfl rfl rfl rfl rfl ?_
                    refine p_pickF rfl rfl rfl rfl rfl rfl ?_
                    refine ops_nil ?_
                    have e156 := yes_eq hm; subst e156
                    refine ⟨rfl, ?_⟩
                    exact WkX.of () (WkS.perm (WkS.cons rfl (Wk.refl _) (WkS.cons rfl (Wk.refl _) (WkS.cons rfl (Wk.refl _) (WkS.cons rfl (Wk.refl _) (WkS.cons rfl (Wk.refl _) (WkS.nil)))))) (List.Perm.refl _) (List.Perm.refl _))
          · intro s156 hw156; clear hm; have hm := ho156; clear q156 ho156
            refine then_normal ?_
            refine wpD_wkX hw156 (fun z156 => ?_)
            refine wpD_cond rfl (fun hc169 => ?_) (fun hc169 => ?_)
            · replace hm := yes_t hc169 hm
              refine wpD_seq ?_
              refine wpD_region ?_
              refine p_pure htab rfl rfl rfl rfl ?_
              refine ops_nil ?_
              refine then_normal ?_
              refine wpD_ret ?_
              refine block_ret ?_
              refine then_ret ?_
              have e88 := lp_done hm; subst e88; clear hm; have hm := hq88
              refine then_ret ?_
              refine block_ret ?_
              have e87 := yes_eq hm; subst e87; refine midX_inr ?_; clear hm; have hm := ho87; simp only [Sum.elim_inr] at hm
              refine then_ret ?_
              have er170 := yes_eq hm; subst er170
              refine retX.of (s' := ⟨[(6, .v (.bool false))], [], []⟩) (WkS.perm (WkS.cons rfl (Wk.refl _) (WkS.nil)) (List.Perm.refl _) (List.Perm.refl _)) (retD_mk (hh := []) (.inl rfl) (resL_cons (resOne_tmp rfl) (resL_nil)) (List.nil_sublist _) (List.Sublist.refl _) ?_)
              exact ⟨rfl, rfl, rfl⟩
            · replace hm := yes_f hc169 hm
              refine wpD_skip ?_
              refine block_normal ?_
              refine then_normal ?_
              refine wpD_region ?_
              refine p_pure htab rfl rfl rfl rfl ?_
              refine p_pure htab rfl rfl rfl rfl ?_
              refine p_pure htab rfl rfl rfl rfl ?_
              refine ops_nil ?_
              refine then_normal ⟨_, lp_next hm, ?_⟩
              exact WkX.of () (WkS.perm (WkS.cons rfl (Wk.refl _) (WkS.cons rfl (Wk.refl _) (WkS.cons rfl (Wk.refl _) (WkS.cons rfl (Wk.refl _) (WkS.nil))))) (List.Perm.refl _) (List.Perm.refl _))
        · replace hm := yes_f hc143 hm
          refine wpD_exit ?_
          refine then_exit ?_
          have e88 := lp_done hm; subst e88; clear hm; have hm := hq88
          refine then_exit ?_
          refine block_hit ?_
          have e87 := yes_eq hm; subst e87
          refine midX_inl ?_
          exact WkX.of () (WkS.perm (WkS.nil) (List.Perm.refl _) (List.Perm.refl _))
    · intro y87 s87 hx87 hw87; subst hx87; clear hm; have hm := ho87; simp only [Sum.elim_inl] at hm; clear q87 ho87
      refine then_normal ?_
      refine wpD_wkX hw87 (fun z87 => ?_)
      refine wpD_seq ?_
      refine wpD_region ?_
      refine p_pure htab rfl rfl rfl rfl ?_
      refine ops_nil ?_
      refine then_normal ?_
      refine wpD_ret ?_
      have er171 := yes_eq hm; subst er171
      refine retX.of (s' := ⟨[(6, .v (.bool true))], [], []⟩) (WkS.perm (WkS.cons rfl (Wk.refl _) (WkS.nil)) (List.Perm.refl _) (List.Perm.refl _)) (retD_mk (hh := []) (.inl rfl) (resL_cons (resOne_tmp rfl) (resL_nil)) (List.nil_sublist _) (List.Sublist.refl _) ?_)
      exact ⟨rfl, rfl, rfl⟩
noncomputable def l10_lives : Option (Bool) :=
  (bif (((tkRead ([(120 : UInt8), (49 : UInt8), (61 : UInt8), (45 : UInt8), (55 : UInt8), (59 : UInt8)] : List UInt8)).2.2) == (0 : Int)) then (bif ((((tkRead ([(120 : UInt8), (49 : UInt8), (61 : UInt8), (45 : UInt8), (55 : UInt8), (59 : UInt8)] : List UInt8)).1).length : Int) == (6 : Int)) then ((idx ((tkRead ([(120 : UInt8), (49 : UInt8), (61 : UInt8), (45 : UInt8), (55 : UInt8), (59 : UInt8)] : List UInt8)).1) (0 : Int)).bind fun x3 => (bif (decide (x3.gText = (ByteArray.mk #[120, 49]))) then ((idx ((tkRead ([(120 : UInt8), (49 : UInt8), (61 : UInt8), (45 : UInt8), (55 : UInt8), (59 : UInt8)] : List UInt8)).1) (3 : Int)).bind fun x5 => (bif (x5.gN == (7 : Int)) then ((idx ((tkRead ([(120 : UInt8), (49 : UInt8), (61 : UInt8), (45 : UInt8), (55 : UInt8), (59 : UInt8)] : List UInt8)).1) (5 : Int)).bind fun x7 => some (x7.gAt == (6 : Int))) else some false)) else some false)) else some false) else some false)
set_option maxRecDepth 100000 in
set_option maxHeartbeats 2000000 in
theorem l10_lives_ok  (r : Bool) (h0 : l10_lives = some r) : CallsD Try.prog 9 [] [] [] (fun d h k => d = .v (.bool r) ∧ h = [] ∧ k = []) := by
  have hm := yes_of h0
  unfold l10_lives at hm
  clear h0
  refine enterX htab Try.func9 rfl rfl rfl rfl rfl (fun C => ?_)
  refine wpD_seq ?_
  refine wpD_region ?_
  refine p_pure htab rfl rfl rfl rfl ?_
  refine ops_nil ?_
  refine then_normal ?_
  refine wpD_seq ?_
  refine wpD_region ?_
  refine p_litB htab rfl rfl rfl rfl rfl rfl rfl rfl rfl rfl rfl rfl rfl rfl rfl rfl rfl rfl rfl ?_
  refine p_eq (i := 6) (d' := .lst 1 (([(120 : UInt8), (49 : UInt8), (61 : UInt8), (45 : UInt8), (55 : UInt8), (59 : UInt8)] : List UInt8).map byteD) .no) rfl (Wk.lst0 (.cons (WkC.refl _) (.cons (WkC.refl _) (.cons (WkC.refl _) (.cons (WkC.refl _) (.cons (WkC.refl _) (.cons (WkC.refl _) (.nil)))))))) ?_
  refine p_call0 (tkRead_ok ([(120 : UInt8), (49 : UInt8), (61 : UInt8), (45 : UInt8), (55 : UInt8), (59 : UInt8)] : List UInt8)) rfl rfl rfl rfl rfl (WkL.refl _) ?_
  rintro _ rfl
  refine p_pure htab rfl rfl rfl rfl ?_
  refine p_pure htab rfl rfl rfl rfl ?_
  refine p_pure htab rfl rfl rfl rfl ?_
  refine p_pure htab rfl rfl rfl rfl ?_
  refine p_pure htab rfl rfl rfl rfl ?_
  refine p_pure htab rfl rfl rfl rfl ?_
  refine p_pure htab rfl rfl rfl rfl ?_
  refine ops_nil ?_
  refine then_normal ?_
  refine wpD_seq ?_
  refine wpD_region ?_
  refine p_pure htab rfl rfl rfl rfl ?_
  refine p_pure htab rfl rfl rfl rfl ?_
  refine p_pure htab rfl rfl rfl rfl ?_
  refine p_split (i := 13) rfl (fun hg1 => ?_) (fun hg1 => ?_)
  · replace hm := yes_t hg1 hm
    refine p_pure htab rfl rfl rfl rfl ?_
    refine p_lenL htab rfl rfl rfl rfl rfl rfl rfl (by first | exact map_len | rfl) ?_
    refine p_pure htab rfl rfl rfl rfl ?_
    refine p_pickT rfl rfl rfl rfl rfl rfl ?_
    refine p_pure htab rfl rfl rfl rfl ?_
    refine p_split (i := 18) rfl (fun hg2 => ?_) (fun hg2 => ?_)
    · replace hm := yes_t hg2 hm
      refine p_pure htab rfl rfl rfl rfl ?_
      obtain ⟨x3, q3, hm⟩ := yes_bind hm
      refine p_elem htab rfl rfl rfl rfl rfl rfl rfl rfl rfl rfl (idx_nonneg q3) (idx_map q3) ?_
      refine p_pure htab rfl rfl rfl rfl ?_
      refine p_loadEl htab rfl rfl rfl rfl rfl rfl rfl rfl ?_
      refine p_pure htab rfl rfl rfl rfl ?_
      refine p_pickT rfl rfl rfl rfl rfl rfl ?_
      refine p_pure htab rfl rfl rfl rfl ?_
      refine p_split (i := 25) rfl (fun hg4 => ?_) (fun hg4 => ?_)
      · replace hm := yes_t hg4 hm
        refine p_pure htab rfl rfl rfl rfl ?_
        obtain ⟨x5, q5, hm⟩ := yes_bind hm
        refine p_elem htab rfl rfl rfl rfl rfl rfl rfl rfl rfl rfl (idx_nonneg q5) (idx_map q5) ?_
        refine p_pure htab rfl rfl rfl rfl ?_
        refine p_loadEl htab rfl rfl rfl rfl rfl rfl rfl rfl ?_
        refine p_pure htab rfl rfl rfl rfl ?_
        refine p_pickT rfl rfl rfl rfl rfl rfl ?_
        refine p_pure htab rfl rfl rfl rfl ?_
        refine p_split (i := 32) rfl (fun hg6 => ?_) (fun hg6 => ?_)
        · replace hm := yes_t hg6 hm
          refine p_pure htab rfl rfl rfl rfl ?_
          obtain ⟨x7, q7, hm⟩ := yes_bind hm
          refine p_elem htab rfl rfl rfl rfl rfl rfl rfl rfl rfl rfl (idx_nonneg q7) (idx_map q7) ?_
          refine p_pure htab rfl rfl rfl rfl ?_
          refine p_loadEl htab rfl rfl rfl rfl rfl rfl rfl rfl ?_
          refine p_pure htab rfl rfl rfl rfl ?_
          refine p_pickT rfl rfl rfl rfl rfl rfl ?_
          refine p_pure htab rfl rfl rfl rfl ?_
          refine ops_nil ?_
          refine then_normal ?_
          refine wpD_ret ?_
          have er8 := yes_eq hm; subst er8
          refine retX.of (s' := ⟨[(0, .v (.bool (x7.gAt == (6 : Int))))], [], []⟩) (WkS.perm (WkS.cons rfl (Wk.refl _) (WkS.nil)) (List.Perm.refl _) (List.Perm.refl _)) (retD_mk (hh := []) (.inl rfl) (resL_cons (resOne_tmp rfl) (resL_nil)) (List.nil_sublist _) (List.Sublist.refl _) ?_)
          exact ⟨rfl, rfl, rfl⟩
        · replace hm := yes_f hg6 hm
          refine p_skip rfl rfl rfl ?_
          refine p_skip rfl rfl rfl ?_
          refine p_skip rfl rfl rfl ?_
          refine p_skip rfl rfl rfl ?_
          refine p_skip rfl rfl rfl ?_
          refine p_pickF rfl rfl rfl rfl rfl rfl ?_
          refine p_pure htab rfl rfl rfl rfl ?_
          refine ops_nil ?_
          refine then_normal ?_
          refine wpD_ret ?_
          have er9 := yes_eq hm; subst er9
          refine retX.of (s' := ⟨[(0, .v (.bool false))], [], []⟩) (WkS.perm (WkS.cons rfl (Wk.refl _) (WkS.nil)) (List.Perm.refl _) (List.Perm.refl _)) (retD_mk (hh := []) (.inl rfl) (resL_cons (resOne_tmp rfl) (resL_nil)) (List.nil_sublist _) (List.Sublist.refl _) ?_)
          exact ⟨rfl, rfl, rfl⟩
      · replace hm := yes_f hg4 hm
        refine p_skip rfl rfl rfl ?_
        refine p_skip rfl rfl rfl ?_
        refine p_skip rfl rfl rfl ?_
        refine p_skip rfl rfl rfl ?_
        refine p_skip rfl rfl rfl ?_
        refine p_pickF rfl rfl rfl rfl rfl rfl ?_
        refine p_pure htab rfl rfl rfl rfl ?_
        refine p_skip rfl rfl rfl ?_
        refine p_skip rfl rfl rfl ?_
        refine p_skip rfl rfl rfl ?_
        refine p_skip rfl rfl rfl ?_
        refine p_skip rfl rfl rfl ?_
        refine p_pickF rfl rfl rfl rfl rfl rfl ?_
        refine p_pure htab rfl rfl rfl rfl ?_
        refine ops_nil ?_
        refine then_normal ?_
        refine wpD_ret ?_
        have er10 := yes_eq hm; subst er10
        refine retX.of (s' := ⟨[(0, .v (.bool false))], [], []⟩) (WkS.perm (WkS.cons rfl (Wk.refl _) (WkS.nil)) (List.Perm.refl _) (List.Perm.refl _)) (retD_mk (hh := []) (.inl rfl) (resL_cons (resOne_tmp rfl) (resL_nil)) (List.nil_sublist _) (List.Sublist.refl _) ?_)
        exact ⟨rfl, rfl, rfl⟩
    · replace hm := yes_f hg2 hm
      refine p_skip rfl rfl rfl ?_
      refine p_skip rfl rfl rfl ?_
      refine p_skip rfl rfl rfl ?_
      refine p_skip rfl rfl rfl ?_
      refine p_skip rfl rfl rfl ?_
      refine p_pickF rfl rfl rfl rfl rfl rfl ?_
      refine p_pure htab rfl rfl rfl rfl ?_
      refine p_skip rfl rfl rfl ?_
      refine p_skip rfl rfl rfl ?_
      refine p_skip rfl rfl rfl ?_
      refine p_skip rfl rfl rfl ?_
      refine p_skip rfl rfl rfl ?_
      refine p_pickF rfl rfl rfl rfl rfl rfl ?_
      refine p_pure htab rfl rfl rfl rfl ?_
      refine p_skip rfl rfl rfl ?_
      refine p_skip rfl rfl rfl ?_
      refine p_skip rfl rfl rfl ?_
      refine p_skip rfl rfl rfl ?_
      refine p_skip rfl rfl rfl ?_
      refine p_pickF rfl rfl rfl rfl rfl rfl ?_
      refine p_pure htab rfl rfl rfl rfl ?_
      refine ops_nil ?_
      refine then_normal ?_
      refine wpD_ret ?_
      have er11 := yes_eq hm; subst er11
      refine retX.of (s' := ⟨[(0, .v (.bool false))], [], []⟩) (WkS.perm (WkS.cons rfl (Wk.refl _) (WkS.nil)) (List.Perm.refl _) (List.Perm.refl _)) (retD_mk (hh := []) (.inl rfl) (resL_cons (resOne_tmp rfl) (resL_nil)) (List.nil_sublist _) (List.Sublist.refl _) ?_)
      exact ⟨rfl, rfl, rfl⟩
  · replace hm := yes_f hg1 hm
    refine p_skip rfl rfl rfl ?_
    refine p_skip rfl rfl rfl ?_
    refine p_skip rfl rfl rfl ?_
    refine p_pickF rfl rfl rfl rfl rfl rfl ?_
    refine p_pure htab rfl rfl rfl rfl ?_
    refine p_skip rfl rfl rfl ?_
    refine p_skip rfl rfl rfl ?_
    refine p_skip rfl rfl rfl ?_
    refine p_skip rfl rfl rfl ?_
    refine p_skip rfl rfl rfl ?_
    refine p_pickF rfl rfl rfl rfl rfl rfl ?_
    refine p_pure htab rfl rfl rfl rfl ?_
    refine p_skip rfl rfl rfl ?_
    refine p_skip rfl rfl rfl ?_
    refine p_skip rfl rfl rfl ?_
    refine p_skip rfl rfl rfl ?_
    refine p_skip rfl rfl rfl ?_
    refine p_pickF rfl rfl rfl rfl rfl rfl ?_
    refine p_pure htab rfl rfl rfl rfl ?_
    refine p_skip rfl rfl rfl ?_
    refine p_skip rfl rfl rfl ?_
    refine p_skip rfl rfl rfl ?_
    refine p_skip rfl rfl rfl ?_
    refine p_skip rfl rfl rfl ?_
    refine p_pickF rfl rfl rfl rfl rfl rfl ?_
    refine p_pure htab rfl rfl rfl rfl ?_
    refine ops_nil ?_
    refine then_normal ?_
    refine wpD_ret ?_
    have er12 := yes_eq hm; subst er12
    refine retX.of (s' := ⟨[(0, .v (.bool false))], [], []⟩) (WkS.perm (WkS.cons rfl (Wk.refl _) (WkS.nil)) (List.Perm.refl _) (List.Perm.refl _)) (retD_mk (hh := []) (.inl rfl) (resL_cons (resOne_tmp rfl) (resL_nil)) (List.nil_sublist _) (List.Sublist.refl _) ?_)
    exact ⟨rfl, rfl, rfl⟩
noncomputable def l10_TokenReads (a0 : List UInt8) : Option (Bool) :=
  ((r10_Read a0).bind fun x1 => ((r10_Same ((tkRead a0).1) x1.1 true).bind fun x3 => (bif x3 then (bif (((tkRead a0).2.1) == x1.2.1) then (bif (((tkRead a0).2.2) == x1.2.2) then (l10_lives.bind fun x7 => some x7) else some false) else some false) else some false)))
set_option maxRecDepth 100000 in
set_option maxHeartbeats 2000000 in
theorem l10_TokenReads_ok (a0 : List UInt8) (r : Bool) (h0 : l10_TokenReads a0 = some r) : CallsD Try.prog 3 [.lst 1 (a0.map byteD) .no] [] [] (fun d h k => d = .v (.bool r) ∧ h = [] ∧ k = []) := by
  have hm := yes_of h0
  unfold l10_TokenReads at hm
  clear h0
  refine enterX htab Try.func3 rfl rfl rfl rfl rfl (fun C => ?_)
  refine wpD_seq ?_
  refine wpD_region ?_
  refine p_pure htab rfl rfl rfl rfl ?_
  refine ops_nil ?_
  refine then_normal ?_
  refine wpD_seq ?_
  refine wpD_region ?_
  refine p_pure htab rfl rfl rfl rfl ?_
  refine p_call0 (tkRead_ok a0) rfl rfl rfl rfl rfl (WkL.refl _) ?_
  rintro _ rfl
  refine p_pure htab rfl rfl rfl rfl ?_
  refine p_pure htab rfl rfl rfl rfl ?_
  refine p_pure htab rfl rfl rfl rfl ?_
  refine p_pure htab rfl rfl rfl rfl ?_
  refine p_pure htab rfl rfl rfl rfl ?_
  refine p_pure htab rfl rfl rfl rfl ?_
  refine p_pure htab rfl rfl rfl rfl ?_
  refine ops_nil ?_
  refine then_normal ?_
  refine wpD_seq ?_
  refine wpD_region ?_
  refine p_pure htab rfl rfl rfl rfl ?_
  obtain ⟨x1, q1, hm⟩ := yes_bind hm
  refine p_call (r10_Read_ok a0 x1 q1) rfl rfl rfl rfl rfl (WkL.refl _) ?_
  rintro _ _ _ ⟨w2, rfl, rfl, rfl⟩
  refine p_pure htab rfl rfl rfl rfl ?_
  refine p_pure htab rfl rfl rfl rfl ?_
  refine p_pure htab rfl rfl rfl rfl ?_
  refine p_pure htab rfl rfl rfl rfl ?_
  refine p_pure htab rfl rfl rfl rfl ?_
  refine p_pure htab rfl rfl rfl rfl ?_
  refine p_pure htab rfl rfl rfl rfl ?_
  refine ops_nil ?_
  refine then_normal ?_
  refine wpD_seq ?_
  refine wpD_region ?_
  refine p_pure htab rfl rfl rfl rfl ?_
  refine p_pure htab rfl rfl rfl rfl ?_
  obtain ⟨x3, q3, hm⟩ := yes_bind hm
  refine p_call0 (r10_Same_ok ((tkRead a0).1) x1.1 true x3 q3) rfl rfl rfl rfl rfl (WkL.cons (Wk.refl _) (WkL.cons (Wk.no) (WkL.cons (Wk.refl _) (WkL.refl _)))) ?_
  rintro _ rfl
  refine p_pure htab rfl rfl rfl rfl ?_
  refine p_split (i := 24) rfl (fun hg4 => ?_) (fun hg4 => ?_)
  · replace hm := yes_t hg4 hm
    refine p_pure htab rfl rfl rfl rfl ?_
    refine p_pure htab rfl rfl rfl rfl ?_
    refine p_pure htab rfl rfl rfl rfl ?_
    refine p_pickT rfl rfl rfl rfl rfl rfl ?_
    refine p_pure htab rfl rfl rfl rfl ?_
    refine p_split (i := 29) rfl (fun hg5 => ?_) (fun hg5 => ?_)
    · replace hm := yes_t hg5 hm
      refine p_pure htab rfl rfl rfl rfl ?_
      refine p_pure htab rfl rfl rfl rfl ?_
      refine p_pure htab rfl rfl rfl rfl ?_
      refine p_pickT rfl rfl rfl rfl rfl rfl ?_
      refine p_pure htab rfl rfl rfl rfl ?_
      refine p_split (i := 34) rfl (fun hg6 => ?_) (fun hg6 => ?_)
      · replace hm := yes_t hg6 hm
        obtain ⟨x7, q7, hm⟩ := yes_bind hm
        refine p_call0 (l10_lives_ok  x7 q7) rfl rfl rfl rfl rfl (WkL.refl _) ?_
        rintro _ rfl
        refine p_pickT rfl rfl rfl rfl rfl rfl ?_
        refine p_pure htab rfl rfl rfl rfl ?_
        refine ops_nil ?_
        refine then_normal ?_
        refine wpD_ret ?_
        have er8 := yes_eq hm; subst er8
        refine retX.of (s' := ⟨[(2, .v (.bool x7))], [], []⟩) (WkS.perm (WkS.cons rfl (Wk.refl _) (WkS.nil)) (List.Perm.refl _) (List.Perm.refl _)) (retD_mk (hh := []) (.inl rfl) (resL_cons (resOne_tmp rfl) (resL_nil)) (List.nil_sublist _) (List.Sublist.refl _) ?_)
        exact ⟨rfl, rfl, rfl⟩
      · replace hm := yes_f hg6 hm
        refine p_skip rfl rfl rfl ?_
        refine p_pickF rfl rfl rfl rfl rfl rfl ?_
        refine p_pure htab rfl rfl rfl rfl ?_
        refine ops_nil ?_
        refine then_normal ?_
        refine wpD_ret ?_
        have er9 := yes_eq hm; subst er9
        refine retX.of (s' := ⟨[(2, .v (.bool false))], [], []⟩) (WkS.perm (WkS.cons rfl (Wk.refl _) (WkS.nil)) (List.Perm.refl _) (List.Perm.refl _)) (retD_mk (hh := []) (.inl rfl) (resL_cons (resOne_tmp rfl) (resL_nil)) (List.nil_sublist _) (List.Sublist.refl _) ?_)
        exact ⟨rfl, rfl, rfl⟩
    · replace hm := yes_f hg5 hm
      refine p_skip rfl rfl rfl ?_
      refine p_skip rfl rfl rfl ?_
      refine p_skip rfl rfl rfl ?_
      refine p_pickF rfl rfl rfl rfl rfl rfl ?_
      refine p_pure htab rfl rfl rfl rfl ?_
      refine p_skip rfl rfl rfl ?_
      refine p_pickF rfl rfl rfl rfl rfl rfl ?_
      refine p_pure htab rfl rfl rfl rfl ?_
      refine ops_nil ?_
      refine then_normal ?_
      refine wpD_ret ?_
      have er10 := yes_eq hm; subst er10
      refine retX.of (s' := ⟨[(2, .v (.bool false))], [], []⟩) (WkS.perm (WkS.cons rfl (Wk.refl _) (WkS.nil)) (List.Perm.refl _) (List.Perm.refl _)) (retD_mk (hh := []) (.inl rfl) (resL_cons (resOne_tmp rfl) (resL_nil)) (List.nil_sublist _) (List.Sublist.refl _) ?_)
      exact ⟨rfl, rfl, rfl⟩
  · replace hm := yes_f hg4 hm
    refine p_skip rfl rfl rfl ?_
    refine p_skip rfl rfl rfl ?_
    refine p_skip rfl rfl rfl ?_
    refine p_pickF rfl rfl rfl rfl rfl rfl ?_
    refine p_pure htab rfl rfl rfl rfl ?_
    refine p_skip rfl rfl rfl ?_
    refine p_skip rfl rfl rfl ?_
    refine p_skip rfl rfl rfl ?_
    refine p_pickF rfl rfl rfl rfl rfl rfl ?_
    refine p_pure htab rfl rfl rfl rfl ?_
    refine p_skip rfl rfl rfl ?_
    refine p_pickF rfl rfl rfl rfl rfl rfl ?_
    refine p_pure htab rfl rfl rfl rfl ?_
    refine ops_nil ?_
    refine then_normal ?_
    refine wpD_ret ?_
    have er11 := yes_eq hm; subst er11
    refine retX.of (s' := ⟨[(2, .v (.bool false))], [], []⟩) (WkS.perm (WkS.cons rfl (Wk.refl _) (WkS.nil)) (List.Perm.refl _) (List.Perm.refl _)) (retD_mk (hh := []) (.inl rfl) (resL_cons (resOne_tmp rfl) (resL_nil)) (List.nil_sublist _) (List.Sublist.refl _) ?_)
    exact ⟨rfl, rfl, rfl⟩
end Go.Proofs.Ytnjeklpjjceppaa.Ab
