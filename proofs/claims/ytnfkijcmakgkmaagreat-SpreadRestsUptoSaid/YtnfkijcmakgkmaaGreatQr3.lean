/- The texts that spreadRestsUpto_holds leans on, part 3. -/
import Derived.Test.YtnfkijcmakgkmaaGreatQr2
set_option maxRecDepth 100000
set_option maxHeartbeats 80000000
namespace Go.Proofs.YtnfkijcmakgkmaaGreat.Ab
open Go
set_option linter.all false
section
variable {P : Program} {C : Ctx} {N : Nat} {ops rest : List Oper} {o : Oper} {t : List (Nat × D)} {h : List (Nat × Blk)} {k : List (Nat × Value)} {Q : Exit → S → Prop}
theorem Kh {id : Nat} {ops : List Oper} {y : Code} {s : S} (g : opsD P C N ops ops s (thenD (fun s' => wpD P C N y s' Q) Q)) : wpD P C N (.seq (.region id ops.toArray false) y) s Q := Km (Kt g)
theorem Ke {next : S → Prop} {s : S} (g : next s) : opsD P C N ops [] s (thenD next Q) := Kv (Kb g)
theorem KP {id : Nat} {ops2 : List Oper} {y : Code} {s : S} {Q' : Exit → S → Prop} (g : opsD P C N ops2 ops2 s (thenD (fun s' => wpD P C N y s' Q) Q)) : opsD P C N ops [] s (thenD (fun s' => wpD P C N (.seq (.region id ops2.toArray false) y) s' Q) Q') := Ke (Kh g)
theorem pu {i : Nat} {d : D} (g : opsD Tryz.prog C N ops rest ⟨(i, d) :: t, h, k⟩ Q) (hw : wantD ops t o = some true := by rfl) (hd : o.dst = some i := by rfl) (hi : Nat.blt i N = true := by rfl) (e : evP tab t o.op = some d := by rfl) : opsD Tryz.prog C N ops (o :: rest) ⟨t, h, k⟩ Q := Kfk htab hw hd hi e g
theorem p_st0 {hr : List (Nat × Blk)} {b off : Nat} {T T' : TypeId} {x y : Operand} {ds ds' : List D} {ti0 : TI} {d : D} (ho : o.op = .store T x y) (hw : wantD ops t o = some true) (hd : o.dst = none) (hx : opD t x = some (.ptr b off)) (hT : ti tab T = some ti0) (hy : opD t y = some d) (hs : stor d = true) (hsz : Nat.beq (KR d).length ti0.size = true) (hle : Nat.ble (off + ti0.size) ds.length = true) (e : lay ds off (KR d) = ds') (g : opsD Tryz.prog C N ops rest ⟨t, (b, .cells ds' T') :: hr, k⟩ Q) : opsD Tryz.prog C N ops (o :: rest) ⟨t, (b, .cells ds T') :: hr, k⟩ Q := KdG 0 htab ho hw hd hx rfl hT hy hs hsz hle e rfl g
theorem p_st1 {a0 : Nat × Blk} {hr : List (Nat × Blk)} {b off : Nat} {T T' : TypeId} {x y : Operand} {ds ds' : List D} {ti0 : TI} {d : D} (ho : o.op = .store T x y) (hw : wantD ops t o = some true) (hd : o.dst = none) (hx : opD t x = some (.ptr b off)) (hT : ti tab T = some ti0) (hy : opD t y = some d) (hs : stor d = true) (hsz : Nat.beq (KR d).length ti0.size = true) (hle : Nat.ble (off + ti0.size) ds.length = true) (e : lay ds off (KR d) = ds') (g : opsD Tryz.prog C N ops rest ⟨t, a0 :: (b, .cells ds' T') :: hr, k⟩ Q) : opsD Tryz.prog C N ops (o :: rest) ⟨t, a0 :: (b, .cells ds T') :: hr, k⟩ Q := KdG 1 htab ho hw hd hx rfl hT hy hs hsz hle e rfl g
theorem WkS.bl1 {a0 : Nat × Blk} {hr : List (Nat × Blk)} {b : Nat} {ds ds' : List D} {T : TypeId} (hw : WkR ds ds') : WkS C ⟨t, a0 :: (b, .cells ds T) :: hr, k⟩ ⟨t, a0 :: (b, .cells ds' T) :: hr, k⟩ := WkS.blk 1 rfl hw rfl
theorem p_st2 {a0 a1 : Nat × Blk} {hr : List (Nat × Blk)} {b off : Nat} {T T' : TypeId} {x y : Operand} {ds ds' : List D} {ti0 : TI} {d : D} (ho : o.op = .store T x y) (hw : wantD ops t o = some true) (hd : o.dst = none) (hx : opD t x = some (.ptr b off)) (hT : ti tab T = some ti0) (hy : opD t y = some d) (hs : stor d = true) (hsz : Nat.beq (KR d).length ti0.size = true) (hle : Nat.ble (off + ti0.size) ds.length = true) (e : lay ds off (KR d) = ds') (g : opsD Tryz.prog C N ops rest ⟨t, a0 :: a1 :: (b, .cells ds' T') :: hr, k⟩ Q) : opsD Tryz.prog C N ops (o :: rest) ⟨t, a0 :: a1 :: (b, .cells ds T') :: hr, k⟩ Q := KdG 2 htab ho hw hd hx rfl hT hy hs hsz hle e rfl g
theorem WkS.bl2 {a0 a1 : Nat × Blk} {hr : List (Nat × Blk)} {b : Nat} {ds ds' : List D} {T : TypeId} (hw : WkR ds ds') : WkS C ⟨t, a0 :: a1 :: (b, .cells ds T) :: hr, k⟩ ⟨t, a0 :: a1 :: (b, .cells ds' T) :: hr, k⟩ := WkS.blk 2 rfl hw rfl
theorem p_st3 {a0 a1 a2 : Nat × Blk} {hr : List (Nat × Blk)} {b off : Nat} {T T' : TypeId} {x y : Operand} {ds ds' : List D} {ti0 : TI} {d : D} (ho : o.op = .store T x y) (hw : wantD ops t o = some true) (hd : o.dst = none) (hx : opD t x = some (.ptr b off)) (hT : ti tab T = some ti0) (hy : opD t y = some d) (hs : stor d = true) (hsz : Nat.beq (KR d).length ti0.size = true) (hle : Nat.ble (off + ti0.size) ds.length = true) (e : lay ds off (KR d) = ds') (g : opsD Tryz.prog C N ops rest ⟨t, a0 :: a1 :: a2 :: (b, .cells ds' T') :: hr, k⟩ Q) : opsD Tryz.prog C N ops (o :: rest) ⟨t, a0 :: a1 :: a2 :: (b, .cells ds T') :: hr, k⟩ Q := KdG 3 htab ho hw hd hx rfl hT hy hs hsz hle e rfl g
theorem WkS.bl3 {a0 a1 a2 : Nat × Blk} {hr : List (Nat × Blk)} {b : Nat} {ds ds' : List D} {T : TypeId} (hw : WkR ds ds') : WkS C ⟨t, a0 :: a1 :: a2 :: (b, .cells ds T) :: hr, k⟩ ⟨t, a0 :: a1 :: a2 :: (b, .cells ds' T) :: hr, k⟩ := WkS.blk 3 rfl hw rfl
theorem p_st4 {a0 a1 a2 a3 : Nat × Blk} {hr : List (Nat × Blk)} {b off : Nat} {T T' : TypeId} {x y : Operand} {ds ds' : List D} {ti0 : TI} {d : D} (ho : o.op = .store T x y) (hw : wantD ops t o = some true) (hd : o.dst = none) (hx : opD t x = some (.ptr b off)) (hT : ti tab T = some ti0) (hy : opD t y = some d) (hs : stor d = true) (hsz : Nat.beq (KR d).length ti0.size = true) (hle : Nat.ble (off + ti0.size) ds.length = true) (e : lay ds off (KR d) = ds') (g : opsD Tryz.prog C N ops rest ⟨t, a0 :: a1 :: a2 :: a3 :: (b, .cells ds' T') :: hr, k⟩ Q) : opsD Tryz.prog C N ops (o :: rest) ⟨t, a0 :: a1 :: a2 :: a3 :: (b, .cells ds T') :: hr, k⟩ Q := KdG 4 htab ho hw hd hx rfl hT hy hs hsz hle e rfl g
theorem p_st5 {a0 a1 a2 a3 a4 : Nat × Blk} {hr : List (Nat × Blk)} {b off : Nat} {T T' : TypeId} {x y : Operand} {ds ds' : List D} {ti0 : TI} {d : D} (ho : o.op = .store T x y) (hw : wantD ops t o = some true) (hd : o.dst = none) (hx : opD t x = some (.ptr b off)) (hT : ti tab T = some ti0) (hy : opD t y = some d) (hs : stor d = true) (hsz : Nat.beq (KR d).length ti0.size = true) (hle : Nat.ble (off + ti0.size) ds.length = true) (e : lay ds off (KR d) = ds') (g : opsD Tryz.prog C N ops rest ⟨t, a0 :: a1 :: a2 :: a3 :: a4 :: (b, .cells ds' T') :: hr, k⟩ Q) : opsD Tryz.prog C N ops (o :: rest) ⟨t, a0 :: a1 :: a2 :: a3 :: a4 :: (b, .cells ds T') :: hr, k⟩ Q := KdG 5 htab ho hw hd hx rfl hT hy hs hsz hle e rfl g
theorem p_st6 {a0 a1 a2 a3 a4 a5 : Nat × Blk} {hr : List (Nat × Blk)} {b off : Nat} {T T' : TypeId} {x y : Operand} {ds ds' : List D} {ti0 : TI} {d : D} (ho : o.op = .store T x y) (hw : wantD ops t o = some true) (hd : o.dst = none) (hx : opD t x = some (.ptr b off)) (hT : ti tab T = some ti0) (hy : opD t y = some d) (hs : stor d = true) (hsz : Nat.beq (KR d).length ti0.size = true) (hle : Nat.ble (off + ti0.size) ds.length = true) (e : lay ds off (KR d) = ds') (g : opsD Tryz.prog C N ops rest ⟨t, a0 :: a1 :: a2 :: a3 :: a4 :: a5 :: (b, .cells ds' T') :: hr, k⟩ Q) : opsD Tryz.prog C N ops (o :: rest) ⟨t, a0 :: a1 :: a2 :: a3 :: a4 :: a5 :: (b, .cells ds T') :: hr, k⟩ Q := KdG 6 htab ho hw hd hx rfl hT hy hs hsz hle e rfl g
end
section
variable {P : Program} {C : Ctx} {N : Nat} {l : List Oper} {m : Nat} {De : Nat → D} {al : AL} {pre : List (List Nat)} {ev : List Nat} {h : List (Nat × Blk)} {k : List (Nat × Value)} {Q : Exit → S → Prop} {bs : Nat → Nat} {i : Nat} {o : Oper} {rest : List Oper} {te : TE}
theorem zqp {j : Nat} {x : Value} {p : List Nat} {t : List (Nat × D)} (g : Zw Tryz.prog C N l m De al pre ev h k Q bs (i + 1) rest ((j, .v x, none) :: te)) (hp : pre.getD i [] = p := by rfl) (ht : vis p te = t := by rfl) (hx : evP tab t o.op = some (.v x) := by rfl) (hw : wantD l (vis [] te) o = some true := by rfl) (hd : o.dst = some j := by rfl) (hi : Nat.blt j N = true := by rfl) (hne : ev.contains i = false := by rfl) (hone : one x = true := by rfl) (hpe : p.all ev.contains = true := by rfl) : Zw Tryz.prog C N l m De al pre ev h k Q bs i (o :: rest) te :=
 z_q hp ht (Kfm htab hx) hw hd hi hne hone hpe g
theorem zep {j : Nat} {p : List Nat} {t : List (Nat × D)} {d : D} (g : Zw Tryz.prog C N l m De al pre ev h k Q bs (i + 1) rest ((j, d, some i) :: te)) (hp : pre.getD i [] = p := by rfl) (ht : vis p te = t := by rfl) (hx : evP tab t o.op = some d := by rfl) (hw : wantD l (vis [] te) o = some true := by rfl) (hd : o.dst = some j := by rfl) (hi : Nat.blt j N = true := by rfl) (he : ev.contains i = true := by rfl) (hna : isAl al i = false := by rfl) (hDe : De i = d := by rfl) : Zw Tryz.prog C N l m De al pre ev h k Q bs i (o :: rest) te :=
 z_e hp ht (Kfm htab hx) hw hd hi he hna hDe g
end
def pickE {α : Type} : List Nat → List α → List α
  | [], _ => []
  | j :: js, l => match l[j]? with
    | some x => x :: pickE js (l.eraseIdx j)
    | none => []
def restE {α : Type} : List Nat → List α → List α
  | [], l => l
  | j :: js, l => match l[j]? with
    | some _ => restE js (l.eraseIdx j)
    | none => l
theorem KfO {α : Type} : ∀ (js : List Nat) (l : List α), l.Perm (pickE js l ++ restE js l)
  | [], l => List.Perm.refl _
  | j :: js, l => by
    unfold pickE restE
    cases h : l[j]? with
    | none => exact List.Perm.refl _
    | some x => exact (KF h).trans ((KfO js (l.eraseIdx j)).cons x)
section
variable {P : Program} {C : Ctx} {N : Nat} {ops rest : List Oper} {o : Oper} {t : List (Nat × D)} {h : List (Nat × Blk)} {k : List (Nat × Value)} {Q : Exit → S → Prop}
theorem rP {rs : List ResultVar} {R : D → List (Nat × Blk) → List (Nat × Value) → Prop} {x : Exit} {t' : List (Nat × D)} {ds : List D} (js ks : List Nat) (n : Nat) (e : ∀ i d, look t' i = some d → ∃ d0, look t i = some d0 ∧ Wk d0 d) (hr : resL tab ⟨t', pickE js h, pickE ks k⟩ rs ds) (g : R (wrapD ds) ((pickE js h).take n) (pickE ks k)) (hx : x = .ret ∨ x = .normal := by first | exact .inl rfl | exact .inr rfl) : retX C tab rs R x ⟨t, h, k⟩ :=
 retX.of (s' := ⟨t', pickE js h, pickE ks k⟩) (WkS.perm e (KfO js h) (KfO ks k)) (retD_mk hx hr (List.take_sublist n _) (List.Sublist.refl _) g)
theorem wC {t t' : List (Nat × D)} {j : Nat} {d0 : D} (g : ∀ i d, look t' i = some d → ∃ d1, look t i = some d1 ∧ Wk d1 d) (h0 : look t j = some d0 := by rfl) : ∀ i d, look ((j, d0) :: t') i = some d → ∃ d1, look t i = some d1 ∧ Wk d1 d := WkS.cons h0 (Wk.refl _) g
theorem wN {t : List (Nat × D)} : ∀ i d, look [] i = some d → ∃ d0, look t i = some d0 ∧ Wk d0 d := WkS.nil
theorem lN {s : S} : resL tab s [] [] := rfl
theorem lT {s : S} {i : Nat} {rs : List ResultVar} {d : D} {ds : List D} (h2 : resL tab s rs ds) (h1 : look s.t i = some d := by rfl) : resL tab s (.tmp i :: rs) (d :: ds) := Ke0 (KfJ h1) h2
theorem lC {s : S} {a b off : Nat} {T T' : TypeId} {ds : List D} {i : TI} {d : D} {rs : List ResultVar} {ds' : List D} (j : Nat) (hr : resL tab s rs ds') (h1 : look s.t a = some (.ptr b off) := by rfl) (h2 : s.h[j]? = some (b, Blk.cells ds T') := by rfl) (h3 : ti tab T = some i := by rfl) (h4 : partD i ds off = some d := by rfl) : resL tab s (.cell a T :: rs) (d :: ds') := Ke0 (Kjn j h1 h2 h3 h4) hr
theorem rC {d : D} {ds ds' : List D} (g : WkR ds ds') : WkR (d :: ds) (d :: ds') := WkR.cons (WkC.refl _) rfl g
theorem rO {ds ds' : List D} {kk : Nat} {xs : List D} {c : Cap} (g : WkR ds ds') : WkR (.lst kk xs c :: ds) (.lst kk xs .no :: ds') := WkR.cons WkC.no rfl g
theorem Pf {α : Type} {l : List α} : l.Perm l := List.Perm.refl l
theorem Wl {ds : List D} : WkL ds ds := WkL.refl ds
theorem pL {i b off : Nat} {T T' : TypeId} {x : Operand} {ds : List D} {ti0 : TI} {d : D} (j : Nat) (g : opsD Tryz.prog C N ops rest ⟨(i, d) :: t, h, k⟩ Q) (ho : o.op = .load T x := by rfl) (hw : wantD ops t o = some true := by rfl) (hd : o.dst = some i := by rfl) (hi : Nat.blt i N = true := by rfl) (hx : opD t x = some (.ptr b off) := by rfl) (hb : h[j]? = some (b, .cells ds T') := by rfl) (hT : ti tab T = some ti0 := by rfl) (e : partD ti0 ds off = some d := by rfl) : opsD Tryz.prog C N ops (o :: rest) ⟨t, h, k⟩ Q := KaD j htab ho hw hd hi hx hb hT e g
theorem pG {f : FuncId} {args : List Operand} {ts : Array TypeId} {i : Nat} {ds ds' : List D} {h1 h2 : List (Nat × Blk)} {k1 k2 : List (Nat × Value)} {R : D → List (Nat × Blk) → List (Nat × Value) → Prop} (hc : CallsD Tryz.prog f ds' h1 k1 R) (hwk : WkL ds ds') (hh : h.Perm (h1 ++ h2)) (hk : k.Perm (k1 ++ k2)) (g : ∀ d h' k', R d h' k' → opsD Tryz.prog C N ops rest ⟨(i, d) :: t, h' ++ h2, k' ++ k2⟩ Q) (ho : o.op = .call ⟨.value (.func f), args.toArray, ts⟩ := by rfl) (hw : wantD ops t o = some true := by rfl) (hd : o.dst = some i := by rfl) (hi : Nat.blt i N = true := by rfl) (ha : Kba args (opD t) = some ds := by rfl) : opsD Tryz.prog C N ops (o :: rest) ⟨t, h, k⟩ Q := Kby hc ho hw hd hi ha hwk hh hk g
theorem pK {i : Nat} (g : opsD Tryz.prog C N ops rest ⟨(i, .v (.tuple #[])) :: t, h, k⟩ Q) (hw : wantD ops t o = some false := by rfl) (hd : o.dst = some i := by rfl) (hi : Nat.blt i N = true := by rfl) : opsD Tryz.prog C N ops (o :: rest) ⟨t, h, k⟩ Q := p_skip hw hd hi g
theorem pS0 {hr : List (Nat × Blk)} {b off : Nat} {T T' : TypeId} {x y : Operand} {ds ds' : List D} {ti0 : TI} {d : D} (g : opsD Tryz.prog C N ops rest ⟨t, (b, .cells ds' T') :: hr, k⟩ Q) (ho : o.op = .store T x y := by rfl) (hw : wantD ops t o = some true := by rfl) (hd : o.dst = none := by rfl) (hx : opD t x = some (.ptr b off) := by rfl) (hT : ti tab T = some ti0 := by rfl) (hy : opD t y = some d := by rfl) (hs : stor d = true := by rfl) (hsz : Nat.beq (KR d).length ti0.size = true := by rfl) (hle : Nat.ble (off + ti0.size) ds.length = true := by rfl) (e : lay ds off (KR d) = ds' := by rfl) : opsD Tryz.prog C N ops (o :: rest) ⟨t, (b, .cells ds T') :: hr, k⟩ Q := p_st0 ho hw hd hx hT hy hs hsz hle e g
theorem pS1 {a0 : Nat × Blk} {hr : List (Nat × Blk)} {b off : Nat} {T T' : TypeId} {x y : Operand} {ds ds' : List D} {ti0 : TI} {d : D} (g : opsD Tryz.prog C N ops rest ⟨t, a0 :: (b, .cells ds' T') :: hr, k⟩ Q) (ho : o.op = .store T x y := by rfl) (hw : wantD ops t o = some true := by rfl) (hd : o.dst = none := by rfl) (hx : opD t x = some (.ptr b off) := by rfl) (hT : ti tab T = some ti0 := by rfl) (hy : opD t y = some d := by rfl) (hs : stor d = true := by rfl) (hsz : Nat.beq (KR d).length ti0.size = true := by rfl) (hle : Nat.ble (off + ti0.size) ds.length = true := by rfl) (e : lay ds off (KR d) = ds' := by rfl) : opsD Tryz.prog C N ops (o :: rest) ⟨t, a0 :: (b, .cells ds T') :: hr, k⟩ Q := p_st1 ho hw hd hx hT hy hs hsz hle e g
theorem pS2 {a0 a1 : Nat × Blk} {hr : List (Nat × Blk)} {b off : Nat} {T T' : TypeId} {x y : Operand} {ds ds' : List D} {ti0 : TI} {d : D} (g : opsD Tryz.prog C N ops rest ⟨t, a0 :: a1 :: (b, .cells ds' T') :: hr, k⟩ Q) (ho : o.op = .store T x y := by rfl) (hw : wantD ops t o = some true := by rfl) (hd : o.dst = none := by rfl) (hx : opD t x = some (.ptr b off) := by rfl) (hT : ti tab T = some ti0 := by rfl) (hy : opD t y = some d := by rfl) (hs : stor d = true := by rfl) (hsz : Nat.beq (KR d).length ti0.size = true := by rfl) (hle : Nat.ble (off + ti0.size) ds.length = true := by rfl) (e : lay ds off (KR d) = ds' := by rfl) : opsD Tryz.prog C N ops (o :: rest) ⟨t, a0 :: a1 :: (b, .cells ds T') :: hr, k⟩ Q := p_st2 ho hw hd hx hT hy hs hsz hle e g
theorem pS3 {a0 a1 a2 : Nat × Blk} {hr : List (Nat × Blk)} {b off : Nat} {T T' : TypeId} {x y : Operand} {ds ds' : List D} {ti0 : TI} {d : D} (g : opsD Tryz.prog C N ops rest ⟨t, a0 :: a1 :: a2 :: (b, .cells ds' T') :: hr, k⟩ Q) (ho : o.op = .store T x y := by rfl) (hw : wantD ops t o = some true := by rfl) (hd : o.dst = none := by rfl) (hx : opD t x = some (.ptr b off) := by rfl) (hT : ti tab T = some ti0 := by rfl) (hy : opD t y = some d := by rfl) (hs : stor d = true := by rfl) (hsz : Nat.beq (KR d).length ti0.size = true := by rfl) (hle : Nat.ble (off + ti0.size) ds.length = true := by rfl) (e : lay ds off (KR d) = ds' := by rfl) : opsD Tryz.prog C N ops (o :: rest) ⟨t, a0 :: a1 :: a2 :: (b, .cells ds T') :: hr, k⟩ Q := p_st3 ho hw hd hx hT hy hs hsz hle e g
theorem pS4 {a0 a1 a2 a3 : Nat × Blk} {hr : List (Nat × Blk)} {b off : Nat} {T T' : TypeId} {x y : Operand} {ds ds' : List D} {ti0 : TI} {d : D} (g : opsD Tryz.prog C N ops rest ⟨t, a0 :: a1 :: a2 :: a3 :: (b, .cells ds' T') :: hr, k⟩ Q) (ho : o.op = .store T x y := by rfl) (hw : wantD ops t o = some true := by rfl) (hd : o.dst = none := by rfl) (hx : opD t x = some (.ptr b off) := by rfl) (hT : ti tab T = some ti0 := by rfl) (hy : opD t y = some d := by rfl) (hs : stor d = true := by rfl) (hsz : Nat.beq (KR d).length ti0.size = true := by rfl) (hle : Nat.ble (off + ti0.size) ds.length = true := by rfl) (e : lay ds off (KR d) = ds' := by rfl) : opsD Tryz.prog C N ops (o :: rest) ⟨t, a0 :: a1 :: a2 :: a3 :: (b, .cells ds T') :: hr, k⟩ Q := p_st4 ho hw hd hx hT hy hs hsz hle e g
theorem pS5 {a0 a1 a2 a3 a4 : Nat × Blk} {hr : List (Nat × Blk)} {b off : Nat} {T T' : TypeId} {x y : Operand} {ds ds' : List D} {ti0 : TI} {d : D} (g : opsD Tryz.prog C N ops rest ⟨t, a0 :: a1 :: a2 :: a3 :: a4 :: (b, .cells ds' T') :: hr, k⟩ Q) (ho : o.op = .store T x y := by rfl) (hw : wantD ops t o = some true := by rfl) (hd : o.dst = none := by rfl) (hx : opD t x = some (.ptr b off) := by rfl) (hT : ti tab T = some ti0 := by rfl) (hy : opD t y = some d := by rfl) (hs : stor d = true := by rfl) (hsz : Nat.beq (KR d).length ti0.size = true := by rfl) (hle : Nat.ble (off + ti0.size) ds.length = true := by rfl) (e : lay ds off (KR d) = ds' := by rfl) : opsD Tryz.prog C N ops (o :: rest) ⟨t, a0 :: a1 :: a2 :: a3 :: a4 :: (b, .cells ds T') :: hr, k⟩ Q := p_st5 ho hw hd hx hT hy hs hsz hle e g
theorem pS6 {a0 a1 a2 a3 a4 a5 : Nat × Blk} {hr : List (Nat × Blk)} {b off : Nat} {T T' : TypeId} {x y : Operand} {ds ds' : List D} {ti0 : TI} {d : D} (g : opsD Tryz.prog C N ops rest ⟨t, a0 :: a1 :: a2 :: a3 :: a4 :: a5 :: (b, .cells ds' T') :: hr, k⟩ Q) (ho : o.op = .store T x y := by rfl) (hw : wantD ops t o = some true := by rfl) (hd : o.dst = none := by rfl) (hx : opD t x = some (.ptr b off) := by rfl) (hT : ti tab T = some ti0 := by rfl) (hy : opD t y = some d := by rfl) (hs : stor d = true := by rfl) (hsz : Nat.beq (KR d).length ti0.size = true := by rfl) (hle : Nat.ble (off + ti0.size) ds.length = true := by rfl) (e : lay ds off (KR d) = ds' := by rfl) : opsD Tryz.prog C N ops (o :: rest) ⟨t, a0 :: a1 :: a2 :: a3 :: a4 :: a5 :: (b, .cells ds T') :: hr, k⟩ Q := p_st6 ho hw hd hx hT hy hs hsz hle e g
end
section
variable {P : Program} {C : Ctx} {N : Nat} {l : List Oper} {m : Nat} {De : Nat → D} {al : AL} {pre : List (List Nat)} {ev : List Nat} {h : List (Nat × Blk)} {k : List (Nat × Value)} {Q : Exit → S → Prop} {bs : Nat → Nat} {i : Nat} {o : Oper} {rest : List Oper} {te : TE}
theorem zK {j : Nat} (g : Zw Tryz.prog C N l m De al pre ev h k Q bs (i + 1) rest ((j, .v (.tuple #[]), none) :: te)) (hw : wantD l (vis [] te) o = some false := by rfl) (hd : o.dst = some j := by rfl) (hi : Nat.blt j N = true := by rfl) (hne : ev.contains i = false := by rfl) : Zw Tryz.prog C N l m De al pre ev h k Q bs i (o :: rest) te := z_skip hw hd hi hne g
end
end Go.Proofs.YtnfkijcmakgkmaaGreat.Ab
namespace Go.Proofs.YtnfkijcmakgkmaaGreat.Ab
open Go
set_option linter.all false
def KcQ (a b : ByteArray) : Int := Lib.compareBytes a.data.toList b.data.toList
theorem Kjo (a b : ByteArray) : CallsD Tryz.prog 75 [.v (.string a), .v (.string b)] [] [] (fun d h k => d = .v (.int .i64 (KcQ a b)) ∧ h = [] ∧ k = []) :=
 of_calls (us := #[.string a, .string b]) ⟨_, Tryz.func75, rfl, rfl⟩ rfl (fun _ => rep_v rfl) fun w => (Tryz.strings_Compare a b w).mono fun _ w' ⟨h1, h2⟩ => ⟨h1, by subst h2; exact ⟨⟨rfl, rfl, rfl, Nat.le_refl _, fun _ _ => rfl⟩, Nat.le_refl _⟩⟩
end Go.Proofs.YtnfkijcmakgkmaaGreat.Ab
namespace Go.Proofs.YtnfkijcmakgkmaaGreat.Ab
open Go
set_option linter.all false
structure Ka where
 gName : ByteArray
 gNode : Int
def Kf (x : Ka) : D := .agg [.v (.string x.gName), .v (.int .i64 x.gNode)]
noncomputable def KdY (a0 : Ka) : Option (Ka) :=
 some (⟨a0.gName, (max a0.gNode (-1 : Int))⟩ : Ka)
theorem Kgc (a0 : Ka) (r : Ka) (h0 : KdY a0 = some r) : CallsD Tryz.prog 30 [Kf a0] [] [] (fun d h k => d = Kf r ∧ h = [] ∧ k = []) := by
 have hm := KI h0
 unfold KdY at hm
 clear h0
 refine K3 htab Tryz.func30 rfl rfl rfl rfl rfl (fun C => ?_)
 refine Kh ?_
 refine p_box rfl rfl rfl rfl rfl rfl rfl (fun b1 => ?_)
 refine Kay htab rfl rfl rfl rfl rfl rfl rfl (fun b2 => ?_)
 refine KP ?_
 refine pu ?_
 refine pL 0 ?_
 refine pu ?_
 refine pL 0 ?_
 refine p_max rfl rfl rfl rfl rfl rfl ?_
 refine Kb8 (r := [.v (.string a0.gName), .v (.int .i64 (max a0.gNode (-1 : Int)))]) htab rfl rfl rfl rfl rfl rfl rfl rfl rfl ?_
 refine pS1 (ds' := [.v (.string a0.gName), .v (.int .i64 (max a0.gNode (-1 : Int)))]) ?_
 refine Ke ?_
 refine KE ?_
 have er3 := Kj hm; subst er3
 refine rP (t' := [(2, .ptr b2 0)]) [1] [] 0 (wC wN) (lC 0 lN) ?_
 exact ⟨rfl, rfl, rfl⟩
noncomputable def Kb9 (a0 : Int) : Option (Bool) :=
 some (a0 != a0)
theorem KeF (a0 : Int) (r : Bool) (h0 : Kb9 a0 = some r) : CallsD Tryz.prog 93 [.v (.int .i64 a0)] [] [] (fun d h k => d = .v (.bool r) ∧ h = [] ∧ k = []) := by
 have hm := KI h0
 unfold Kb9 at hm
 clear h0
 refine K3 htab Tryz.func93 rfl rfl rfl rfl rfl (fun C => ?_)
 refine Kh ?_
 refine pu ?_
 refine KP ?_
 iterate 4 refine pu ?_
 refine Ke ?_
 refine KE ?_
 have er1 := Kj hm; subst er1
 refine rP (t' := [(2, .v (.bool (a0 != a0)))]) [] [] 0 (wC wN) (lT lN) ?_
 exact ⟨rfl, rfl, rfl⟩
noncomputable def Kca (a0 : Int) (a1 : Int) : Option (Int) :=
 ((Kb9 a0).bind fun x1 => ((Kb9 a1).bind fun x2 => (bif x1 then (bif x2 then some (0 : Int) else some (-1 : Int)) else (bif x2 then some (1 : Int) else (bif (decide (a0 < a1)) then some (-1 : Int) else (bif (decide (a1 < a0)) then some (1 : Int) else some (0 : Int)))))))
theorem Kgd (a0 : Int) (a1 : Int) (r : Int) (h0 : Kca a0 a1 = some r) : CallsD Tryz.prog 76 [.v (.int .i64 a0), .v (.int .i64 a1)] [] [] (fun d h k => d = .v (.int .i64 r) ∧ h = [] ∧ k = []) := by
 have hm := KI h0
 unfold Kca at hm
 clear h0
 refine K3 htab Tryz.func76 rfl rfl rfl rfl rfl (fun C => ?_)
 refine Kh ?_
 refine pu ?_
 refine KP ?_
 refine pu ?_
 obtain ⟨x1, q1, hm⟩ := Kc hm
 refine Kaj (KeF a0 x1 q1) rfl rfl rfl rfl rfl Wl ?_
 rintro _ rfl
 refine pu ?_
 refine KP ?_
 refine pu ?_
 obtain ⟨x2, q2, hm⟩ := Kc hm
 refine Kaj (KeF a1 x2 q2) rfl rfl rfl rfl rfl Wl ?_
 rintro _ rfl
 refine pu ?_
 refine Ke ?_
 refine Km ?_
 refine Kh ?_
 refine pu ?_
 refine Ke ?_
 refine KC rfl (fun hc5 => ?_) (fun hc5 => ?_)
 ·replace hm := yes_t hc5 hm
  refine Km ?_
  refine Kh ?_
  refine pu ?_
  refine Ke ?_
  refine KC rfl (fun hc7 => ?_) (fun hc7 => ?_)
  ·replace hm := yes_t hc7 hm
   refine Kh ?_
   refine pu ?_
   refine Ke ?_
   refine KE ?_
   refine KS ?_
   refine KS ?_
   have er8 := Kj hm; subst er8
   refine rP (t' := [(4, .v (.int .i64 (0 : Int)))]) [] [] 0 (wC wN) (lT lN) ?_
   exact ⟨rfl, rfl, rfl⟩
  ·replace hm := yes_f hc7 hm
   refine KB ?_
   refine Kb ?_
   refine Kh ?_
   refine pu ?_
   refine Ke ?_
   refine KE ?_
   refine KS ?_
   have er9 := Kj hm; subst er9
   refine rP (t' := [(4, .v (.int .i64 (-1 : Int)))]) [] [] 0 (wC wN) (lT lN) ?_
   exact ⟨rfl, rfl, rfl⟩
 ·replace hm := yes_f hc5 hm
  refine KB ?_
  refine Kb ?_
  refine Km ?_
  refine Kh ?_
  refine pu ?_
  refine Ke ?_
  refine KC rfl (fun hc11 => ?_) (fun hc11 => ?_)
  ·replace hm := yes_t hc11 hm
   refine Kh ?_
   refine pu ?_
   refine Ke ?_
   refine KE ?_
   refine KS ?_
   have er12 := Kj hm; subst er12
   refine rP (t' := [(4, .v (.int .i64 (1 : Int)))]) [] [] 0 (wC wN) (lT lN) ?_
   exact ⟨rfl, rfl, rfl⟩
  ·replace hm := yes_f hc11 hm
   refine KB ?_
   refine Kb ?_
   refine Km ?_
   refine Kh ?_
   iterate 3 refine pu ?_
   refine Ke ?_
   refine KC rfl (fun hc14 => ?_) (fun hc14 => ?_)
   ·replace hm := yes_t hc14 hm
    refine Kh ?_
    refine pu ?_
    refine Ke ?_
    refine KE ?_
    refine KS ?_
    have er15 := Kj hm; subst er15
    refine rP (t' := [(4, .v (.int .i64 (-1 : Int)))]) [] [] 0 (wC wN) (lT lN) ?_
    exact ⟨rfl, rfl, rfl⟩
   ·replace hm := yes_f hc14 hm
    refine KB ?_
    refine Kb ?_
    refine Km ?_
    refine Kh ?_
    iterate 3 refine pu ?_
    refine Ke ?_
    refine KC rfl (fun hc16 => ?_) (fun hc16 => ?_)
    ·replace hm := yes_t hc16 hm
     refine Kh ?_
     refine pu ?_
     refine Ke ?_
     refine KE ?_
     refine KS ?_
     have er17 := Kj hm; subst er17
     refine rP (t' := [(4, .v (.int .i64 (1 : Int)))]) [] [] 0 (wC wN) (lT lN) ?_
     exact ⟨rfl, rfl, rfl⟩
    ·replace hm := yes_f hc16 hm
     refine KB ?_
     refine Kb ?_
     refine Kh ?_
     refine pu ?_
     refine Ke ?_
     refine KE ?_
     have er18 := Kj hm; subst er18
     refine rP (t' := [(4, .v (.int .i64 (0 : Int)))]) [] [] 0 (wC wN) (lT lN) ?_
     exact ⟨rfl, rfl, rfl⟩
noncomputable def Kdx (a0 : List Int) : Option (Int) :=
 (Option.bind (α := (Unit) ⊕ (Int)) (loopM (fun (s15 : Int) => (bif (decide (s15 < (a0.length : Int))) then ((idx a0 s15).bind fun x25 => (bif (x25 != (0 : Int)) then some (.done (.inr x25)) else some (.next (IntKind.i64.wrap (s15 + (1 : Int)))))) else some (.done (.inl ())))) (0 : Int)) (Sum.elim (fun y14 => some (0 : Int)) (fun r => some r)))
theorem KiU (a0 : List Int) (r : Int) (h0 : Kdx a0 = some r) : CallsD Tryz.prog 74 [.lst 1 (a0.map eI64) .no] [] [] (fun d h k => d = .v (.int .i64 r) ∧ h = [] ∧ k = []) := by
 have hm := KI h0
 unfold Kdx at hm
 clear h0
 refine K3 htab Tryz.func74 rfl rfl rfl rfl rfl (fun C => ?_)
 refine Kh ?_
 refine pu ?_
 refine KP ?_
 refine pu ?_
 refine Ke ?_
 refine Km ?_
 refine Kh ?_
 refine pu ?_
 refine Kag htab rfl rfl rfl rfl rfl rfl rfl (by first | exact KY | rfl) ?_
 refine pu ?_
 refine Ke ?_
 obtain ⟨x14, q14, ho14⟩ := Kc hm
 refine Kbi (τ := Unit) (Y := Unit) (fun y14 z14 => (⟨[(3, .v (.int .i64 (0 : Int)))], [], []⟩ : S)) x14 ?_ ?_
 ·clear hm; have hm := KI q14
  refine KG ?_
  obtain ⟨u15, hl15, hq15⟩ := yes_m hm
  refine Kao (Y := Unit) hl15 (fun s15 z15 => (⟨[(3, .v (.int .i64 (0 : Int))), (6, .lst 1 (a0.map eI64) .no), (7, .v (.int .i64 (a0.length : Int))), (8, .v (.int .i64 s15))], [], []⟩ : S)) ?_ ?_
  ·skip
   exact WkX.of () (WkS.perm (WkS.cons rfl (Wk.refl _) (WkS.cons rfl (Wk.refl _) (WkS.cons rfl (Wk.refl _) (WkS.cons rfl (Wk.refl _) (WkS.nil))))) Pf Pf)
  ·intro G15 s15 z15 hm
   refine Kh ?_
   refine pu ?_
   refine Ke ?_
   refine Km ?_
   refine KC rfl (fun hc24 => ?_) (fun hc24 => ?_)
   ·replace hm := yes_t hc24 hm
    refine KB ?_
    refine Kb ?_
    refine Km ?_
    refine KG ?_
    refine Kh ?_
    obtain ⟨x25, q25, hm⟩ := Kc hm
    refine Kad htab rfl rfl rfl rfl rfl rfl rfl rfl rfl rfl (Kd q25) (Kk q25) ?_
    refine KW htab rfl rfl rfl rfl rfl rfl rfl rfl ?_
    refine pu ?_
    refine KP ?_
    iterate 3 refine pu ?_
    refine Ke ?_
    refine KC rfl (fun hc26 => ?_) (fun hc26 => ?_)
    ·replace hm := yes_t hc26 hm
     refine Kh ?_
     refine pu ?_
     refine pu ?_
     refine Ke ?_
     refine KE ?_
     refine Kan ?_
     refine KS ?_
     have e15 := K1 hm; subst e15; clear hm; have hm := hq15
     refine KS ?_
     refine Kan ?_
     have e14 := Kj hm; subst e14; refine Kbk ?_; clear hm; have hm := ho14; simp only [Sum.elim_inr] at hm
     refine KS ?_
     have er27 := Kj hm; subst er27
     refine rP (t' := [(2, .v (.int .i64 x25))]) [] [] 0 (wC wN) (lT lN) ?_
     exact ⟨rfl, rfl, rfl⟩
    ·replace hm := yes_f hc26 hm
     refine KB ?_
     refine KM ?_
     refine Kb ?_
     refine Kt ?_
     refine pu ?_
     refine pu ?_
     refine Kv ?_
     refine Kb ⟨_, K0 hm, ?_⟩
     exact WkX.of () (WkS.perm (WkS.cons rfl (Wk.refl _) (WkS.cons rfl (Wk.refl _) (WkS.cons rfl (Wk.refl _) (WkS.cons rfl (Wk.refl _) (WkS.nil))))) Pf Pf)
   ·replace hm := yes_f hc24 hm
    refine Kaa ?_
    refine KH ?_
    have e15 := K1 hm; subst e15; clear hm; have hm := hq15
    refine KH ?_
    refine K5 ?_
    have e14 := Kj hm; subst e14
    refine Kbj ?_
    exact WkX.of () (WkS.perm (WkS.cons rfl (Wk.refl _) (WkS.nil)) Pf Pf)
 ·intro y14 s14 hx14 hw14; subst hx14; clear hm; have hm := ho14; simp only [Sum.elim_inl] at hm; clear q14 ho14
  refine Kb ?_
  refine KV hw14 (fun z14 => ?_)
  refine Kh ?_
  refine pu ?_
  refine pu ?_
  refine Ke ?_
  refine KE ?_
  have er28 := Kj hm; subst er28
  refine rP (t' := [(2, .v (.int .i64 (0 : Int)))]) [] [] 0 (wC wN) (lT lN) ?_
  exact ⟨rfl, rfl, rfl⟩
noncomputable def KdI (a0 : Ka) (a1 : Ka) : Option (Int) :=
 ((KdY a0).bind fun x3 => ((KdY a1).bind fun x4 => ((Kca x3.gNode x4.gNode).bind fun x7 => ((Kdx ([(KcQ x3.gName x4.gName), x7] : List Int)).bind fun x8 => some x8))))
theorem KhU (a0 : Ka) (a1 : Ka) (r : Int) (h0 : KdI a0 a1 = some r) : CallsD Tryz.prog 51 [Kf a0, Kf a1] [] [] (fun d h k => d = .v (.int .i64 r) ∧ h = [] ∧ k = []) := by
 have hm := KI h0
 unfold KdI at hm
 clear h0
 refine K3 htab Tryz.func51 rfl rfl rfl rfl rfl (fun C => ?_)
 refine Kh ?_
 refine p_box rfl rfl rfl rfl rfl rfl rfl (fun b1 => ?_)
 refine p_box rfl rfl rfl rfl rfl rfl rfl (fun b2 => ?_)
 refine pu ?_
 refine Ke ?_
 refine Km ?_
 obtain ⟨x3, q3, hm⟩ := Kc hm
 obtain ⟨x4, q4, hm⟩ := Kc hm
 refine Kac 6 [(4, [.v (.string ByteArray.empty), .v (.int .i64 (0 : Int))], 41), (5, [.v (.string ByteArray.empty), .v (.int .i64 (0 : Int))], 41)] [[],[0],[],[0,1,2],[],[]] [0,1,2,3,4,5] [[],[0],[],[0,1,2],[],[],[0,1,2,3,4,5],[0,1,2,3,4,5,6]] (by kernel_rfl) (by kernel_rfl) (by kernel_rfl) (by rfl) (by rfl) (by kernel_rfl) ?_
 iterate 4 apply Exists.intro
 refine ⟨.any, ?_⟩
 refine ⟨.any, ?_⟩
 intro bs
 refine z_eM rfl rfl (Kai (d := Kf a0) 0 htab rfl rfl rfl rfl rfl) rfl rfl rfl rfl rfl rfl ?_
 refine KbC rfl rfl (Kgc a0 x3 q3) rfl rfl Wl rfl rfl rfl rfl rfl rfl ?_
 refine z_eM rfl rfl (Kai (d := Kf a1) 1 htab rfl rfl rfl rfl rfl) rfl rfl rfl rfl rfl rfl ?_
 refine KbC rfl rfl (Kgc a1 x4 q4) rfl rfl Wl rfl rfl rfl rfl rfl rfl ?_
 refine z_alloc rfl htab rfl rfl rfl rfl rfl rfl rfl rfl (by simp [dOf, eI64]) (by simp) ?_
 refine z_alloc rfl htab rfl rfl rfl rfl rfl rfl rfl rfl (by simp [dOf, eI64]) (by simp) ?_
 refine z_nil rfl (by simp only [List.map_cons, List.map_nil]; exact rfl) (fun e he => by simp [isAl] at he; rcases he with rfl | rfl <;> rfl) ?_
 obtain ⟨b5, hb5⟩ : ∃ b, bs 4 = b := ⟨_, rfl⟩
 obtain ⟨b6, hb6⟩ : ∃ b, bs 5 = b := ⟨_, rfl⟩
 simp only [hb5, hb6]
 clear hb5 hb6
 refine pS2 (ds' := [.v (.string x3.gName), .v (.int .i64 x3.gNode)]) ?_
 refine pS3 (ds' := [.v (.string x4.gName), .v (.int .i64 x4.gNode)]) ?_
 refine Ke ?_
 refine Km ?_
 refine Kac 9 [] [[],[0],[],[2],[0,2],[],[5],[],[7]] [0,2,4,5,7] [[],[0],[],[2],[0,1,2,3],[],[5],[],[7],[0,1,2,3,4,5,6,7,8],[0,1,2,3,4,5,6,7,8,9],[0,1,2,3,4,5,6,7,8,9,10],[0,1,2,3,4,5,6,7,8,9,10,11]] (by kernel_rfl) (by kernel_rfl) (by kernel_rfl) (by rfl) (by rfl) (by kernel_rfl) ?_
 iterate 5 apply Exists.intro
 intro bs
 refine zep ?_
 refine z_qM rfl rfl (Kai 2 htab rfl rfl rfl rfl rfl) rfl rfl rfl rfl rfl rfl ?_
 refine zep ?_
 refine z_qM rfl rfl (Kai 3 htab rfl rfl rfl rfl rfl) rfl rfl rfl rfl rfl rfl ?_
 refine KbC rfl rfl (Kjo x3.gName x4.gName) rfl rfl Wl rfl rfl rfl rfl rfl rfl ?_
 refine zep ?_
 refine z_qM rfl rfl (Kai 2 htab rfl rfl rfl rfl rfl) rfl rfl rfl rfl rfl rfl ?_
 refine zep ?_
 refine z_qM rfl rfl (Kai 3 htab rfl rfl rfl rfl rfl) rfl rfl rfl rfl rfl rfl ?_
 refine z_nil rfl rfl (fun e he => by simp [isAl] at he) ?_
 obtain ⟨x7, q7, hm⟩ := Kc hm
 refine Kaj (Kgd x3.gNode x4.gNode x7 q7) rfl rfl rfl rfl rfl Wl ?_
 rintro _ rfl
 refine p_lit htab rfl rfl rfl rfl rfl rfl rfl rfl rfl rfl rfl rfl rfl rfl ?_
 refine p_eq (i := 21) (d' := .lst 1 (([(KcQ x3.gName x4.gName), x7] : List Int).map eI64) .full) rfl (Wk.lst0 (.cons (WkC.refl _) (.cons (WkC.refl _) (.nil)))) ?_
 obtain ⟨x8, q8, hm⟩ := Kc hm
 refine Kaj (KiU ([(KcQ x3.gName x4.gName), x7] : List Int) x8 q8) rfl rfl rfl rfl rfl (WkL.cons (Wk.no) Wl) ?_
 rintro _ rfl
 refine pu ?_
 refine Ke ?_
 refine KE ?_
 have er9 := Kj hm; subst er9
 refine rP (t' := [(4, .v (.int .i64 x8))]) [] [] 0 (wC wN) (lT lN) ?_
 exact ⟨rfl, rfl, rfl⟩
abbrev Kiz : List (List Nat) := nlD [] [(0,[]),(0,[]),(0,[]),(0,[1,2]),(4,[3]),(5,[4]),(6,[]),(6,[]),(6,[6,7]),(9,[8]),(6,[]),(6,[5,6,7,8,9,10]),(12,[11]),(13,[12]),(0,[0,1,2,3,4,5,6,7,8,9,10,11]),(15,[12,13,14])]
noncomputable def KaA (a0 : List Ka) (a1 : Ka) : Option (Int × Bool) :=
 (Option.bind (α := Int) (loopM (fun (s19 : Int × Int) => (bif (decide (s19.1 < s19.2)) then ((idx a0 (IntKind.i64.wrap (shI .shr .u64 (IntKind.u64.wrap (IntKind.i64.wrap (s19.1 + s19.2))) (1 : Int)))).bind fun x31 => ((KdI x31 a1).bind fun x32 => (bif (decide (x32 < (0 : Int))) then some (.next ((IntKind.i64.wrap ((IntKind.i64.wrap (shI .shr .u64 (IntKind.u64.wrap (IntKind.i64.wrap (s19.1 + s19.2))) (1 : Int))) + (1 : Int))), s19.2)) else some (.next (s19.1, (IntKind.i64.wrap (shI .shr .u64 (IntKind.u64.wrap (IntKind.i64.wrap (s19.1 + s19.2))) (1 : Int)))))))) else some (.done s19.1))) ((0 : Int), (a0.length : Int))) fun y18 => (bif (decide (y18 < (a0.length : Int))) then ((idx a0 y18).bind fun x35 => ((KdI x35 a1).bind fun x36 => some (y18, (x36 == (0 : Int))))) else some (y18, false)))
theorem KbT (a0 : List Ka) (a1 : Ka) (r : Int × Bool) (h0 : KaA a0 a1 = some r) : CallsD Tryz.prog 50 [.lst 2 (a0.map Kf) .no, Kf a1, .fn (.func 51) [] []] [] [] (fun d h k => d = .tup [.v (.int .i64 r.1), .v (.bool r.2)] ∧ h = [] ∧ k = []) := by
 have hm := KI h0
 unfold KaA at hm
 clear h0
 refine K3 htab Tryz.func50 rfl rfl rfl rfl rfl (fun C => ?_)
 refine Kh ?_
 refine p_box rfl rfl rfl rfl rfl rfl rfl (fun b1 => ?_)
 refine pu ?_
 refine pu ?_
 refine KP ?_
 refine pu ?_
 refine Kag htab rfl rfl rfl rfl rfl rfl rfl (by first | exact KY | rfl) ?_
 refine pu ?_
 refine KP ?_
 iterate 3 refine pu ?_
 refine Ke ?_
 refine Km ?_
 obtain ⟨y18, q18, ho18⟩ := Kc hm
 refine Kah (Y := Unit) (fun z18 => (⟨[(0, .lst 2 (a0.map Kf) .no), (2, .fn (.func 51) [] []), (4, .ptr b1 0), (8, .v (.int .i64 (a0.length : Int))), (9, .v (.int .i64 y18))], [(b1, Blk.cells [.v (.string a1.gName), .v (.int .i64 a1.gNode)] 41)], []⟩ : S)) ?_ ?_
 ·clear hm; have hm := KI q18
  refine KG ?_
  obtain ⟨u19, hl19, hq19⟩ := yes_m hm
  refine Kao (Y := Unit) hl19 (fun s19 z19 => (⟨[(0, .lst 2 (a0.map Kf) .no), (2, .fn (.func 51) [] []), (4, .ptr b1 0), (8, .v (.int .i64 (a0.length : Int))), (9, .v (.int .i64 s19.1)), (10, .v (.int .i64 s19.2))], [(b1, Blk.cells [.v (.string a1.gName), .v (.int .i64 a1.gNode)] 41)], []⟩ : S)) ?_ ?_
  ·skip
   exact WkX.of () (WkS.perm (WkS.cons rfl (Wk.refl _) (WkS.cons rfl (Wk.refl _) (WkS.cons rfl (Wk.refl _) (WkS.cons rfl (Wk.refl _) (WkS.cons rfl (Wk.refl _) (WkS.cons rfl (Wk.refl _) (WkS.nil))))))) Pf Pf)
  ·intro G19 s19 z19 hm
   refine Km ?_
   refine Kh ?_
   iterate 3 refine pu ?_
   refine Ke ?_
   refine KC rfl (fun hc30 => ?_) (fun hc30 => ?_)
   ·replace hm := yes_t hc30 hm
    refine KB ?_
    refine Kb ?_
    refine KG ?_
    refine Kh ?_
    iterate 4 refine pu ?_
    refine p_sh rfl rfl rfl rfl rfl rfl rfl (by decide) ?_
    refine pu ?_
    refine pu ?_
    refine Ke ?_
    refine Km ?_
    obtain ⟨x31, q31, hm⟩ := Kc hm
    refine Kac 6 [] [[],[],[],[1],[1,3],[]] [0,1,3,4,5] [[],[],[],[1,2],[1,2,3],[],[0,1,2,3,4,5],[0,1,2,3,4,5,6]] (by kernel_rfl) (by kernel_rfl) (by kernel_rfl) (by rfl) (by rfl) (by kernel_rfl) ?_
    iterate 5 apply Exists.intro
    intro bs
    refine zep ?_
    refine zep ?_
    refine zqp ?_
    refine z_e rfl rfl (Kz htab rfl rfl rfl rfl rfl rfl rfl (Kd q31) (Kk q31)) rfl rfl rfl rfl rfl rfl ?_
    refine z_eM rfl rfl (Ko (d := Kf x31) htab rfl rfl rfl rfl rfl) rfl rfl rfl rfl rfl rfl ?_
    refine z_eM rfl rfl (Kai (d := Kf a1) 0 htab rfl rfl rfl rfl rfl) rfl rfl rfl rfl rfl rfl ?_
    refine z_nil rfl rfl (fun e he => by simp [isAl] at he) ?_
    obtain ⟨x32, q32, hm⟩ := Kc hm
    refine Kho (KhU x31 a1 x32 q32) rfl rfl rfl rfl rfl rfl rfl Wl ?_
    rintro _ rfl
    refine pu ?_
    refine Ke ?_
    refine KC rfl (fun hc33 => ?_) (fun hc33 => ?_)
    ·replace hm := yes_t hc33 hm
     refine Kt ?_
     iterate 3 refine pu ?_
     refine Kv ?_
     refine KM ?_
     refine Kb ⟨_, K0 hm, ?_⟩
     exact WkX.of () (WkS.perm (WkS.cons rfl (Wk.refl _) (WkS.cons rfl (Wk.refl _) (WkS.cons rfl (Wk.refl _) (WkS.cons rfl (Wk.refl _) (WkS.cons rfl (Wk.refl _) (WkS.cons rfl (Wk.refl _) (WkS.nil))))))) Pf Pf)
    ·replace hm := yes_f hc33 hm
     refine Kt ?_
     refine pu ?_
     refine pu ?_
     refine Kv ?_
     refine KM ?_
     refine Kb ⟨_, K0 hm, ?_⟩
     exact WkX.of () (WkS.perm (WkS.cons rfl (Wk.refl _) (WkS.cons rfl (Wk.refl _) (WkS.cons rfl (Wk.refl _) (WkS.cons rfl (Wk.refl _) (WkS.cons rfl (Wk.refl _) (WkS.cons rfl (Wk.refl _) (WkS.nil))))))) Pf Pf)
   ·replace hm := yes_f hc30 hm
    refine Kaa ?_
    refine KH ?_
    have e19 := K1 hm; subst e19; clear hm; have hm := hq19
    refine KH ?_
    refine K5 ?_
    have e18 := Kj hm; subst e18
    refine ⟨rfl, ?_⟩
    exact WkX.of () (WkS.perm (WkS.cons rfl (Wk.refl _) (WkS.cons rfl (Wk.refl _) (WkS.cons rfl (Wk.refl _) (WkS.cons rfl (Wk.refl _) (WkS.cons rfl (Wk.refl _) (WkS.nil)))))) Pf Pf)
 ·intro s18 hw18; clear hm; have hm := ho18; clear q18 ho18
  refine Kb ?_
  refine KV hw18 (fun z18 => ?_)
  refine Km ?_
  refine bycB (decide (y18 < (a0.length : Int))) (fun hs34 => ?_) (fun hs34 => ?_)
  ·replace hm := yes_t hs34 hm
   obtain ⟨x35, q35, hm⟩ := Kc hm
   obtain ⟨x36, q36, hm⟩ := Kc hm
   refine Kac 15 [] [[],[],[],[],[],[],[],[],[6],[6,8],[],[5,6,8,9,10],[5,6,8,9,10,11],[5,6,8,9,10,11],[5,6,8,9,10,11]] [5,6,8,9,10,11] Kiz (by kernel_rfl) (by kernel_rfl) (by kernel_rfl) (by rfl) (by rfl) (by kernel_rfl) ?_
   iterate 6 apply Exists.intro
   intro bs
   iterate 5 refine zqp ?_
   refine KO (j := 39) (b' := true) rfl hs34 ?_
   refine zep ?_
   refine zep ?_
   refine zqp ?_
   refine z_e rfl rfl (Kz htab rfl rfl rfl rfl rfl rfl rfl (Kd q35) (Kk q35)) rfl rfl rfl rfl rfl rfl ?_
   refine z_eM rfl rfl (Ko (d := Kf x35) htab rfl rfl rfl rfl rfl) rfl rfl rfl rfl rfl rfl ?_
   refine z_eM rfl rfl (Kai (d := Kf a1) 0 htab rfl rfl rfl rfl rfl) rfl rfl rfl rfl rfl rfl ?_
   refine z_callV rfl rfl (KhU x35 a1 x36 q36) rfl rfl rfl rfl Wl rfl rfl rfl rfl rfl rfl ?_
   refine zqp ?_
   refine z_q rfl rfl (Kaz rfl rfl rfl) rfl rfl rfl rfl rfl rfl ?_
   refine zqp ?_
   refine z_nil rfl rfl (fun e he => by simp [isAl] at he) ?_
   refine pu ?_
   refine Ke ?_
   refine KE ?_
   have er37 := Kj hm; subst er37
   refine rP (t' := [(6, .v (.int .i64 y18)), (7, .v (.bool (x36 == (0 : Int))))]) [] [] 0 (wC (wC wN)) (lT (lT lN)) ?_
   exact ⟨rfl, rfl, rfl⟩
  ·replace hm := yes_f hs34 hm
   refine Kac 15 [] [[],[],[],[],[],[],[],[],[],[],[],[],[],[],[]] [] Kiz (by kernel_rfl) (by kernel_rfl) (by kernel_rfl) (by rfl) (by rfl) (by kernel_rfl) ?_
   intro bs
   iterate 5 refine zqp ?_
   refine KO (j := 39) (b' := false) rfl hs34 ?_
   iterate 8 refine zK ?_
   refine z_q rfl rfl (K6 rfl rfl rfl) rfl rfl rfl rfl rfl rfl ?_
   refine zqp ?_
   refine z_nil rfl rfl (fun e he => by simp [isAl] at he) ?_
   refine pu ?_
   refine Ke ?_
   refine KE ?_
   have er38 := Kj hm; subst er38
   refine rP (t' := [(6, .v (.int .i64 y18)), (7, .v (.bool false))]) [] [] 0 (wC (wC wN)) (lT (lT lN)) ?_
   exact ⟨rfl, rfl, rfl⟩
end Go.Proofs.YtnfkijcmakgkmaaGreat.Ab
namespace Go.Proofs.YtnfkijcmakgkmaaGreat.Ab
open Go Go.RowKit Go.Shelf Go.Proofs
set_option linter.all false
attribute [local go_sem] Oper.semAt_some
def clK (x : Ka) : Ka := ⟨x.gName, max x.gNode (-1)⟩
def encK (x : Ka) : Value := .agg #[.string x.gName, .int .i64 x.gNode]
abbrev Ky := Ka
theorem meas_lt {L j : Nat} (h : j < L) : L - ((j : Int) + 1).toNat < L - ((j : Int)).toNat := by omega
theorem meas_w {L k : Nat} (h : wrap64 ((k : Int) + 1) = (k : Int) + 1) (hk : k < L) : L - (intOf (Value.int .i64 (wrap64 ((k : Int) + 1)))).toNat < L - (intOf (Value.int .i64 (k : Int))).toNat := by
 rw [h]; exact meas_lt hk
theorem Kfd (x : Ka) (w : World) : Calls Tryz.prog 30 #[encK x] w fun e w' => e = .returned (encK (clK x)) ∧ Below w.heap.size w w' := by
 unfold encK clK
 go_enter Tryz.func30, Tryz.ntmps30
 go_wp2
 simp [bodyPost, results, Tryz.results30, go_sem]
 exact ((Below.refl _ w).alloc (Nat.le_refl _) _).alloc (by simp) _
def SlK (n₀ : Nat) (W : World) (sv : Value) (ks : List Ky) : Prop := ∃ a cap, sv = .slice a ks.length cap ∧ ∀ j x, ks[j]? = some x → ∃ b off, a = some ⟨b, off, none⟩ ∧ b < n₀ ∧ W.cell? ⟨b, off + j * 2, none⟩ = some (.string x.gName) ∧ W.cell? ⟨b, off + j * 2 + 1, none⟩ = some (.int .i64 x.gNode)
theorem SlK.below {n₀ : Nat} {A B : World} (h : Below n₀ A B) {sv : Value} {ks : List Ky} (k : SlK n₀ A sv ks) : SlK n₀ B sv ks := by
 obtain ⟨a, cap, e, hc⟩ := k
 refine ⟨a, cap, e, fun j x hx => ?_⟩
 obtain ⟨b, off, e1, e2, e3, e4⟩ := hc j x hx
 exact ⟨b, off, e1, e2, (h.cell (p := ⟨b, _, none⟩) e2).trans e3, (h.cell (p := ⟨b, _, none⟩) e2).trans e4⟩
def flatK (kss : List (List Ky)) (k : Nat) : List Ky := (kss.take k).flatten
theorem Kg0 {kss : List (List Ky)} {k : Nat} {ks : List Ky} (h : kss[k]? = some ks) : kss.flatten = (kss.take k).flatten ++ (ks ++ (kss.drop (k + 1)).flatten) := by
 obtain ⟨hlt, hks⟩ := List.getElem?_eq_some_iff.1 h
 conv => lhs; rw [← List.take_append_drop k kss, List.drop_eq_getElem_cons hlt, hks]
 simp
theorem flat_pos {kss : List (List Ky)} {k : Nat} {ks : List Ky} (h : kss[k]? = some ks) : (flatK kss k).length + ks.length ≤ kss.flatten.length := by
 rw [Kg0 h]; unfold flatK; rw [List.length_append, List.length_append]; omega
theorem flat_pre {kss : List (List Ky)} {k : Nat} {ks : List Ky} (h : kss[k]? = some ks) (m : Nat) : flatK kss k ++ ks.take m <+: kss.flatten := by
 unfold flatK
 rw [Kg0 h]
 refine (List.prefix_append_right_inj _).2 ?_
 refine List.IsPrefix.trans ?_ (List.prefix_append _ _)
 exact List.take_prefix m ks
theorem flat_succ {kss : List (List Ky)} {k : Nat} {ks : List Ky} (h : kss[k]? = some ks) : flatK kss (k + 1) = flatK kss k ++ ks := by
 unfold flatK
 rw [List.take_succ, h]; simp
theorem flat_short {kss : List (List Ky)} {k j N : Nat} {ks : List Ky} (hp : (flatK kss k).length + ks.length ≤ kss.flatten.length) (hN : kss.flatten.length ≤ N) (hj : j < ks.length) : (flatK kss k ++ ks.take j).length < N := by
 rw [List.length_append, List.length_take]; omega
theorem KcR {ks : List Ky} {j : Nat} {x : Ky} (h : ks[j]? = some x) : ks.take (j + 1) = ks.take j ++ [x] := by rw [List.take_succ, h]; rfl
theorem le_s2 {a b : Nat} {w2 : World} {o : Obj} (h : a ≤ b) (k : b ≤ w2.heap.size) : a ≤ (w2.alloc o).heap.size := by simp; omega
theorem chain1_in (n : Nat) (hn : 1 ≤ n) (l Bs n₀ : Nat) (a : Option Addr) (cap : Nat) (kss : List (List Ky)) (N : Nat) (hN : kss.flatten.length ≤ N) (hlen : ∀ k : Nat, k < kss.length → wrap64 ((k : Int) + 1) = (k : Int) + 1) (hlens : ∀ ks ∈ kss, ∀ j : Nat, j < ks.length → wrap64 ((j : Int) + 1) = (j : Int) + 1) (J Jx : List Ky → World → Prop)
  (hJa : ∀ s A B, J s A → Below A.heap.size A B → J s B)
  (hY : ∀ pre x W, J pre W → pre.length < N → YieldAt Fence.wide (n - 1) Tryz.prog l #[encK (clK x)] W fun e W' =>
   (e = .returned (.bool true) ∧ J (pre ++ [x]) W' ∧ Below n₀ W W') ∨ (e = .returned (.bool false) ∧ Jx (pre ++ [x]) W'))
  (W : World) (hBs : W.cell? ⟨Bs, 0, none⟩ = some (.slice a kss.length cap)) (hn0 : n₀ ≤ W.heap.size) (hc : ∀ i ks, kss[i]? = some ks → ∃ b off sv, a = some ⟨b, off, none⟩ ∧ b < n₀ ∧ W.cell? ⟨b, off + i, none⟩ = some sv ∧ SlK n₀ W sv ks) (h0 : J [] W) :
  CallsIn Fence.wide n Tryz.prog 67 #[.func (.yield l) #[] #[], .pointer (some ⟨Bs, 0, none⟩)] W fun e W' => (∃ v, e = .returned v) ∧
   (J kss.flatten W' ∨ (∃ pre, pre <+: kss.flatten ∧ Jx pre W')) := by
 refine callsIn_of_wp Tryz.func67 rfl trivial ?_ rfl
 simp only [Tryz.ntmps67, List.size_toArray, List.length_cons, List.length_nil, Nat.reduceAdd, Nat.reduceSub, Array.replicate_succ, Array.replicate_zero, List.push_toArray, List.append_toArray, List.nil_append, List.cons_append]
 gi_wp2
 gi_loopw [9] (fun i wr => ∃ k : Nat, k ≤ kss.length ∧ i = .int .i64 k ∧ J (flatK kss k) wr ∧ Below n₀ W wr)
  (fun i _ => kss.length - (intOf i).toNat)
 case atStart => exact ⟨0, Nat.zero_le _, rfl, h0, Below.refl _ _⟩
 case round =>
  obtain ⟨k, hk, rfl, hJs, hnx⟩ := hrel
  by_cases hlt : k < kss.length
  ·obtain ⟨b, off, sv, ea, hb, hcell, ⟨a1, cap1, rfl, hks⟩⟩ := hc k kss[k] (List.getElem?_eq_getElem hlt)
   subst ea
   have hcell' := (hnx.cell (p := ⟨b, off + k, none⟩) hb).trans hcell
   gi_wp2
   generalize hks0 : kss[k] = ks at hks hcell hcell'
   have hkk : kss[k]? = some ks := by rw [List.getElem?_eq_getElem hlt, hks0]
   have hkl := hlens ks (by rw [← hks0]; exact List.getElem_mem _)
   have hw1 := hlen k hlt
   have hpos := flat_pos hkk
   have hpre := fun m => flat_pre hkk m
   have hfl := flat_succ hkk
   gi_loopw [15] (fun i w2 => ∃ j : Nat, j ≤ ks.length ∧ i = .int .i64 j ∧ J (flatK kss k ++ ks.take j) w2 ∧ Below n₀ W w2)
    (fun i _ => ks.length - (intOf i).toNat)
   case atStart => exact ⟨0, Nat.zero_le _, rfl, by simpa using hJs, hnx⟩
   case round =>
    obtain ⟨j, hj, rfl, hJ2, hn2⟩ := hrel
    by_cases hjl : j < ks.length
    ·obtain ⟨b1, o1, ea1, hb1, hs1, hs2⟩ := hks j ks[j] (List.getElem?_eq_getElem hjl)
     subst ea1
     have hs1' := (hn2.cell (p := ⟨b1, o1 + j * 2, none⟩) hb1).trans hs1
     have hs2' := (hn2.cell (p := ⟨b1, o1 + j * 2 + 1, none⟩) hb1).trans hs2
     have hxj := KcR (List.getElem?_eq_getElem hjl)
     generalize ks[j] = x at hs1 hs2 hs1' hs2' hxj
     have hshort := flat_short hpos hN hjl
     have hw2 := hkl j hjl
     gi_wp2
     refine ⟨trivial, ?_⟩
     refine (callsIn_wide.2 (Kfd x _)).mono ?_
     rintro e w3 ⟨rfl, hb3⟩
     have hn3 : Below n₀ W w3 := hn2.trans ((((Below.refl _ _).alloc (Nat.le_refl _) _).mono (Nat.le_trans hn0 hn2.size)).trans (hb3.mono (le_s2 hn0 hn2.size)))
     have hJ3 := hJa _ _ w3 hJ2 (((Below.refl _ _).alloc (Nat.le_refl _) _).trans (hb3.mono (by simp)))
     obtain ⟨fn, tmps, assign, body, hy, hR⟩ := hY _ x w3 hJ3 hshort
     have hsn : flatK kss k ++ ks.take j ++ [x] = flatK kss k ++ ks.take (j + 1) := by rw [hxj]; simp
     rw [hsn] at hR
     clear hsn hxj
     clear hkl hlens hlen
     gi_wp2
     refine hR.mono ?_
     rintro e W4 (⟨rfl, hJ4, hk4⟩ | ⟨rfl, hJx4⟩)
     ·gi_wp2
      go_roundw
      case rel => exact ⟨j + 1, hjl, by simp [hw2], hJ4, hn3.trans hk4⟩
      case measure =>
       exact meas_w hw2 hjl
     ·gi_wp2
      refine bodyPost_ret (results_none rfl _ _ _) rfl ?_
      exact ⟨⟨_, rfl⟩, .inr ⟨_, hpre (j + 1), hJx4⟩⟩
    ·obtain rfl : j = ks.length := Nat.le_antisymm hj (Nat.le_of_not_lt hjl)
     gi_wp2
     go_roundw
     case rel => exact ⟨k + 1, hlt, by simp [hw1], by rw [hfl]; simpa using hJ2, hn2⟩
     case measure =>
      exact meas_w hw1 hlt
  ·obtain rfl : k = kss.length := Nat.le_antisymm hk (Nat.le_of_not_lt hlt)
   gi_wp2
   go_end0
   exact ⟨⟨_, rfl⟩, .inl (by rw [flatK, List.take_length] at hJs; exact hJs)⟩
theorem Kjp (vL : Value) (hv : ∃ a n m, vL = .slice a n m) (w : World) : Calls Tryz.prog 42 #[vL] w fun e w' => e = .returned (.func (.func 67) #[] #[.pointer (some ⟨w.heap.size, 0, none⟩)]) ∧ w' = w.alloc (.cells #[vL] 113) := by
 obtain ⟨a, n, m, rfl⟩ := hv
 go_enter Tryz.func42, Tryz.ntmps42
 go_wp2
 go_ret
 exact ⟨rfl, rfl⟩
theorem Kjq (n : Nat) (hn : 1 ≤ n) (Bs n₀ : Nat) (a : Option Addr) (cap : Nat) (kss : List (List Ky)) (hlen : ∀ k : Nat, k < kss.length → wrap64 ((k : Int) + 1) = (k : Int) + 1) (hlens : ∀ ks ∈ kss, ∀ j : Nat, j < ks.length → wrap64 ((j : Int) + 1) = (j : Int) + 1)
  (w : World) (hBs : Bs < w.heap.size) (hn0 : n₀ ≤ w.heap.size) (hcB : w.cell? ⟨Bs, 0, none⟩ = some (.slice a kss.length cap)) (hc : ∀ i ks, kss[i]? = some ks → ∃ b off sv, a = some ⟨b, off, none⟩ ∧ b < n₀ ∧ w.cell? ⟨b, off + i, none⟩ = some sv ∧ SlK n₀ w sv ks) :
  SeqStopsK Fence.wide n Tryz.prog 67 #[.pointer (some ⟨Bs, 0, none⟩)] (fun x : Ky => #[encK (clK x)]) (Below n₀) (fun ys => ys = kss.flatten) (fun pre => pre <+: kss.flatten) kss.flatten.length w := fun l J Jx W hW hJ hJx hY h0 => by
 have hWn : Below n₀ w W := hW.mono hn0
 refine (chain1_in n hn l Bs n₀ a cap kss kss.flatten.length (Nat.le_refl _) hlen hlens J Jx ?_ hY W ((hW.cell (p := ⟨Bs, 0, none⟩) hBs).trans hcB) (Nat.le_trans hn0 hW.size) ?_ h0).mono ?_
 ·intro s A B hs hb
  exact hJ s A B none hs (Lib.grownBy_below (⟨rfl, rfl, rfl, Nat.le_refl _, fun _ _ _ => rfl⟩ : World.grownBy A A none) hb) (fun r e => by cases e)
 ·intro i ks hk
  obtain ⟨b, off, sv, e1, e2, e3, e4⟩ := hc i ks hk
  exact ⟨b, off, sv, e1, e2, (hWn.cell (p := ⟨b, _, none⟩) e2).trans e3, e4.below hWn⟩
 ·rintro e W' ⟨hv, h | h⟩
  ·exact ⟨hv, .inl ⟨_, rfl, h⟩⟩
  ·exact ⟨hv, .inr h⟩
end Go.Proofs.YtnfkijcmakgkmaaGreat.Ab
namespace Go.Proofs.YtnfkijcmakgkmaaGreat.Ab
open Go
set_option linter.all false
def KeG (tab : List (Option TI)) (ts : List Nat) : Nat → List (Nat × Nat) → Option Nat
  | off, [] => some off
  | off, (ty, o) :: fs => match ti tab ty with
    | some i => bif Nat.beq o off && ts.contains ty then KeG tab ts (off + i.size) fs else none
    | none => none
def typeOK (tab : List (Option TI)) (ts : List Nat) (t : Nat) : Bool :=
  match ti tab t with
  | some i => match i.d with
    | .bool => Nat.beq i.size 1
    | .int _ => Nat.beq i.size 1
    | .str => Nat.beq i.size 1
    | .slice e => ts.contains e && Nat.beq i.size 1 && (match ti tab e with | some ie => Nat.ble 1 ie.size | none => false)
    | .struct fs => match KeG tab ts 0 fs with
      | some n => Nat.beq n i.size
      | none => false
    | .array n e => ts.contains e && (match ti tab e with | some ie => Nat.beq i.size (n * ie.size) | none => false)
    | _ => false
  | none => false
def closedT (tab : List (Option TI)) (ts : List Nat) : Bool := ts.all (typeOK tab ts)
def GoodT (tab : List (Option TI)) : Nat → Nat → D → Prop
  | 0, _, _ => False
  | n + 1, t, d => ∃ i, ti tab t = some i ∧ match i.d with
    | .bool => ∃ b, d = .v (.bool b)
    | .int k => ∃ m, d = .v (.int k m) ∧ (Lit.int k m).wf = true
    | .str => ∃ s : ByteArray, d = .v (.string s) ∧ s.size ≤ maxLen
    | .slice e => ∃ ie xs, ti tab e = some ie ∧ d = .lst ie.size xs .no ∧ xs.length ≤ maxLen ∧ ∀ x ∈ xs, GoodT tab n e x
    | .struct fs => ∃ ds : List D, d = .agg (ds.flatMap KR) ∧ ds.length = fs.length ∧ ∀ (j : Nat) (f : Nat × Nat) (d0 : D), fs[j]? = some f → ds[j]? = some d0 → GoodT tab n f.1 d0
    | .array m e => ∃ ds : List D, d = .agg (ds.flatMap KR) ∧ ds.length = m ∧ ∀ x ∈ ds, GoodT tab n e x
    | _ => False
section
variable {H : Type} {enc : TypeId × Value → H} {P : Program} {w : World} {base : Nat} {spare : Nat → Bool} {held : Bool} {tab : List (Option TI)} {ts : List Nat}
theorem Kdy (hT : TabOK P tab) {t : TypeId} {i : TI} (h : ti tab t = some i) : P.cellsOf t = i.size := by
 obtain ⟨tf, z, dd, h1, _, _, h2, _⟩ := Kb3 (ti_ok hT h)
 simp [Program.cellsOf, h1, h2]
def allOf (w : World) : Hp := fun a => w.cell? a
theorem ag_all (w : World) : Ag (allOf w) w := fun _ _ h => h
end
end Go.Proofs.YtnfkijcmakgkmaaGreat.Ab
namespace Go.Proofs.YtnfkijcmakgkmaaGreat.Ab
open Go
set_option linter.all false
section
variable {P : Program} {tab : List (Option TI)} {n t : Nat} {i : TI} {d : D}
theorem Kcu {k : IntKind} (hi : ti tab t = some i) (hd : i.d = .int k) (g : GoodT tab n t d) : ∃ m, d = .v (.int k m) ∧ (Lit.int k m).wf = true := by
  cases n with
  | zero => simp [GoodT] at g
  | succ n =>
    unfold GoodT at g
    obtain ⟨i', h1, h2⟩ := g
    rw [hi] at h1; cases h1
    rw [hd] at h2; exact h2
theorem KiA (hi : ti tab t = some i) (hd : i.d = .bool) (g : GoodT tab n t d) : ∃ b, d = .v (.bool b) := by
  cases n with
  | zero => simp [GoodT] at g
  | succ n =>
    unfold GoodT at g
    obtain ⟨i', h1, h2⟩ := g
    rw [hi] at h1; cases h1
    rw [hd] at h2; exact h2
theorem Kdi (hi : ti tab t = some i) (hd : i.d = .str) (g : GoodT tab n t d) : ∃ s : ByteArray, d = .v (.string s) ∧ s.size ≤ maxLen := by
  cases n with
  | zero => simp [GoodT] at g
  | succ n =>
    unfold GoodT at g
    obtain ⟨i', h1, h2⟩ := g
    rw [hi] at h1; cases h1
    rw [hd] at h2; exact h2
theorem Kbf {e : Nat} {ie : TI} (hi : ti tab t = some i) (hd : i.d = .slice e) (he : ti tab e = some ie) (g : GoodT tab n t d) : ∃ (n' : Nat) (xs : List D), n = n' + 1 ∧ d = .lst ie.size xs .no ∧ xs.length ≤ maxLen ∧ ∀ x ∈ xs, GoodT tab n' e x := by
  cases n with
  | zero => simp [GoodT] at g
  | succ n =>
    unfold GoodT at g
    obtain ⟨i', h1, h2⟩ := g
    rw [hi] at h1; cases h1
    rw [hd] at h2
    obtain ⟨ie', xs, h3, h4, h5, h6⟩ := h2
    rw [he] at h3; cases h3
    exact ⟨n, xs, rfl, h4, h5, h6⟩
theorem KbI {fs : List (Nat × Nat)} (hi : ti tab t = some i) (hd : i.d = .struct fs) (g : GoodT tab n t d) : ∃ (n' : Nat) (ds : List D), n = n' + 1 ∧ d = .agg (ds.flatMap KR) ∧ ds.length = fs.length ∧ ∀ (j : Nat) (f : Nat × Nat) (d0 : D), fs[j]? = some f → ds[j]? = some d0 → GoodT tab n' f.1 d0 := by
  cases n with
  | zero => simp [GoodT] at g
  | succ n =>
    unfold GoodT at g
    obtain ⟨i', h1, h2⟩ := g
    rw [hi] at h1; cases h1
    rw [hd] at h2
    obtain ⟨ds, h4, h5, h6⟩ := h2
    exact ⟨n, ds, rfl, h4, h5, h6⟩
theorem Kbn {α : Type} {f : α → D} {K : α → Prop} {p : D → Prop} (h : ∀ x, p x → ∃ y, x = f y ∧ K y) : ∀ (xs : List D), (∀ x ∈ xs, p x) → ∃ ys : List α, xs = ys.map f ∧ ∀ y ∈ ys, K y
  | [], _ => ⟨[], rfl, by simp⟩
  | x :: xs, hx => by
    obtain ⟨y, rfl, hy⟩ := h x (hx x (by simp))
    obtain ⟨ys, rfl, hys⟩ := Kbn h xs fun z hz => hx z (by simp [hz])
    refine ⟨y :: ys, rfl, fun z hz => ?_⟩
    rcases List.mem_cons.1 hz with rfl | hz
    · exact hy
    · exact hys z hz
theorem shape_of {w : World} {r : Reach} {base : Nat} {v : Value} (hT : TabOK P tab) (hv : Value.okWide P w r base t v) (g : GoodT tab n t d) : d.shape v = true := by
  cases n with
  | zero => simp [GoodT] at g
  | succ n =>
    unfold GoodT at g
    obtain ⟨i, hi, g⟩ := g
    obtain ⟨tf, z, dd, h1, h2, h3, _⟩ := Kb3 (ti_ok hT hi)
    unfold Value.okWide at hv
    rw [h2] at hv
    split at g
    · rename_i hd
      have := Kfh (h3.trans hd); subst this
      obtain ⟨b, rfl⟩ := g
      cases v <;> first | rfl | (simp [Cell.okWide, Cell.ok, h2] at hv)
    · rename_i k hd
      have := Kfj (h3.trans hd); subst this
      obtain ⟨b, rfl, _⟩ := g
      cases v <;> first | rfl | (simp [Cell.okWide, Cell.ok, h2] at hv)
    · rename_i hd
      have := Kfi (h3.trans hd); subst this
      obtain ⟨b, rfl, _⟩ := g
      cases v <;> first | rfl | (simp [Cell.okWide, Cell.ok, h2] at hv)
    · rename_i e hd
      have := KbP (h3.trans hd); subst this
      obtain ⟨ie, xs, _, rfl, _⟩ := g
      cases v <;> first | rfl | (simp [Cell.okWide, Cell.ok, h2] at hv)
    · rename_i fs hd
      obtain ⟨gs, rfl, _⟩ := Kcr (h3.trans hd)
      obtain ⟨ds, rfl, _⟩ := g
      simp only at hv
      obtain ⟨cs, rfl, _⟩ := hv
      rfl
    · rename_i m e hd
      have := Khe (h3.trans hd); subst this
      obtain ⟨ds, rfl, _⟩ := g
      simp only at hv
      obtain ⟨cs, rfl, _⟩ := hv
      rfl
    · exact g.elim
end
end Go.Proofs.YtnfkijcmakgkmaaGreat.Ab
namespace Go.Proofs.YtnfkijcmakgkmaaGreat
open Go.ChangeShapes Go.WideShapes Go.ChangeAt Go.RowKit Go.Joins
set_option linter.all false
theorem own : ownKnob Tryz.prog.godebug = none := by kernel_rfl
theorem laidOut' : laidOutB Tryz.prog = true := by kernel_rfl
theorem KiB {H : Type} {enc : TypeId × Value → H} {P : Program} {W : World} (hl : laidOutB P = true) : ∀ {ts : List TypeId} {vs : List Value} {ds : List (DataW H)} {ps : List MemPlace},
    (ts.all fun t => P.readableRec t && decide (t < P.types.size)) = true → DataW.TrodAll enc P W 0 (fun _ => true) true ts vs ds ps → (∀ x ∈ ps, x.block < W.heap.size) → ∀ W', Below W.heap.size W W' →
    ∀ sp : Nat → Bool, (∀ x ∈ ps, sp x.block = true) → DataW.TrodAll enc P W' 0 sp true ts vs ds ps
  | [], vs, ds, ps, _, h, _, W', hb, sp, hsp => by
    obtain ⟨rfl, rfl, rfl⟩ := trodAll_nil h
    exact trodAll_mk0
  | t :: ts, vs, ds, ps, hr, h, hlt, W', hb, sp, hsp => by
    obtain ⟨v, vs', d, ds', p, q, rfl, rfl, rfl, h0, h1⟩ := trodAll_cons h
    simp only [List.all_cons, Bool.and_eq_true, decide_eq_true_eq] at hr
    exact trodAll_cons_mk (WideElems.Trod_stays hl hr.1.1 hr.1.2 h0 (fun x hx => hb.same (hlt x (by simp [hx]))) (fun x hx => hsp x (by simp [hx])))
      (KiB hl hr.2 h1 (fun x hx => hlt x (by simp [hx])) W' hb sp (fun x hx => hsp x (by simp [hx])))
end Go.Proofs.YtnfkijcmakgkmaaGreat
namespace Go.Proofs.YtnfkijcmakgkmaaGreat.Ab
open Go
set_option linter.all false
mutual
def bulk {H : Type} : DataW H → Nat
 | .lit (.string bytes) => bytes.length + 1
 | .lit _ => 1
 | .nil => 1
 | .ptr d => bulk d + 1
 | .slice elems spare => bulkAll elems + bulkAll spare + 1
 | .agg parts => bulkAll parts + 1
 | .iface _ d => bulk d + 1
 | .map _ => 1
 | .held _ => 1
def bulkAll {H : Type} : List (DataW H) → Nat
 | [] => 0
 | d :: r => bulk d + bulkAll r
end
def wtv : Value → Nat
 | .string s => s.size + 1
 | _ => 1
mutual
def wt : D → Nat
 | .any => 0
 | .v x => wtv x
 | .agg l => wts l
 | .lst _ xs _ => wts xs + 1
 | .el _ => 0
 | .ptr _ _ => 0
 | .fn _ _ _ => 0
 | .tup _ => 0
def wts : List D → Nat
 | [] => 0
 | d :: l => wt d + wts l
end
theorem KfP : ∀ (l m : List D), wts (l ++ m) = wts l + wts m
 | [], m => by simp [wts]
 | d :: l, m => by simp only [List.cons_append, wts, KfP l m]; omega
theorem KiC (d : D) : wts (KR d) = wt d := by
 cases d <;> simp [KR, wts, wt]
section
variable {H : Type} {enc : TypeId × Value → H} {P : Program} {w : World} {base : Nat} {spare : Nat → Bool} {held : Bool} {tab : List (Option TI)} {ts : List Nat}
def RdW (tab : List (Option TI)) (w : World) (n t : Nat) (cs : List Value) (d : D) (m : Nat) : Prop :=
 wt d ≤ m ∧ ∃ i, ti tab t = some i ∧ RepC (allOf w) d cs ∧ Reps (allOf w) (KR d) cs ∧ cs.length = i.size ∧ (KR d).length = i.size ∧ GoodT tab n t d
theorem KhV (hT : TabOK P tab) {n : Nat} {cs : List Value} (ih : ∀ t cs x, ts.contains t = true → DataW.trod enc P w base spare held n t cs = some x → ∃ d, RdW tab w n t cs d (bulk x.1)) :
    ∀ (gs : List Field) (ys : List (DataW H × List MemPlace)) (off total : Nat), KeG tab ts off (gs.map fun f => (f.type, f.offset)) = some total → total ≤ cs.length → gs.length = ys.length → (∀ (j : Nat) f y, gs[j]? = some f → ys[j]? = some y → DataW.trod enc P w base spare held n f.type ((cs.drop f.offset).take (P.cellsOf f.type)) = some y) →
      off ≤ total ∧ ∃ ds : List D, wts (ds.flatMap KR) ≤ bulkAll (ys.map (·.1)) ∧ ds.length = gs.length ∧ Reps (allOf w) (ds.flatMap KR) ((cs.drop off).take (total - off)) ∧ (ds.flatMap KR).length = total - off ∧ ∀ (j : Nat) (f : Nat × Nat) (d0 : D), (gs.map fun f => (f.type, f.offset))[j]? = some f → ds[j]? = some d0 → GoodT tab n f.1 d0
  | [], ys, off, total, h, _, _, _ => by
    simp [KeG] at h; subst h
    exact ⟨Nat.le_refl _, [], by simp [wts], rfl, by simp [Reps], by simp, fun j f d0 e => by simp at e⟩
  | g :: gs, [], off, total, h, hl, hlen, hy => by simp at hlen
  | g :: gs, y :: ys, off, total, h, hl, hlen, hy => by
    simp only [List.map_cons, KeG] at h
    split at h
    · rename_i i hi
      cases hb : (Nat.beq g.offset off && ts.contains g.type) with
      | false => rw [hb] at h; cases h
      | true =>
        rw [hb] at h
        simp only [cond_true] at h
        simp only [Bool.and_eq_true] at hb
        have ho := Nat.eq_of_beq_eq_true hb.1
        have hy0 := hy 0 g y rfl rfl
        obtain ⟨d, hw, i', hi', h1, h2, h3, h4, h5⟩ := ih _ _ y hb.2 hy0
        rw [hi] at hi'; cases hi'
        obtain ⟨hle, ds, ew, e1, e2, e3, e4⟩ := KhV hT ih gs ys (off + i.size) total h hl (by simpa using hlen) fun j f y' hf hy' => hy (j + 1) f y' (by simpa using hf) (by simpa using hy')
        rw [Kdy hT hi, ho] at h2
        refine ⟨by omega, d :: ds, by simp only [List.flatMap_cons, KfP, KiC, List.map_cons, bulkAll]; omega, by simp [e1], ?_, by simp [h4, e3]; omega, ?_⟩
        · simp only [List.flatMap_cons]
          have := Kdb h2 e2
          have e : (cs.drop off).take i.size ++ (cs.drop (off + i.size)).take (total - (off + i.size)) = (cs.drop off).take (total - off) := by
            rw [show total - off = i.size + (total - (off + i.size)) by omega, List.take_add, List.drop_drop]
          rwa [e] at this
        · intro j f d0 hf hd
          cases j with
          | zero => simp at hf hd; subst hf; subst hd; exact h5
          | succ j => exact e4 j f d0 (by simpa using hf) (by simpa using hd)
    · cases h
theorem KiD {n e sz b off : Nat} {ie : TI} (hie : ti tab e = some ie) (hsz : ie.size = sz) (he : ts.contains e = true) (ih : ∀ t cs x, ts.contains t = true → DataW.trod enc P w base spare held n t cs = some x → ∃ d, RdW tab w n t cs d (bulk x.1)) :
    ∀ (ys : List (DataW H × List MemPlace)) (i0 : Nat), (∀ (j : Nat) y, ys[j]? = some y → ∃ cs, w.cells? base ((⟨b, off, none⟩ : Addr).add ((i0 + j) * sz)) sz = some cs ∧ DataW.trod enc P w base spare held n e cs = some y) →
      ∃ xs : List D, wts xs ≤ bulkAll (ys.map (·.1)) ∧ xs.length = ys.length ∧ Els (allOf w) sz b (off + i0 * sz) xs ∧ ∀ x ∈ xs, GoodT tab n e x
  | [], i0, _ => ⟨[], by simp [wts], rfl, by simp [Els], by simp⟩
  | y :: ys, i0, h => by
    obtain ⟨cs, h1, h2⟩ := h 0 y rfl
    rw [Nat.add_zero] at h1
    obtain ⟨d, hw, i', hi', g1, g2, g3, g4, g5⟩ := ih e cs y he h2
    rw [hie] at hi'; cases hi'
    obtain ⟨xs, fw, f1, f2, f3⟩ := KiD hie hsz he ih ys (i0 + 1) fun j y' hj => by
      have := h (j + 1) y' (by simpa using hj)
      rwa [show i0 + (j + 1) = i0 + 1 + j by omega] at this
    refine ⟨d :: xs, by simp only [wts, List.map_cons, bulkAll]; omega, by simp [f1], ?_, ?_⟩
    · simp only [Els]
      refine ⟨⟨cs, by rw [g3, hsz], g1, fun j u hj => ?_, KdF g2⟩, ?_⟩
      · obtain ⟨_, hlen, hc⟩ := World.cells?_some h1
        have hjl : j < sz := by rw [← hlen]; exact (List.getElem?_eq_some_iff.1 hj).1
        have := hc j hjl
        rw [Kci, Kci] at this
        show w.cell? _ = _
        rw [this]; exact hj
      · rw [show off + i0 * sz + sz = off + (i0 + 1) * sz by rw [Nat.add_mul]; omega]; exact f2
    · intro x hx
      rcases List.mem_cons.1 hx with rfl | hx
      · exact g5
      · exact f3 x hx
theorem rdw_arr {n e sz : Nat} {ie : TI} {cs : List Value} (hie : ti tab e = some ie) (hsz : ie.size = sz) (he : ts.contains e = true) (ih : ∀ t cs x, ts.contains t = true → DataW.trod enc P w base spare held n t cs = some x → ∃ d, RdW tab w n t cs d (bulk x.1)) :
    ∀ (ys : List (DataW H × List MemPlace)) (i0 : Nat), (∀ (j : Nat) y, ys[j]? = some y → DataW.trod enc P w base spare held n e ((cs.drop ((i0 + j) * sz)).take sz) = some y) →
      ∃ ds : List D, wts (ds.flatMap KR) ≤ bulkAll (ys.map (·.1)) ∧ ds.length = ys.length ∧ Reps (allOf w) (ds.flatMap KR) ((cs.drop (i0 * sz)).take (ys.length * sz)) ∧ (ds.flatMap KR).length = ys.length * sz ∧ ∀ x ∈ ds, GoodT tab n e x
  | [], i0, _ => ⟨[], by simp [wts], rfl, by simp [Reps], by simp, by simp⟩
  | y :: ys, i0, h => by
    have h2 := h 0 y rfl
    rw [Nat.add_zero] at h2
    obtain ⟨d, hw, i', hi', g1, g2, g3, g4, g5⟩ := ih e _ y he h2
    rw [hie] at hi'; cases hi'
    obtain ⟨ds, fw, f1, f2, f3, f4⟩ := rdw_arr hie hsz he ih ys (i0 + 1) fun j y' hj => by
      have := h (j + 1) y' (by simpa using hj)
      rwa [show i0 + (j + 1) = i0 + 1 + j by omega] at this
    refine ⟨d :: ds, by simp only [List.flatMap_cons, KfP, KiC, List.map_cons, bulkAll]; omega, by simp [f1], ?_, ?_, ?_⟩
    · simp only [List.flatMap_cons]
      have := Kdb g2 f2
      have e2 : (cs.drop (i0 * sz)).take sz ++ (cs.drop ((i0 + 1) * sz)).take (ys.length * sz) = (cs.drop (i0 * sz)).take ((ys.length + 1) * sz) := by
        rw [show (ys.length + 1) * sz = sz + ys.length * sz by rw [Nat.add_mul]; omega, List.take_add, List.drop_drop, show i0 * sz + sz = (i0 + 1) * sz by rw [Nat.add_mul]; omega]
      rwa [e2] at this
    · simp only [List.flatMap_cons, List.length_append, f3, g4, hsz]
      show sz + ys.length * sz = (ys.length + 1) * sz
      rw [Nat.add_mul]; omega
    · intro x hx
      rcases List.mem_cons.1 hx with rfl | hx
      · exact g5
      · exact f4 x hx
theorem rdw (hT : TabOK P tab) (hc : closedT tab ts = true) : ∀ (n : Nat) (t : TypeId) (cs : List Value) (x : DataW H × List MemPlace), ts.contains t = true → DataW.trod enc P w base spare held n t cs = some x → ∃ d, RdW tab w n t cs d (bulk x.1) := by
  intro n
  induction n with
  | zero => intro t cs x _ h; simp [DataW.trod] at h
  | succ n ih =>
    intro t cs x ht h
    have hok : typeOK tab ts t = true := by
      unfold closedT at hc
      rw [List.all_eq_true] at hc
      exact hc t (by simpa using ht)
    unfold typeOK at hok
    split at hok
    · rename_i i hi
      obtain ⟨tf, z, dd, h1, h2, h3, h4, _⟩ := Kb3 (ti_ok hT hi)
      split at hok
      · rename_i hd
        have hs := Nat.eq_of_beq_eq_true hok
        obtain ⟨b, rfl, rfl⟩ := DataW.trod_bool (by rw [h2, Kfh (h3.trans hd)]) h
        refine ⟨.v (.bool b), by simp [wt, wtv, bulk], i, hi, by simp [RepC], ?_, by simp [hs], by simp [KR, hs], ?_⟩
        · simp only [KR, Reps]; exact ⟨_, _, rfl, ⟨by simp [RepC], rfl, rfl⟩, rfl⟩
        · unfold GoodT; exact ⟨i, hi, by rw [hd]; exact ⟨b, rfl⟩⟩
      · rename_i k hd
        have hs := Nat.eq_of_beq_eq_true hok
        obtain ⟨m, rfl, rfl, hwf⟩ := DataW.trod_int (by rw [h2, Kfj (h3.trans hd)]) h
        refine ⟨.v (.int k m), by simp [wt, wtv, bulk], i, hi, by simp [RepC], ?_, by simp [hs], by simp [KR, hs], ?_⟩
        · simp only [KR, Reps]; exact ⟨_, _, rfl, ⟨by simp [RepC], rfl, rfl⟩, rfl⟩
        · unfold GoodT; exact ⟨i, hi, by rw [hd]; exact ⟨m, rfl, hwf⟩⟩
      · rename_i hd
        have hs := Nat.eq_of_beq_eq_true hok
        obtain ⟨s, rfl, rfl, hwf⟩ := DataW.trod_string (by rw [h2, Kfi (h3.trans hd)]) h
        refine ⟨.v (.string s), by simp [wt, wtv, bulk], i, hi, by simp [RepC], ?_, by simp [hs], by simp [KR, hs], ?_⟩
        · simp only [KR, Reps]; exact ⟨_, _, rfl, ⟨by simp [RepC], rfl, rfl⟩, rfl⟩
        · unfold GoodT; exact ⟨i, hi, by rw [hd]; exact ⟨s, rfl, hwf⟩⟩
      · rename_i e hd
        simp only [Bool.and_eq_true] at hok
        obtain ⟨⟨he, hs⟩, hsz⟩ := hok
        have hs := Nat.eq_of_beq_eq_true hs
        split at hsz
        · rename_i ie hie
          have hsz := Nat.le_of_ble_eq_true hsz
          rcases DataW.trod_slice (by rw [h2, KbP (h3.trans hd)]) h with ⟨rfl, rfl⟩ | ⟨a, len, cap, elems, rest, n', hf, rfl, rfl, hb, hlc, hcm, hel, hcells, _, _⟩
          · have hr : RepC (allOf w) (.lst ie.size [] .no) [.slice none 0 0] := by
              simp only [RepC, CapOK]; exact ⟨_, rfl, trivial, .inl ⟨by trivial, none, 0, rfl, fun _ => rfl⟩⟩
            refine ⟨.lst ie.size [] .no, by simp [wt, wts, bulk], i, hi, hr, ?_, by simp [hs], by simp [KR, hs], ?_⟩
            · simp only [KR, Reps]; exact ⟨_, _, rfl, ⟨hr, rfl, rfl⟩, rfl⟩
            · unfold GoodT; exact ⟨i, hi, by rw [hd]; exact ⟨ie, [], hie, rfl, by simp, by simp⟩⟩
          · have : n' = n := by omega
            subst this
            rw [Kdy hT hie] at hcells
            rcases Nat.eq_zero_or_pos len with hz | hpos
            · subst hz
              have hr : RepC (allOf w) (.lst ie.size [] .no) [.slice (some a) 0 cap] := by
                simp only [RepC, CapOK]; exact ⟨_, rfl, trivial, .inl ⟨by trivial, some a, cap, rfl, fun q => by cases q⟩⟩
              refine ⟨.lst ie.size [] .no, by simp [wt, wts, bulk], i, hi, hr, ?_, by simp [hs], by simp [KR, hs], ?_⟩
              · simp only [KR, Reps]; exact ⟨_, _, rfl, ⟨hr, rfl, rfl⟩, rfl⟩
              · unfold GoodT; exact ⟨i, hi, by rw [hd]; exact ⟨ie, [], hie, rfl, by simp, by simp⟩⟩
            · have hsome : ∀ j, j < len → ∃ cs y, w.cells? base (a.add (j * ie.size)) ie.size = some cs ∧ DataW.trod enc P w base spare held n' e cs = some y := by
                intro j hj
                have hj2 := hcells j hj
                rw [List.getElem?_eq_getElem (by omega)] at hj2
                rw [Option.bind_eq_some_iff] at hj2
                obtain ⟨cs, q1, q2⟩ := hj2
                exact ⟨cs, _, q1, q2⟩
              have hspot : a.spot = none := by
                obtain ⟨cs, y, q1, _⟩ := hsome 0 hpos
                obtain ⟨_, hlen, hcc⟩ := World.cells?_some q1
                have q2 := hcc 0 (by omega)
                rw [List.getElem?_eq_getElem (by omega)] at q2
                have q3 : (a.add (0 * ie.size)).add 0 = a := by simp [Addr.add]
                rw [q3] at q2
                cases hsp : a.spot with
                | none => rfl
                | some s =>
                  unfold World.cell? at q2
                  split at q2
                  · simp [hsp] at q2
                  · cases q2
              obtain ⟨b, off, sp⟩ := a
              simp only at hspot; subst hspot
              have hel2 : elems.length = len := hel
              obtain ⟨xs, fw, f1, f2, f3⟩ := KiD (spare := spare) (held := held) (enc := enc) (P := P) (base := base) (b := b) (off := off) hie rfl he ih elems 0 fun j y hj => by
                have hjl := (List.getElem?_eq_some_iff.1 hj).1
                have hj2 := hcells j (by omega)
                rw [hj, Option.bind_eq_some_iff] at hj2
                obtain ⟨cs, q1, q2⟩ := hj2
                rw [Nat.zero_add]
                exact ⟨cs, q1, q2⟩
              rw [hel2] at f1
              have hr : RepC (allOf w) (.lst ie.size xs .no) [.slice (some ⟨b, off, none⟩) len cap] := by
                simp only [RepC, CapOK]
                refine ⟨_, rfl, trivial, .inr ⟨b, off, cap, by rw [f1], by rw [f1]; exact hlc, by simpa using f2⟩⟩
              refine ⟨.lst ie.size xs .no, by simp only [wt, bulk]; omega, i, hi, hr, ?_, by simp [hs], by simp [KR, hs], ?_⟩
              · simp only [KR, Reps]; exact ⟨_, _, rfl, ⟨hr, rfl, rfl⟩, rfl⟩
              · unfold GoodT; exact ⟨i, hi, by rw [hd]; exact ⟨ie, xs, hie, rfl, by rw [f1]; omega, f3⟩⟩
        · cases hsz
      · rename_i fs hd
        split at hok
        · rename_i tot hfo
          have hs := Nat.eq_of_beq_eq_true hok
          obtain ⟨gs, e1, e2⟩ := Kcr (h3.trans hd)
          obtain ⟨xs, n', hf, rfl, hl, hxl, hx⟩ := DataW.trod_struct (by rw [h2, e1]) h
          have : n' = n := by omega
          subst this
          rw [Kdy hT hi] at hl
          obtain ⟨_, ds, fw, f1, f2, f3, f4⟩ := KhV hT (cs := cs) ih gs.toList xs 0 tot (by rw [e2]; exact hfo) (by omega) (by rw [hxl]; simp) fun j f y hj hy => by
            have hj' : gs[j]? = some f := by simpa using hj
            rw [hx j f hj', hy]
          simp only [List.drop_zero, Nat.sub_zero] at f2 f3
          rw [List.take_of_length_le (by omega)] at f2
          refine ⟨.agg (ds.flatMap KR), by simp only [wt, bulk]; omega, i, hi, by simp only [RepC]; exact f2, f2, hl, by simp only [KR]; omega, ?_⟩
          unfold GoodT
          exact ⟨i, hi, by rw [hd]; exact ⟨ds, rfl, by rw [f1, ← e2]; simp, fun j f d0 q1 q2 => f4 j f d0 (by rw [e2]; exact q1) q2⟩⟩
        · cases hok
      · rename_i m e hd
        simp only [Bool.and_eq_true] at hok
        obtain ⟨he, hsz⟩ := hok
        split at hsz
        · rename_i ie hie
          have hsz := Nat.eq_of_beq_eq_true hsz
          obtain ⟨xs, n', hf, rfl, hl, hxl, hx⟩ := DataW.trod_array (by rw [h2, Khe (h3.trans hd)]) h
          have : n' = n := by omega
          subst this
          rw [Kdy hT hi] at hl
          rw [Kdy hT hie] at hx
          obtain ⟨ds, fw, f1, f2, f3, f4⟩ := rdw_arr (cs := cs) hie rfl he ih xs 0 fun j y hj => by
            have hjl := (List.getElem?_eq_some_iff.1 hj).1
            rw [Nat.zero_add, hx j (by omega), hj]
          rw [hxl] at f1 f2 f3
          simp only [Nat.zero_mul, List.drop_zero] at f2
          rw [List.take_of_length_le (by omega)] at f2
          refine ⟨.agg (ds.flatMap KR), by simp only [wt, bulk]; omega, i, hi, by simp only [RepC]; exact f2, f2, hl, by simp only [KR]; omega, ?_⟩
          unfold GoodT
          exact ⟨i, hi, by rw [hd]; exact ⟨ds, rfl, f1, f4⟩⟩
        · cases hsz
      · cases hok
    · cases hok
theorem rdw_arg {v : Value} {x : DataW H} {ps : List MemPlace} {r : Reach} {b0 t : Nat} (hT : TabOK P tab) (ts : List Nat) (hc : closedT tab ts = true) (ht : ts.contains t = true)
  (hv : Value.okWide P w r b0 t v) (h : DataW.Trod enc P w base spare held t v x ps) : ∃ n d, GoodT tab n t d ∧ Rep (allOf w) d v ∧ wt d ≤ bulk x := by
 obtain ⟨n, hn⟩ := h
 obtain ⟨d, hw, i, h1, h2, h3, h4, h5, h6⟩ := rdw hT hc n t _ _ ht hn
 exact ⟨n, d, h6, ⟨h2, shape_of hT hv h6⟩, hw⟩
end
end Go.Proofs.YtnfkijcmakgkmaaGreat.Ab
namespace Go.Proofs.YtnfkijcmakgkmaaGreat.Ab
open Go
set_option linter.all false
section
variable {α β : Type} [DecidableEq α]
def mget : List (α × β) → α → Option β
 | [], _ => none
 | (a, b) :: l, k => if a = k then some b else mget l k
def mput : List (α × β) → α → β → List (α × β)
 | [], k, v => [(k, v)]
 | (a, b) :: l, k, v => if a = k then (k, v) :: l else (a, b) :: mput l k v
def mgetD (l : List (α × β)) (k : α) (z : β) : β := (mget l k).getD z
def ffind : List α → α → List MapEntry → Nat → Option (Nat × Value)
 | a :: ks, k, e :: me, i => if a = k then some (i, e.val) else ffind ks k me (i + 1)
 | _, _, _, _ => none
end
structure KeyOK (P : Program) (kt : TypeId) {α : Type} [DecidableEq α] (f : α → Value) : Prop where
 find : ∀ (w : World) (k : α) (me : List MapEntry) (ks : List α), me.map (·.key) = ks.map f → (Instr.findKey kt (f k) me).run P w = .ok (ffind ks k me 0) w
 check : ∀ (w : World) (e : Bool) (k : α), (Instr.checkKey e 10000 kt (f k)).run P w = .ok () w
 stays : ∀ (w : World) (k : α), (Instr.keyThatStays (f k) (f k)).run P w = .ok (f k) w
section
variable {α β : Type} [DecidableEq α] {f : α → Value} {e : β → D} {H : Hp}
theorem Kge : ∀ {l : List (α × β)} {me : List MapEntry}, MapR H (l.map fun p => (f p.1, e p.2)) me → me.map (·.key) = (l.map (·.1)).map f
  | [], me, h => by simp [MapR] at h; subst h; rfl
  | p :: l, me, h => by
    simp only [List.map_cons, MapR] at h
    obtain ⟨m, me', rfl, h1, _, h2⟩ := h
    simp only [List.map_cons, h1, Kge h2]
theorem Kgf (k : α) : ∀ {l : List (α × β)} {me : List MapEntry} (i : Nat), MapR H (l.map fun p => (f p.1, e p.2)) me →
    (mget l k = none ∧ ffind (l.map (·.1)) k me i = none ∧ ∀ (v : β) (y : Value) (b : Nat), Rep H (e v) y → MapR H ((mput l k v).map fun p => (f p.1, e p.2)) (me ++ [⟨f k, y, b⟩])) ∨
    ∃ j b m, mget l k = some b ∧ ffind (l.map (·.1)) k me i = some (i + j, m.val) ∧ Rep H (e b) m.val ∧ me[j]? = some m ∧ m.key = f k ∧ ∀ (v : β) (y : Value), Rep H (e v) y → MapR H ((mput l k v).map fun p => (f p.1, e p.2)) (me.modify j fun x => { x with key := f k, val := y })
  | [], me, i, h => by
    simp [MapR] at h; subst h
    refine .inl ⟨rfl, rfl, fun v y b hy => ?_⟩
    simp only [mput, List.map_cons, List.map_nil, MapR, List.nil_append]
    exact ⟨_, _, rfl, rfl, hy, rfl⟩
  | p :: l, me, i, h => by
    simp only [List.map_cons, MapR] at h
    obtain ⟨m, me', rfl, h1, h2, h3⟩ := h
    by_cases q : p.1 = k
    · refine .inr ⟨0, p.2, m, by unfold mget; rw [if_pos q], by simp only [List.map_cons, ffind]; rw [if_pos q]; rfl, h2, rfl, by rw [h1, q], fun v y hy => ?_⟩
      simp only [mput, if_pos q, List.map_cons, MapR, List.modify_zero_cons]
      exact ⟨_, _, rfl, rfl, hy, h3⟩
    · rcases Kgf k (i + 1) h3 with ⟨g1, g2, g3⟩ | ⟨j, b, m', g1, g2, g3, g4, g5, g6⟩
      · refine .inl ⟨by unfold mget; rw [if_neg q]; exact g1, by simp only [List.map_cons, ffind]; rw [if_neg q]; exact g2, fun v y b hy => ?_⟩
        simp only [mput, if_neg q, List.map_cons, MapR, List.cons_append]
        exact ⟨_, _, rfl, h1, h2, g3 v y b hy⟩
      · refine .inr ⟨j + 1, b, m', by unfold mget; rw [if_neg q]; exact g1, by simp only [List.map_cons, ffind]; rw [if_neg q, g2]; congr 2; omega, g3, by simpa using g4, g5, fun v y hy => ?_⟩
        simp only [mput, if_neg q, List.map_cons, MapR, List.modify_succ_cons]
        exact ⟨_, _, rfl, h1, h2, g6 v y hy⟩
end
theorem Core.allocMap {C : Ctx} {H : Hp} {h : List (Nat × Blk)} {k : List (Nat × Value)} {w : World} (c : Core C H h k w) :
  Core C H ((w.heap.size, .mp []) :: h) k (w.alloc (.map #[] 0)) := by
 have c0 : Core ⟨H, w, []⟩ H [(w.heap.size, .mp [])] [] (w.alloc (.map #[] 0)) := by
  refine ⟨fun a v e => KcZ _ (c.ag a v e), Hp.le_refl H, fun _ _ x => .inl x, fun b hb _ => ?_, ?_, ?_, by simp, ?_, ?_, ⟨rfl, rfl, rfl, Nat.le_refl _⟩⟩
  ·rw [Kaq, if_neg (by exact Nat.ne_of_lt hb)]
  ·rw [size_alloc]; exact Nat.le_succ _
  ·intro p hp
   simp only [List.mem_singleton] at hp; subst hp
   refine ⟨#[], 0, by rw [Kaq, if_pos rfl], rfl, fun o => ?_⟩
   cases e : H ⟨w.heap.size, o, none⟩ with
   | none => rfl
   | some v => exact absurd (c.ag.lt e) (Nat.lt_irrefl _)
  ·simp [Ks, KN]
  ·intro b hb
   simp [Ks, KN] at hb; subst hb
   exact .inr (Nat.le_refl _)
 exact Core.call (h1 := []) (k1 := []) (h2 := h) (k2 := k) c c0
theorem Core.setMap {C : Ctx} {H : Hp} {h : List (Nat × Blk)} {k : List (Nat × Value)} {w : World} (c : Core C H h k w) {j b : Nat} {es es' : List (Value × D)} {me : Array MapEntry} {ck : Nat} (hj : h[j]? = some (b, .mp es))
  (hr : MapR H es' me.toList) : Core C H (h.set j (b, .mp es')) k { w with heap := w.heap.setIfInBounds b (.map me ck) } := by
 have hlt : j < h.length := (List.getElem?_eq_some_iff.1 hj).1
 have p1 : h.Perm ([(b, .mp es)] ++ h.eraseIdx j) := KF hj
 have c1 := c.perm p1 (List.Perm.refl k)
 obtain ⟨me0, ck0, h1, h2, h3⟩ := c.blks _ (List.mem_of_getElem? hj)
 have hs := MapKept.heap_set (w := w) (o' := .map me ck) h1
 have c2 : Core ⟨H, w, Ks [(b, Blk.mp es)] []⟩ H [(b, .mp es')] [] { w with heap := w.heap.setIfInBounds b (.map me ck) } := by
  refine ⟨fun a v e => ?_, Hp.le_refl H, fun _ _ x => .inl x, fun i _ hm => hs.2 i (by simpa [Ks, KN] using hm), by simp, ?_, by simp, by simp [Ks, KN], ?_, ⟨rfl, rfl, rfl, Nat.le_refl _⟩⟩
  ·have hne : a.block ≠ b := fun e2 => by
    obtain ⟨ab, ao, sp0⟩ := a
    simp only at e2; subst e2
    have hc := c.ag _ _ e
    cases sp0 with
    | none => rw [h3] at e; cases e
    | some s => simp [World.cell?, h1] at hc
   have := c.ag a v e
   simp only [World.cell?] at this ⊢
   rw [hs.2 _ hne]; exact this
  ·intro p hp
   simp only [List.mem_singleton] at hp; subst hp
   exact ⟨me, ck, hs.1, hr, h3⟩
  ·intro x hx
   exact .inl (by simpa [Ks, KN] using hx)
 have c3 := Core.call (h1 := [(b, .mp es)]) (k1 := []) (h2 := h.eraseIdx j) (k2 := k) (by simpa using c1) c2
 refine c3.perm ?_ (by simp)
 have p2 : (h.set j (b, Blk.mp es'))[j]? = some (b, Blk.mp es') := by rw [List.getElem?_set_self hlt]
 have p3 := KF p2
 rw [List.eraseIdx_set_eq] at p3
 exact p3.symm
section
variable {P : Program} {C : Ctx} {N : Nat} {ops rest : List Oper} {o : Oper} {t : List (Nat × D)} {h : List (Nat × Blk)} {k : List (Nat × Value)} {Q : Exit → S → Prop} {tab : List (Option TI)}
theorem run_zv {w : World} {t : TypeId} {z : Value} (h : (P.info? t).bind (·.zero) = some z) : (Go.zeroValue t).run P w = .ok z w := by
  cases hi : P.info? t with
  | none => rw [hi] at h; cases h
  | some i =>
    rw [hi] at h
    have ht : (Go.typeInfo t).run P w = .ok i w := by
      unfold Go.typeInfo Go.program
      rw [Kl (a := P) rfl, hi]; rfl
    unfold Go.zeroValue
    rw [Kl ht]
    simp only [Option.bind_some] at h
    rw [h]; rfl
section
variable {α β : Type} [DecidableEq α] {f : α → Value} {e : β → D}
end
end
end Go.Proofs.YtnfkijcmakgkmaaGreat.Ab
namespace Go.Proofs.YtnfkijcmakgkmaaGreat.Ab
open Go
set_option linter.all false
theorem KbR (H : Hp) : ∀ us : List Value, us.all one = true → Reps H (us.map .v) us
  | [], _ => rfl
  | u :: us, h => by
    simp only [List.all_cons, Bool.and_eq_true] at h
    simp only [List.map_cons, Reps]
    exact ⟨u, us, rfl, ⟨by simp [RepC], h.1, rfl⟩, KbR H us h.2⟩
theorem Kcb {H : Hp} : ∀ {us vs : List Value}, Reps H (us.map .v) vs → vs = us
  | [], vs, h => h
  | u :: us, vs, h => by
    simp only [List.map_cons, Reps] at h
    obtain ⟨v, vs', rfl, ⟨h1, _⟩, h2⟩ := h
    simp only [RepC, List.cons.injEq, and_true] at h1
    rw [h1, Kcb h2]
theorem rep_va (H : Hp) {us : List Value} (h : us.all one = true) : Rep H (.agg (us.map .v)) (.agg us.toArray) :=
 ⟨by simpa [RepC, Value.cells] using KbR H us h, rfl⟩
def keyF (tab : List (Option TI)) (us : List Value) (g : Nat × Nat) : Bool :=
  match ti tab g.1, us[g.2]? with
  | some i, some x => match i.d, x with
    | .int k, .int k' _ => keq k k'
    | .bool, .bool _ => true
    | .str, .string _ => true
    | _, _ => false
  | _, _ => false
theorem keyF_ok {P : Program} {w : World} {tab : List (Option TI)} (hT : TabOK P tab) {us : List Value} (h1 : us.all one = true) {g : Nat × Nat} (h : keyF tab us g = true) (e : Bool) (n : Nat) :
  ∃ v, (Go.part g.1 us.toArray g.2).run P w = .ok v w ∧ (Instr.checkKey e (n + 1) g.1 v).run P w = .ok () w := by
 unfold keyF at h
 split at h
 ·rename_i i x hi hx
  have hag : i.agg = false := by
   unfold TI.agg
   split at h <;> first | (rename_i hd; rw [hd]) | cases h
  obtain ⟨v, p1, q1⟩ := KcL (P := P) (w := w) (H := fun _ => none) (ti_ok hT hi) (KbR _ us h1) (d := .v x) (off := g.2) (by simp [partD, hag, hx])
  have e1 := K4 q1; subst e1
  refine ⟨v, p1, ?_⟩
  obtain ⟨ti', z, dd, h3, h4, h5, _⟩ := Kb3 (ti_ok hT hi)
  split at h
  ·rename_i k k' a hd
   have := keq_eq h; subst this
   exact MapKept.run_checkKey (by rw [h4, Kfj (h5.trans hd)]) (k := .int k a) (by simp [MapKept.IsKey]) e n
  ·rename_i a hd
   exact MapKept.run_checkKey (by rw [h4, Kfh (h5.trans hd)]) (k := .bool a) (by simp [MapKept.IsKey]) e n
  ·rename_i a hd
   exact MapKept.run_checkKey (by rw [h4, Kfi (h5.trans hd)]) (k := .string a) (by simp [MapKept.IsKey]) e n
  ·cases h
 ·cases h
theorem Ki2 {P : Program} {w : World} {tab : List (Option TI)} (hT : TabOK P tab) {kt : TypeId} {ti0 : TI} {fs : List (Nat × Nat)} (hti : ti tab kt = some ti0) (hfs : ti0.d = .struct fs) {us : List Value} (h1 : us.all one = true)
    (hk : fs.all (keyF tab us) = true) (e : Bool) (n : Nat) : (Instr.checkKey e (n + 2) kt (.agg us.toArray)).run P w = .ok () w := by
  obtain ⟨dd, g1, g2⟩ := run_underlying (w := w) (ti_ok hT hti)
  obtain ⟨gs, rfl, h8⟩ := Kcr (g2.trans hfs)
  rw [show n + 2 = (n + 1) + 1 from rfl, Instr.checkKey]
  simp only [Sem.run_bind, g1, Result.andThen_ok]
  rw [← Array.forIn_toList]
  generalize gs.toList = L at h8
  clear g1 g2 hfs hti
  induction L generalizing fs with
  | nil => simp
  | cons f L ih =>
    subst h8
    simp only [List.map_cons, List.all_cons, Bool.and_eq_true] at hk
    obtain ⟨v, p1, p2⟩ := keyF_ok (w := w) hT h1 hk.1 e n
    simp only at p1 p2
    by_cases hn : f.name = "_"
    · simp only [List.forIn_cons, Sem.run_bind, hn, ne_eq, not_true_eq_false, if_false, Result.andThen_ok, Sem.run_pure]
      exact ih hk.2 rfl
    · simp only [List.forIn_cons, Sem.run_bind, hn, ne_eq, not_false_eq_true, if_true, Result.andThen_ok, p1, p2, Sem.run_pure]
      exact ih hk.2 rfl
theorem Ki3 {P : Program} {w : World} {us : List Value} (h : us.all (fun x => match x with | .int _ _ => true | .bool _ => true | .string _ => true | _ => false) = true) :
    (Instr.keyThatStays (.agg us.toArray) (.agg us.toArray)).run P w = .ok (.agg us.toArray) w := by
  have hb : Instr.sameBits 10000 (.agg us.toArray) (.agg us.toArray) = true := by
    show Instr.sameBits (9999 + 1) _ _ = true
    simp only [Instr.sameBits, beq_self_eq_true, Bool.true_and, List.all_eq_true]
    intro p hp
    have : p.1 = p.2 ∧ p.1 ∈ us := by
      clear h
      generalize us = l at hp
      induction l with
      | nil => simp at hp
      | cons a l ih =>
        simp only [List.zip_cons_cons, List.mem_cons] at hp
        rcases hp with rfl | hp
        · simp
        · obtain ⟨e1, e2⟩ := ih hp
          exact ⟨e1, by simp [e2]⟩
    obtain ⟨e1, e2⟩ := this
    have hx := List.all_eq_true.1 h _ e2
    rw [← e1]
    cases hq : p.1 <;> rw [hq] at hx <;> simp at hx
    · exact MapKept.sameBits_self (d := .bool) (by simp [MapKept.IsKey]) _
    · exact MapKept.sameBits_self (d := .int _) (by simp [MapKept.IsKey]; rfl) _
    · exact MapKept.sameBits_self (d := .string) (by simp [MapKept.IsKey]) _
  unfold Instr.keyThatStays
  rw [hb]; rfl
theorem Kg1 {P : Program} {w : World} {kt : TypeId} {α : Type} [DecidableEq α] {f : α → Value} (k : α) (heq : ∀ a, (Op.equal kt (f k) (f a)).run P w = .ok (decide (a = k)) w) :
    ∀ (ks : List α) (me : List MapEntry) (i : Nat), me.map (·.key) = ks.map f → (Instr.findAsking kt (f k) me i).run P w = .ok (ffind ks k me i) w
  | [], me, i, e => by simp at e; subst e; rfl
  | a :: ks, [], i, e => by cases e
  | a :: ks, m :: me, i, e => by
    simp only [List.map_cons, List.cons.injEq] at e
    unfold Instr.findAsking ffind
    rw [e.1, Kl (heq a)]
    by_cases q : a = k
    · rw [decide_eq_true q, if_pos q]; rfl
    · rw [decide_eq_false q, if_neg q]
      exact Kg1 k heq ks me (i + 1) e.2
theorem struct_key {P : Program} {tab : List (Option TI)} {kt : TypeId} {α : Type} [DecidableEq α] {g : α → List Value} {ti0 : TI} {fs : List (Nat × Nat)} (hT : TabOK P tab) (hE : EqT P kt) (hti : ti tab kt = some ti0) (hfs : ti0.d = .struct fs)
  (h1 : ∀ a, (g a).all (fun x => match x with | .int _ _ => true | .bool _ => true | .string _ => true | _ => false) = true) (h2 : ∀ a, fs.all (keyF tab (g a)) = true)
  (h3 : ∀ a b, eqL tab fs ((g a).map .v) ((g b).map .v) = some (decide (b = a))) : KeyOK P kt (fun a => .agg (g a).toArray) := by
 have ho : ∀ a, (g a).all one = true := fun a => by
  have := h1 a
  rw [List.all_eq_true] at this ⊢
  intro x hx
  have := this x hx
  cases x <;> simp at this <;> rfl
 refine ⟨fun w k me ks e => ?_, fun w e k => Ki2 hT hti hfs (ho k) (h2 k) e 9998, fun w k => Ki3 (h1 k)⟩
 obtain ⟨ti', z, dd', h5, h6, h7, _⟩ := Kb3 (ti_ok hT hti)
 obtain ⟨gs, rfl, h8⟩ := Kcr (h7.trans hfs)
 have hf : P.fieldsOf kt = gs := by unfold Program.fieldsOf; rw [h6]
 rw [run_findKey_eq w (by rw [h6])]
 refine Kg1 k (fun a => ?_) ks me 0 e
 show (Op.equalIn (9999 + 1) kt _ _).run P w = _
 rw [run_equalIn_struct w 9999 kt _ _ (by rw [h6, hf]) hE.stood]
 have hn := hE.names
 rw [hf] at hn ⊢
 exact eqL_ok (H := fun _ => none) hT (KbR _ _ (ho k)) (KbR _ _ (ho a)) 9998 gs.toList fs _ h8 hn (h3 k a)
section
variable {P : Program} {C : Ctx} {o : Oper} {t : List (Nat × D)} {h : List (Nat × Blk)} {k : List (Nat × Value)} {tab : List (Option TI)} {α β : Type} [DecidableEq α] {f : α → Value} {e : β → D}
end
end Go.Proofs.YtnfkijcmakgkmaaGreat.Ab
namespace Go.Proofs.YtnfkijcmakgkmaaGreat.Ab
open Go Go.RowKit Go.Shelf Go.Lib Go.Proofs
set_option linter.all false
theorem Kdz {P : Program} {w : World} {dT sT ty elem : TypeId} {k b o dLen dCap n' : Nat} {src : Value} {cs A : List Value} {T : TypeId} (hu : P.underlying dT = some (.slice elem)) (hs : (P.info? elem).map (·.size) = some k)
    (hlen : (Builtin.lenOf src).run P w = .ok n' w) (hcs : (Builtin.firstCells k (Nat.min n' dLen) src).run P w = .ok cs.toArray w) (hb : w.heap[b]? = some (.cells A.toArray T (0, 0))) (hfit : o + cs.length ≤ A.length) (h1 : ∀ v ∈ cs, one v = true) :
    ∃ w', (Builtin.copy_ #[dT, sT] ty #[.slice (some ⟨b, o, none⟩) dLen dCap, src]).run P w = .ok (goInt (Nat.min n' dLen)) w' ∧ Env w w' ∧ w'.heap.size = w.heap.size ∧ (∀ j, j ≠ b → w'.heap[j]? = w.heap[j]?) ∧
      w'.heap[b]? = some (.cells (A.take o ++ (cs ++ A.drop (o + cs.length))).toArray T (0, 0)) := by
  obtain ⟨w', s1, s2, s3, s4, s5⟩ := KbG (P := P) (b := b) (off := o) (T := T) cs 0 w A hb (by omega) h1
  refine ⟨w', ?_, s2, s3, s4, by simpa using s5⟩
  cases hq : P.info? elem with
  | none => simp [hq] at hs
  | some i =>
    have hi : i.size = k := by simpa [hq] using hs
    have hsz : (Go.sizeOf elem).run P w = .ok k w := by simp [sizeOf, typeInfo, hq, hi]
    unfold Builtin.copy_
    simp only [List.getElem?_toArray, List.getElem?_cons_zero, List.getElem?_cons_succ]
    rw [Kl (_root_.Go.run_underlying hu w)]
    simp only []
    rw [Kl hlen]
    rw [Kl hsz, Kl hcs]
    simp only []
    rw [Kl s1]
    rfl
def insAt (xs : List Ka) (i : Int) (x : Ka) : List Ka := xs.take i.toNat ++ x :: xs.drop i.toNat
def insPre (xs : List Ka) (i : Int) : Bool := decide (0 ≤ i) && decide (i ≤ xs.length) && decide (xs.length < 4398046511104)
def kc2 (x : Ka) : List Value := [.string x.gName, .int .i64 x.gNode]
theorem flat_k {H : Hp} : ∀ {xs : List Ka} {us : List Value}, FlatR H 2 (xs.map Kf) us → us = xs.flatMap kc2
  | [], us, h => h
  | x :: xs, us, h => by
    simp only [List.map_cons, FlatR] at h
    obtain ⟨u1, u2, rfl, hl, ⟨h1, _⟩, h2⟩ := h
    rw [flat_k h2]
    simp only [Kf, RepC, Reps] at h1
    obtain ⟨a, us', e, ⟨e1, _⟩, b, us'', e', ⟨e1', _⟩, e2⟩ := h1
    simp only [List.cons.injEq, and_true] at e1 e1'
    subst e; subst e'; subst e2; subst e1; subst e1'
    rfl
theorem KcA {H : Hp} : ∀ (xs : List Ka), FlatR H 2 (xs.map Kf) (xs.flatMap kc2)
 | [] => rfl
 | x :: xs => ⟨kc2 x, xs.flatMap kc2, rfl, rfl, ⟨by simp only [Kf, RepC]; exact KbR H (kc2 x) rfl, by simp [kc2, one]⟩, KcA xs⟩
theorem KaK (xs : List Ka) : (xs.flatMap kc2).length = xs.length * 2 := by
 induction xs with
 | nil => rfl
 | cons x xs ih => simp [ih, kc2]; omega
theorem kc2_one (xs : List Ka) : ∀ v ∈ xs.flatMap kc2, one v = true := by
 intro v hv
 rw [List.mem_flatMap] at hv
 obtain ⟨x, _, h⟩ := hv
 simp [kc2] at h; rcases h with rfl | rfl <;> rfl
theorem KeH (xs : List Ka) (i : Nat) : (xs.flatMap kc2).take (i * 2) = (xs.take i).flatMap kc2 := by
  induction xs generalizing i with
  | nil => simp
  | cons x xs ih => cases i with
    | zero => simp
    | succ i => rw [show (i + 1) * 2 = i * 2 + 1 + 1 by omega]; simp [kc2, ih]
theorem Khq (xs : List Ka) (i : Nat) : (xs.flatMap kc2).drop (i * 2) = (xs.drop i).flatMap kc2 := by
  induction xs generalizing i with
  | nil => simp
  | cons x xs ih => cases i with
    | zero => simp
    | succ i => rw [show (i + 1) * 2 = i * 2 + 1 + 1 by omega]; simp [kc2, ih]
theorem Khr {H : Hp} {w w' : World} {b c : Nat} {xs : List Ka} {rest : List Value} {T : TypeId} {M : List Nat} (hA : Ag H w) (he : Env w w') (hs : w.heap.size ≤ w'.heap.size) (ho : ∀ j, j < w.heap.size → j ∉ M → w'.heap[j]? = w.heap[j]?)
  (hM : ∀ j ∈ M, ∀ o, H ⟨j, o, none⟩ = none) (hMc : ∀ j ∈ M, ∃ cs T', w.heap[j]? = some (.cells cs T' (0, 0))) (hb : w'.heap[b]? = some (.cells (xs.flatMap kc2 ++ rest).toArray T (0, 0))) (hbM : b ∈ M ∨ w.heap.size ≤ b) (hc : xs.length ≤ c) (h0 : 0 < c) (hr : c * 2 ≤ (xs.flatMap kc2 ++ rest).length) :
  Core ⟨H, w, M⟩ H [(0, .row 2 (xs.map Kf) (SL (some ⟨b, 0, none⟩, xs.length, c)))] [] w' := by
 have hHb : ∀ o, H ⟨b, o, none⟩ = none := fun o => by
  rcases hbM with h | h
  ·exact hM b h o
  ·cases e : H ⟨b, o, none⟩ with
   | none => rfl
   | some v => exact absurd (hA.lt e) (by show ¬ b < _; omega)
 refine ⟨fun a v e => ?_, Hp.le_refl H, fun _ _ x => .inl x, ho, hs, ?_, by simp, ?_, ?_, he⟩
 ·have hcell := hA a v e
  have hlt := hA.lt e
  by_cases q : a.block ∈ M
  ·obtain ⟨cs, T', hh⟩ := hMc _ q
   obtain ⟨ab, ao, sq⟩ := a
   cases sq with
   | some sp => simp [World.cell?, hh] at hcell
   | none => rw [hM _ q ao] at e; cases e
  ·simp only [World.cell?] at hcell ⊢
   rw [ho _ hlt q]; exact hcell
 ·intro p hp
  simp only [List.mem_singleton] at hp; subst hp
  exact .inr ⟨b, c, xs.flatMap kc2, rest, T, by simp [SL], by simpa using hc, h0, hb, KcA xs, hr, hHb⟩
 ·simp [Ks, KN, K2, h0]
 ·intro x hx; simp [Ks, KN, K2, h0] at hx; subst hx; exact hbM
end Go.Proofs.YtnfkijcmakgkmaaGreat.Ab
namespace Go.Proofs.YtnfkijcmakgkmaaGreat.Ab
open Go
set_option linter.all false
section
variable {α : Type} {R : α → α → Prop}
def Rise (R : α → α → Prop) (l : List α) : Prop := l.Pairwise fun a b => R a b ∧ a ≠ b
theorem KcD (an : ∀ a b, R a b → R b a → a = b) : ∀ {l m : List α}, Rise R l → Rise R m → (∀ x, x ∈ l ↔ x ∈ m) → l = m
  | [], [], _, _, _ => rfl
  | [], y :: m, _, _, h => by have := (h y).2 (by simp); cases this
  | x :: l, [], _, _, h => by have := (h x).1 (by simp); cases this
  | x :: l, y :: m, hl, hm, h => by
    unfold Rise at hl hm
    rw [List.pairwise_cons] at hl hm
    have hxy : x = y := by
      rcases List.mem_cons.1 ((h x).1 (by simp)) with e | e
      · exact e
      · rcases List.mem_cons.1 ((h y).2 (by simp)) with e2 | e2
        · exact e2.symm
        · exact an _ _ (hl.1 _ e2).1 (hm.1 _ e).1
    subst hxy
    congr 1
    refine KcD an hl.2 hm.2 fun z => ?_
    constructor
    · intro hz
      rcases List.mem_cons.1 ((h z).1 (List.mem_cons_of_mem _ hz)) with e | e
      · exact absurd e.symm (hl.1 _ hz).2
      · exact e
    · intro hz
      rcases List.mem_cons.1 ((h z).2 (List.mem_cons_of_mem _ hz)) with e | e
      · exact absurd e.symm (hm.1 _ hz).2
      · exact e
variable [Inhabited α] [DecidableEq α]
theorem Kfp (tr : ∀ a b c, R a b → R b c → R a c) (re : ∀ a, R a a) (an : ∀ a b, R a b → R b a → a = b) (d : Array α) (hs : ∀ i j, i < j → j < d.size → R d[i]! d[j]!) : ∀ m, m ≤ d.size →
    Rise R (Lib.compactUpTo d m) ∧ (∀ x, x ∈ Lib.compactUpTo d m ↔ ∃ j, j < m ∧ x = d[j]!)
  | 0, _ => ⟨by simp [Rise, Lib.compactUpTo], by simp [Lib.compactUpTo]⟩
  | m + 1, h => by
    obtain ⟨h1, h2⟩ := Kfp tr re an d hs m (by omega)
    rw [Lib.compactUpTo_succ]
    by_cases k : Lib.keeps d m = true
    · rw [if_pos k]
      refine ⟨?_, fun x => ?_⟩
      · unfold Rise at h1 ⊢
        rw [List.pairwise_append]
        refine ⟨h1, by simp, fun a ha b hb => ?_⟩
        simp only [List.mem_singleton] at hb; subst hb
        obtain ⟨j, hj, rfl⟩ := (h2 a).1 ha
        refine ⟨hs j m hj (by omega), fun e => ?_⟩
        have hk : m = 0 ∨ d[m]! ≠ d[m - 1]! := by simpa [Lib.keeps] using k
        rcases hk with hk | hk
        · omega
        · refine hk (an _ _ ?_ (hs (m - 1) m (by omega) (by omega)))
          rw [← e]
          by_cases hjm : j = m - 1
          · subst hjm; exact re _
          · exact hs j (m - 1) (by omega) (by omega)
      · rw [List.mem_append, h2 x, List.mem_singleton]
        constructor
        · rintro (⟨j, hj, rfl⟩ | rfl)
          · exact ⟨j, by omega, rfl⟩
          · exact ⟨m, by omega, rfl⟩
        · rintro ⟨j, hj, rfl⟩
          by_cases hjm : j = m
          · subst hjm; exact .inr rfl
          · exact .inl ⟨j, by omega, rfl⟩
    · rw [if_neg k, List.append_nil]
      refine ⟨h1, fun x => ?_⟩
      rw [h2 x]
      have hk : ¬ (m = 0 ∨ d[m]! ≠ d[m - 1]!) := by simpa [Lib.keeps] using k
      have hm : m ≠ 0 := fun e => hk (.inl e)
      have he : d[m]! = d[m - 1]! := by
        by_cases q : d[m]! = d[m - 1]!
        · exact q
        · exact absurd (.inr q) hk
      constructor
      · rintro ⟨j, hj, rfl⟩; exact ⟨j, by omega, rfl⟩
      · rintro ⟨j, hj, rfl⟩
        by_cases hjm : j = m
        · subst hjm; exact ⟨j - 1, by omega, he⟩
        · exact ⟨j, by omega, rfl⟩
theorem Ki4 (tr : ∀ a b c, R a b → R b c → R a c) (re : ∀ a, R a a) (an : ∀ a b, R a b → R b a → a = b) {l : List α} (hs : l.Pairwise R) : Rise R (Lib.compact l) ∧ ∀ x, x ∈ Lib.compact l ↔ x ∈ l := by
 have hg : ∀ j, j < l.length → l.toArray[j]! = l[j]! := fun j hj => by
  rw [getElem!_pos l.toArray j (by simpa using hj), getElem!_pos l j hj]; simp
 obtain ⟨h1, h2⟩ := Kfp tr re an l.toArray (fun i j hij hj => by
  have hj' : j < l.length := by simpa using hj
  rw [hg i (by omega), hg j hj', getElem!_pos l i (by omega), getElem!_pos l j hj']
  exact List.pairwise_iff_getElem.1 hs i j _ _ hij) l.length (by simp)
 refine ⟨h1, fun x => ?_⟩
 unfold Lib.compact
 rw [h2 x]
 constructor
 ·rintro ⟨j, hj, rfl⟩
  rw [hg j hj, getElem!_pos l j hj]; exact List.getElem_mem _
 ·intro hx
  obtain ⟨j, hj, rfl⟩ := List.getElem_of_mem hx
  exact ⟨j, hj, by rw [hg j hj, getElem!_pos l j hj]⟩
end
def leS (a b : ByteArray) : Prop := lsOf a ≤ lsOf b
theorem Kdj {a b : ByteArray} (h : lsOf a = lsOf b) : a = b := by rw [← bs_ls a, ← bs_ls b, h]
theorem KiV (xs : List ByteArray) : Rise leS (Kdh (sortB xs)) ∧ ∀ x, x ∈ Kdh (sortB xs) ↔ x ∈ xs := by
 have e : (sortB xs).map lsOf = (xs.map lsOf).mergeSort (fun x y => decide (x ≤ y)) := by
  unfold sortB; rw [List.map_map]
  have : (lsOf ∘ bsOf) = id := by funext l; exact ls_bs l
  rw [this, List.map_id]
 have hs : ((sortB xs).map lsOf).Pairwise (· ≤ ·) := by
  rw [e]
  have := List.pairwise_mergeSort (le := fun x y : List UInt8 => decide (x ≤ y)) (fun a b c h1 h2 => by simp at h1 h2 ⊢; exact List.le_trans h1 h2) (fun a b => by simp; exact List.le_total a b) (xs.map lsOf)
  exact this.imp fun h => by simpa using h
 obtain ⟨h1, h2⟩ := Ki4 (R := fun a b : List UInt8 => a ≤ b) (fun a b c => List.le_trans) List.le_refl (fun a b h k => List.le_antisymm h k) hs
 unfold Kdh
 refine ⟨?_, fun x => ?_⟩
 ·unfold Rise at h1 ⊢
  rw [List.pairwise_map]
  refine h1.imp fun {a b} h => ⟨by unfold leS; rw [ls_bs, ls_bs]; exact h.1, fun q => h.2 ?_⟩
  have := congrArg lsOf q
  rwa [ls_bs, ls_bs] at this
 ·rw [List.mem_map]
  constructor
  ·rintro ⟨l, hl, rfl⟩
   have := (h2 l).1 hl
   rw [e, List.mem_mergeSort, List.mem_map] at this
   obtain ⟨y, hy, rfl⟩ := this
   rw [bs_ls]; exact hy
  ·intro hx
   refine ⟨lsOf x, (h2 _).2 ?_, bs_ls x⟩
   rw [e, List.mem_mergeSort]; exact List.mem_map_of_mem hx
theorem Kg2 {xs l : List ByteArray} (hl : Rise leS l) (hm : ∀ x, x ∈ l ↔ x ∈ xs) : Kdh (sortB xs) = l := by
 obtain ⟨h1, h2⟩ := KiV xs
 exact KcD (fun a b h k => Kdj (List.le_antisymm h k)) h1 hl fun x => (h2 x).trans (hm x).symm
end Go.Proofs.YtnfkijcmakgkmaaGreat.Ab
namespace Go.Proofs.YtnfkijcmakgkmaaGreat.Ab
open Go
set_option linter.all false
section
variable {α : Type} [DecidableEq α] (lt : α → α → Bool)
def insT (w : α) : List α → List α
 | [] => [w]
 | x :: l => if w = x then x :: l else if lt w x = true then w :: x :: l else x :: insT w l
theorem Kcj (w : α) : ∀ l x, x ∈ insT lt w l ↔ x = w ∨ x ∈ l
  | [], x => by simp [insT]
  | y :: l, x => by
    unfold insT
    split
    · rename_i h; subst h; simp
    · split
      · simp
      · rw [List.mem_cons, Kcj w l x, List.mem_cons]
        constructor
        · rintro (h | h | h)
          · exact .inr (.inl h)
          · exact .inl h
          · exact .inr (.inr h)
        · rintro (h | h | h)
          · exact .inr (.inl h)
          · exact .inl h
          · exact .inr (.inr h)
theorem Khs (w : α) : ∀ l, (insT lt w l).length ≤ l.length + 1
  | [] => by simp [insT]
  | y :: l => by
    have := Khs w l
    unfold insT
    split
    · simp
    · split
      · simp
      · simp only [List.length_cons]; omega
variable {R : α → α → Prop} (hlt : ∀ a b, lt a b = true ↔ (R a b ∧ a ≠ b)) (to : ∀ a b, R a b ∨ R b a) (tr : ∀ a b c, R a b → R b c → R a c) (an : ∀ a b, R a b → R b a → a = b)
include hlt to tr an in
theorem Kgg (w : α) : ∀ l, Rise R l → Rise R (insT lt w l)
  | [], _ => by simp [insT, Rise]
  | y :: l, h => by
    unfold Rise at h
    rw [List.pairwise_cons] at h
    unfold insT
    split
    · exact List.pairwise_cons.2 h
    · rename_i hne
      split
      · rename_i hl
        have hr := (hlt w y).1 hl
        refine List.pairwise_cons.2 ⟨fun z hz => ?_, List.pairwise_cons.2 h⟩
        rcases List.mem_cons.1 hz with rfl | hz
        · exact hr
        · have h2 := h.1 z hz
          refine ⟨tr _ _ _ hr.1 h2.1, fun e => ?_⟩
          subst e
          exact hne (an _ _ hr.1 h2.1)
      · rename_i hl
        refine List.pairwise_cons.2 ⟨fun z hz => ?_, Kgg w l h.2⟩
        rcases (Kcj lt w l z).1 hz with rfl | hz
        · refine ⟨?_, fun e => hne e.symm⟩
          rcases to z y with k | k
          · exact absurd ((hlt z y).2 ⟨k, hne⟩) hl
          · exact k
        · exact h.1 z hz
def insA (ws : List α) : List α := ws.foldl (fun acc w => insT lt w acc) []
theorem KdZ (ws : List α) (w : α) : insA lt (ws ++ [w]) = insT lt w (insA lt ws) := by simp [insA]
include hlt to tr an in
theorem insA_all (ws : List α) : Rise R (insA lt ws) ∧ (∀ x, x ∈ insA lt ws ↔ x ∈ ws) ∧ (insA lt ws).length ≤ ws.length := by
  have key : ∀ (ws acc : List α), Rise R acc → Rise R (ws.foldl (fun acc w => insT lt w acc) acc) ∧ (∀ x, x ∈ ws.foldl (fun acc w => insT lt w acc) acc ↔ x ∈ acc ∨ x ∈ ws) ∧ (ws.foldl (fun acc w => insT lt w acc) acc).length ≤ acc.length + ws.length := by
    intro ws
    induction ws with
    | nil => intro acc h; exact ⟨h, by simp, by simp⟩
    | cons w ws ih =>
      intro acc h
      obtain ⟨h1, h2, h3⟩ := ih (insT lt w acc) (Kgg lt hlt to tr an w acc h)
      have hl := Khs lt w acc
      refine ⟨h1, fun x => ?_, by simp only [List.foldl_cons, List.length_cons]; omega⟩
      rw [List.foldl_cons, h2 x, Kcj, List.mem_cons]
      constructor
      · rintro ((h | h) | h)
        · exact .inr (.inl h)
        · exact .inl h
        · exact .inr (.inr h)
      · rintro (h | h | h)
        · exact .inl (.inr h)
        · exact .inl (.inl h)
        · exact .inr h
  obtain ⟨h1, h2, h3⟩ := key ws [] (by simp [Rise])
  exact ⟨h1, fun x => (h2 x).trans (by simp), by simpa [insA] using h3⟩
def insS (w : α) (s : List α × Bool) (x : α) : List α × Bool :=
 ((if (!s.2 && (decide (w = x) || lt w x)) = true then (if lt w x = true then s.1 ++ [w, x] else s.1 ++ [x]) else s.1 ++ [x]), s.2 || (decide (w = x) || lt w x))
theorem Kht (w : α) : ∀ (l acc : List α), l.foldl (insS lt w) (acc, true) = (acc ++ l, true)
  | [], acc => by simp
  | x :: l, acc => by
    rw [List.foldl_cons, show insS lt w (acc, true) x = (acc ++ [x], true) by simp [insS], Kht w l]; simp
variable (ir : ∀ a, lt a a = false)
include ir in
theorem insS_no (w : α) : ∀ (l acc : List α), (if (l.foldl (insS lt w) (acc, false)).2 = true then (l.foldl (insS lt w) (acc, false)).1 else (l.foldl (insS lt w) (acc, false)).1 ++ [w]) = acc ++ insT lt w l
  | [], acc => by simp [insT]
  | x :: l, acc => by
    rw [List.foldl_cons]
    by_cases h1 : w = x
    · subst h1
      rw [show insS lt w (acc, false) w = (acc ++ [w], true) by simp [insS, ir], Kht]
      simp [insT]
    · by_cases h2 : lt w x = true
      · rw [show insS lt w (acc, false) x = (acc ++ [w, x], true) by simp [insS, h2], Kht]
        simp [insT, h1, h2]
      · rw [show insS lt w (acc, false) x = (acc ++ [x], false) by simp [insS, h1, h2], insS_no w l]
        simp [insT, h1, h2]
theorem KeI (w : α) : ∀ (l : List α) (s : List α × Bool), (l.foldl (insS lt w) s).1.length ≤ s.1.length + 2 * l.length
  | [], s => by simp
  | x :: l, s => by
    have := KeI w l (insS lt w s x)
    have h : (insS lt w s x).1.length ≤ s.1.length + 2 := by
      unfold insS; dsimp only; split
      · split <;> simp
      · simp
    rw [List.foldl_cons, List.length_cons]; omega
end
theorem bl_eq : ∀ x y : List UInt8, Op.bytesLess x y = decide (x < y)
  | [], [] => by simp [Op.bytesLess]
  | [], b :: y => by simp [Op.bytesLess]
  | a :: x, [] => by simp [Op.bytesLess]
  | a :: x, b :: y => by
    rw [Op.bytesLess, bl_eq x y, Bool.eq_iff_iff, decide_eq_true_iff, List.cons_lt_cons_iff]
    simp
theorem KdJ (a b : ByteArray) : ltB a b = true ↔ (leS a b ∧ a ≠ b) := by
 unfold ltB leS
 rw [ByteArray.toList_eq, ByteArray.toList_eq, bl_eq, decide_eq_true_iff]
 show lsOf a < lsOf b ↔ _
 constructor
 ·intro h
  exact ⟨List.le_of_lt h, fun e => by subst e; exact List.lt_irrefl _ h⟩
 ·rintro ⟨h, k⟩
  by_cases q : lsOf a < lsOf b
  ·exact q
  ·exact absurd (Kdj (List.le_antisymm h (List.not_lt.1 q))) k
theorem KdK (a : ByteArray) : ltB a a = false := by
 cases h : ltB a a
 ·rfl
 ·exact absurd rfl ((KdJ a a).1 h).2
theorem Kbl (ws : List ByteArray) : Rise leS (insA ltB ws) ∧ (∀ x, x ∈ insA ltB ws ↔ x ∈ ws) ∧ (insA ltB ws).length ≤ ws.length :=
 insA_all ltB KdJ (fun a b => List.le_total _ _) (fun a b c => List.le_trans) (fun a b h k => Kdj (List.le_antisymm h k)) ws
end Go.Proofs.YtnfkijcmakgkmaaGreat.Ab
namespace Go.Proofs.YtnfkijcmakgkmaaGreat.Ab.Pq
open Go Go.Proofs.YtnfkijcmakgkmaaGreat.Ab
set_option linter.all false
theorem or2 (a b : Int) : Kdx [a, b] = some (if a = 0 then b else a) := by
 unfold Kdx
 by_cases ha : a = 0
 ·subst ha
  rw [KbS (s' := (1 : Int)) (by simp [idx]; rfl)]
  by_cases hb : b = 0
  ·subst hb
   rw [KbS (s' := (2 : Int)) (by simp [idx]; rfl), KaI (t := .inl ()) (by simp)]; rfl
  ·have hb' : (b != 0) = true := by simpa using hb
   rw [KaI (t := .inr b) (by simp [idx, hb'])]; rfl
 ·have ha' : (a != 0) = true := by simpa using ha
  rw [KaI (t := .inr a) (by simp [idx, ha']), if_neg ha]; rfl
theorem cmpI_eq (a b : Int) : Kca a b = some (if a < b then -1 else if b < a then 1 else 0) := by
 unfold Kca
 have h : ∀ x : Int, Kb9 x = some false := fun x => by unfold Kb9; simp
 rw [h, h]
 simp only [Option.bind_some, cond_false]
 by_cases h1 : a < b
 ·simp [h1]
 ·by_cases h2 : b < a
  ·simp [h1, h2]
  ·simp [h1, h2]
theorem leS_to (a b : ByteArray) : leS a b ∨ leS b a := List.le_total _ _
theorem leS_tr {a b c : ByteArray} (h : leS a b) (k : leS b c) : leS a c := List.le_trans h k
theorem leS_an {a b : ByteArray} (h : leS a b) (k : leS b a) : a = b := Kdj (List.le_antisymm h k)
theorem cmpB_lt : ∀ x y : List UInt8, (Lib.compareBytes x y < 0 ↔ Op.bytesLess x y = true) ∧ (Lib.compareBytes x y = 0 ↔ x = y)
  | [], [] => by simp [Lib.compareBytes, Op.bytesLess]
  | [], b :: y => by simp [Lib.compareBytes, Op.bytesLess]
  | a :: x, [] => by simp [Lib.compareBytes, Op.bytesLess]
  | a :: x, b :: y => by
    have ih := cmpB_lt x y
    unfold Lib.compareBytes Op.bytesLess
    by_cases h1 : a < b
    · have : a ≠ b := fun e => by subst e; exact absurd h1 (UInt8.lt_irrefl _)
      simp [h1, this]
    · by_cases h2 : b < a
      · have : a ≠ b := fun e => by subst e; exact absurd h2 (UInt8.lt_irrefl _)
        simp [h1, h2, this]
      · have : a = b := UInt8.le_antisymm (UInt8.not_lt.1 h2) (UInt8.not_lt.1 h1)
        subst this
        simp [ih.1, ih.2]
theorem ltB_tr {a b c : ByteArray} (h : ltB a b = true) (k : ltB b c = true) : ltB a c = true := by
 have h1 := (KdJ _ _).1 h
 have h2 := (KdJ _ _).1 k
 refine (KdJ _ _).2 ⟨leS_tr h1.1 h2.1, fun e => ?_⟩
 subst e
 exact h1.2 (leS_an h1.1 h2.1)
theorem ltB_tot (a b : ByteArray) : ltB a b = true ∨ a = b ∨ ltB b a = true := by
 by_cases e : a = b
 ·exact .inr (.inl e)
 ·rcases leS_to a b with k | k
  ·exact .inl ((KdJ _ _).2 ⟨k, e⟩)
  ·exact .inr (.inr ((KdJ _ _).2 ⟨k, fun q => e q.symm⟩))
def ltK (x y : Ka) : Bool := ltB x.gName y.gName || (decide (x.gName = y.gName) && decide (x.gNode < y.gNode))
theorem KgD (x y : Ka) : ltK x y = true ↔ (ltB x.gName y.gName = true ∨ (x.gName = y.gName ∧ x.gNode < y.gNode)) := by
 unfold ltK; simp
theorem Kc2 (x : Ka) : ltK x x = false := by
 unfold ltK; rw [KdK]; simp
theorem Kd0 {x y z : Ka} (h : ltK x y = true) (k : ltK y z = true) : ltK x z = true := by
 rw [KgD] at *
 rcases h with h | ⟨h1, h2⟩ <;> rcases k with k | ⟨k1, k2⟩
 ·exact .inl (ltB_tr h k)
 ·exact .inl (by rw [← k1]; exact h)
 ·exact .inl (by rw [h1]; exact k)
 ·exact .inr ⟨h1.trans k1, by omega⟩
theorem ltK_tot (x y : Ka) : ltK x y = true ∨ x = y ∨ ltK y x = true := by
 obtain ⟨n, a⟩ := x
 obtain ⟨m, b⟩ := y
 rw [KgD, KgD]
 simp only [Ka.mk.injEq]
 rcases ltB_tot n m with h | h | h
 ·exact .inl (.inl h)
 ·subst h
  rcases Int.lt_trichotomy a b with k | k | k
  ·exact .inl (.inr ⟨rfl, k⟩)
  ·exact .inr (.inl ⟨rfl, k⟩)
  ·exact .inr (.inr (.inr ⟨rfl, k⟩))
 ·exact .inr (.inr (.inl h))
def leK (x y : Ka) : Prop := ltK x y = true ∨ x = y
instance decKey : DecidableEq Ka := fun a b => decidable_of_iff (a.gName = b.gName ∧ a.gNode = b.gNode) (by cases a; cases b; simp)
theorem leK_lt (a b : Ka) : ltK a b = true ↔ (leK a b ∧ a ≠ b) := by
 constructor
 ·intro h; exact ⟨.inl h, fun e => by subst e; rw [Kc2] at h; cases h⟩
 ·rintro ⟨h | h, k⟩
  ·exact h
  ·exact absurd h k
theorem leK_to (a b : Ka) : leK a b ∨ leK b a := by
 rcases ltK_tot a b with h | h | h
 ·exact .inl (.inl h)
 ·exact .inl (.inr h)
 ·exact .inr (.inl h)
theorem leK_tr (a b c : Ka) (h : leK a b) (k : leK b c) : leK a c := by
 rcases h with h | rfl
 ·rcases k with k | rfl
  ·exact .inl (Kd0 h k)
  ·exact .inl h
 ·exact k
theorem leK_an (a b : Ka) (h : leK a b) (k : leK b a) : a = b := by
 rcases h with h | h
 ·rcases k with k | k
  ·have := Kd0 h k; rw [Kc2] at this; cases this
  ·exact k.symm
 ·exact h
def rowK (l : List Ka) : List Ka := insA ltK (l.map clK)
theorem Kbu (l : List Ka) : Rise leK (rowK l) ∧ (∀ x, x ∈ rowK l ↔ x ∈ l.map clK) ∧ (rowK l).length ≤ l.length := by
 have := insA_all ltK leK_lt leK_to leK_tr leK_an (l.map clK)
 simpa [rowK] using this
theorem Kfq (x : Ka) : clK (clK x) = clK x := by unfold clK; simp
theorem cmp_eq (x y : Ka) : ∃ c, KdI x y = some c ∧ (c < 0 ↔ ltK (clK x) (clK y) = true) ∧ (c = 0 ↔ clK x = clK y) := by
 have hl : ltB x.gName y.gName = Op.bytesLess x.gName.data.toList y.gName.data.toList := by unfold ltB; rw [ByteArray.toList_eq, ByteArray.toList_eq]
 have he : (x.gName.data.toList = y.gName.data.toList) ↔ x.gName = y.gName := ⟨fun h => Kdj h, fun h => by rw [h]⟩
 have hb : (KcQ x.gName y.gName < 0 ↔ ltB x.gName y.gName = true) ∧ (KcQ x.gName y.gName = 0 ↔ x.gName = y.gName) := by
  have := cmpB_lt x.gName.data.toList y.gName.data.toList
  unfold KcQ
  rw [hl, ← he]; exact this
 unfold KdI KdY
 simp only [Option.bind_some, cmpI_eq, or2]
 generalize KcQ x.gName y.gName = C at hb
 refine ⟨_, rfl, ?_⟩
 rw [KgD]
 simp only [clK, Ka.mk.injEq]
 obtain ⟨h1, h2⟩ := hb
 rw [← h1, ← h2]
 by_cases h0 : C = 0
 ·rw [if_pos h0]
  subst h0
  by_cases k1 : max x.gNode (-1) < max y.gNode (-1)
  ·rw [if_pos k1]; constructor <;> constructor <;> intro h <;> omega
  ·by_cases k2 : max y.gNode (-1) < max x.gNode (-1)
   ·rw [if_neg k1, if_pos k2]; constructor <;> constructor <;> intro h <;> omega
   ·rw [if_neg k1, if_neg k2]; constructor <;> constructor <;> intro h <;> omega
 ·rw [if_neg h0]
  constructor <;> constructor <;> intro h <;> omega
end Go.Proofs.YtnfkijcmakgkmaaGreat.Ab.Pq
namespace Go.Proofs.YtnfkijcmakgkmaaGreat.Ab.Pq
open Go Go.Proofs.YtnfkijcmakgkmaaGreat.Ab
set_option linter.all false
theorem half_eq (a b : Nat) (h : a + b < 9223372036854775808) : IntKind.i64.wrap (shI .shr .u64 (IntKind.u64.wrap (IntKind.i64.wrap ((a : Int) + (b : Int)))) (1 : Int)) = (((a + b) / 2 : Nat) : Int) := by
 have h1 : IntKind.i64.wrap ((a : Int) + (b : Int)) = ((a + b : Nat) : Int) := by rw [IntKind.wrap_i64]; omega
 have h2 : IntKind.u64.wrap ((a + b : Nat) : Int) = ((a + b : Nat) : Int) := by rw [IntKind.wrap_u64]; omega
 have h3 : shI .shr .u64 ((a + b : Nat) : Int) (1 : Int) = (((a + b) / 2 : Nat) : Int) := by
  show ((a + b : Nat) : Int).fdiv (2 ^ (min (1 : Int).toNat IntKind.u64.bits)) = _
  rw [show min (1 : Int).toNat IntKind.u64.bits = 1 by decide, show (2 : Int) ^ 1 = 2 from rfl, Int.fdiv_eq_ediv_of_nonneg _ (by omega)]
  omega
 rw [h1, h2, h3, IntKind.wrap_i64]; omega
def RowC (xs : List Ka) : Prop := Rise leK xs ∧ (∀ x ∈ xs, clK x = x)
theorem rise_lt {xs : List Ka} (h : Rise leK xs) {i j : Nat} {a b : Ka} (hij : i < j) (ha : xs[i]? = some a) (hb : xs[j]? = some b) : ltK a b = true := by
 obtain ⟨h1, e1⟩ := List.getElem?_eq_some_iff.1 ha
 obtain ⟨h2, e2⟩ := List.getElem?_eq_some_iff.1 hb
 have := List.pairwise_iff_getElem.1 h i j h1 h2 hij
 rw [e1, e2] at this
 exact (leK_lt a b).2 this
theorem search_eq (xs : List Ka) (x : Ka) (hx : clK x = x) (hr : RowC xs) (hl : xs.length < 4398046511104) :
  ∃ i : Nat, KaA xs x = some ((i : Int), decide (x ∈ xs)) ∧ i ≤ xs.length ∧ (∀ j a, j < i → xs[j]? = some a → ltK a x = true) ∧ (∀ j a, i ≤ j → xs[j]? = some a → ltK a x = false) := by
 obtain ⟨hr, hc⟩ := hr
 unfold KaA
 obtain ⟨t, e1, i, rfl, hi, h1, h2⟩ := loopM_some (τ := Int) (fun s : Int × Int => ∃ lo hi : Nat, s = ((lo : Int), (hi : Int)) ∧ lo ≤ hi ∧ hi ≤ xs.length ∧ (∀ j a, j < lo → xs[j]? = some a → ltK a x = true) ∧ (∀ j a, hi ≤ j → xs[j]? = some a → ltK a x = false))
  (fun s => (s.2 - s.1).toNat) (fun t : Int => ∃ i : Nat, t = (i : Int) ∧ i ≤ xs.length ∧ (∀ j a, j < i → xs[j]? = some a → ltK a x = true) ∧ (∀ j a, i ≤ j → xs[j]? = some a → ltK a x = false))
  (f := fun (s19 : Int × Int) => (bif (decide (s19.1 < s19.2)) then ((idx xs (IntKind.i64.wrap (shI .shr .u64 (IntKind.u64.wrap (IntKind.i64.wrap (s19.1 + s19.2))) (1 : Int)))).bind fun x31 => ((KdI x31 x).bind fun x32 => (bif (decide (x32 < (0 : Int))) then some (.next ((IntKind.i64.wrap ((IntKind.i64.wrap (shI .shr .u64 (IntKind.u64.wrap (IntKind.i64.wrap (s19.1 + s19.2))) (1 : Int))) + (1 : Int))), s19.2)) else some (.next (s19.1, (IntKind.i64.wrap (shI .shr .u64 (IntKind.u64.wrap (IntKind.i64.wrap (s19.1 + s19.2))) (1 : Int)))))))) else some (.done s19.1)))
  (fun s hs => by
   obtain ⟨lo, hi, rfl, h1, h2, h3, h4⟩ := hs
   dsimp only
   by_cases hlt : lo < hi
   ·left
    have hm : (lo + hi) / 2 < xs.length := by omega
    obtain ⟨c, hc1, hc2, _⟩ := cmp_eq xs[(lo + hi) / 2] x
    rw [decide_eq_true (by omega : (lo : Int) < (hi : Int)), half_eq lo hi (by omega), KgA, List.getElem?_eq_getElem hm, cond_true, Option.bind_some, hc1, Option.bind_some]
    have hcl : clK xs[(lo + hi) / 2] = xs[(lo + hi) / 2] := hc _ (List.getElem_mem _)
    rw [hcl, hx] at hc2
    by_cases k : c < 0
    ·refine ⟨((((lo + hi) / 2 + 1 : Nat) : Int), (hi : Int)), ?_, ⟨(lo + hi) / 2 + 1, hi, rfl, by omega, h2, fun j a hj ha => ?_, h4⟩, ?_⟩
     ·rw [decide_eq_true k, cond_true, show IntKind.i64.wrap ((((lo + hi) / 2 : Nat) : Int) + 1) = (((lo + hi) / 2 + 1 : Nat) : Int) by rw [IntKind.wrap_i64]; omega]
     ·have k2 := hc2.1 k
      by_cases q : j = (lo + hi) / 2
      ·subst q; rw [List.getElem?_eq_getElem hm] at ha; cases ha; exact k2
      ·exact Kd0 (rise_lt hr (show j < (lo + hi) / 2 by omega) ha (List.getElem?_eq_getElem hm)) k2
     ·show ((hi : Int) - (((lo + hi) / 2 + 1 : Nat) : Int)).toNat < ((hi : Int) - (lo : Int)).toNat
      omega
    ·refine ⟨((lo : Int), (((lo + hi) / 2 : Nat) : Int)), ?_, ⟨lo, (lo + hi) / 2, rfl, by omega, by omega, h3, fun j a hj ha => ?_⟩, ?_⟩
     ·rw [decide_eq_false k, cond_false]
     ·have k2 : ltK xs[(lo + hi) / 2] x = false := by
       cases q : ltK xs[(lo + hi) / 2] x
       ·rfl
       ·exact absurd (hc2.2 q) k
      by_cases q : j = (lo + hi) / 2
      ·subst q; rw [List.getElem?_eq_getElem hm] at ha; cases ha; exact k2
      ·cases q2 : ltK a x
       ·rfl
       ·have := Kd0 (rise_lt hr (show (lo + hi) / 2 < j by omega) (List.getElem?_eq_getElem hm) ha) q2
        rw [k2] at this; cases this
     ·show ((((lo + hi) / 2 : Nat) : Int) - (lo : Int)).toNat < ((hi : Int) - (lo : Int)).toNat
      omega
   ·right
    obtain rfl : lo = hi := by omega
    exact ⟨(lo : Int), by rw [decide_eq_false (by omega)]; rfl, lo, rfl, h2, h3, h4⟩)
  ((0 : Int), (xs.length : Int)) ⟨0, xs.length, rfl, Nat.zero_le _, Nat.le_refl _, fun j a hj => absurd hj (Nat.not_lt_zero _), fun j a hj ha => by have := (List.getElem?_eq_some_iff.1 ha).1; omega⟩
 refine ⟨i, ?_, hi, h1, h2⟩
 rw [e1, Option.bind_some]
 by_cases hlt : i < xs.length
 ·obtain ⟨c, hc1, hc2, hc3⟩ := cmp_eq xs[i] x
  have hcl : clK xs[i] = xs[i] := hc _ (List.getElem_mem _)
  rw [decide_eq_true (by omega : (i : Int) < (xs.length : Int)), cond_true, KgA, List.getElem?_eq_getElem hlt, Option.bind_some, hc1, Option.bind_some]
  congr 2
  rw [hcl, hx] at hc3
  rw [Bool.eq_iff_iff, beq_iff_eq, hc3, decide_eq_true_iff]
  constructor
  ·intro e; rw [← e]; exact List.getElem_mem _
  ·intro hm
   obtain ⟨j, hj, e⟩ := List.getElem_of_mem hm
   rcases Nat.lt_trichotomy j i with q | q | q
   ·have := h1 j x q (by rw [List.getElem?_eq_getElem hj, e]); rw [Kc2] at this; cases this
   ·subst q; exact e
   ·have k1 := h2 i _ (Nat.le_refl _) (List.getElem?_eq_getElem hlt)
    have k2 := rise_lt hr q (List.getElem?_eq_getElem hlt) (List.getElem?_eq_getElem hj)
    rw [e, k1] at k2; cases k2
 ·rw [decide_eq_false (by omega), cond_false]
  congr 2
  rw [eq_comm, decide_eq_false_iff_not]
  intro hm
  obtain ⟨j, hj, e⟩ := List.getElem_of_mem hm
  have := h1 j x (by omega) (by rw [List.getElem?_eq_getElem hj, e]); rw [Kc2] at this; cases this
theorem ins_eq {xs : List Ka} {x : Ka} {i : Nat} (hi : i ≤ xs.length) (h1 : ∀ j a, j < i → xs[j]? = some a → ltK a x = true) (h2 : ∀ j a, i ≤ j → xs[j]? = some a → ltK a x = false) (hx : x ∉ xs) : insAt xs i x = insT ltK x xs := by
  unfold insAt
  rw [Int.toNat_natCast]
  induction xs generalizing i with
  | nil => simp [insT]
  | cons y ys ih =>
    unfold insT
    have hne : x ≠ y := fun e => hx (by simp [e])
    rw [if_neg hne]
    cases i with
    | zero =>
      have := h2 0 y (Nat.le_refl _) rfl
      rcases ltK_tot x y with k | k | k
      · rw [if_pos k]; simp
      · exact absurd k hne
      · rw [this] at k; cases k
    | succ i =>
      have k := h1 0 y (Nat.succ_pos _) rfl
      have : ltK x y = false := by
        cases q : ltK x y
        · rfl
        · have := Kd0 k q; rw [Kc2] at this; cases this
      rw [if_neg (by rw [this]; simp), ← ih (by simpa using hi) (fun j a hj ha => h1 (j + 1) a (by omega) (by simpa using ha)) (fun j a hj ha => h2 (j + 1) a (by omega) (by simpa using ha)) (fun h => hx (by simp [h]))]
      simp
theorem ins_same {xs : List Ka} {x : Ka} (hr : Rise leK xs) (hx : x ∈ xs) : insT ltK x xs = xs := by
  induction xs with
  | nil => cases hx
  | cons y ys ih =>
    unfold insT
    by_cases e : x = y
    · rw [if_pos e]
    · rw [if_neg e]
      have hm : x ∈ ys := by rcases List.mem_cons.1 hx with h | h; exact absurd h e; exact h
      unfold Rise at hr
      rw [List.pairwise_cons] at hr
      have k := (leK_lt y x).2 (hr.1 x hm)
      have : ltK x y = false := by
        cases q : ltK x y
        · rfl
        · have := Kd0 k q; rw [Kc2] at this; cases this
      rw [if_neg (by rw [this]; simp), ih hr.2 hm]
theorem KeJ (l : List Ka) : RowC (rowK l) := ⟨(Kbu l).1, fun x hx => by
 obtain ⟨y, _, rfl⟩ := List.mem_map.1 (((Kbu l).2.1 x).1 hx)
 exact Kfq y⟩
theorem Ke2 (l : List Ka) (x : Ka) : rowK (l ++ [x]) = insT ltK (clK x) (rowK l) := by
 unfold rowK; rw [List.map_append]; exact KdZ ltK _ _
theorem Khu {xs : List Ka} {x : Ka} (h : RowC xs) (hx : clK x = x) : RowC (insT ltK x xs) := ⟨Kgg ltK leK_lt leK_to leK_tr leK_an x xs h.1, fun y hy => by
 rcases (Kcj ltK x xs y).1 hy with rfl | hy
 ·exact hx
 ·exact h.2 y hy⟩
end Go.Proofs.YtnfkijcmakgkmaaGreat.Ab.Pq
namespace Go.Proofs.YtnfkijcmakgkmaaGreat.Ab
open Go Go.RowKit Go.Shelf Go.Lib Go.Proofs
set_option linter.all false
theorem ovl_run {P : Program} {w : World} {tS tR e : TypeId} (ht : P.underlying tS = some (.slice e)) (hz : ∀ w, (Go.sizeOf e).run P w = .ok 2 w) {a b oa ob la ca lb cb : Nat} {A B : List Value} {TA TB : TypeId} (hne : a ≠ b) (hA : w.heap[a]? = some (.cells A.toArray TA (0, 0))) (hB : w.heap[b]? = some (.cells B.toArray TB (0, 0))) (hl : B.length ≠ 0) :
  (Extern.SlicesOverlaps.overlaps #[tS, tS] #[tR] #[.slice (some ⟨a, oa, none⟩) la ca, .slice (some ⟨b, ob, none⟩) lb cb]).run P w = .ok (.bool false) w :=
 Lib.run_overlaps_apart w tS tR e ht 2 hz ⟨a, oa, none⟩ ⟨b, ob, none⟩ la ca lb cb hne TA TB A.length B.length (by simp [World.shape?, hA]) (by simp [World.shape?, hB]) hl (by simp [World.frozen?, hA]) (by simp [World.frozen?, hA])
theorem shift_list (xs : List Ka) (x : Ka) (rest : List Value) (i : Nat) (hi : i < xs.length) :
  List.take (i * 2) (List.take ((i + 1) * 2) (xs.flatMap kc2 ++ rest) ++ ((xs.drop i).flatMap kc2 ++ List.drop ((i + 1) * 2 + ((xs.drop i).flatMap kc2).length) (xs.flatMap kc2 ++ rest))) ++
   (kc2 x ++ List.drop (i * 2 + (kc2 x).length) (List.take ((i + 1) * 2) (xs.flatMap kc2 ++ rest) ++ ((xs.drop i).flatMap kc2 ++ List.drop ((i + 1) * 2 + ((xs.drop i).flatMap kc2).length) (xs.flatMap kc2 ++ rest)))) = (insAt xs i x).flatMap kc2 ++ rest.drop 2 := by
 have hX := KaK xs
 have hl : ((xs.drop i).flatMap kc2).length = (xs.length - i) * 2 := by rw [KaK, List.length_drop]
 have h1 : List.take ((i + 1) * 2) (xs.flatMap kc2 ++ rest) = (xs.take (i + 1)).flatMap kc2 := by rw [List.take_append_of_le_length (by omega), KeH]
 have h2 : List.drop ((i + 1) * 2 + ((xs.drop i).flatMap kc2).length) (xs.flatMap kc2 ++ rest) = rest.drop 2 := by
  rw [hl, List.drop_append, List.drop_of_length_le (by omega), List.nil_append]; congr 1; omega
 have h3 : ((xs.take (i + 1)).flatMap kc2).length = (i + 1) * 2 := by rw [KaK, List.length_take]; omega
 rw [h1, h2, List.take_append_of_le_length (by omega), KeH, List.take_take, show min i (i + 1) = i by omega,
  List.drop_append, List.drop_of_length_le (by rw [h3]; simp [kc2]; omega), List.nil_append, show i * 2 + (kc2 x).length - ((xs.take (i + 1)).flatMap kc2).length = 0 by rw [h3]; simp [kc2]; omega, List.drop_zero]
 simp [insAt]
theorem ins_shift (b c i vb vc : Nat) (xs : List Ka) (x : Ka) (rest rv : List Value) (T Tv : TypeId) (w : World) (n : Nat) (hn : xs.length = n) (hi : i < n) (hroom : n + 1 ≤ c) (hn63 : n < 4398046511104) (hvb : vb ≠ b)
    (hb : w.heap[b]? = some (.cells (xs.flatMap kc2 ++ rest).toArray T (0, 0))) (hlen : c * 2 ≤ (xs.flatMap kc2 ++ rest).length) (hv : w.heap[vb]? = some (.cells (kc2 x ++ rv).toArray Tv (0, 0))) :
    Calls Tryz.prog 52 #[.slice (some ⟨b, 0, none⟩) n c, .int .i64 i, .slice (some ⟨vb, 0, none⟩) 1 vc] w fun e w' =>
      e = .returned (.slice (some ⟨b, 0, none⟩) (n + 1) c) ∧ Env w w' ∧ w'.heap.size = w.heap.size ∧ (∀ j, j ≠ b → w'.heap[j]? = w.heap[j]?) ∧
        w'.heap[b]? = some (.cells ((insAt xs i x).flatMap kc2 ++ rest.drop 2).toArray T (0, 0)) := by
  have t1 : Tryz.prog.underlying 27 = some (.slice 41) := by kernel_rfl
  have hsz : (Tryz.prog.info? 41).map (·.size) = some 2 := by kernel_rfl
  have hz1 : ¬ ((1 : Int) = 0) := by omega
  have hz2 : ¬ ((i : Int) = (n : Int)) := by omega
  have hw1 : IntKind.i64.wrap ((i : Int) + 1) = (i : Int) + 1 := by rw [IntKind.wrap_i64]; omega
  have hw2 : IntKind.i64.wrap ((n : Int) + 1) = (n : Int) + 1 := by rw [IntKind.wrap_i64]; omega
  have hcl := KaK xs
  have mixed : Tryz.prog.follows .mixedOrders = true := by kernel_rfl
  have hb1 : (0 : Int) ≤ (i : Int) + 1 := by omega
  have hin : i ≤ n := by omega
  have htn : ((i : Int) + 1).toNat = i + 1 := by omega
  have hb2 : ¬ (c = i + 1) := by omega
  have hb3 : (i : Int) ≤ (n : Int) + 1 := by omega
  have hb4 : ¬ (c = i) := by omega
  obtain ⟨W1, c1, c2, c3, c4, c5⟩ := Kdz (P := Tryz.prog) (w := wDrew w) (dT := 27) (sT := 27) (ty := 3) (elem := 41) (k := 2) (b := b) (o := (i + 1) * 2) (dLen := n - i) (dCap := c - (i + 1)) (n' := n + 1 - i) (src := .slice (some ⟨b, i * 2, none⟩) (n + 1 - i) (c - i)) (cs := (xs.drop i).flatMap kc2) (A := xs.flatMap kc2 ++ rest) (T := T) t1 hsz rfl
    (by
      have hm : Nat.min (n + 1 - i) (n - i) = n - i := by simp only [Nat.min_def]; split <;> omega
      rw [hm]
      have hr : RowAt (wDrew w) b (i * 2) ((xs.drop i).flatMap kc2) := fun j u e => by
        have := KbM (w := wDrew w) (us := xs.flatMap kc2 ++ rest) hb (i * 2 + j) u (by
          rw [← Khq, List.getElem?_drop] at e
          rw [List.getElem?_append_left (List.getElem?_eq_some_iff.1 e).1]; exact e)
        simpa using this
      have hl : ((xs.drop i).flatMap kc2).length = (n - i) * 2 := by rw [KaK, List.length_drop, hn]
      have := KaN (P := Tryz.prog) ((n - i) * 2) hr (by omega)
      rw [← hl, List.take_length] at this
      simp only [Builtin.firstCells]
      rw [← hl]; exact this) hb (by rw [KaK, List.length_drop, hn]; simp only [List.length_append, hcl, hn] at hlen ⊢; omega) (kc2_one _)
  have hW1v : W1.heap[vb]? = some (.cells (kc2 x ++ rv).toArray Tv (0, 0)) := (c4 vb hvb).trans hv
  obtain ⟨W2, d1, d2, d3, d4, d5⟩ := Kdz (P := Tryz.prog) (w := W1) (dT := 27) (sT := 27) (ty := 3) (elem := 41) (k := 2) (b := b) (o := i * 2) (dLen := n + 1 - i) (dCap := c - i) (n' := 1) (src := .slice (some ⟨vb, 0, none⟩) 1 vc) (cs := kc2 x) (T := T) t1 hsz rfl
    (by
      have hm : Nat.min 1 (n + 1 - i) = 1 := by simp only [Nat.min_def]; split <;> omega
      rw [hm]
      have hr : RowAt W1 vb 0 (kc2 x) := fun j u e => by
        have := KbM hW1v j u (by rw [List.getElem?_append_left (List.getElem?_eq_some_iff.1 e).1]; exact e)
        simpa using this
      have := KaN (P := Tryz.prog) 2 hr (by simp [kc2])
      rw [List.take_of_length_le (by simp [kc2])] at this
      simp only [Builtin.firstCells]
      exact this) c5 (by simp only [List.length_append, List.length_take, List.length_drop, KaK, hn, kc2, List.length_cons, List.length_nil] at hlen ⊢; omega) (by intro v hv; simp [kc2] at hv; rcases hv with rfl | rfl <;> rfl)
  rw [show Nat.min (n + 1 - i) (n - i) = n - i by simp only [Nat.min_def]; split <;> omega] at c1
  rw [show Nat.min 1 (n + 1 - i) = 1 by simp only [Nat.min_def]; split <;> omega] at d1
  have hov : ∀ la ca, (callFunc 77 #[.slice (some ⟨vb, 0, none⟩) 1 vc, .slice (some ⟨b, (i + 1) * 2, none⟩) la ca]).run Tryz.prog w = .ok (.value (.bool false)) w := fun la ca => by
    rw [run_callFunc_extern Tryz.func77 (by kernel_rfl) (by kernel_rfl) (by kernel_rfl) (e := Extern.SlicesOverlaps.overlaps #[27, 27] #[4]) (by kernel_rfl),
      ovl_run t1 (fun w => Kbe (ti_ok htab (t := 41) rfl)) hvb hv hb (by simp only [List.length_append, hcl] at hlen ⊢; omega)]
    rfl
  go_enter Tryz.func52, Tryz.ntmps52
  go_wp2_with (simp only [hov])
  go_region_law_o (refine step_copy_runI rfl _ _ 27 27 rfl _ _ (by simp [Act.eval, Act.put]) (by simp [Act.eval, Act.put]) c1 ?_)
  go_wp2_with (at_builtin; refine wpList_copy_runI _ rfl _ _ 27 27 rfl _ _ rfl rfl d1 ?_)
  go_ret
  have e0 : Env w (wDrew w) := by first | exact ⟨rfl, rfl, rfl, Nat.le_refl _⟩ | exact ⟨rfl, rfl, rfl, Nat.le_succ _⟩
  refine ⟨rfl, (e0.trans c2).trans d2, d3.trans c3, fun j hj => (d4 j hj).trans (c4 j hj), ?_⟩
  rw [d5]
  rw [shift_list xs x rest i (by omega)]
theorem ins_end (base : Option Addr) (c : Nat) (v v' : Value) (vb vc : Nat) (n : Nat) (w w' : World) (hnc : n ≤ c) (hv : v = .slice (some ⟨vb, 0, none⟩) 1 vc)
  (hrun : ∀ ty, (Builtin.append_ #[27, 27] ty #[.slice base n c, v]).run Tryz.prog w = .ok v' w') :
  Calls Tryz.prog 52 #[.slice base n c, .int .i64 n, v] w fun e w'' => e = .returned v' ∧ w'' = w' := by
 subst hv
 have hz1 : ¬ ((1 : Int) = 0) := by omega
 go_enter Tryz.func52, Tryz.ntmps52
 rcases base with _ | ⟨ab, ao, sq⟩
 all_goals
  go_wp2_with (at_builtin; refine Lib.wpList_append_run _ rfl _ _ _ _ rfl _ _ rfl rfl _ _ (hrun _) ?_)
 all_goals (go_ret; exact ⟨rfl, rfl⟩)
theorem grow_list (xs : List Ka) (x : Ka) (Z1 Z2 : List Value) (i : Nat) (hi : i < xs.length) (h1 : Z1.length = (xs.length + 1 - i) * 2) {B : List Value} (hB : B = List.take (i * 2) ((xs.take i).flatMap kc2 ++ (Z1 ++ Z2)) ++ (kc2 x ++ List.drop (i * 2 + (kc2 x).length) ((xs.take i).flatMap kc2 ++ (Z1 ++ Z2)))) :
  List.take ((i + 1) * 2) B ++ ((xs.drop i).flatMap kc2 ++ List.drop ((i + 1) * 2 + ((xs.drop i).flatMap kc2).length) B) = (insAt xs i x).flatMap kc2 ++ Z2 := by
 have hT : ((xs.take i).flatMap kc2).length = i * 2 := by rw [KaK, List.length_take]; omega
 have hl : ((xs.drop i).flatMap kc2).length = (xs.length - i) * 2 := by rw [KaK, List.length_drop]
 have hB2 : B = (xs.take i).flatMap kc2 ++ (kc2 x ++ (Z1.drop 2 ++ Z2)) := by
  rw [hB, List.take_append_of_le_length (by omega), List.take_of_length_le (by omega), List.drop_append, List.drop_of_length_le (by omega), List.nil_append, hT, show i * 2 + (kc2 x).length - i * 2 = 2 by simp [kc2], List.drop_append, show 2 - Z1.length = 0 by omega, List.drop_zero]
 have hP : ((xs.take i).flatMap kc2 ++ kc2 x).length = (i + 1) * 2 := by rw [List.length_append, hT]; simp [kc2]; omega
 have hB3 : B = ((xs.take i).flatMap kc2 ++ kc2 x) ++ (Z1.drop 2 ++ Z2) := by rw [hB2]; simp
 have e1 : List.take ((i + 1) * 2) B = (xs.take i).flatMap kc2 ++ kc2 x := by
  rw [hB3, List.take_append_of_le_length (Nat.le_of_eq hP.symm), List.take_of_length_le (Nat.le_of_eq hP)]
 have e2 : List.drop ((i + 1) * 2 + ((xs.drop i).flatMap kc2).length) B = Z2 := by
  rw [hB3, hl, List.drop_append, List.drop_of_length_le (by rw [hP]; omega), List.nil_append, hP, List.drop_append, List.drop_of_length_le (by rw [List.length_drop]; omega), List.nil_append,
   show (i + 1) * 2 + (xs.length - i) * 2 - (i + 1) * 2 - (Z1.drop 2).length = 0 by rw [List.length_drop]; omega, List.drop_zero]
 rw [e1, e2]
 simp [insAt]
theorem ins_grow (b c i vb vc : Nat) (xs : List Ka) (x : Ka) (rest rv : List Value) (T Tv : TypeId) (w : World) (n : Nat) (hn : xs.length = n) (hi : i < n) (hnc : n ≤ c) (hroom : c < n + 1) (hbig : (n + 1) * 24 ≤ 140737488355328) (hvb : vb ≠ b)
    (hb : w.heap[b]? = some (.cells (xs.flatMap kc2 ++ rest).toArray T (0, 0))) (hv : w.heap[vb]? = some (.cells (kc2 x ++ rv).toArray Tv (0, 0))) :
    Calls Tryz.prog 52 #[.slice (some ⟨b, 0, none⟩) n c, .int .i64 i, .slice (some ⟨vb, 0, none⟩) 1 vc] w fun e w' => ∃ G rest', n + 1 ≤ G ∧ 
      e = .returned (.slice (some ⟨w.heap.size, 0, none⟩) (n + 1) G) ∧ Env w w' ∧ w.heap.size ≤ w'.heap.size ∧ (∀ j, j < w.heap.size → w'.heap[j]? = w.heap[j]?) ∧
        w'.heap[w.heap.size]? = some (.cells ((insAt xs i x).flatMap kc2 ++ rest').toArray 41 (0, 0)) ∧ G * 2 ≤ ((insAt xs i x).flatMap kc2 ++ rest').length := by
  have t1 : Tryz.prog.underlying 27 = some (.slice 41) := by kernel_rfl
  have tn : Tryz.prog.underlying 3 = some (.int .i64) := by kernel_rfl
  have hsz : (Tryz.prog.info? 41).map (·.size) = some 2 := by kernel_rfl
  obtain ⟨i0, hi0, hz0, hzs, hzb⟩ := info_parts (show (Tryz.prog.info? 41).map (fun i => (i.zero, i.size, i.bytes)) = some (some (.agg #[.string ⟨#[]⟩, .int .i64 0]), 2, 24) by kernel_rfl)
  have hz1 : ¬ ((1 : Int) = 0) := by omega
  have hz2 : ¬ ((i : Int) = (n : Int)) := by omega
  have hz3 : (c : Int) < (n : Int) + 1 := by omega
  have hw1 : IntKind.i64.wrap ((i : Int) + 1) = (i : Int) + 1 := by rw [IntKind.wrap_i64]; omega
  have hw2 : IntKind.i64.wrap ((n : Int) + 1) = (n : Int) + 1 := by rw [IntKind.wrap_i64]; omega
  have hcl := KaK xs
  have mixed : Tryz.prog.follows .mixedOrders = true := by kernel_rfl
  have hbw : b < w.heap.size := (Array.getElem?_eq_some_iff.1 hb).1
  have hvw : vb < w.heap.size := (Array.getElem?_eq_some_iff.1 hv).1
  have hkk : (n : Int) + 1 - (i : Int) = ((n + 1 - i : Nat) : Int) := by omega
  have hik : i + (n + 1 - i) = n + 1 := by omega
  have hold : (Builtin.firstCells i0.size i (.slice (some ⟨b, 0, none⟩) i c)).run Tryz.prog w.drew = .ok ((xs.take i).flatMap kc2).toArray w.drew := by
    rw [hzs]
    have hr : RowAt (wDrew w) b 0 ((xs.take i).flatMap kc2) := fun j u e => by
      have := KbM (w := wDrew w) (us := xs.flatMap kc2 ++ rest) hb j u (by
        rw [← KeH, List.getElem?_take] at e
        split at e
        · rw [List.getElem?_append_left (List.getElem?_eq_some_iff.1 e).1]; exact e
        · cases e)
      simpa using this
    have hl : ((xs.take i).flatMap kc2).length = i * 2 := by rw [KaK, List.length_take]; omega
    have := KaN (P := Tryz.prog) (i * 2) hr (by omega)
    rw [← hl, List.take_length] at this
    simp only [Builtin.firstCells]
    rw [← hl]; exact this
  have hrz : ∀ ty, (Builtin.append_ #[27, 3] ty #[.slice (some ⟨b, 0, none⟩) i c, .int .i64 ((n : Int) + 1 - (i : Int))]).run Tryz.prog w =
      .ok (.slice (some ⟨w.heap.size, 0, none⟩) (n + 1) (grownCap w (n + 1) c 41)) (w.drew.alloc (.cells (((xs.take i).flatMap kc2).toArray ++ Builtin.zeroCells #[.string ⟨#[]⟩, .int .i64 0] (n + 1 - i) ++ Builtin.zeroCells #[.string ⟨#[]⟩, .int .i64 0] (grownCap w (n + 1) c 41 - (n + 1))) 41)) := fun ty => by
    have h := Lib.run_append_grow_zeros w 27 3 ty 41 i0 _ .i64 .i64 t1 tn hi0 hz0 (some ⟨b, 0, none⟩) i c _ hold (n + 1 - i) (by omega) (by omega) (by omega) (by omega) (by rw [hzb]; omega) (by rw [hzb, hik]; exact growslice_fits hroom hbig)
    rw [hik] at h
    rw [hkk]
    exact h
  obtain ⟨G, hG⟩ : ∃ G, G = grownCap w (n + 1) c 41 := ⟨_, rfl⟩
  have hGn : n + 1 ≤ G := by rw [hG]; exact grownCap_ge w _ _ _
  have hG63 : G ≤ 9223372036854775807 := by
    have := grownCap_le_maxLen w (n + 1) c 41 (by unfold maxLen; omega)
    rw [← hG] at this
    unfold maxLen at this
    omega
  rw [← hG] at hrz
  obtain ⟨Z1, hZ1⟩ : ∃ Z1, Z1 = (Builtin.zeroCells #[.string ⟨#[]⟩, .int .i64 0] (n + 1 - i)).toList := ⟨_, rfl⟩
  obtain ⟨Z2, hZ2⟩ : ∃ Z2, Z2 = (Builtin.zeroCells #[.string ⟨#[]⟩, .int .i64 0] (G - (n + 1))).toList := ⟨_, rfl⟩
  have hl1 : Z1.length = (n + 1 - i) * 2 := by rw [hZ1]; simp [Builtin.zeroCells]
  have hl2 : Z2.length = (G - (n + 1)) * 2 := by rw [hZ2]; simp [Builtin.zeroCells]
  have hrow : ((xs.take i).flatMap kc2).toArray ++ Builtin.zeroCells #[.string ⟨#[]⟩, .int .i64 0] (n + 1 - i) ++ Builtin.zeroCells #[.string ⟨#[]⟩, .int .i64 0] (G - (n + 1)) = ((xs.take i).flatMap kc2 ++ (Z1 ++ Z2)).toArray := by
    rw [hZ1, hZ2]; apply Array.ext'; simp
  rw [hrow] at hrz
  obtain ⟨Wa, hWa⟩ : ∃ Wa, Wa = w.drew.alloc (.cells ((xs.take i).flatMap kc2 ++ (Z1 ++ Z2)).toArray 41) := ⟨_, rfl⟩
  rw [← hWa] at hrz
  have hTl : ((xs.take i).flatMap kc2).length = i * 2 := by rw [KaK, List.length_take]; omega
  have a1 : Wa.heap[w.heap.size]? = some (.cells ((xs.take i).flatMap kc2 ++ (Z1 ++ Z2)).toArray 41 (0, 0)) := by rw [hWa, Kaq]; exact if_pos rfl
  have a2 : ∀ j, j < w.heap.size → Wa.heap[j]? = w.heap[j]? := fun j hj => by rw [hWa, Kaq]; exact if_neg (Nat.ne_of_lt hj)
  have a3 : Wa.heap.size = w.heap.size + 1 := by rw [hWa, size_alloc]; rfl
  have a4 : Env w Wa := by rw [hWa]; first | exact ⟨rfl, rfl, rfl, Nat.le_refl _⟩ | exact ⟨rfl, rfl, rfl, Nat.le_succ _⟩
  clear hWa hZ1 hZ2 hrow
  obtain ⟨W1, c1, c2, c3, c4, c5⟩ := Kdz (P := Tryz.prog) (w := Wa) (dT := 27) (sT := 27) (ty := 3) (elem := 41) (k := 2) (b := w.heap.size) (o := i * 2) (dLen := n + 1 - i) (dCap := G - i) (n' := 1) (src := .slice (some ⟨vb, 0, none⟩) 1 vc) (cs := kc2 x) (T := 41) t1 hsz rfl
    (by
      have hm : Nat.min 1 (n + 1 - i) = 1 := by simp only [Nat.min_def]; split <;> omega
      rw [hm]
      have hr : RowAt Wa vb 0 (kc2 x) := fun j u e => by
        have := KbM ((a2 vb hvw).trans hv) j u (by rw [List.getElem?_append_left (List.getElem?_eq_some_iff.1 e).1]; exact e)
        simpa using this
      have := KaN (P := Tryz.prog) 2 hr (by simp [kc2])
      rw [List.take_of_length_le (by simp [kc2])] at this
      simp only [Builtin.firstCells]
      exact this) a1 (by simp only [List.length_append, hTl, hl1, hl2, kc2, List.length_cons, List.length_nil]; omega) (by intro v hv; simp [kc2] at hv; rcases hv with rfl | rfl <;> rfl)
  have hbN : b ≠ w.heap.size := by omega
  obtain ⟨W2, d1, d2, d3, d4, d5⟩ := Kdz (P := Tryz.prog) (w := wDrew W1) (dT := 27) (sT := 27) (ty := 3) (elem := 41) (k := 2) (b := w.heap.size) (o := (i + 1) * 2) (dLen := n - i) (dCap := G - (i + 1)) (n' := n - i) (src := .slice (some ⟨b, i * 2, none⟩) (n - i) (c - i)) (cs := (xs.drop i).flatMap kc2) (T := 41) t1 hsz rfl
    (by
      have hm : Nat.min (n - i) (n - i) = n - i := by simp only [Nat.min_def]; split <;> omega
      rw [hm]
      have hr : RowAt (wDrew W1) b (i * 2) ((xs.drop i).flatMap kc2) := fun j u e => by
        have := KbM (w := wDrew W1) (us := xs.flatMap kc2 ++ rest) ((c4 b hbN).trans ((a2 b hbw).trans hb)) (i * 2 + j) u (by
          rw [← Khq, List.getElem?_drop] at e
          rw [List.getElem?_append_left (List.getElem?_eq_some_iff.1 e).1]; exact e)
        simpa using this
      have hl : ((xs.drop i).flatMap kc2).length = (n - i) * 2 := by rw [KaK, List.length_drop, hn]
      have := KaN (P := Tryz.prog) ((n - i) * 2) hr (by omega)
      rw [← hl, List.take_length] at this
      simp only [Builtin.firstCells]
      rw [← hl]; exact this) c5 (by rw [KaK, List.length_drop, hn]; simp only [List.length_append, List.length_take, List.length_drop, hTl, hl1, hl2, kc2, List.length_cons, List.length_nil]; omega) (kc2_one _)
  rw [show Nat.min 1 (n + 1 - i) = 1 by simp only [Nat.min_def]; split <;> omega] at c1
  rw [show Nat.min (n - i) (n - i) = n - i by simp only [Nat.min_def]; split <;> omega] at d1
  have hGi : ¬ (G = i) := by omega
  have hGim : ¬ (G = i + 1) := by omega
  have hci : ¬ (c = i) := by omega
  have hb1 : (0 : Int) ≤ (i : Int) + 1 := by omega
  have hin : i ≤ n := by omega
  have htn : ((i : Int) + 1).toNat = i + 1 := by omega
  have hb3 : (i : Int) ≤ (n : Int) := by omega
  have fin : Env w W2 ∧ w.heap.size ≤ W2.heap.size ∧ (∀ j, j < w.heap.size → W2.heap[j]? = w.heap[j]?) ∧
        W2.heap[w.heap.size]? = some (.cells ((insAt xs i x).flatMap kc2 ++ Z2).toArray 41 (0, 0)) ∧ G * 2 ≤ ((insAt xs i x).flatMap kc2 ++ Z2).length := by
    have e0 : Env W1 (wDrew W1) := by first | exact ⟨rfl, rfl, rfl, Nat.le_refl _⟩ | exact ⟨rfl, rfl, rfl, Nat.le_succ _⟩
    refine ⟨((a4.trans c2).trans e0).trans d2, ?_, fun j hj => ?_, ?_, ?_⟩
    · have : (wDrew W1).heap.size = W1.heap.size := rfl
      omega
    · exact (d4 j (Nat.ne_of_lt hj)).trans ((c4 j (Nat.ne_of_lt hj)).trans (a2 j hj))
    · rw [d5, grow_list xs x Z1 Z2 i (by omega) (by rw [hn]; exact hl1) rfl]
    · have : (insAt xs i x).length = n + 1 := by simp [insAt, hn]; omega
      rw [List.length_append, KaK, this, hl2]; omega
  clear hkk hik hold hG a1 a2 a3 a4 c2 c3 c4 c5 d2 d3 d4 d5 hl1 hl2 hTl
  go_enter Tryz.func52, Tryz.ntmps52
  go_wp2_with (first
    | (at_builtin; refine Lib.wpList_append_run _ rfl _ _ _ _ rfl _ _ rfl rfl _ _ (hrz _) ?_)
    | (at_builtin; refine wpList_copy_runI _ rfl _ _ 27 27 rfl _ _ rfl rfl c1 ?_))
  go_region_law_o (refine step_copy_runI rfl _ _ 27 27 rfl (.slice (some ⟨w.heap.size, (i + 1) * 2, none⟩) (n - i) (G - (i + 1))) (.slice (some ⟨b, i * 2, none⟩) (n - i) (c - i)) (by simp [Act.eval, Act.put]) (by simp [Act.eval, Act.put]) d1 ?_)
  go_wp2
  go_ret
  exact ⟨G, Z2, hGn, rfl, fin⟩
end Go.Proofs.YtnfkijcmakgkmaaGreat.Ab
namespace Go.Proofs.YtnfkijcmakgkmaaGreat.Ab
open Go Go.RowKit Go.Shelf Go.Lib Go.Proofs
set_option linter.all false
theorem Core.wid {H H' : Hp} {w w' : World} {M M' : List Nat} {h : List (Nat × Blk)} {k : List (Nat × Value)} (c : Core ⟨H, w, M⟩ H' h k w') (hM : ∀ b ∈ M, b ∈ M') : Core ⟨H, w, M'⟩ H' h k w' :=
 ⟨c.ag, c.le, fun a v e => (c.new a v e).imp id (fun q => q.imp id (hM _)), fun b hb hm => c.same b hb (fun q => hm (hM b q)), c.size, c.blks, c.toks, c.nd, fun b hb => (c.own b hb).imp (hM b) id, c.env⟩
theorem Kc3 {H : Hp} {w : World} {r : Nat} {xs : List Ka} {z : Z3} (h : BlkOK H w (r, .row 2 (xs.map Kf) (SL z))) :
  (z.2.1 = 0 ∧ z.2.2 = 0 ∧ xs = []) ∨ ∃ (b m : Nat) (rest : List Value) (T : TypeId), z = (some ⟨b, 0, none⟩, xs.length, m) ∧ xs.length ≤ m ∧ 0 < m ∧ w.heap[b]? = some (.cells (xs.flatMap kc2 ++ rest).toArray T (0, 0)) ∧ m * 2 ≤ (xs.flatMap kc2 ++ rest).length ∧ (∀ o, H ⟨b, o, none⟩ = none) ∧
   Ks [(r, Blk.row 2 (xs.map Kf) (SL z))] [] = [b] := by
 obtain ⟨z1, z2, z3⟩ := z
 rcases h with ⟨a, e, e2⟩ | ⟨b, m, us, rest, T, e, h0, hm, h1, h2, h3, h4⟩
 ·simp only [SL, Value.slice.injEq] at e
  obtain ⟨rfl, rfl, rfl⟩ := e
  exact .inl ⟨rfl, rfl, List.map_eq_nil_iff.1 e2⟩
 ·simp only [SL, Value.slice.injEq, List.length_map] at e h0
  obtain ⟨rfl, rfl, rfl⟩ := e
  have := flat_k h2
  subst this
  exact .inr ⟨b, z3, rest, T, rfl, h0, hm, h1, h3, h4, by simp [Ks, KN, K2, hm]⟩
theorem insert_okH (xs : List Ka) (i : Int) (x : Ka) (z zv : Z3) (h : insPre xs i = true) (H : Hp) (w : World) (hA : Ag H w) (r1 : BlkOK H w (0, .row 2 (xs.map Kf) (SL z))) (r2 : BlkOK H w (0, .row 2 ([x].map Kf) (SL zv))) (nd : (Ks [(0, Blk.row 2 (xs.map Kf) (SL z)), (0, Blk.row 2 ([x].map Kf) (SL zv))] []).Nodup) :
  Calls Tryz.prog 52 #[SL z, .int .i64 i, SL zv] w fun e w' => ∃ z' : Z3, e = .returned (SL z') ∧ Core ⟨H, w, Ks [(0, Blk.row 2 (xs.map Kf) (SL z)), (0, Blk.row 2 ([x].map Kf) (SL zv))] []⟩ H [(0, .row 2 ((insAt xs i x).map Kf) (SL z'))] [] w' := by
 unfold insPre at h
 simp only [Bool.and_eq_true, decide_eq_true_eq] at h
 obtain ⟨⟨hi0, hi⟩, hlen⟩ := h
 obtain ⟨i, rfl⟩ : ∃ n : Nat, i = n := ⟨i.toNat, by omega⟩
 have hcl : Ks [(0, Blk.row 2 (xs.map Kf) (SL z)), (0, Blk.row 2 ([x].map Kf) (SL zv))] [] = Ks [(0, Blk.row 2 (xs.map Kf) (SL z))] [] ++ Ks [(0, Blk.row 2 ([x].map Kf) (SL zv))] [] := by simp [Ks]
 rw [hcl] at nd ⊢
 rcases Kc3 r2 with ⟨_, _, e⟩ | ⟨vb, vc, rv, Tv, rfl, v0, v1, v2, v3, v4, v5⟩
 ·cases e
 rw [v5] at nd ⊢
 have v2' : w.heap[vb]? = some (.cells (kc2 x ++ rv).toArray Tv (0, 0)) := by simpa using v2
 have hvw : vb < w.heap.size := (Array.getElem?_eq_some_iff.1 v2').1
 by_cases hin : i = xs.length
 ·
  have hvn : vb ∉ Ks [(0, Blk.row 2 (xs.map Kf) (SL z))] [] := fun q => (List.nodup_append.1 nd).2.2 vb q vb (by simp) rfl
  have app : ∀ ty, ∃ (z' : Z3) (w' : World), (Builtin.append_ #[27, 27] ty #[SL z, SL (some ⟨vb, 0, none⟩, 1, vc)]).run Tryz.prog w = .ok (SL z') w' ∧ Core ⟨H, w, Ks [(0, .row 2 (xs.map Kf) (SL z))] []⟩ H [(0, .row 2 (xs.map Kf ++ [x].map Kf) (SL z'))] [] w' := fun ty =>
   KeE (bb := 24) (kk := 2) htab hA r1 (fun b hb => KeY (h := [(0, .row 2 (xs.map Kf) (SL z))]) (k := []) (by simpa using r1) (by simp) b hb) rfl
    (fun w' hw' => ⟨kc2 x, rfl, KcA [x], by
     have hr : RowAt w' vb 0 (kc2 x) := fun j u e => by
      have := KbM ((hw' vb hvw).trans v2') j u (by rw [List.getElem?_append_left (List.getElem?_eq_some_iff.1 e).1]; exact e)
      simpa using this
     have := KaN (P := Tryz.prog) 2 hr (by simp [kc2])
     rw [List.take_of_length_le (by simp [kc2])] at this
     simp only [Builtin.firstCells]
     exact this⟩) rfl rfl rfl rfl rfl rfl rfl rfl (by omega) (by simp only [List.length_map, List.length_cons, List.length_nil]; omega)
  obtain ⟨z', w', hrun, hcore⟩ := app 27
  have hrun' : ∀ ty, (Builtin.append_ #[27, 27] ty #[.slice z.1 xs.length z.2.2, SL (some ⟨vb, 0, none⟩, 1, vc)]).run Tryz.prog w = .ok (SL z') w' := fun ty => by
   have : SL z = .slice z.1 xs.length z.2.2 := by
    rcases Kc3 r1 with ⟨e1, e2, e3⟩ | ⟨b, m, rest, T, rfl, _⟩
    ·subst e3; simp [SL, e1]
    ·rfl
   rw [← this]; exact hrun
  have hzn : SL z = .slice z.1 xs.length z.2.2 ∧ xs.length ≤ z.2.2 := by
   rcases Kc3 r1 with ⟨e1, e2, e3⟩ | ⟨b, m, rest, T, rfl, h0, _⟩
   ·subst e3; simp [SL, e1]
   ·exact ⟨rfl, h0⟩
  rw [hzn.1, hin]
  refine (ins_end z.1 z.2.2 _ (SL z') vb vc xs.length w w' hzn.2 rfl hrun').mono ?_
  rintro e w'' ⟨rfl, rfl⟩
  refine ⟨z', rfl, ?_⟩
  have e3 : (insAt xs (xs.length : Int) x).map Kf = xs.map Kf ++ [x].map Kf := by simp [insAt]
  rw [e3]
  rw [hzn.1] at hcore
  exact hcore.wid (fun b hb => List.mem_append_left _ hb)
 ·rcases Kc3 r1 with ⟨_, _, rfl⟩ | ⟨b, c, rest, T, rfl, c0, c1, c2, c3, c4, c5⟩
  ·simp at hi hin; omega
  rw [c5] at nd ⊢
  have hvb : vb ≠ b := by simp at nd; exact fun e => nd e.symm
  have hlen' : (insAt xs i x).length = xs.length + 1 := by simp [insAt]; omega
  have hMc : ∀ j ∈ [b] ++ [vb], ∃ cs T', w.heap[j]? = some (.cells cs T' (0, 0)) := by
   intro j hj; simp at hj; rcases hj with rfl | rfl
   ·exact ⟨_, _, c2⟩
   ·exact ⟨_, _, v2'⟩
  have hM : ∀ j ∈ [b] ++ [vb], ∀ o, H ⟨j, o, none⟩ = none := by
   intro j hj; simp at hj; rcases hj with rfl | rfl
   ·exact c4
   ·exact v4
  by_cases hroom : xs.length + 1 ≤ c
  ·have hX := KaK xs
   ·refine (ins_shift b c i vb vc xs x rest rv T Tv w xs.length rfl (by omega) hroom (by omega) hvb c2 c3 v2').mono ?_
    rintro e w' ⟨rfl, f1, f2, f3, f4⟩
    refine ⟨(some ⟨b, 0, none⟩, (insAt xs i x).length, c), by rw [hlen'], Khr hA f1 (Nat.le_of_eq f2.symm) (fun j _ hj => f3 j (fun e => hj (by simp [e]))) hM hMc f4 (.inl (by simp)) (by omega) c1 (by rw [List.length_append, KaK, List.length_drop, hlen']; simp only [List.length_append, KaK] at c3; omega)⟩
  ·refine (ins_grow b c i vb vc xs x rest rv T Tv w xs.length rfl (by omega) c0 (by omega) (by omega) hvb c2 v2').mono ?_
   rintro e w' ⟨G, rest', hG, rfl, f1, f2, f3, f4, f5⟩
   refine ⟨(some ⟨w.heap.size, 0, none⟩, (insAt xs i x).length, G), by rw [hlen'], Khr hA f1 f2 (fun j hj _ => f3 j hj) hM hMc f4 (.inr (Nat.le_refl _)) (by omega) (by omega) f5⟩
end Go.Proofs.YtnfkijcmakgkmaaGreat.Ab
namespace Go.Proofs.YtnfkijcmakgkmaaGreat.Ab
open Go Go.RowKit Go.Shelf Go.Proofs Go.Proofs.YtnfkijcmakgkmaaGreat.Ab.Pq
set_option linter.all false
attribute [local go_sem] Oper.semAt_some
theorem Khv {C : Ctx} {H : Hp} {h : List (Nat × Blk)} {W W' : World} {row : Option Nat} (hh : ∀ p ∈ h, (∀ es, p.2 ≠ .mp es) ∧ ∀ o, p.2 ≠ .opq o) (c : Core C H h [] W) (hg : W.grownBy W' row) (hr : ∀ r, row = some r → C.w.heap.size ≤ r ∧ ∃ o : Obj, W.heap[r]? = some o ∧ o.isCells = false) : Core C H h [] W' := by
  have keep : ∀ b cs T, W.heap[b]? = some (Obj.cells cs T (0, 0)) → W'.heap[b]? = some (Obj.cells cs T (0, 0)) := fun b cs T e => by
    refine (hg.block b (Array.getElem?_eq_some_iff.1 e).1 (fun q => ?_)).trans e
    obtain ⟨_, o, ho, hc⟩ := hr b q.symm
    rw [e] at ho; cases ho; cases hc
  refine ⟨fun a v e => ?_, c.le, c.new, fun b hb hm => ?_, Nat.le_trans c.size hg.size, fun p hp => ?_, by simp, c.nd, c.own, c.env.trans ⟨hg.os, hg.tape, hg.output, Nat.le_refl _⟩⟩
  · exact cell_kept (c.ag a v e) hg (fun r q => (hr r q).2)
  · refine (hg.block b (Nat.lt_of_lt_of_le hb c.size) (fun q => ?_)).trans (c.same b hb hm)
    have := (hr b q.symm).1
    omega
  · have hb := c.blks p hp
    obtain ⟨b, bl⟩ := p
    cases bl with
    | cells ds T =>
      obtain ⟨us, h1, h2, h3⟩ := hb
      exact ⟨us, keep b _ _ h1, h2, h3⟩
    | row kk xs y =>
      rcases hb with q | ⟨b2, m, us, rest, T, e, h0, hm, h1, h2, h3, h4⟩
      · exact .inl q
      · exact .inr ⟨b2, m, us, rest, T, e, h0, hm, keep b2 _ _ h1, h2, h3, h4⟩
    | told kk xs y => exact hb
    | mp es => exact absurd rfl ((hh _ hp).1 es)
    | opq o => exact absurd rfl ((hh _ hp).2 o)
theorem Kgh {C : Ctx} {H H' : Hp} {h h' : List (Nat × Blk)} {k k' : List (Nat × Value)} {W W' : World} (hM : C.M = []) (c : Core C H h k W) (c' : Core C H' h' k' W') (hs : W.heap.size ≤ W'.heap.size) : Below C.w.heap.size W W' :=
 ⟨c'.env.1.trans c.env.1.symm, c'.env.2.1.trans c.env.2.1.symm, c'.env.2.2.1.trans c.env.2.2.1.symm, hs, fun b hb => (c'.same b hb (by simp [hM])).trans (c.same b hb (by simp [hM])).symm⟩
theorem keeps_core {H H' : Hp} {W W' : World} {M : List Nat} {h' : List (Nat × Blk)} {k' : List (Nat × Value)} (B : Nat) (c : Core ⟨H, W, M⟩ H' h' k' W') (hM : ∀ b ∈ M, ∃ cs T, W.heap[b]? = some (Obj.cells cs T (0, 0))) : KeepsFrom B W W' :=
 ⟨c.size, fun k o _ ho hc => (c.same k (Array.getElem?_eq_some_iff.1 ho).1 (fun q => by
  obtain ⟨cs, T, e⟩ := hM k q
  rw [e] at ho; cases ho; cases hc)).trans ho⟩
theorem Ken {H H' : Hp} {W W' : World} {h' : List (Nat × Blk)} {k' : List (Nat × Value)} (c : Core ⟨H, W, []⟩ H' h' k' W') : Below W.heap.size W W' :=
 ⟨c.env.1, c.env.2.1, c.env.2.2.1, c.size, fun b hb => c.same b hb (by simp)⟩
theorem Khw {H : Hp} {w : World} {r : Nat} {xs : List Ka} {z : Z3} (x : Ka) (hA : Ag H w) (hrow : BlkOK H w (r, .row 2 (xs.map Kf) (SL z))) (hx : clK x = x) (hr : RowC xs) (hl : xs.length < 4398046511104) :
    ∃ i : Nat, i ≤ xs.length ∧ (∀ j a, j < i → xs[j]? = some a → ltK a x = true) ∧ (∀ j a, i ≤ j → xs[j]? = some a → ltK a x = false) ∧
      Calls Tryz.prog 50 #[SL z, encK x, .func (.func 51) #[] #[]] w fun e w' => e = .returned (.tuple #[.int .i64 i, .bool (decide (x ∈ xs))]) ∧ Below w.heap.size w w' := by
  obtain ⟨i, e1, e2, e3, e4⟩ := search_eq xs x hx hr hl
  refine ⟨i, e2, e3, e4, ?_⟩
  obtain ⟨H', hle, c'⟩ := KfM hA hrow
  have hto := Kfn (c'.blks _ (List.mem_singleton.2 rfl))
  have hno : Rep H' (.lst 2 (xs.map Kf) .no) (SL z) := by
    obtain ⟨h1, h2⟩ := hto
    refine ⟨?_, h2⟩
    simp only [RepC] at h1 ⊢
    obtain ⟨y, g1, _, g3⟩ := h1
    exact ⟨y, g1, trivial, g3⟩
  have hk : Rep H' (Kf x) (encK x) := by
    have := rep_va H' (us := kc2 x) rfl
    exact this
  refine ((KbT xs x _ e1).2 H' w [SL z, encK x, .func (.func 51) #[] #[]] ?_ c'.ag (by simp) (by simp) (by simp [Ks])).mono ?_
  · simp only [RepsV]
    refine ⟨_, _, rfl, hno, _, _, rfl, hk, _, _, rfl, ⟨?_, rfl⟩, rfl⟩
    simp only [RepC]
    exact ⟨[], [], rfl, rfl, rfl⟩
  · rintro e w' ⟨v, H2, d, h2, k2, rfl, hv, hcore, rfl, rfl, rfl⟩
    refine ⟨?_, Ken hcore⟩
    obtain ⟨vs, rfl, g⟩ := KgW hv
    simp only [RepsV] at g
    obtain ⟨u1, _, rfl, a1, u2, _, rfl, b1, rfl⟩ := g
    have q1 := K4 a1
    have q2 := K4 b1
    subst q1; subst q2
    rfl
def rowI (H : Hp) (w : World) (pre : List Ky) (W : World) : Prop := ∃ z : Z3, Core ⟨H, w, []⟩ H [(0, .row 2 ((rowK pre).map Kf) (SL z)), (w.heap.size, .cells [.v (SL z)] 27)] [] W
theorem rowI_own (H : Hp) (w : World) (B : Nat) (hB : w.heap.size ≤ B) : OwnFrom B (rowI H w) := fun s X Y row ⟨z, hc⟩ hg hr =>
 ⟨z, Khv (by intro p hp; simp at hp; rcases hp with rfl | rfl <;> simp) hc hg (fun r e => ⟨Nat.le_trans hB (hr r e).1, (hr r e).2⟩)⟩
theorem Khx {H : Hp} {W : World} {z : Z3} {T : TypeId} {b : Nat} (hb : BlkOK H W (b, .cells [.v (SL z)] T)) : Boxed W b T (SL z) := by
 obtain ⟨us, h1, h2, _⟩ := hb
 have := Kcb (us := [SL z]) h2
 subst this
 exact h1
theorem KeK {H : Hp} {w : World} {xs : List Ka} {z zv : Z3} (x : Ka) (i : Nat) (hi : i ≤ xs.length) (hl : xs.length < 4398046511104) (hA : Ag H w) (h1 : BlkOK H w (0, .row 2 (xs.map Kf) (SL z))) (h2 : BlkOK H w (0, .row 2 ([x].map Kf) (SL zv))) (nd : (Ks [(0, Blk.row 2 (xs.map Kf) (SL z)), (0, Blk.row 2 ([x].map Kf) (SL zv))] []).Nodup) :
  Calls Tryz.prog 52 #[SL z, .int .i64 i, SL zv] w fun e w' => ∃ z' : Z3, e = .returned (SL z') ∧ Core ⟨H, w, Ks [(0, Blk.row 2 (xs.map Kf) (SL z)), (0, Blk.row 2 ([x].map Kf) (SL zv))] []⟩ H [(0, .row 2 ((insAt xs i x).map Kf) (SL z'))] [] w' := by
 have hp : insPre xs (i : Int) = true := by unfold insPre; simp; omega
 exact insert_okH xs i x z zv hp H w hA h1 h2 nd
theorem rowI_step {H : Hp} {w W2 W4 : World} {pre : List Ky} {x : Ky} {z z' : Z3} {i : Nat} (hi : i ≤ (rowK pre).length) (h3 : ∀ j a, j < i → (rowK pre)[j]? = some a → ltK a (clK x) = true) (h4 : ∀ j a, i ≤ j → (rowK pre)[j]? = some a → ltK a (clK x) = false) (hm : clK x ∉ rowK pre)
  (c2 : Core ⟨H, w, []⟩ H [(0, .row 2 ((rowK pre).map Kf) (SL z)), (w.heap.size, .cells [.v (SL z)] 27)] [] W2)
  (c4 : Core ⟨H, W2.alloc (.cells (kc2 (clK x)).toArray 41), Ks [(0, Blk.row 2 ((rowK pre).map Kf) (SL z)), (0, Blk.row 2 ([clK x].map Kf) (SL (some ⟨W2.heap.size, 0, none⟩, 1, 1)))] []⟩ H [(0, .row 2 ((insAt (rowK pre) i (clK x)).map Kf) (SL z'))] [] W4) :
  Boxed W4 w.heap.size 27 (SL z) ∧ rowI H w (pre ++ [x]) (W4.setCell ⟨w.heap.size, 0, none⟩ (SL z')) ∧ KeepsOthers W2 (W4.setCell ⟨w.heap.size, 0, none⟩ (SL z')) := by
 have hrow : rowK (pre ++ [x]) = insAt (rowK pre) i (clK x) := by rw [Ke2, ins_eq hi h3 h4 hm]
 have c3 := Core.newRow c2 (xs := [clK x].map Kf) (us := kc2 (clK x)) (rest := []) (kk := 2) (m := 1) (T := 41) (KcA [clK x]) (by simp) (by simp [kc2]) (by simp)
 simp only [List.append_nil, List.length_map, List.length_cons, List.length_nil] at c3
 have c3' : Core ⟨H, w, []⟩ H ([(0, .row 2 ((rowK pre).map Kf) (SL z)), (0, .row 2 ([clK x].map Kf) (SL (some ⟨W2.heap.size, 0, none⟩, 1, 1)))] ++ [(w.heap.size, .cells [.v (SL z)] 27)]) ([] ++ []) (W2.alloc (.cells (kc2 (clK x)).toArray 41)) :=
  c3.perm (List.Perm.swap _ _ _) (List.Perm.refl _)
 have c5 := Core.call c3' c4
 have hbx := Khx (c5.blks (w.heap.size, .cells [.v (SL z)] 27) (by simp))
 refine ⟨hbx, ⟨z', ?_⟩, ?_⟩
 ·have hs := Boxed.set (SL z') hbx
  have c6 := Core.write c5 (j := 1) (b := w.heap.size) (ds := [.v (SL z)]) (ds' := [.v (SL z')]) (us' := [SL z']) (T := 27) (w' := W4.setCell ⟨w.heap.size, 0, none⟩ (SL z')) rfl (Env.refl _) (by simp [World.setCell]) (fun j hj => Below.heap_setCell _ _ _ j hj) hs (KbR H [SL z'] rfl)
  rw [hrow]; exact c6
 ·refine (KeepsOthers.alloc W2 (.cells (kc2 (clK x)).toArray 41)).trans (KeepsOthers.trans ?_ (KeepsOthers.setCell _ _ _))
  have hk := keeps_core 0 c4 (fun b hb => by
   have hcl := c3'.blks
   have e1 := hcl (0, .row 2 ((rowK pre).map Kf) (SL z)) (by simp)
   have e2 := hcl (0, .row 2 ([clK x].map Kf) (SL (some ⟨W2.heap.size, 0, none⟩, 1, 1))) (by simp)
   have ecl : Ks [(0, Blk.row 2 ((rowK pre).map Kf) (SL z)), (0, Blk.row 2 ([clK x].map Kf) (SL (some ⟨W2.heap.size, 0, none⟩, 1, 1)))] [] = Ks [(0, Blk.row 2 ((rowK pre).map Kf) (SL z))] [] ++ Ks [(0, Blk.row 2 ([clK x].map Kf) (SL (some ⟨W2.heap.size, 0, none⟩, 1, 1)))] [] := by simp [Ks]
   rw [ecl] at hb
   rcases List.mem_append.1 hb with q | q
   ·rcases Kc3 e1 with ⟨q1, q2, q3⟩ | ⟨b1, m, rest, T, q0, _, _, q1, _, _, q2⟩
    ·obtain ⟨z1, z2, z3⟩ := z
     simp only at q1 q2; subst q1; subst q2
     cases z1 <;> simp [Ks, KN, K2] at q
    ·rw [q2] at q; simp at q; subst q; exact ⟨_, _, q1⟩
   ·rcases Kc3 e2 with ⟨q1, q2, q3⟩ | ⟨b1, m, rest, T, q0, _, _, q1, _, _, q2⟩
    ·cases q3
    ·rw [q2] at q; simp at q; subst q; exact ⟨_, _, q1⟩)
  exact ⟨hk.size, fun k o ho hc => hk.same k o (Nat.zero_le _) ho hc⟩
theorem rowI_same {H : Hp} {w W2 : World} {pre : List Ky} {x : Ky} {z : Z3} (hm : clK x ∈ rowK pre) (c2 : Core ⟨H, w, []⟩ H [(0, .row 2 ((rowK pre).map Kf) (SL z)), (w.heap.size, .cells [.v (SL z)] 27)] [] W2) : rowI H w (pre ++ [x]) W2 := by
 refine ⟨z, ?_⟩
 rw [Ke2, ins_same (Kbu pre).1 hm]; exact c2
theorem Kg3 {W W' : World} (h : Below W.heap.size W W') : KeepsOthers W W' := ⟨h.size, fun k o hk _ => (h.block k (Array.getElem?_eq_some_iff.1 hk).1).trans hk⟩
theorem row_calls (H : Hp) (w : World) (hA : Ag H w) (Bs : Nat) (a : Option Addr) (cap : Nat) (kss : List (List Ky)) (hN : kss.flatten.length < 4398046511104) (hlen : ∀ k : Nat, k < kss.length → wrap64 ((k : Int) + 1) = (k : Int) + 1) (hlens : ∀ ks ∈ kss, ∀ j : Nat, j < ks.length → wrap64 ((j : Int) + 1) = (j : Int) + 1)
  (hBs : Bs < w.heap.size) (hcB : w.cell? ⟨Bs, 0, none⟩ = some (.slice a kss.length cap)) (hc : ∀ i ks, kss[i]? = some ks → ∃ b off sv, a = some ⟨b, off, none⟩ ∧ b < w.heap.size ∧ w.cell? ⟨b, off + i, none⟩ = some sv ∧ SlK w.heap.size w sv ks) :
  Calls Tryz.prog 41 #[.func (.func 67) #[] #[.pointer (some ⟨Bs, 0, none⟩)]] w fun e w' => ∃ z : Z3, e = .returned (SL z) ∧ Core ⟨H, w, []⟩ H [(0, .row 2 ((rowK kss.flatten).map Kf) (SL z))] [] w' := by
 refine (callsIn_wide (n := 5)).1 ?_
 refine callsIn_of_wp_marks Tryz.func41 rfl trivial ?_ rfl
 simp only [Tryz.ntmps41, List.size_toArray, List.length_cons, List.length_nil, Nat.reduceAdd, Nat.reduceSub, Array.replicate_succ, Array.replicate_zero, List.push_toArray, List.append_toArray, List.nil_append, List.cons_append]
 gi_wp2
 have hb0 : Below w.heap.size w (w.alloc (.cells #[.slice none 0 0] 27)) := (Below.refl _ w).alloc (Nat.le_refl _) _
 have hI0 : rowI H w [] (w.alloc (.cells #[.slice none 0 0] 27)) := by
  have c1 := Core.alloc (Core.here hA) (ds := [.v (SL (none, 0, 0))]) (us := [SL (none, 0, 0)]) 27 (KbR H [SL (none, 0, 0)] rfl)
  refine ⟨(none, 0, 0), c1.ag, c1.le, c1.new, c1.same, c1.size, ?_, by simp, ?_, ?_, c1.env⟩
  ·intro p hp
   rcases List.mem_cons.1 hp with rfl | hp
   ·exact .inl ⟨none, rfl, rfl⟩
   ·exact c1.blks p (by simpa using hp)
  ·have := c1.nd; simpa [Ks, KN, K2] using this
  ·have := c1.own; simpa [Ks, KN, K2] using this
 have hsz : (w.alloc (.cells #[.slice none 0 0] 27)).heap.size = w.heap.size + 1 := by simp
 obtain ⟨W0, hW0⟩ : ∃ W0, w.alloc (.cells #[.slice none 0 0] 27) = W0 := ⟨_, rfl⟩
 rw [hW0] at hb0 hI0 hsz ⊢
 clear hW0
 refine wpIn_rangeFunc_ownH (n := 5) rfl (by decide) (gf := 67) (lb := #[.pointer (some ⟨Bs, 0, none⟩)]) rfl trivial (enters_of Tryz.func67 (by kernel_rfl) rfl)
  (Kjq 4 (by decide) Bs w.heap.size a cap kss hlen hlens W0 (by omega) (by omega) ((hb0.cell (p := ⟨Bs, 0, none⟩) hBs).trans hcB) (fun i ks hk => by
   obtain ⟨b, off, sv, e1, e2, e3, e4⟩ := hc i ks hk
   exact ⟨b, off, sv, e1, e2, (hb0.cell (p := ⟨b, _, none⟩) e2).trans e3, e4.below hb0⟩)) belowK_t (belowK_b (by omega)) (Below.refl _ _) (fun _ => rfl)
  (fun pre W => rowI H w pre W) (fun _ _ _ => False)
  (rowI_own H w _ (by omega)) (fun _ _ _ _ _ hs _ _ => hs) hI0
  (fun x a' W => ∃ Bx, W.heap[Bx]? = some (Obj.cells #[.string (clK x).gName, .int .i64 (clK x).gNode] 41 (0, 0)) ∧ a' = { tmps := #[Value.func (Fn.func 67) #[] #[Value.pointer (some { block := Bs, off := 0 })], undef, Value.slice none 0 0, Value.pointer (some { block := w.heap.size, off := 0 }), .pointer (some ⟨Bx, 0, none⟩), undef, undef, Value.func (Fn.func 67) #[] #[Value.pointer (some { block := Bs, off := 0 })], .agg #[.string (clK x).gName, .int .i64 (clK x).gNode], undef, undef, undef, undef, undef, undef, undef, undef, undef, undef, undef, undef, undef, undef], defers := [] })
  (fun x a' s X Y row hs hg hr => by
   obtain ⟨Bx, h1, h2⟩ := hs
   refine ⟨Bx, (hg.block Bx (Array.getElem?_eq_some_iff.1 h1).1 (fun q => ?_)).trans h1, h2⟩
   obtain ⟨_, o, ho, hcc⟩ := hr Bx q.symm
   rw [h1] at ho; cases ho; cases hcc)
  ?assign ?body ?done ?stop
 case assign =>
  rintro l pre x W K ⟨z, hI⟩ hK
  unfold encK
  gi_wp2
  have hw : w.heap.size ≤ W.heap.size := hI.size
  refine hK _ _ ((KeepsOthers.alloc _ _).from _) ((Below.refl _ W).alloc hw _) ⟨z, ?_⟩ ⟨W.heap.size, World.alloc_heap_new W _, rfl⟩
  refine Khv (row := none) (by intro p hp; simp at hp; rcases hp with rfl | rfl <;> simp) hI (World.grownBy_alloc W _ none) (fun r e => by cases e)
 case body =>
  rintro l pre x a' W hl ⟨r, hr⟩ ⟨z, hI⟩ ⟨Bx, hBx, rfl⟩ hlt
  have hpl := (Kbu pre).2.2
  have hl42 : (rowK pre).length < 4398046511104 := by omega
  obtain ⟨i, hi, h3, h4, hbs⟩ := Khw (clK x) hI.ag (hI.blks (0, .row 2 ((rowK pre).map Kf) (SL z)) (by simp)) (Kfq x) (KeJ pre) hl42
  have bO := Khx (hI.blks (w.heap.size, .cells [.v (SL z)] 27) (by simp))
  have cO := bO.cell
  have cX0 : W.cell? ⟨Bx, 0, none⟩ = some (.string (clK x).gName) := by simp [World.cell?, hBx]
  have cX1 : W.cell? ⟨Bx, 1, none⟩ = some (.int .i64 (clK x).gNode) := by simp [World.cell?, hBx]
  have hBl : Bx < W.heap.size := (Array.getElem?_eq_some_iff.1 hBx).1
  have hOl := bO.lt
  have hsI := hI.size
  simp only [encK] at hbs
  by_cases hm : clK x ∈ rowK pre
  ·rw [decide_eq_true hm] at hbs
   gi_wp2
   refine ⟨trivial, ?_⟩
   refine (CallsIn.inRound l (callsIn_wide.2 hbs)).mono ?_
   rintro e W2 ⟨rfl, hb2⟩
   gi_wp2
   have c2 : Core ⟨H, w, []⟩ H [(0, .row 2 ((rowK pre).map Kf) (SL z)), (w.heap.size, .cells [.v (SL z)] 27)] [] W2 := Core.call (h1 := []) (k1 := []) hI (KaR hI.ag hb2)
   exact ⟨(Kg3 hb2).from _, Kgh rfl hI c2 hb2.size, rowI_same hm c2⟩
  ·rw [decide_eq_false hm] at hbs
   gi_wp2
   refine ⟨trivial, ?_⟩
   refine (CallsIn.inRound l (callsIn_wide.2 hbs)).mono ?_
   rintro e W2 ⟨rfl, hb2⟩
   have c2 : Core ⟨H, w, []⟩ H [(0, .row 2 ((rowK pre).map Kf) (SL z)), (w.heap.size, .cells [.v (SL z)] 27)] [] W2 := Core.call (h1 := []) (k1 := []) hI (KaR hI.ag hb2)
   have cO2 : W2.cell? ⟨w.heap.size, 0, none⟩ = some (.slice z.1 z.2.1 z.2.2) := (hb2.cell (p := ⟨w.heap.size, 0, none⟩) hOl).trans cO
   have cX2 : W2.cell? ⟨Bx, 0, none⟩ = some (.string (clK x).gName) := (hb2.cell (p := ⟨Bx, 0, none⟩) hBl).trans cX0
   have cX3 : W2.cell? ⟨Bx, 1, none⟩ = some (.int .i64 (clK x).gNode) := (hb2.cell (p := ⟨Bx, 1, none⟩) hBl).trans cX1
   have c3 := Core.newRow c2 (xs := [clK x].map Kf) (us := kc2 (clK x)) (rest := []) (kk := 2) (m := 1) (T := 41) (KcA [clK x]) (by simp) (by simp [kc2]) (by simp)
   simp only [List.append_nil, List.length_map, List.length_cons, List.length_nil] at c3
   have c3' : Core ⟨H, w, []⟩ H ([(0, .row 2 ((rowK pre).map Kf) (SL z)), (0, .row 2 ([clK x].map Kf) (SL (some ⟨W2.heap.size, 0, none⟩, 1, 1)))] ++ [(w.heap.size, .cells [.v (SL z)] 27)]) ([] ++ []) (W2.alloc (.cells (kc2 (clK x)).toArray 41)) :=
    c3.perm (List.Perm.swap _ _ _) (List.Perm.refl _)
   have hins := KeK (clK x) i hi hl42 c3'.ag (c3'.blks (0, .row 2 ((rowK pre).map Kf) (SL z)) (by simp)) (c3'.blks (0, .row 2 ([clK x].map Kf) (SL (some ⟨W2.heap.size, 0, none⟩, 1, 1))) (by simp)) (by
    have := (Kbd [(0, Blk.row 2 ((rowK pre).map Kf) (SL z)), (0, Blk.row 2 ([clK x].map Kf) (SL (some ⟨W2.heap.size, 0, none⟩, 1, 1)))] [(w.heap.size, .cells [.v (SL z)] 27)] [] []).nodup_iff.1 c3'.nd
    exact (List.nodup_append.1 this).1)
   clear c3 c3'
   gi_wp2
   refine ⟨trivial, ?_⟩
   refine (CallsIn.inRound l (callsIn_wide.2 hins)).mono ?_
   rintro e W4 ⟨z', rfl, c4⟩
   obtain ⟨bx, ⟨z2, hI2⟩, hk⟩ := rowI_step hi h3 h4 hm c2 c4
   have cO4 := bx.cell
   have fO4 := bx.frozen
   gi_wp2
   have hkk := (Kg3 hb2).trans hk
   exact ⟨hkk.from _, Kgh rfl hI hI2 hkk.size, z2, hI2⟩
 case done =>
  rintro D zs W hD rfl ⟨z, hI⟩ hK
  have cO := (Khx (hI.blks (w.heap.size, .cells [.v (SL z)] 27) (by simp))).cell
  gi_wp2
  refine ⟨by simp, .inl ⟨_, _, rfl, run_takeDeferred hK, ?_⟩⟩
  refine ⟨_, results_tmp rfl _ _ _, z, rfl, ?_⟩
  have hI3 := Core.drop hI (h' := [(0, .row 2 ((rowK kss.flatten).map Kf) (SL z))]) (k' := []) (by simp) (List.Sublist.refl _)
  exact Khv (by intro p hp; simp at hp; subst hp; simp) hI3 (grownBy_putObj' W D _) (fun r e => by cases e; exact ⟨by show w.heap.size ≤ D; omega, _, hK, rfl⟩)
 case stop =>
  rintro D c pre W _ _ h _
  exact h.elim
end Go.Proofs.YtnfkijcmakgkmaaGreat.Ab
namespace Go.Proofs.YtnfkijcmakgkmaaGreat.Ab
open Go Go.RowKit Go.Shelf Go.Proofs Go.Proofs.YtnfkijcmakgkmaaGreat.Ab.Pq
set_option linter.all false
theorem KfQ (j : Nat) (h : j < 4398046511104) : wrap64 ((j : Int) + 1) = (j : Int) + 1 := IntWalk.wrap64_in _ ⟨by omega, by omega⟩
theorem els_slk {H : Hp} {w : World} (hA : Ag H w) {b : Nat} : ∀ {ks : List Ka} {off : Nat}, Els H 2 b off (ks.map Kf) → ∀ j x, ks[j]? = some x → b < w.heap.size ∧ w.cell? ⟨b, off + j * 2, none⟩ = some (.string x.gName) ∧ w.cell? ⟨b, off + j * 2 + 1, none⟩ = some (.int .i64 x.gNode)
  | [], off, _, j, x, hj => by simp at hj
  | k :: ks, off, h, j, x, hj => by
    simp only [List.map_cons, Els] at h
    obtain ⟨⟨us, _, h2, h3, _⟩, h5⟩ := h
    cases j with
    | zero =>
      simp at hj; subst hj
      have : us = kc2 k := by
        have q : Reps H ((kc2 k).map .v) us := by simpa only [Kf, RepC, kc2, List.map_cons, List.map_nil] using h2
        exact Kcb q
      subst this
      have c0 := hA _ _ (h3 0 _ rfl)
      have c1 := hA _ _ (h3 1 _ rfl)
      exact ⟨cell_lt c0, by simpa using c0, by simpa using c1⟩
    | succ j =>
      have := els_slk hA h5 j x (by simpa using hj)
      rw [show off + 2 + j * 2 = off + (j + 1) * 2 by omega] at this
      exact this
theorem KfR {H : Hp} {w : World} (hA : Ag H w) {ks : List Ka} {c : Cap} {v : Value} (h : Rep H (.lst 2 (ks.map Kf) c) v) : SlK w.heap.size w v ks := by
 obtain ⟨_, h⟩ := KaH h
 rcases h with ⟨e, a, m, rfl, _⟩ | ⟨b, off, m, rfl, hm, hE⟩
 ·obtain rfl := List.map_eq_nil_iff.1 e
  exact ⟨a, m, rfl, fun j x hj => by simp at hj⟩
 ·refine ⟨some ⟨b, off, none⟩, m, by simp, fun j x hj => ?_⟩
  obtain ⟨h1, h2, h3⟩ := els_slk hA hE j x hj
  exact ⟨b, off, rfl, h1, h2, h3⟩
theorem slk_row {H : Hp} {w : World} (hA : Ag H w) {r : Nat} {ks : List Ka} {z : Z3} (h : BlkOK H w (r, .row 2 (ks.map Kf) (SL z))) : SlK w.heap.size w (SL z) ks := by
 obtain ⟨H', hle, c'⟩ := KfM hA h
 have hto := Kfn (c'.blks _ (List.mem_singleton.2 rfl))
 exact KfR c'.ag hto
theorem KiE (H : Hp) (w : World) (hA : Ag H w) (l : List Ka) (v : Value) (hv : SlK w.heap.size w v l) (hl : l.length < 4398046511104) :
    Calls Tryz.prog 22 #[v] w fun e w' => ∃ z : Z3, e = .returned (SL z) ∧ Core ⟨H, w, []⟩ H [(0, .row 2 ((rowK l).map Kf) (SL z))] [] w' := by
  obtain ⟨W1, hW1⟩ : ∃ W1, W1 = w.alloc (Obj.cells #[v] 27) := ⟨_, rfl⟩
  obtain ⟨W2, hW2⟩ : ∃ W2, W2 = W1.alloc (Obj.cells #[Value.slice (some ⟨w.heap.size, 0, none⟩) 1 1] 113) := ⟨_, rfl⟩
  have hch := Kjp (.slice (some ⟨w.heap.size, 0, none⟩) 1 1) ⟨_, _, _, rfl⟩ W1
  have hb1 : Below w.heap.size w W1 := by rw [hW1]; exact (Below.refl _ w).alloc (Nat.le_refl _) _
  have hb2 : Below w.heap.size w W2 := by rw [hW2]; exact hb1.alloc hb1.size _
  have hs1 : W1.heap.size = w.heap.size + 1 := by rw [hW1]; simp
  have hs2 : W2.heap.size = w.heap.size + 2 := by rw [hW2]; simp [hs1]
  have hbx : W2.heap[w.heap.size]? = some (Obj.cells #[v] 27 (0, 0)) := by rw [hW2, hW1]; rw [Kaq, if_neg (by simp), Kaq, if_pos rfl]
  have hby : W2.heap[w.heap.size + 1]? = some (Obj.cells #[Value.slice (some ⟨w.heap.size, 0, none⟩) 1 1] 113 (0, 0)) := by rw [hW2, hW1]; rw [Kaq, if_pos (by simp)]
  have hA2 : Ag H W2 := fun a u e => by rw [hb2.cell (p := a) (hA.lt e)]; exact hA a u e
  have hrow := row_calls H W2 hA2 (w.heap.size + 1) (some ⟨w.heap.size, 0, none⟩) 1 [l] (by simpa using hl) (fun k hk => KfQ k (by simp at hk; omega)) (fun ks hks j hj => by simp at hks; subst hks; exact KfQ j (by omega))
    (by omega) (by simp [World.cell?, hby]) (fun i ks hk => by
      cases i with
      | zero =>
        simp at hk; subst hk
        obtain ⟨a, cap, e1, e2⟩ := hv
        refine ⟨w.heap.size, 0, v, rfl, by omega, by simp [World.cell?, hbx], ?_⟩
        refine SlK.below (n₀ := W2.heap.size) (A := W2) (Below.refl _ _) ?_
        refine ⟨a, cap, e1, fun j x hj => ?_⟩
        obtain ⟨b, off, g1, g2, g3, g4⟩ := e2 j x hj
        exact ⟨b, off, g1, by omega, (hb2.cell (p := ⟨b, _, none⟩) g2).trans g3, (hb2.cell (p := ⟨b, _, none⟩) g2).trans g4⟩
      | succ i => simp at hk)
  rw [show [l].flatten = l by simp] at hrow
  have hone : v.oneCell' = true := by obtain ⟨a, cap, e1, _⟩ := hv; subst e1; rfl
  obtain ⟨va, vc, rfl, _⟩ := hv
  go_enter Tryz.func22, Tryz.ntmps22
  go_wp2_with fail
  rw [← hW1]
  refine hch.mono ?_
  rintro e W ⟨rfl, hW⟩
  rw [← hW2] at hW
  subst hW
  clear hW1 hW2
  rw [hs1]
  go_wp2_with fail
  refine hrow.mono ?_
  rintro e W ⟨z, rfl, hc⟩
  go_wp2
  go_ret
  exact ⟨z, rfl, Core.call (h1 := []) (k1 := []) (h2 := []) (k2 := []) (KaR hA hb2) hc⟩
def len42 (l : List Ka) : Bool := decide (l.length < 4398046511104)
theorem Row_ok (l : List Ka) (h : len42 l = true) : CallsD Tryz.prog 22 [.lst 2 (l.map Kf) .no] [] [] (fun d h k => ∃ z : Z3, d = .v (SL z) ∧ h = [(0, Blk.row 2 ((rowK l).map Kf) (SL z))] ∧ k = []) := by
 unfold len42 at h
 rw [decide_eq_true_iff] at h
 refine ⟨⟨_, Tryz.func22, rfl, rfl⟩, fun H w vs hv hA _ _ _ => ?_⟩
 simp only [RepsV] at hv
 obtain ⟨u1, _, rfl, g1, rfl⟩ := hv
 refine (KiE H w hA l u1 (KfR hA g1) h).mono ?_
 rintro e w' ⟨z, rfl, hc⟩
 exact ⟨_, H, .v (SL z), _, [], rfl, rep_v rfl, hc, z, rfl, rfl, rfl⟩
end Go.Proofs.YtnfkijcmakgkmaaGreat.Ab
namespace Go.Proofs.YtnfkijcmakgkmaaGreat.Ab
open Go
set_option linter.all false
def eqD (tab : List (Option TI)) (ts : List Nat) : Nat → Nat → D → D → Option Bool
  | 0, _, _, _ => none
  | n + 1, t, x, y => match ti tab t with
    | none => none
    | some i => match i.d, x, y with
      | .struct fs, .agg ds, .agg es => bif ts.contains t then fs.foldr (fun f acc => match ti tab f.1 with
          | none => none
          | some j => match partD j ds f.2, partD j es f.2 with
            | some p, some q => match eqD tab ts n f.1 p q, acc with
              | some b, some r => some (b && r)
              | _, _ => none
            | _, _ => none) (some true) else none
      | .array m e, .agg ds, .agg es => bif ts.contains t then (match ti tab e with
          | none => none
          | some j => (List.range m).foldr (fun k acc => match partD j ds (k * j.size), partD j es (k * j.size) with
            | some p, some q => match eqD tab ts n e p q, acc with
              | some b, some r => some (b && r)
              | _, _ => none
            | _, _ => none) (some true)) else none
      | _, .v a, .v b => eqV i.d a b
      | _, _, _ => none
section
variable {P : Program} {C : Ctx} {N : Nat} {ops rest : List Oper} {o : Oper} {t : List (Nat × D)} {h : List (Nat × Blk)} {k : List (Nat × Value)} {Q : Exit → S → Prop} {tab : List (Option TI)}
theorem eqD_ok (hT : TabOK P tab) {ts : List Nat} (hE : ∀ t ∈ ts, EqT P t) {H : Hp} {w : World} (d : Nat) : ∀ (n t : Nat) (x y : D) (u v : Value) (b : Bool), eqD tab ts n t x y = some b → Rep H x u → Rep H y v → (Op.equalIn (d + n) t u v).run P w = .ok b w
  | 0, _, _, _, _, _, _, e, _, _ => by simp [eqD] at e
  | n + 1, t, x, y, u, v, b, e, hu, hv => by
    simp only [eqD] at e
    split at e
    · cases e
    · rename_i i hi
      obtain ⟨ti', z, dd, h5, h6, h7, _⟩ := Kb3 (ti_ok hT hi)
      split at e
      · rename_i fs ds es hd
        cases hc : ts.contains t with
        | false => rw [hc] at e; cases e
        | true =>
          rw [hc] at e
          simp only [cond_true] at e
          have hEt := hE t (by simpa using hc)
          obtain ⟨us, rfl, h2⟩ := KaW hu
          obtain ⟨vs, rfl, h4⟩ := KaW hv
          obtain ⟨gs, rfl, h8⟩ := Kcr (h7.trans hd)
          have hf : P.fieldsOf t = gs := by unfold Program.fieldsOf; rw [h6]
          show (Op.equalIn ((d + n) + 1) t _ _).run P w = _
          rw [run_equalIn_struct w (d + n) t _ _ (by rw [h6, hf]) hEt.stood]
          have hn := hEt.names
          rw [hf] at hn ⊢
          generalize gs.toList = L at h8 hn
          subst h8
          clear h6 h7 hd hi hf
          induction L generalizing b with
          | nil => simp at e; subst e; rfl
          | cons g L ih =>
            simp only [List.all_cons, Bool.and_eq_true, bne_iff_ne] at hn
            simp only [List.map_cons, List.foldr_cons] at e
            split at e
            · cases e
            · rename_i j hj
              split at e
              · rename_i p q hp hq
                split at e
                · rename_i b0 r0 hb hr
                  simp only [Option.some.injEq] at e
                  have ih' := ih r0 hn.2 hr
                  obtain ⟨v1, p1, q1⟩ := KcL (P := P) (w := w) (ti_ok hT hj) h2 hp
                  obtain ⟨v2, p2, q2⟩ := KcL (P := P) (w := w) (ti_ok hT hj) h4 hq
                  unfold Op.eqFields
                  rw [if_pos hn.1, Kl p1, Kl p2, Kl (eqD_ok hT hE d n _ _ _ _ _ _ hb q1 q2)]
                  cases b0 with
                  | false => simp at e; subst e; rfl
                  | true => simp at e; subst e; simpa using ih'
                · cases e
              · cases e
      · rename_i m e' ds es hd
        cases hc : ts.contains t with
        | false => rw [hc] at e; cases e
        | true =>
          rw [hc] at e
          simp only [cond_true] at e
          split at e
          · cases e
          · rename_i j hj
            obtain ⟨us, rfl, h2⟩ := KaW hu
            obtain ⟨vs, rfl, h4⟩ := KaW hv
            have hdd := Khe (h7.trans hd); subst hdd
            obtain ⟨ie, _, _, h8, _, _, h9, _⟩ := Kb3 (ti_ok hT hj)
            have hce : P.cellsOf e' = j.size := by unfold Program.cellsOf; rw [h8]; exact h9
            show (Op.equalIn ((d + n) + 1) t _ _).run P w = _
            rw [run_equalIn_array w (d + n) _ _ h6 h8, hce]
            generalize List.range m = L at e
            clear h6 h7 hd hi
            induction L generalizing b with
            | nil => simp at e; subst e; rfl
            | cons g L ih =>
              simp only [List.foldr_cons] at e
              split at e
              · rename_i p q hp hq
                split at e
                · rename_i b0 r0 hb hr
                  simp only [Option.some.injEq] at e
                  have ih' := ih r0 hr
                  obtain ⟨v1, p1, q1⟩ := KcL (P := P) (w := w) (ti_ok hT hj) h2 hp
                  obtain ⟨v2, p2, q2⟩ := KcL (P := P) (w := w) (ti_ok hT hj) h4 hq
                  unfold Op.eqItems
                  rw [Kl p1, Kl p2, Kl (eqD_ok hT hE d n _ _ _ _ _ _ hb q1 q2)]
                  cases b0 with
                  | false => simp at e; subst e; rfl
                  | true => simp at e; subst e; simpa using ih'
                · cases e
              · cases e
      · rename_i a c hne1 hne2
        have := K4 hu; subst this
        have := K4 hv; subst this
        exact eqV_ok (ti_ok hT hi) (d + n) e
      · cases e
theorem x_eqC {op : BinOp} {neg : Bool} {xt yt : TypeId} {x y : Operand} {ds es : D} {b : Bool} (ts : List Nat) (hT : TabOK P tab) (ho : o.op = .binOp op xt x y yt)
  (hop : isNeq op = some neg) (hE : ∀ t ∈ ts, EqT P t) (hg : P.eqGuardType P.depth xt = false) (hx : opD t x = some ds) (hy : opD t y = some es) (ha : (match ds, es with | .agg _, .agg _ => true | _, _ => false) = true) (e : eqD tab ts 8 xt ds es = some b) : ∀ H a w, TOK H t a → ∃ v, (execOp a.eval o).run P w = .ok (.value v) w ∧ Rep H (.v (.bool (bif neg then !b else b))) v :=
 fun H a w kt => by
  refine ⟨.bool (bif neg then !b else b), ?_, rep_v rfl⟩
  have hu := K7 kt hx
  have hv := K7 kt hy
  cases ds <;> cases es <;> simp only [Bool.false_eq_true] at ha
  have hq := eqD_ok (w := w) hT hE 9992 8 xt _ _ _ _ b e hu hv
  obtain ⟨us, h1, h2⟩ := KaW hu
  obtain ⟨vs, h3, h4⟩ := KaW hv
  unfold execOp
  rw [ho]
  refine KaO ?_
  rw [h1, h3] at hq ⊢
  rw [Kl (run_eqGuard_agg w op xt x y _ _ hg)]
  have hq' : (Op.equalIn 10000 xt (.agg us.toArray) (.agg vs.toArray)).run P w = .ok b w := hq
  cases op <;> simp [isNeq] at hop <;> subst hop
  ·rw [run_eql_struct, hq']; rfl
  ·rw [run_neq_struct, hq']; rfl
theorem p_eqC {i : Nat} {op : BinOp} {neg : Bool} {xt yt : TypeId} {x y : Operand} {ds es : D} {b : Bool} (ts : List Nat) (hT : TabOK P tab) (ho : o.op = .binOp op xt x y yt) (hw : wantD ops t o = some true) (hd : o.dst = some i) (hi : Nat.blt i N = true)
  (hop : isNeq op = some neg) (hE : ∀ t ∈ ts, EqT P t) (hg : P.eqGuardType P.depth xt = false) (hx : opD t x = some ds) (hy : opD t y = some es) (ha : (match ds, es with | .agg _, .agg _ => true | _, _ => false) = true) (e : eqD tab ts 8 xt ds es = some b)
  (g : opsD P C N ops rest ⟨(i, .v (.bool (bif neg then !b else b))) :: t, h, k⟩ Q) : opsD P C N ops (o :: rest) ⟨t, h, k⟩ Q :=
 KcB (s := ⟨t, h, k⟩) hw hd hi (x_eqC ts hT ho hop hE hg hx hy ha e) g
end
section
variable {P : Program} {C : Ctx} {N : Nat} {ops rest : List Oper} {o : Oper} {t : List (Nat × D)} {h : List (Nat × Blk)} {k : List (Nat × Value)} {Q : Exit → S → Prop} {tab : List (Option TI)}
end
end Go.Proofs.YtnfkijcmakgkmaaGreat.Ab
