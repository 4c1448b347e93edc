/- The texts that grammarTokens_holds leans on, part 3. -/
import Derived.Test.YtmgklehakmdiiaaGh2
set_option maxRecDepth 100000
set_option maxHeartbeats 2000000
namespace Go.Proofs.Ytmgklehakmdiiaa.Ab
open Go
set_option linter.all false
section
variable {P : Program} {C : Ctx} {N : Nat} {ops rest : List Oper} {o : Oper} {t : List (Nat × D)} {h : List (Nat × Blk)} {k : List (Nat × Value)} {Q : Exit → S → Prop}
theorem Kl {id : Nat} {ops : List Oper} {y : Code} {s : S} (g : opsD P C N ops ops s (thenD (fun s' => wpD P C N y s' Q) Q)) : wpD P C N (.seq (.region id ops.toArray false) y) s Q := Kq (KC g)
theorem Kh {next : S → Prop} {s : S} (g : next s) : opsD P C N ops [] s (thenD next Q) := KB (Km g)
theorem Kv {id : Nat} {ops2 : List Oper} {y : Code} {s : S} {Q' : Exit → S → Prop} (g : opsD P C N ops2 ops2 s (thenD (fun s' => wpD P C N y s' Q) Q)) : opsD P C N ops [] s (thenD (fun s' => wpD P C N (.seq (.region id ops2.toArray false) y) s' Q) Q') := Kh (Kl g)
theorem pu {i : Nat} {d : D} (g : opsD Try.prog C N ops rest ⟨(i, d) :: t, h, k⟩ Q) (hw : wantD ops t o = some true := by rfl) (hd : o.dst = some i := by rfl) (hi : Nat.blt i N = true := by rfl) (e : evP tab t o.op = some d := by rfl) : opsD Try.prog C N ops (o :: rest) ⟨t, h, k⟩ Q := p_pure htab hw hd hi e g
theorem p_st0 {hr : List (Nat × Blk)} {b off : Nat} {T T' : TypeId} {x y : Operand} {ds ds' : List D} {ti0 : TI} {d : D} (ho : o.op = .store T x y) (hw : wantD ops t o = some true) (hd : o.dst = none) (hx : opD t x = some (.ptr b off)) (hT : ti tab T = some ti0) (hy : opD t y = some d) (hs : stor d = true) (hsz : Nat.beq (K2 d).length ti0.size = true) (hle : Nat.ble (off + ti0.size) ds.length = true) (e : lay ds off (K2 d) = ds') (g : opsD Try.prog C N ops rest ⟨t, (b, .cells ds' T') :: hr, k⟩ Q) : opsD Try.prog C N ops (o :: rest) ⟨t, (b, .cells ds T') :: hr, k⟩ Q := Kg8 0 htab ho hw hd hx rfl hT hy hs hsz hle e rfl g
theorem WkS.bl0 {hr : List (Nat × Blk)} {b : Nat} {ds ds' : List D} {T : TypeId} (hw : WkR ds ds') : WkS C ⟨t, (b, .cells ds T) :: hr, k⟩ ⟨t, (b, .cells ds' T) :: hr, k⟩ := WkS.blk 0 rfl hw rfl
theorem p_st1 {a0 : Nat × Blk} {hr : List (Nat × Blk)} {b off : Nat} {T T' : TypeId} {x y : Operand} {ds ds' : List D} {ti0 : TI} {d : D} (ho : o.op = .store T x y) (hw : wantD ops t o = some true) (hd : o.dst = none) (hx : opD t x = some (.ptr b off)) (hT : ti tab T = some ti0) (hy : opD t y = some d) (hs : stor d = true) (hsz : Nat.beq (K2 d).length ti0.size = true) (hle : Nat.ble (off + ti0.size) ds.length = true) (e : lay ds off (K2 d) = ds') (g : opsD Try.prog C N ops rest ⟨t, a0 :: (b, .cells ds' T') :: hr, k⟩ Q) : opsD Try.prog C N ops (o :: rest) ⟨t, a0 :: (b, .cells ds T') :: hr, k⟩ Q := Kg8 1 htab ho hw hd hx rfl hT hy hs hsz hle e rfl g
theorem WkS.bl1 {a0 : Nat × Blk} {hr : List (Nat × Blk)} {b : Nat} {ds ds' : List D} {T : TypeId} (hw : WkR ds ds') : WkS C ⟨t, a0 :: (b, .cells ds T) :: hr, k⟩ ⟨t, a0 :: (b, .cells ds' T) :: hr, k⟩ := WkS.blk 1 rfl hw rfl
theorem p_st2 {a0 a1 : Nat × Blk} {hr : List (Nat × Blk)} {b off : Nat} {T T' : TypeId} {x y : Operand} {ds ds' : List D} {ti0 : TI} {d : D} (ho : o.op = .store T x y) (hw : wantD ops t o = some true) (hd : o.dst = none) (hx : opD t x = some (.ptr b off)) (hT : ti tab T = some ti0) (hy : opD t y = some d) (hs : stor d = true) (hsz : Nat.beq (K2 d).length ti0.size = true) (hle : Nat.ble (off + ti0.size) ds.length = true) (e : lay ds off (K2 d) = ds') (g : opsD Try.prog C N ops rest ⟨t, a0 :: a1 :: (b, .cells ds' T') :: hr, k⟩ Q) : opsD Try.prog C N ops (o :: rest) ⟨t, a0 :: a1 :: (b, .cells ds T') :: hr, k⟩ Q := Kg8 2 htab ho hw hd hx rfl hT hy hs hsz hle e rfl g
theorem WkS.bl2 {a0 a1 : Nat × Blk} {hr : List (Nat × Blk)} {b : Nat} {ds ds' : List D} {T : TypeId} (hw : WkR ds ds') : WkS C ⟨t, a0 :: a1 :: (b, .cells ds T) :: hr, k⟩ ⟨t, a0 :: a1 :: (b, .cells ds' T) :: hr, k⟩ := WkS.blk 2 rfl hw rfl
theorem p_st3 {a0 a1 a2 : Nat × Blk} {hr : List (Nat × Blk)} {b off : Nat} {T T' : TypeId} {x y : Operand} {ds ds' : List D} {ti0 : TI} {d : D} (ho : o.op = .store T x y) (hw : wantD ops t o = some true) (hd : o.dst = none) (hx : opD t x = some (.ptr b off)) (hT : ti tab T = some ti0) (hy : opD t y = some d) (hs : stor d = true) (hsz : Nat.beq (K2 d).length ti0.size = true) (hle : Nat.ble (off + ti0.size) ds.length = true) (e : lay ds off (K2 d) = ds') (g : opsD Try.prog C N ops rest ⟨t, a0 :: a1 :: a2 :: (b, .cells ds' T') :: hr, k⟩ Q) : opsD Try.prog C N ops (o :: rest) ⟨t, a0 :: a1 :: a2 :: (b, .cells ds T') :: hr, k⟩ Q := Kg8 3 htab ho hw hd hx rfl hT hy hs hsz hle e rfl g
theorem p_st4 {a0 a1 a2 a3 : Nat × Blk} {hr : List (Nat × Blk)} {b off : Nat} {T T' : TypeId} {x y : Operand} {ds ds' : List D} {ti0 : TI} {d : D} (ho : o.op = .store T x y) (hw : wantD ops t o = some true) (hd : o.dst = none) (hx : opD t x = some (.ptr b off)) (hT : ti tab T = some ti0) (hy : opD t y = some d) (hs : stor d = true) (hsz : Nat.beq (K2 d).length ti0.size = true) (hle : Nat.ble (off + ti0.size) ds.length = true) (e : lay ds off (K2 d) = ds') (g : opsD Try.prog C N ops rest ⟨t, a0 :: a1 :: a2 :: a3 :: (b, .cells ds' T') :: hr, k⟩ Q) : opsD Try.prog C N ops (o :: rest) ⟨t, a0 :: a1 :: a2 :: a3 :: (b, .cells ds T') :: hr, k⟩ Q := Kg8 4 htab ho hw hd hx rfl hT hy hs hsz hle e rfl g
end
section
variable {P : Program} {C : Ctx} {N : Nat} {l : List Oper} {m : Nat} {De : Nat → D} {al : AL} {pre : List (List Nat)} {ev : List Nat} {h : List (Nat × Blk)} {k : List (Nat × Value)} {Q : Exit → S → Prop} {bs : Nat → Nat} {i : Nat} {o : Oper} {rest : List Oper} {te : TE}
theorem zqp {j : Nat} {x : Value} {p : List Nat} {t : List (Nat × D)} (g : Zw Try.prog C N l m De al pre ev h k Q bs (i + 1) rest ((j, .v x, none) :: te)) (hp : pre.getD i [] = p := by rfl) (ht : vis p te = t := by rfl) (hx : evP tab t o.op = some (.v x) := by rfl) (hw : wantD l (vis [] te) o = some true := by rfl) (hd : o.dst = some j := by rfl) (hi : Nat.blt j N = true := by rfl) (hne : ev.contains i = false := by rfl) (hone : one x = true := by rfl) (hpe : p.all ev.contains = true := by rfl) : Zw Try.prog C N l m De al pre ev h k Q bs i (o :: rest) te :=
 z_q hp ht (KT htab hx) hw hd hi hne hone hpe g
theorem zep {j : Nat} {p : List Nat} {t : List (Nat × D)} {d : D} (g : Zw Try.prog C N l m De al pre ev h k Q bs (i + 1) rest ((j, d, some i) :: te)) (hp : pre.getD i [] = p := by rfl) (ht : vis p te = t := by rfl) (hx : evP tab t o.op = some d := by rfl) (hw : wantD l (vis [] te) o = some true := by rfl) (hd : o.dst = some j := by rfl) (hi : Nat.blt j N = true := by rfl) (he : ev.contains i = true := by rfl) (hna : isAl al i = false := by rfl) (hDe : De i = d := by rfl) : Zw Try.prog C N l m De al pre ev h k Q bs i (o :: rest) te :=
 z_e hp ht (KT htab hx) hw hd hi he hna hDe g
end
def pickE {α : Type} : List Nat → List α → List α
  | [], _ => []
  | j :: js, l => match l[j]? with
    | some x => x :: pickE js (l.eraseIdx j)
    | none => []
def restE {α : Type} : List Nat → List α → List α
  | [], l => l
  | j :: js, l => match l[j]? with
    | some _ => restE js (l.eraseIdx j)
    | none => l
theorem KhG {α : Type} : ∀ (js : List Nat) (l : List α), l.Perm (pickE js l ++ restE js l)
  | [], l => List.Perm.refl _
  | j :: js, l => by
    unfold pickE restE
    cases h : l[j]? with
    | none => exact List.Perm.refl _
    | some x => exact (Kap h).trans ((KhG js (l.eraseIdx j)).cons x)
section
variable {P : Program} {C : Ctx} {N : Nat} {ops rest : List Oper} {o : Oper} {t : List (Nat × D)} {h : List (Nat × Blk)} {k : List (Nat × Value)} {Q : Exit → S → Prop}
theorem rP {rs : List ResultVar} {R : D → List (Nat × Blk) → List (Nat × Value) → Prop} {x : Exit} {t' : List (Nat × D)} {ds : List D} (js ks : List Nat) (n : Nat) (e : ∀ i d, look t' i = some d → ∃ d0, look t i = some d0 ∧ Wk d0 d) (hr : resL tab ⟨t', pickE js h, pickE ks k⟩ rs ds) (g : R (wrapD ds) ((pickE js h).take n) (pickE ks k)) (hx : x = .ret ∨ x = .normal := by first | exact .inl rfl | exact .inr rfl) : retX C tab rs R x ⟨t, h, k⟩ :=
 retX.of (s' := ⟨t', pickE js h, pickE ks k⟩) (WkS.perm e (KhG js h) (KhG ks k)) (retD_mk hx hr (List.take_sublist n _) (List.Sublist.refl _) g)
theorem wC {t t' : List (Nat × D)} {j : Nat} {d0 : D} (g : ∀ i d, look t' i = some d → ∃ d1, look t i = some d1 ∧ Wk d1 d) (h0 : look t j = some d0 := by rfl) : ∀ i d, look ((j, d0) :: t') i = some d → ∃ d1, look t i = some d1 ∧ Wk d1 d := WkS.cons h0 (Wk.refl _) g
theorem wN {t : List (Nat × D)} : ∀ i d, look [] i = some d → ∃ d0, look t i = some d0 ∧ Wk d0 d := WkS.nil
theorem lN {s : S} : resL tab s [] [] := rfl
theorem lT {s : S} {i : Nat} {rs : List ResultVar} {d : D} {ds : List D} (h2 : resL tab s rs ds) (h1 : look s.t i = some d := by rfl) : resL tab s (.tmp i :: rs) (d :: ds) := KjS (resOne_tmp h1) h2
theorem lC {s : S} {a b off : Nat} {T T' : TypeId} {ds : List D} {i : TI} {d : D} {rs : List ResultVar} {ds' : List D} (j : Nat) (hr : resL tab s rs ds') (h1 : look s.t a = some (.ptr b off) := by rfl) (h2 : s.h[j]? = some (b, Blk.cells ds T') := by rfl) (h3 : ti tab T = some i := by rfl) (h4 : partD i ds off = some d := by rfl) : resL tab s (.cell a T :: rs) (d :: ds') := KjS (Kky j h1 h2 h3 h4) hr
theorem rC {d : D} {ds ds' : List D} (g : WkR ds ds') : WkR (d :: ds) (d :: ds') := WkR.cons (WkC.refl _) rfl g
theorem rO {ds ds' : List D} {kk : Nat} {xs : List D} {c : Cap} (g : WkR ds ds') : WkR (.lst kk xs c :: ds) (.lst kk xs .no :: ds') := WkR.cons WkC.no rfl g
theorem Pf {α : Type} {l : List α} : l.Perm l := List.Perm.refl l
theorem Wl {ds : List D} : WkL ds ds := WkL.refl ds
theorem pL {i b off : Nat} {T T' : TypeId} {x : Operand} {ds : List D} {ti0 : TI} {d : D} (j : Nat) (g : opsD Try.prog C N ops rest ⟨(i, d) :: t, h, k⟩ Q) (ho : o.op = .load T x := by rfl) (hw : wantD ops t o = some true := by rfl) (hd : o.dst = some i := by rfl) (hi : Nat.blt i N = true := by rfl) (hx : opD t x = some (.ptr b off) := by rfl) (hb : h[j]? = some (b, .cells ds T') := by rfl) (hT : ti tab T = some ti0 := by rfl) (e : partD ti0 ds off = some d := by rfl) : opsD Try.prog C N ops (o :: rest) ⟨t, h, k⟩ Q := K7 j htab ho hw hd hi hx hb hT e g
theorem pG {f : FuncId} {args : List Operand} {ts : Array TypeId} {i : Nat} {ds ds' : List D} {h1 h2 : List (Nat × Blk)} {k1 k2 : List (Nat × Value)} {R : D → List (Nat × Blk) → List (Nat × Value) → Prop} (hc : CallsD Try.prog f ds' h1 k1 R) (hwk : WkL ds ds') (hh : h.Perm (h1 ++ h2)) (hk : k.Perm (k1 ++ k2)) (g : ∀ d h' k', R d h' k' → opsD Try.prog C N ops rest ⟨(i, d) :: t, h' ++ h2, k' ++ k2⟩ Q) (ho : o.op = .call ⟨.value (.func f), args.toArray, ts⟩ := by rfl) (hw : wantD ops t o = some true := by rfl) (hd : o.dst = some i := by rfl) (hi : Nat.blt i N = true := by rfl) (ha : KbJ args (opD t) = some ds := by rfl) : opsD Try.prog C N ops (o :: rest) ⟨t, h, k⟩ Q := Kam hc ho hw hd hi ha hwk hh hk g
theorem pK {i : Nat} (g : opsD Try.prog C N ops rest ⟨(i, .v (.tuple #[])) :: t, h, k⟩ Q) (hw : wantD ops t o = some false := by rfl) (hd : o.dst = some i := by rfl) (hi : Nat.blt i N = true := by rfl) : opsD Try.prog C N ops (o :: rest) ⟨t, h, k⟩ Q := p_skip hw hd hi g
theorem pS0 {hr : List (Nat × Blk)} {b off : Nat} {T T' : TypeId} {x y : Operand} {ds ds' : List D} {ti0 : TI} {d : D} (g : opsD Try.prog C N ops rest ⟨t, (b, .cells ds' T') :: hr, k⟩ Q) (ho : o.op = .store T x y := by rfl) (hw : wantD ops t o = some true := by rfl) (hd : o.dst = none := by rfl) (hx : opD t x = some (.ptr b off) := by rfl) (hT : ti tab T = some ti0 := by rfl) (hy : opD t y = some d := by rfl) (hs : stor d = true := by rfl) (hsz : Nat.beq (K2 d).length ti0.size = true := by rfl) (hle : Nat.ble (off + ti0.size) ds.length = true := by rfl) (e : lay ds off (K2 d) = ds' := by rfl) : opsD Try.prog C N ops (o :: rest) ⟨t, (b, .cells ds T') :: hr, k⟩ Q := p_st0 ho hw hd hx hT hy hs hsz hle e g
theorem pS1 {a0 : Nat × Blk} {hr : List (Nat × Blk)} {b off : Nat} {T T' : TypeId} {x y : Operand} {ds ds' : List D} {ti0 : TI} {d : D} (g : opsD Try.prog C N ops rest ⟨t, a0 :: (b, .cells ds' T') :: hr, k⟩ Q) (ho : o.op = .store T x y := by rfl) (hw : wantD ops t o = some true := by rfl) (hd : o.dst = none := by rfl) (hx : opD t x = some (.ptr b off) := by rfl) (hT : ti tab T = some ti0 := by rfl) (hy : opD t y = some d := by rfl) (hs : stor d = true := by rfl) (hsz : Nat.beq (K2 d).length ti0.size = true := by rfl) (hle : Nat.ble (off + ti0.size) ds.length = true := by rfl) (e : lay ds off (K2 d) = ds' := by rfl) : opsD Try.prog C N ops (o :: rest) ⟨t, a0 :: (b, .cells ds T') :: hr, k⟩ Q := p_st1 ho hw hd hx hT hy hs hsz hle e g
theorem pS2 {a0 a1 : Nat × Blk} {hr : List (Nat × Blk)} {b off : Nat} {T T' : TypeId} {x y : Operand} {ds ds' : List D} {ti0 : TI} {d : D} (g : opsD Try.prog C N ops rest ⟨t, a0 :: a1 :: (b, .cells ds' T') :: hr, k⟩ Q) (ho : o.op = .store T x y := by rfl) (hw : wantD ops t o = some true := by rfl) (hd : o.dst = none := by rfl) (hx : opD t x = some (.ptr b off) := by rfl) (hT : ti tab T = some ti0 := by rfl) (hy : opD t y = some d := by rfl) (hs : stor d = true := by rfl) (hsz : Nat.beq (K2 d).length ti0.size = true := by rfl) (hle : Nat.ble (off + ti0.size) ds.length = true := by rfl) (e : lay ds off (K2 d) = ds' := by rfl) : opsD Try.prog C N ops (o :: rest) ⟨t, a0 :: a1 :: (b, .cells ds T') :: hr, k⟩ Q := p_st2 ho hw hd hx hT hy hs hsz hle e g
theorem pS3 {a0 a1 a2 : Nat × Blk} {hr : List (Nat × Blk)} {b off : Nat} {T T' : TypeId} {x y : Operand} {ds ds' : List D} {ti0 : TI} {d : D} (g : opsD Try.prog C N ops rest ⟨t, a0 :: a1 :: a2 :: (b, .cells ds' T') :: hr, k⟩ Q) (ho : o.op = .store T x y := by rfl) (hw : wantD ops t o = some true := by rfl) (hd : o.dst = none := by rfl) (hx : opD t x = some (.ptr b off) := by rfl) (hT : ti tab T = some ti0 := by rfl) (hy : opD t y = some d := by rfl) (hs : stor d = true := by rfl) (hsz : Nat.beq (K2 d).length ti0.size = true := by rfl) (hle : Nat.ble (off + ti0.size) ds.length = true := by rfl) (e : lay ds off (K2 d) = ds' := by rfl) : opsD Try.prog C N ops (o :: rest) ⟨t, a0 :: a1 :: a2 :: (b, .cells ds T') :: hr, k⟩ Q := p_st3 ho hw hd hx hT hy hs hsz hle e g
theorem pS4 {a0 a1 a2 a3 : Nat × Blk} {hr : List (Nat × Blk)} {b off : Nat} {T T' : TypeId} {x y : Operand} {ds ds' : List D} {ti0 : TI} {d : D} (g : opsD Try.prog C N ops rest ⟨t, a0 :: a1 :: a2 :: a3 :: (b, .cells ds' T') :: hr, k⟩ Q) (ho : o.op = .store T x y := by rfl) (hw : wantD ops t o = some true := by rfl) (hd : o.dst = none := by rfl) (hx : opD t x = some (.ptr b off) := by rfl) (hT : ti tab T = some ti0 := by rfl) (hy : opD t y = some d := by rfl) (hs : stor d = true := by rfl) (hsz : Nat.beq (K2 d).length ti0.size = true := by rfl) (hle : Nat.ble (off + ti0.size) ds.length = true := by rfl) (e : lay ds off (K2 d) = ds' := by rfl) : opsD Try.prog C N ops (o :: rest) ⟨t, a0 :: a1 :: a2 :: a3 :: (b, .cells ds T') :: hr, k⟩ Q := p_st4 ho hw hd hx hT hy hs hsz hle e g
end
section
variable {P : Program} {C : Ctx} {N : Nat} {l : List Oper} {m : Nat} {De : Nat → D} {al : AL} {pre : List (List Nat)} {ev : List Nat} {h : List (Nat × Blk)} {k : List (Nat × Value)} {Q : Exit → S → Prop} {bs : Nat → Nat} {i : Nat} {o : Oper} {rest : List Oper} {te : TE}
theorem zK {j : Nat} (g : Zw Try.prog C N l m De al pre ev h k Q bs (i + 1) rest ((j, .v (.tuple #[]), none) :: te)) (hw : wantD l (vis [] te) o = some false := by rfl) (hd : o.dst = some j := by rfl) (hi : Nat.blt j N = true := by rfl) (hne : ev.contains i = false := by rfl) : Zw Try.prog C N l m De al pre ev h k Q bs i (o :: rest) te := z_skip hw hd hi hne g
end
end Go.Proofs.Ytmgklehakmdiiaa.Ab
namespace Go.Proofs.Ytmgklehakmdiiaa.Ab
open Go
set_option linter.all false
abbrev iD (x : Int) : D := .v (.int .i64 x)
abbrev tD (x : ByteArray) : D := .v (.string x)
noncomputable def Keq (a0 : Int) : Option (Int) :=
 (Option.bind (α := Bool) (bif (a0 == (32 : Int)) then some true else (bif (a0 == (9 : Int)) then some true else (bif (a0 == (10 : Int)) then some true else some (a0 == (13 : Int))))) fun y4 => (bif y4 then some (1 : Int) else (Option.bind (α := Bool) (bif (decide ((97 : Int) ≤ a0)) then (bif (decide (a0 ≤ (122 : Int))) then some true else (bif (decide ((65 : Int) ≤ a0)) then (bif (decide (a0 ≤ (90 : Int))) then some true else some (a0 == (95 : Int))) else some (a0 == (95 : Int)))) else (bif (decide ((65 : Int) ≤ a0)) then (bif (decide (a0 ≤ (90 : Int))) then some true else some (a0 == (95 : Int))) else some (a0 == (95 : Int)))) fun y16 => (bif y16 then some (2 : Int) else (bif (decide ((48 : Int) ≤ a0)) then (bif (decide (a0 ≤ (57 : Int))) then some (3 : Int) else some (0 : Int)) else some (0 : Int))))))
theorem KhT (a0 : Int) (r : Int) (h0 : Keq a0 = some r) : CallsD Try.prog 64 [.v (.int .i32 a0)] [] [] (fun d h k => d = iD r ∧ h = [] ∧ k = []) := by
 have hm := KE h0
 unfold Keq at hm
 clear h0
 refine KW htab Try.func64 rfl rfl rfl rfl rfl (fun C => ?_)
 refine Kl ?_
 refine pu ?_
 refine Kh ?_
 refine Kq ?_
 refine KL ?_
 refine Kq ?_
 obtain ⟨y4, q4, ho4⟩ := Kf hm
 refine K6 (Y := Unit) (fun z4 => (⟨[(0, .v (.int .i32 a0)), (3, .v (.bool y4))], [], []⟩ : S)) ?_ ?_
 ·clear hm; have hm := KE q4
  refine KC ?_
  iterate 3 refine pu ?_
  refine K9 (i := 6) rfl (fun hg5 => ?_) (fun hg5 => ?_)
  ·replace hm := yes_t hg5 hm
   refine pK ?_
   refine pK ?_
   refine KS rfl rfl rfl rfl rfl rfl ?_
   refine pu ?_
   refine pK ?_
   refine pK ?_
   refine KS rfl rfl rfl rfl rfl rfl ?_
   refine pu ?_
   refine pK ?_
   refine pK ?_
   refine KS rfl rfl rfl rfl rfl rfl ?_
   refine pu ?_
   refine KB ?_
   have e4 := Kn hm; subst e4
   refine ⟨rfl, ?_⟩
   exact WkX.of () (WkS.perm (WkS.cons rfl (Wk.refl _) (WkS.cons rfl (Wk.refl _) (WkS.nil))) Pf Pf)
  ·replace hm := yes_f hg5 hm
   refine pu ?_
   refine pu ?_
   refine KH rfl rfl rfl rfl rfl rfl ?_
   refine pu ?_
   refine K9 (i := 10) rfl (fun hg6 => ?_) (fun hg6 => ?_)
   ·replace hm := yes_t hg6 hm
    refine pK ?_
    refine pK ?_
    refine KS rfl rfl rfl rfl rfl rfl ?_
    refine pu ?_
    refine pK ?_
    refine pK ?_
    refine KS rfl rfl rfl rfl rfl rfl ?_
    refine pu ?_
    refine KB ?_
    have e4 := Kn hm; subst e4
    refine ⟨rfl, ?_⟩
    exact WkX.of () (WkS.perm (WkS.cons rfl (Wk.refl _) (WkS.cons rfl (Wk.refl _) (WkS.nil))) Pf Pf)
   ·replace hm := yes_f hg6 hm
    refine pu ?_
    refine pu ?_
    refine KH rfl rfl rfl rfl rfl rfl ?_
    refine pu ?_
    refine K9 (i := 14) rfl (fun hg7 => ?_) (fun hg7 => ?_)
    ·replace hm := yes_t hg7 hm
     refine pK ?_
     refine pK ?_
     refine KS rfl rfl rfl rfl rfl rfl ?_
     refine pu ?_
     refine KB ?_
     have e4 := Kn hm; subst e4
     refine ⟨rfl, ?_⟩
     exact WkX.of () (WkS.perm (WkS.cons rfl (Wk.refl _) (WkS.cons rfl (Wk.refl _) (WkS.nil))) Pf Pf)
    ·replace hm := yes_f hg7 hm
     refine pu ?_
     refine pu ?_
     refine KH rfl rfl rfl rfl rfl rfl ?_
     refine pu ?_
     refine KB ?_
     have e4 := Kn hm; subst e4
     refine ⟨rfl, ?_⟩
     exact WkX.of () (WkS.perm (WkS.cons rfl (Wk.refl _) (WkS.cons rfl (Wk.refl _) (WkS.nil))) Pf Pf)
 ·intro s4 hw4; clear hm; have hm := ho4; clear q4 ho4
  refine Km ?_
  refine K3 hw4 (fun z4 => ?_)
  refine Ku rfl (fun hc8 => ?_) (fun hc8 => ?_)
  ·replace hm := yes_t hc8 hm
   refine Kl ?_
   refine pu ?_
   refine Kh ?_
   refine Ks ?_
   refine K0 ?_
   refine KD ?_
   have er9 := Kn hm; subst er9
   refine rP (t' := [(2, iD (1 : Int))]) [] [] 0 (wC wN) (lT lN) ?_
   exact ⟨rfl, rfl, rfl⟩
  ·replace hm := yes_f hc8 hm
   refine Kq ?_
   obtain ⟨y16, q16, ho16⟩ := Kf hm
   refine K6 (Y := Unit) (fun z16 => (⟨[(0, .v (.int .i32 a0)), (18, .v (.bool y16))], [], []⟩ : S)) ?_ ?_
   ·clear hm; have hm := KE q16
    refine KC ?_
    iterate 3 refine pu ?_
    refine K9 (i := 21) rfl (fun hg17 => ?_) (fun hg17 => ?_)
    ·replace hm := yes_t hg17 hm
     refine pu ?_
     refine pu ?_
     refine KS rfl rfl rfl rfl rfl rfl ?_
     refine pu ?_
     refine K9 (i := 25) rfl (fun hg18 => ?_) (fun hg18 => ?_)
     ·replace hm := yes_t hg18 hm
      iterate 6 refine pK ?_
      refine KS rfl rfl rfl rfl rfl rfl ?_
      refine pu ?_
      refine pK ?_
      refine pK ?_
      refine KS rfl rfl rfl rfl rfl rfl ?_
      refine pu ?_
      refine KB ?_
      have e16 := Kn hm; subst e16
      refine ⟨rfl, ?_⟩
      exact WkX.of () (WkS.perm (WkS.cons rfl (Wk.refl _) (WkS.cons rfl (Wk.refl _) (WkS.nil))) Pf Pf)
     ·replace hm := yes_f hg18 hm
      iterate 3 refine pu ?_
      refine K9 (i := 28) rfl (fun hg19 => ?_) (fun hg19 => ?_)
      ·replace hm := yes_t hg19 hm
       refine pu ?_
       refine pu ?_
       refine KS rfl rfl rfl rfl rfl rfl ?_
       refine KH rfl rfl rfl rfl rfl rfl ?_
       refine pu ?_
       refine K9 (i := 33) rfl (fun hg20 => ?_) (fun hg20 => ?_)
       ·replace hm := yes_t hg20 hm
        refine pK ?_
        refine pK ?_
        refine KS rfl rfl rfl rfl rfl rfl ?_
        refine pu ?_
        refine KB ?_
        have e16 := Kn hm; subst e16
        refine ⟨rfl, ?_⟩
        exact WkX.of () (WkS.perm (WkS.cons rfl (Wk.refl _) (WkS.cons rfl (Wk.refl _) (WkS.nil))) Pf Pf)
       ·replace hm := yes_f hg20 hm
        refine pu ?_
        refine pu ?_
        refine KH rfl rfl rfl rfl rfl rfl ?_
        refine pu ?_
        refine KB ?_
        have e16 := Kn hm; subst e16
        refine ⟨rfl, ?_⟩
        exact WkX.of () (WkS.perm (WkS.cons rfl (Wk.refl _) (WkS.cons rfl (Wk.refl _) (WkS.nil))) Pf Pf)
      ·replace hm := yes_f hg19 hm
       refine pK ?_
       refine pK ?_
       refine KH rfl rfl rfl rfl rfl rfl ?_
       refine KH rfl rfl rfl rfl rfl rfl ?_
       iterate 3 refine pu ?_
       refine KH rfl rfl rfl rfl rfl rfl ?_
       refine pu ?_
       refine KB ?_
       have e16 := Kn hm; subst e16
       refine ⟨rfl, ?_⟩
       exact WkX.of () (WkS.perm (WkS.cons rfl (Wk.refl _) (WkS.cons rfl (Wk.refl _) (WkS.nil))) Pf Pf)
    ·replace hm := yes_f hg17 hm
     refine pK ?_
     refine pK ?_
     refine KH rfl rfl rfl rfl rfl rfl ?_
     iterate 4 refine pu ?_
     refine K9 (i := 28) rfl (fun hg21 => ?_) (fun hg21 => ?_)
     ·replace hm := yes_t hg21 hm
      refine pu ?_
      refine pu ?_
      refine KS rfl rfl rfl rfl rfl rfl ?_
      refine KH rfl rfl rfl rfl rfl rfl ?_
      refine pu ?_
      refine K9 (i := 33) rfl (fun hg22 => ?_) (fun hg22 => ?_)
      ·replace hm := yes_t hg22 hm
       refine pK ?_
       refine pK ?_
       refine KS rfl rfl rfl rfl rfl rfl ?_
       refine pu ?_
       refine KB ?_
       have e16 := Kn hm; subst e16
       refine ⟨rfl, ?_⟩
       exact WkX.of () (WkS.perm (WkS.cons rfl (Wk.refl _) (WkS.cons rfl (Wk.refl _) (WkS.nil))) Pf Pf)
      ·replace hm := yes_f hg22 hm
       refine pu ?_
       refine pu ?_
       refine KH rfl rfl rfl rfl rfl rfl ?_
       refine pu ?_
       refine KB ?_
       have e16 := Kn hm; subst e16
       refine ⟨rfl, ?_⟩
       exact WkX.of () (WkS.perm (WkS.cons rfl (Wk.refl _) (WkS.cons rfl (Wk.refl _) (WkS.nil))) Pf Pf)
     ·replace hm := yes_f hg21 hm
      refine pK ?_
      refine pK ?_
      refine KH rfl rfl rfl rfl rfl rfl ?_
      refine KH rfl rfl rfl rfl rfl rfl ?_
      iterate 3 refine pu ?_
      refine KH rfl rfl rfl rfl rfl rfl ?_
      refine pu ?_
      refine KB ?_
      have e16 := Kn hm; subst e16
      refine ⟨rfl, ?_⟩
      exact WkX.of () (WkS.perm (WkS.cons rfl (Wk.refl _) (WkS.cons rfl (Wk.refl _) (WkS.nil))) Pf Pf)
   ·intro s16 hw16; clear hm; have hm := ho16; clear q16 ho16
    refine Km ?_
    refine K3 hw16 (fun z16 => ?_)
    refine Ku rfl (fun hc23 => ?_) (fun hc23 => ?_)
    ·replace hm := yes_t hc23 hm
     refine Kl ?_
     refine pu ?_
     refine Kh ?_
     refine Ks ?_
     refine K0 ?_
     refine KD ?_
     have er24 := Kn hm; subst er24
     refine rP (t' := [(2, iD (2 : Int))]) [] [] 0 (wC wN) (lT lN) ?_
     exact ⟨rfl, rfl, rfl⟩
    ·replace hm := yes_f hc23 hm
     refine Kl ?_
     iterate 3 refine pu ?_
     refine K9 (i := 40) rfl (fun hg25 => ?_) (fun hg25 => ?_)
     ·replace hm := yes_t hg25 hm
      refine pu ?_
      refine pu ?_
      refine KS rfl rfl rfl rfl rfl rfl ?_
      refine pu ?_
      refine Kh ?_
      refine Ku rfl (fun hc26 => ?_) (fun hc26 => ?_)
      ·replace hm := yes_t hc26 hm
       refine Kl ?_
       refine pu ?_
       refine Kh ?_
       refine Ks ?_
       refine K0 ?_
       refine KD ?_
       have er27 := Kn hm; subst er27
       refine rP (t' := [(2, iD (3 : Int))]) [] [] 0 (wC wN) (lT lN) ?_
       exact ⟨rfl, rfl, rfl⟩
      ·replace hm := yes_f hc26 hm
       refine Ky ?_
       refine KI ?_
       refine Km ?_
       refine Kl ?_
       refine pu ?_
       refine Kh ?_
       refine Ks ?_
       have er28 := Kn hm; subst er28
       refine rP (t' := [(2, iD (0 : Int))]) [] [] 0 (wC wN) (lT lN) ?_
       exact ⟨rfl, rfl, rfl⟩
     ·replace hm := yes_f hg25 hm
      refine pK ?_
      refine pK ?_
      refine KH rfl rfl rfl rfl rfl rfl ?_
      refine pu ?_
      refine Kh ?_
      refine KjF rfl ?_
      refine Ky ?_
      refine KI ?_
      refine Km ?_
      refine Kl ?_
      refine pu ?_
      refine Kh ?_
      refine Ks ?_
      have er29 := Kn hm; subst er29
      refine rP (t' := [(2, iD (0 : Int))]) [] [] 0 (wC wN) (lT lN) ?_
      exact ⟨rfl, rfl, rfl⟩
structure Kt where
 gKind : Int
 gText : ByteArray
 gN : Int
 gAt : Int
def Kc (x : Kt) : D := .agg [iD x.gKind, tD x.gText, iD x.gN, iD x.gAt]
structure KU where
 gB : List UInt8
 gAt : Int
 gL : List Kt
abbrev nlGm1_1 : List (List Nat) := nlD [] [(0,[]),(0,[0]),(2,[1]),(3,[2]),(0,[]),(0,[4]),(6,[5]),(7,[6]),(0,[]),(8,[7,8]),(4,[3,4,5,6,7,8,9]),(11,[10]),(12,[11]),(13,[12]),(14,[13])]
noncomputable def KbO (m0 : KU) (a1 : Bool) : Option (Int) :=
 (Option.bind (α := Int) (loopM (fun (s24 : Int) => (bif (decide ((IntKind.i64.wrap (m0.gAt + s24)) < (m0.gB.length : Int))) then ((idx m0.gB (IntKind.i64.wrap (m0.gAt + s24))).bind fun x40 => ((Keq (IntKind.i32.wrap (x40.toNat : Int))).bind fun x41 => (bif (x41 != (3 : Int)) then (bif (x41 != (2 : Int)) then some (.done s24) else (bif (!a1) then some (.done s24) else some (.next (IntKind.i64.wrap (s24 + (1 : Int)))))) else some (.next (IntKind.i64.wrap (s24 + (1 : Int))))))) else some (.done s24))) (0 : Int)) fun y23 => some y23)
theorem KcF (m0 : KU) (a1 : Bool) (o0 : Nat) (T0 : TypeId) (c0_0 : Cap) (c0_2 : Cap) (r : Int) (h0 : KbO m0 a1 = some r) : CallsD Try.prog 77 [.ptr o0 0, .v (.bool a1)] [(o0, Blk.cells [.lst 1 (m0.gB.map byteD) c0_0, iD m0.gAt, .lst 4 (m0.gL.map Kc) c0_2] T0)] [] (fun d h k => d = iD r ∧ h = [(o0, Blk.cells [.lst 1 (m0.gB.map byteD) c0_0, iD m0.gAt, .lst 4 (m0.gL.map Kc) c0_2] T0)] ∧ k = []) := by
 have hm := KE h0
 unfold KbO at hm
 clear h0
 refine KW htab Try.func77 rfl rfl rfl rfl rfl (fun C => ?_)
 refine Kl ?_
 refine pu ?_
 refine Kv ?_
 refine pu ?_
 refine Kh ?_
 refine Kq ?_
 obtain ⟨y23, q23, ho23⟩ := Kf hm
 refine K6 (Y := Unit) (fun z23 => (⟨[(5, iD y23)], [(o0, Blk.cells [.lst 1 (m0.gB.map byteD) c0_0, iD m0.gAt, .lst 4 (m0.gL.map Kc) c0_2] T0)], []⟩ : S)) ?_ ?_
 ·clear hm; have hm := KE q23
  refine KL ?_
  obtain ⟨u24, hl24, hq24⟩ := yes_m hm
  refine Kbe (Y := Unit) hl24 (fun s24 z24 => (⟨[(0, .ptr o0 0), (1, .v (.bool a1)), (5, iD s24)], [(o0, Blk.cells [.lst 1 (m0.gB.map byteD) c0_0, iD m0.gAt, .lst 4 (m0.gL.map Kc) c0_2] T0)], []⟩ : S)) ?_ ?_
  ·skip
   exact WkX.of () (WkS.perm (WkS.cons rfl (Wk.refl _) (WkS.cons rfl (Wk.refl _) (WkS.cons rfl (Wk.refl _) (WkS.nil)))) Pf Pf)
  ·intro G24 s24 z24 hm
   refine Kq ?_
   refine Kq ?_
   refine Kaj 11 [] [[],[0],[0,1],[0,1,2],[],[0,1,2],[],[6],[6,7],[6,7,8],[6,7,8,9]] [0,1,2,6,7,8,9] [[],[0],[0,1],[0,1,2],[],[0,1,2,3,4],[],[6],[6,7],[6,7,8],[6,7,8,9],[0,1,2,3,4,5,6,7,8,9,10]] (by kernel_rfl) (by kernel_rfl) (by kernel_rfl) (by rfl) (by rfl) (by kernel_rfl) ?_
   iterate 7 apply Exists.intro
   intro bs
   iterate 3 refine zep ?_
   refine z_qM rfl rfl (KF 0 htab rfl rfl rfl rfl rfl) rfl rfl rfl rfl rfl rfl ?_
   refine zqp ?_
   refine zqp ?_
   iterate 3 refine zep ?_
   refine z_eM rfl rfl (KF 0 htab rfl rfl rfl rfl rfl) rfl rfl rfl rfl rfl rfl ?_
   refine z_q rfl rfl (KdT htab rfl rfl rfl rfl (by first | exact Kaf | rfl)) rfl rfl rfl rfl rfl rfl ?_
   refine z_nil rfl rfl (fun e he => by simp [isAl] at he) ?_
   refine pu ?_
   refine Kh ?_
   refine Ku rfl (fun hc39 => ?_) (fun hc39 => ?_)
   ·replace hm := yes_t hc39 hm
    refine Ky ?_
    refine Km ?_
    refine KL ?_
    refine Kq ?_
    refine Kaj 10 [] [[],[0],[0,1],[0,1,2],[],[4],[4,5],[4,5,6],[],[4,5,6]] [0,1,2,3,4,5,6] nlGm1_1 (by kernel_rfl) (by kernel_rfl) (by kernel_rfl) (by rfl) (by rfl) (by kernel_rfl) ?_
    iterate 7 apply Exists.intro
    intro bs
    iterate 3 refine zep ?_
    refine z_eM rfl rfl (KF 0 htab rfl rfl rfl rfl rfl) rfl rfl rfl rfl rfl rfl ?_
    iterate 3 refine zep ?_
    refine z_qM rfl rfl (KF 0 htab rfl rfl rfl rfl rfl) rfl rfl rfl rfl rfl rfl ?_
    refine zqp ?_
    refine zqp ?_
    refine z_nil rfl rfl (fun e he => by simp [isAl] at he) ?_
    obtain ⟨x40, q40, hm⟩ := Kf hm
    refine Ka8 htab rfl rfl rfl rfl rfl rfl rfl rfl rfl rfl (Kr q40) (Kz q40) ?_
    refine KaE htab rfl rfl rfl rfl rfl rfl rfl rfl ?_
    refine pu ?_
    obtain ⟨x41, q41, hm⟩ := Kf hm
    refine KaJ (KhT (IntKind.i32.wrap (x40.toNat : Int)) x41 q41) rfl rfl rfl rfl rfl Wl ?_
    rintro _ rfl
    refine pu ?_
    refine Kh ?_
    refine Kq ?_
    refine Kl ?_
    iterate 3 refine pu ?_
    refine K9 (i := 35) rfl (fun hg42 => ?_) (fun hg42 => ?_)
    ·replace hm := yes_t hg42 hm
     iterate 3 refine pu ?_
     refine K9 (i := 38) rfl (fun hg43 => ?_) (fun hg43 => ?_)
     ·replace hm := yes_t hg43 hm
      refine pK ?_
      refine pK ?_
      refine KS rfl rfl rfl rfl rfl rfl ?_
      refine KS rfl rfl rfl rfl rfl rfl ?_
      refine Kh ?_
      refine wpD_true rfl ?_
      refine Kay ?_
      refine KN ?_
      refine Ke2 rfl ?_
      have e24 := Kaq hm; subst e24; clear hm; have hm := hq24
      refine KN ?_
      refine Kao ?_
      have e23 := Kn hm; subst e23
      refine ⟨rfl, ?_⟩
      exact WkX.of () (WkS.perm (WkS.cons rfl (Wk.refl _) (WkS.nil)) Pf Pf)
     ·replace hm := yes_f hg43 hm
      refine pu ?_
      refine pu ?_
      refine KH rfl rfl rfl rfl rfl rfl ?_
      refine KS rfl rfl rfl rfl rfl rfl ?_
      refine Kh ?_
      refine Ku rfl (fun hc44 => ?_) (fun hc44 => ?_)
      ·replace hm := yes_t hc44 hm
       refine Kay ?_
       refine KN ?_
       refine Ke2 rfl ?_
       have e24 := Kaq hm; subst e24; clear hm; have hm := hq24
       refine KN ?_
       refine Kao ?_
       have e23 := Kn hm; subst e23
       refine ⟨rfl, ?_⟩
       exact WkX.of () (WkS.perm (WkS.cons rfl (Wk.refl _) (WkS.nil)) Pf Pf)
      ·replace hm := yes_f hc44 hm
       refine Ky ?_
       refine Km ?_
       refine KC ?_
       iterate 3 refine pu ?_
       refine KB ?_
       refine KI ?_
       refine Km ⟨_, KaR hm, ?_⟩
       exact WkX.of () (WkS.perm (WkS.cons rfl (Wk.refl _) (WkS.cons rfl (Wk.refl _) (WkS.cons rfl (Wk.refl _) (WkS.nil)))) Pf Pf)
    ·replace hm := yes_f hg42 hm
     iterate 6 refine pK ?_
     refine KH rfl rfl rfl rfl rfl rfl ?_
     refine Kh ?_
     refine KjF rfl ?_
     refine Ky ?_
     refine Km ?_
     refine KC ?_
     iterate 3 refine pu ?_
     refine KB ?_
     refine KI ?_
     refine Km ⟨_, KaR hm, ?_⟩
     exact WkX.of () (WkS.perm (WkS.cons rfl (Wk.refl _) (WkS.cons rfl (Wk.refl _) (WkS.cons rfl (Wk.refl _) (WkS.nil)))) Pf Pf)
   ·replace hm := yes_f hc39 hm
    refine Kay ?_
    refine KN ?_
    have e24 := Kaq hm; subst e24; clear hm; have hm := hq24
    refine KN ?_
    refine Kao ?_
    have e23 := Kn hm; subst e23
    refine ⟨rfl, ?_⟩
    exact WkX.of () (WkS.perm (WkS.cons rfl (Wk.refl _) (WkS.nil)) Pf Pf)
 ·intro s23 hw23; clear hm; have hm := ho23; clear q23 ho23
  refine Km ?_
  refine K3 hw23 (fun z23 => ?_)
  refine Kl ?_
  refine pu ?_
  refine pu ?_
  refine Kh ?_
  refine Ks ?_
  have er45 := Kn hm; subst er45
  refine rP (t' := [(4, iD y23)]) [0] [] 1 (wC wN) (lT lN) ?_
  exact ⟨rfl, rfl, rfl⟩
noncomputable def Kbt (a0 : List ByteArray) (a1 : ByteArray) : Option (Int) :=
 (Option.bind (α := (Unit) ⊕ (Int)) (loopM (fun (s15 : Int) => (bif (decide (s15 < (a0.length : Int))) then ((idx a0 s15).bind fun x25 => (bif (decide (a1 = x25)) then some (.done (.inr s15)) else some (.next (IntKind.i64.wrap (s15 + (1 : Int)))))) else some (.done (.inl ())))) (0 : Int)) (Sum.elim (fun y14 => some (-1 : Int)) (fun r => some r)))
theorem Kff (a0 : List ByteArray) (a1 : ByteArray) (r : Int) (h0 : Kbt a0 a1 = some r) : CallsD Try.prog 88 [.lst 1 (a0.map eStr) .no, tD a1] [] [] (fun d h k => d = iD r ∧ h = [] ∧ k = []) := by
 have hm := KE h0
 unfold Kbt at hm
 clear h0
 refine KW htab Try.func88 rfl rfl rfl rfl rfl (fun C => ?_)
 refine Kl ?_
 refine pu ?_
 refine Kh ?_
 refine Kq ?_
 refine Kl ?_
 refine pu ?_
 refine KaP htab rfl rfl rfl rfl rfl rfl rfl (by first | exact Kaf | rfl) ?_
 refine pu ?_
 refine Kh ?_
 obtain ⟨x14, q14, ho14⟩ := Kf hm
 refine KdN (τ := Unit) (Y := Unit) (fun y14 z14 => (⟨[], [], []⟩ : S)) x14 ?_ ?_
 ·clear hm; have hm := KE q14
  refine KL ?_
  obtain ⟨u15, hl15, hq15⟩ := yes_m hm
  refine Kbe (Y := Unit) hl15 (fun s15 z15 => (⟨[(0, .lst 1 (a0.map eStr) .no), (1, tD a1), (7, iD (a0.length : Int)), (8, iD s15)], [], []⟩ : S)) ?_ ?_
  ·skip
   exact WkX.of () (WkS.perm (WkS.cons rfl (Wk.refl _) (WkS.cons rfl (Wk.refl _) (WkS.cons rfl (Wk.refl _) (WkS.cons rfl (Wk.refl _) (WkS.nil))))) Pf Pf)
  ·intro G15 s15 z15 hm
   refine Kl ?_
   refine pu ?_
   refine Kh ?_
   refine Kq ?_
   refine Ku rfl (fun hc24 => ?_) (fun hc24 => ?_)
   ·replace hm := yes_t hc24 hm
    refine Ky ?_
    refine Km ?_
    refine Kq ?_
    refine KL ?_
    refine Kl ?_
    refine pu ?_
    refine pu ?_
    refine Kv ?_
    iterate 3 refine pu ?_
    obtain ⟨x25, q25, hm⟩ := Kf hm
    refine Ka8 htab rfl rfl rfl rfl rfl rfl rfl rfl rfl rfl (Kr q25) (Kz q25) ?_
    refine KaE htab rfl rfl rfl rfl rfl rfl rfl rfl ?_
    refine pu ?_
    refine Kh ?_
    refine Ku rfl (fun hc26 => ?_) (fun hc26 => ?_)
    ·replace hm := yes_t hc26 hm
     refine Kl ?_
     refine pu ?_
     refine pu ?_
     refine Kh ?_
     refine Ks ?_
     refine K0 ?_
     refine KD ?_
     have e15 := Kaq hm; subst e15; clear hm; have hm := hq15
     refine KD ?_
     refine K0 ?_
     have e14 := Kn hm; subst e14; refine KbW ?_; clear hm; have hm := ho14; simp only [Sum.elim_inr] at hm
     refine KD ?_
     have er27 := Kn hm; subst er27
     refine rP (t' := [(4, iD s15)]) [] [] 0 (wC wN) (lT lN) ?_
     exact ⟨rfl, rfl, rfl⟩
    ·replace hm := yes_f hc26 hm
     refine Ky ?_
     refine KI ?_
     refine Km ?_
     refine KC ?_
     refine pu ?_
     refine pu ?_
     refine KB ?_
     refine Km ⟨_, KaR hm, ?_⟩
     exact WkX.of () (WkS.perm (WkS.cons rfl (Wk.refl _) (WkS.cons rfl (Wk.refl _) (WkS.cons rfl (Wk.refl _) (WkS.cons rfl (Wk.refl _) (WkS.nil))))) Pf Pf)
   ·replace hm := yes_f hc24 hm
    refine Kay ?_
    refine KN ?_
    have e15 := Kaq hm; subst e15; clear hm; have hm := hq15
    refine KN ?_
    refine Kao ?_
    have e14 := Kn hm; subst e14
    refine Kdp ?_
    exact WkX.of () (WkS.perm (WkS.nil) Pf Pf)
 ·intro y14 s14 hx14 hw14; subst hx14; clear hm; have hm := ho14; simp only [Sum.elim_inl] at hm; clear q14 ho14
  refine Km ?_
  refine K3 hw14 (fun z14 => ?_)
  refine Kl ?_
  refine pu ?_
  refine Kh ?_
  refine Ks ?_
  have er28 := Kn hm; subst er28
  refine rP (t' := [(4, iD (-1 : Int))]) [] [] 0 (wC wN) (lT lN) ?_
  exact ⟨rfl, rfl, rfl⟩
noncomputable def Ka2 (a0 : List ByteArray) (a1 : ByteArray) : Option (Bool) :=
 ((Kbt a0 a1).bind fun x1 => some (decide ((0 : Int) ≤ x1)))
theorem KcU (a0 : List ByteArray) (a1 : ByteArray) (r : Bool) (h0 : Ka2 a0 a1 = some r) : CallsD Try.prog 79 [.lst 1 (a0.map eStr) .no, tD a1] [] [] (fun d h k => d = .v (.bool r) ∧ h = [] ∧ k = []) := by
 have hm := KE h0
 unfold Ka2 at hm
 clear h0
 refine KW htab Try.func79 rfl rfl rfl rfl rfl (fun C => ?_)
 refine Kl ?_
 refine pu ?_
 refine Kv ?_
 refine pu ?_
 refine pu ?_
 obtain ⟨x1, q1, hm⟩ := Kf hm
 refine KaJ (Kff a0 a1 x1 q1) rfl rfl rfl rfl rfl Wl ?_
 rintro _ rfl
 refine pu ?_
 refine pu ?_
 refine Kh ?_
 refine Ks ?_
 have er2 := Kn hm; subst er2
 refine rP (t' := [(4, .v (.bool (decide ((0 : Int) ≤ x1))))]) [] [] 0 (wC wN) (lT lN) ?_
 exact ⟨rfl, rfl, rfl⟩
noncomputable def Ke3 (a0 : ByteArray) : Option (Bool) :=
 ((Ka2 ([(ByteArray.mk #[105, 110, 116]), (ByteArray.mk #[105, 102]), (ByteArray.mk #[101, 108, 115, 101]), (ByteArray.mk #[119, 104, 105, 108, 101]), (ByteArray.mk #[114, 101, 116, 117, 114, 110]), (ByteArray.mk #[97, 115, 115, 101, 114, 116]), (ByteArray.mk #[105, 110, 112, 117, 116]), (ByteArray.mk #[110, 117, 108, 108])] : List ByteArray) a0).bind fun x1 => some x1)
theorem Kj5 (a0 : ByteArray) (r : Bool) (h0 : Ke3 a0 = some r) : CallsD Try.prog 78 [tD a0] [] [] (fun d h k => d = .v (.bool r) ∧ h = [] ∧ k = []) := by
 have hm := KE h0
 unfold Ke3 at hm
 clear h0
 refine KW htab Try.func78 rfl rfl rfl rfl rfl (fun C => ?_)
 refine Kl ?_
 refine pu ?_
 refine Kv ?_
 refine p_lit htab rfl rfl rfl rfl rfl rfl rfl rfl rfl rfl rfl rfl rfl rfl ?_
 refine p_eq (i := 3) (d' := .lst 1 (([(ByteArray.mk #[105, 110, 116]), (ByteArray.mk #[105, 102]), (ByteArray.mk #[101, 108, 115, 101]), (ByteArray.mk #[119, 104, 105, 108, 101]), (ByteArray.mk #[114, 101, 116, 117, 114, 110]), (ByteArray.mk #[97, 115, 115, 101, 114, 116]), (ByteArray.mk #[105, 110, 112, 117, 116]), (ByteArray.mk #[110, 117, 108, 108])] : List ByteArray).map eStr) .full) rfl (Wk.lst0 (.cons (WkC.refl _) (.cons (WkC.refl _) (.cons (WkC.refl _) (.cons (WkC.refl _) (.cons (WkC.refl _) (.cons (WkC.refl _) (.cons (WkC.refl _) (.cons (WkC.refl _) (.nil)))))))))) ?_
 refine pu ?_
 obtain ⟨x1, q1, hm⟩ := Kf hm
 refine KaJ (KcU ([(ByteArray.mk #[105, 110, 116]), (ByteArray.mk #[105, 102]), (ByteArray.mk #[101, 108, 115, 101]), (ByteArray.mk #[119, 104, 105, 108, 101]), (ByteArray.mk #[114, 101, 116, 117, 114, 110]), (ByteArray.mk #[97, 115, 115, 101, 114, 116]), (ByteArray.mk #[105, 110, 112, 117, 116]), (ByteArray.mk #[110, 117, 108, 108])] : List ByteArray) a0 x1 q1) rfl rfl rfl rfl rfl (WkL.cons (Wk.no) (WkL.cons (Wk.refl _) Wl)) ?_
 rintro _ rfl
 refine pu ?_
 refine Kh ?_
 refine Ks ?_
 have er2 := Kn hm; subst er2
 refine rP (t' := [(2, .v (.bool x1))]) [] [] 0 (wC wN) (lT lN) ?_
 exact ⟨rfl, rfl, rfl⟩
abbrev nlGm1_2 : List (List Nat) := nlD [] [(0,[]),(0,[]),(0,[1]),(3,[2]),(4,[3]),(0,[]),(0,[]),(0,[6]),(8,[7]),(9,[8]),(0,[]),(0,[10]),(12,[11]),(13,[12]),(0,[]),(0,[14]),(16,[15]),(17,[16]),(0,[]),(18,[17]),(10,[9,10,11,12,13,14,15,16,17]),(21,[20]),(0,[]),(0,[]),(0,[23]),(25,[24]),(26,[25]),(22,[21,23,24,25,26]),(28,[27]),(5,[4,6,7,8,9,10,11,12,13,14,15,16,17,20,21,23,24,25,26,27,28])]
abbrev nlGm1_3 : List (List Nat) := nlD [] [(0,[]),(0,[]),(0,[1]),(3,[2]),(4,[3]),(0,[]),(0,[]),(0,[6]),(8,[7]),(9,[8]),(0,[]),(0,[10]),(12,[11]),(13,[12]),(0,[]),(0,[14]),(16,[15]),(17,[16]),(0,[]),(18,[17,18]),(10,[9,10,11,12,13,14,15,16,17,18,19]),(21,[20]),(0,[]),(0,[]),(0,[23]),(25,[24]),(26,[25]),(0,[5,6,7,8,9,10,11,12,13,14,15,16,17,18,19,20,21,22,23,24,25,26]),(28,[27]),(5,[4,5,6,7,8,9,10,11,12,13,14,15,16,17,18,19,20,21,22,23,24,25,26,27,28]),(0,[0,1,2,3,4,5,6,7,8,9,10,11,12,13,14,15,16,17,18,19,20,21,22,23,24,25,26,27,28,29]),(31,[30]),(32,[31])]
noncomputable def KbC (m0 : KU) (a1 : Int) (a2 : Int) (a3 : Int) : Option (Int × KU) :=
 (bif (decide ((4000 : Int) ≤ (m0.gL.length : Int))) then some ((6 : Int), m0) else ((cutL m0.gB m0.gAt (IntKind.i64.wrap (m0.gAt + a2))).bind fun x4 => ((app 40 m0.gL ([(⟨a1, (ByteArray.mk x4.toArray), a3, m0.gAt⟩ : Kt)] : List Kt)).bind fun x5 => some ((0 : Int), (⟨m0.gB, (IntKind.i64.wrap (m0.gAt + a2)), x5⟩ : KU)))))
theorem Kc2 (m0 : KU) (a1 : Int) (a2 : Int) (a3 : Int) (o0 : Nat) (T0 : TypeId) (c0_0 : Cap) (k0_2 : Value) (r : Int × KU) (h0 : KbC m0 a1 a2 a3 = some r) : CallsD Try.prog 68 [.ptr o0 0, iD a1, iD a2, iD a3] [(o0, Blk.cells [.lst 1 (m0.gB.map byteD) c0_0, iD m0.gAt, .lst 4 (m0.gL.map Kc) (.cur k0_2)] T0)] [(4, k0_2)] (fun d h k => ∃ y0, d = iD r.1 ∧ h = [(o0, Blk.cells [.lst 1 (r.2.gB.map byteD) c0_0, iD r.2.gAt, .lst 4 (r.2.gL.map Kc) (.cur y0)] T0)] ∧ k = [(4, y0)]) := by
 have hm := KE h0
 unfold KbC at hm
 clear h0
 refine KW htab Try.func68 rfl rfl rfl rfl rfl (fun C => ?_)
 refine Kl ?_
 refine pu ?_
 refine Kh ?_
 refine Kq ?_
 refine Kl ?_
 iterate 3 refine pu ?_
 refine pL 0 ?_
 refine KaP htab rfl rfl rfl rfl rfl rfl rfl (by first | exact Kaf | rfl) ?_
 refine pu ?_
 refine Kh ?_
 refine Ku rfl (fun hc2 => ?_) (fun hc2 => ?_)
 ·replace hm := yes_t hc2 hm
  refine Kl ?_
  refine pu ?_
  refine Kh ?_
  refine Ks ?_
  refine KD ?_
  have er3 := Kn hm; subst er3
  refine rP (t' := [(8, iD (6 : Int))]) [0] [0] 1 (wC wN) (lT lN) ?_
  exact ⟨k0_2, rfl, rfl, rfl⟩
 ·replace hm := yes_f hc2 hm
  refine Ky ?_
  refine Km ?_
  refine Kq ?_
  obtain ⟨x4, q4, hm⟩ := Kf hm
  obtain ⟨x5, q5, hm⟩ := Kf hm
  refine wpD_app 30 [] nlGm1_2 [0,1,2,3,4,6,7,8,9,10,11,12,13,14,15,16,17,20,21,23,24,25,26,27,28,29] nlGm1_3 29 4 0 (by kernel_rfl) (by kernel_rfl) (by kernel_rfl) (by rfl) (by rfl) (by kernel_rfl) rfl ?_
  iterate 26 apply Exists.intro
  refine ⟨.any, ?_⟩
  intro bs v5
  iterate 4 refine zh_e rfl rfl (KT htab rfl) rfl rfl rfl rfl rfl rfl rfl rfl ?_
  refine zh_M rfl rfl (fun _ => KF 0 htab rfl rfl rfl rfl rfl) (offB rfl) rfl rfl rfl rfl rfl rfl rfl rfl ?_
  refine zh_q rfl rfl (KT htab rfl) rfl rfl rfl rfl rfl rfl ?_
  iterate 3 refine zh_e rfl rfl (KT htab rfl) rfl rfl rfl rfl rfl rfl rfl rfl ?_
  refine zh_M rfl rfl (fun _ => KF 0 htab rfl rfl rfl rfl rfl) (offB rfl) rfl rfl rfl rfl rfl rfl rfl rfl ?_
  iterate 3 refine zh_e rfl rfl (KT htab rfl) rfl rfl rfl rfl rfl rfl rfl rfl ?_
  refine zh_M rfl rfl (fun _ => KF 0 htab rfl rfl rfl rfl rfl) (offB rfl) rfl rfl rfl rfl rfl rfl rfl rfl ?_
  iterate 3 refine zh_e rfl rfl (KT htab rfl) rfl rfl rfl rfl rfl rfl rfl rfl ?_
  refine zh_M rfl rfl (fun _ => KF 0 htab rfl rfl rfl rfl rfl) (offB rfl) rfl rfl rfl rfl rfl rfl rfl rfl ?_
  refine zh_q rfl rfl (KT htab rfl) rfl rfl rfl rfl rfl rfl ?_
  refine zh_q rfl rfl (KT htab rfl) rfl rfl rfl rfl rfl rfl ?_
  refine zh_e rfl rfl (x_cut q4 htab rfl rfl rfl rfl rfl rfl rfl rfl rfl rfl) rfl rfl rfl rfl rfl rfl rfl rfl ?_
  refine zh_E rfl rfl (x_toStr htab rfl rfl rfl rfl rfl rfl rfl rfl) rfl rfl rfl rfl rfl rfl rfl rfl ?_
  refine zh_q rfl rfl (KT htab rfl) rfl rfl rfl rfl rfl rfl ?_
  iterate 3 refine zh_e rfl rfl (KT htab rfl) rfl rfl rfl rfl rfl rfl rfl rfl ?_
  refine zh_M rfl rfl (fun _ => KF 0 htab rfl rfl rfl rfl rfl) (offB rfl) rfl rfl rfl rfl rfl rfl rfl rfl ?_
  refine zh_e rfl rfl (KdY (r := [iD a1, tD (ByteArray.mk x4.toArray), iD a3, iD m0.gAt]) htab rfl rfl rfl rfl rfl rfl) rfl rfl rfl rfl rfl rfl rfl rfl ?_
  refine zh_E rfl rfl (ExE.wk (x_lit htab rfl rfl rfl rfl rfl rfl rfl rfl rfl rfl rfl) (show Wk _ (.lst 4 (([(⟨a1, (ByteArray.mk x4.toArray), a3, m0.gAt⟩ : Kt)] : List Kt).map Kc) .full) from Wk.lst0 (.cons (WkC.refl _) (.nil)))) rfl rfl rfl rfl rfl rfl rfl rfl ?_
  refine zh_app htab rfl rfl rfl rfl rfl rfl rfl rfl (rep_of rfl) rfl (app_kC rfl) (Kap (j := 0) rfl) rfl rfl rfl rfl rfl rfl rfl rfl rfl (Kbi q5) (app_map q5) ?_
  refine KdE rfl rfl rfl rfl (fun e he => by simp [isAl] at he) ?_
  refine pu ?_
  refine pu ?_
  refine pS0 (ds' := [.lst 1 (m0.gB.map byteD) c0_0, iD m0.gAt, .lst 4 (x5.map Kc) (.cur v5)]) ?_
  refine Kv ?_
  iterate 3 refine pu ?_
  refine pL 0 ?_
  iterate 4 refine pu ?_
  refine pS0 (ds' := [.lst 1 (m0.gB.map byteD) c0_0, iD (IntKind.i64.wrap (m0.gAt + a2)), .lst 4 (x5.map Kc) (.cur v5)]) ?_
  refine Kv ?_
  refine pu ?_
  refine Kh ?_
  refine Ks ?_
  have er6 := Kn hm; subst er6
  refine rP (t' := [(8, iD (0 : Int))]) [0] [0] 1 (wC wN) (lT lN) ?_
  exact ⟨v5, rfl, rfl, rfl⟩
abbrev nlGm1_4 : List (List Nat) := nlD [] [(0,[]),(0,[0]),(2,[1]),(3,[2]),(0,[]),(0,[4]),(6,[5]),(7,[6]),(0,[]),(0,[8]),(10,[9]),(11,[10]),(0,[]),(12,[11,12]),(4,[3,4,5,6,7,8,9,10,11,12,13]),(15,[14]),(16,[15])]
noncomputable def KcC (m0 : KU) : Option (Int × KU) :=
 ((KbO m0 true).bind fun x1 => ((cutL m0.gB m0.gAt (IntKind.i64.wrap (m0.gAt + x1))).bind fun x2 => (bif (decide ((20 : Int) < x1)) then some ((6 : Int), m0) else ((Ke3 (ByteArray.mk x2.toArray)).bind fun x15 => (bif x15 then ((KbC m0 (3 : Int) x1 (0 : Int)).bind fun x21 => some (x21.1, x21.2)) else ((KbC m0 (1 : Int) x1 (0 : Int)).bind fun x24 => some (x24.1, x24.2)))))))
theorem KhH (m0 : KU) (o0 : Nat) (T0 : TypeId) (c0_0 : Cap) (k0_2 : Value) (r : Int × KU) (h0 : KcC m0 = some r) : CallsD Try.prog 65 [.ptr o0 0] [(o0, Blk.cells [.lst 1 (m0.gB.map byteD) c0_0, iD m0.gAt, .lst 4 (m0.gL.map Kc) (.cur k0_2)] T0)] [(4, k0_2)] (fun d h k => ∃ y0, d = iD r.1 ∧ h = [(o0, Blk.cells [.lst 1 (r.2.gB.map byteD) c0_0, iD r.2.gAt, .lst 4 (r.2.gL.map Kc) (.cur y0)] T0)] ∧ k = [(4, y0)]) := by
 have hm := KE h0
 unfold KcC at hm
 clear h0
 refine KW htab Try.func65 rfl rfl rfl rfl rfl (fun C => ?_)
 refine Kl ?_
 refine pu ?_
 refine Kv ?_
 refine pu ?_
 obtain ⟨x1, q1, hm⟩ := Kf hm
 refine pG (KcF m0 true o0 T0 c0_0 (.cur k0_2) x1 q1) Wl Pf Pf ?_
 rintro _ _ _ ⟨rfl, rfl, rfl⟩
 refine pu ?_
 refine Kh ?_
 refine Kq ?_
 refine Kaj 14 [] [[],[0],[0,1],[0,1,2],[],[4],[4,5],[4,5,6],[],[8],[8,9],[8,9,10],[],[8,9,10]] [0,1,2,3,4,5,6,8,9,10] nlGm1_4 (by kernel_rfl) (by kernel_rfl) (by kernel_rfl) (by rfl) (by rfl) (by kernel_rfl) ?_
 iterate 10 apply Exists.intro
 intro bs
 iterate 3 refine zep ?_
 refine z_eM rfl rfl (KF 0 htab rfl rfl rfl rfl rfl) rfl rfl rfl rfl rfl rfl ?_
 iterate 3 refine zep ?_
 refine z_qM rfl rfl (KF 0 htab rfl rfl rfl rfl rfl) rfl rfl rfl rfl rfl rfl ?_
 iterate 3 refine zep ?_
 refine z_qM rfl rfl (KF 0 htab rfl rfl rfl rfl rfl) rfl rfl rfl rfl rfl rfl ?_
 refine zqp ?_
 refine zqp ?_
 refine z_nil rfl rfl (fun e he => by simp [isAl] at he) ?_
 obtain ⟨x2, q2, hm⟩ := Kf hm
 refine p_cut q2 htab rfl rfl rfl rfl rfl rfl rfl rfl rfl rfl rfl rfl rfl ?_
 refine p_toStr htab rfl rfl rfl rfl rfl rfl rfl rfl rfl rfl rfl ?_
 refine pu ?_
 refine Kh ?_
 refine Kq ?_
 refine KL ?_
 refine Kl ?_
 iterate 3 refine pu ?_
 refine Kh ?_
 refine Ku rfl (fun hc13 => ?_) (fun hc13 => ?_)
 ·replace hm := yes_t hc13 hm
  refine Kl ?_
  refine pu ?_
  refine Kh ?_
  refine Ks ?_
  refine K0 ?_
  refine KD ?_
  have er14 := Kn hm; subst er14
  refine rP (t' := [(2, iD (6 : Int))]) [0] [0] 1 (wC wN) (lT lN) ?_
  exact ⟨k0_2, rfl, rfl, rfl⟩
 ·replace hm := yes_f hc13 hm
  refine Kl ?_
  refine pu ?_
  obtain ⟨x15, q15, hm⟩ := Kf hm
  refine KaJ (Kj5 (ByteArray.mk x2.toArray) x15 q15) rfl rfl rfl rfl rfl Wl ?_
  rintro _ rfl
  refine pu ?_
  refine Kh ?_
  refine Ku rfl (fun hc19 => ?_) (fun hc19 => ?_)
  ·replace hm := yes_t hc19 hm
   refine Kl ?_
   refine pu ?_
   refine pu ?_
   obtain ⟨x21, q21, hm⟩ := Kf hm
   refine pG (Kc2 m0 (3 : Int) x1 (0 : Int) o0 T0 c0_0 k0_2 x21 q21) Wl Pf Pf ?_
   rintro _ _ _ ⟨w20, rfl, rfl, rfl⟩
   refine pu ?_
   refine Kh ?_
   refine Ks ?_
   refine K0 ?_
   refine KD ?_
   have er22 := Kn hm; subst er22
   refine rP (t' := [(2, iD x21.1)]) [0] [0] 1 (wC wN) (lT lN) ?_
   exact ⟨w20, rfl, rfl, rfl⟩
  ·replace hm := yes_f hc19 hm
   refine Ky ?_
   refine KI ?_
   refine Km ?_
   refine Kl ?_
   refine pu ?_
   refine pu ?_
   obtain ⟨x24, q24, hm⟩ := Kf hm
   refine pG (Kc2 m0 (1 : Int) x1 (0 : Int) o0 T0 c0_0 k0_2 x24 q24) Wl Pf Pf ?_
   rintro _ _ _ ⟨w23, rfl, rfl, rfl⟩
   refine pu ?_
   refine Kh ?_
   refine Ks ?_
   have er25 := Kn hm; subst er25
   refine rP (t' := [(2, iD x24.1)]) [0] [0] 1 (wC wN) (lT lN) ?_
   exact ⟨w23, rfl, rfl, rfl⟩
abbrev nlGm1_5 : List (List Nat) := nlD [] [(0,[]),(0,[0]),(0,[]),(2,[1,2]),(4,[3]),(5,[4]),(6,[5]),(7,[6]),(8,[7]),(6,[]),(6,[9]),(11,[10]),(12,[11]),(9,[8,9,10,11,12]),(14,[13]),(15,[14]),(16,[15]),(17,[16]),(18,[17]),(19,[18]),(20,[19])]
noncomputable def Kco (m0 : KU) : Option (Int × KU) :=
 (bif (decide ((4000 : Int) ≤ (m0.gL.length : Int))) then some ((6 : Int), m0) else ((KbO m0 false).bind fun x4 => (Option.bind (α := Bool) ((KbO m0 true).bind fun x10 => (bif (decide (x4 < x10)) then some true else ((idx m0.gB m0.gAt).bind fun x12 => (bif ((x12.toNat : Int) == (48 : Int)) then some (decide ((1 : Int) < x4)) else some false)))) fun y9 => (bif y9 then some ((3 : Int), m0) else ((cutL m0.gB m0.gAt (IntKind.i64.wrap (m0.gAt + x4))).bind fun x17 => (Option.bind (α := (Int) ⊕ (Int × KU)) (loopM (fun (s33 : Int × Int) => (bif (decide (s33.2 < (x17.length : Int))) then ((idx x17 s33.2).bind fun x43 => (bif (decide ((IntKind.u64.wrap ((IntKind.u64.wrap ((9223372036854775807 : Int) - (IntKind.u64.wrap (IntKind.u8.wrap ((x43.toNat : Int) - (48 : Int)))))).tdiv (10 : Int))) < s33.1)) then some (.done (.inr ((4 : Int), m0))) else some (.next ((IntKind.u64.wrap ((IntKind.u64.wrap ((10 : Int) * s33.1)) + (IntKind.u64.wrap (IntKind.u8.wrap ((x43.toNat : Int) - (48 : Int)))))), (IntKind.i64.wrap (s33.2 + (1 : Int))))))) else some (.done (.inl s33.1)))) ((0 : Int), (0 : Int))) (Sum.elim (fun y32 => ((KbC m0 (2 : Int) x4 (IntKind.i64.wrap y32)).bind fun x47 => some (x47.1, x47.2))) (fun r => some r))))))))
theorem KgW (m0 : KU) (o0 : Nat) (T0 : TypeId) (c0_0 : Cap) (k0_2 : Value) (r : Int × KU) (h0 : Kco m0 = some r) : CallsD Try.prog 66 [.ptr o0 0] [(o0, Blk.cells [.lst 1 (m0.gB.map byteD) c0_0, iD m0.gAt, .lst 4 (m0.gL.map Kc) (.cur k0_2)] T0)] [(4, k0_2)] (fun d h k => ∃ y0, d = iD r.1 ∧ h = [(o0, Blk.cells [.lst 1 (r.2.gB.map byteD) c0_0, iD r.2.gAt, .lst 4 (r.2.gL.map Kc) (.cur y0)] T0)] ∧ k = [(4, y0)]) := by
 have hm := KE h0
 unfold Kco at hm
 clear h0
 refine KW htab Try.func66 rfl rfl rfl rfl rfl (fun C => ?_)
 refine Kl ?_
 refine pu ?_
 refine Kh ?_
 refine Kq ?_
 refine Kl ?_
 iterate 3 refine pu ?_
 refine pL 0 ?_
 refine KaP htab rfl rfl rfl rfl rfl rfl rfl (by first | exact Kaf | rfl) ?_
 refine pu ?_
 refine Kh ?_
 refine Ku rfl (fun hc2 => ?_) (fun hc2 => ?_)
 ·replace hm := yes_t hc2 hm
  refine Kl ?_
  refine pu ?_
  refine Kh ?_
  refine Ks ?_
  refine KD ?_
  have er3 := Kn hm; subst er3
  refine rP (t' := [(2, iD (6 : Int))]) [0] [0] 1 (wC wN) (lT lN) ?_
  exact ⟨k0_2, rfl, rfl, rfl⟩
 ·replace hm := yes_f hc2 hm
  refine Ky ?_
  refine Km ?_
  refine Kl ?_
  refine pu ?_
  obtain ⟨x4, q4, hm⟩ := Kf hm
  refine pG (KcF m0 false o0 T0 c0_0 (.cur k0_2) x4 q4) Wl Pf Pf ?_
  rintro _ _ _ ⟨rfl, rfl, rfl⟩
  refine pu ?_
  refine Kh ?_
  refine Kq ?_
  refine Kq ?_
  obtain ⟨y9, q9, ho9⟩ := Kf hm
  refine K6 (Y := Unit) (fun z9 => (⟨[(0, .ptr o0 0), (3, iD x4), (36, .v (.bool y9))], [(o0, Blk.cells [.lst 1 (m0.gB.map byteD) c0_0, iD m0.gAt, .lst 4 (m0.gL.map Kc) (.cur k0_2)] T0)], [(4, k0_2)]⟩ : S)) ?_ ?_
  ·clear hm; have hm := KE q9
   obtain ⟨x10, q10, hm⟩ := Kf hm
   refine bycB (decide (x4 < x10)) (fun hs11 => ?_) (fun hs11 => ?_)
   ·replace hm := yes_t hs11 hm
    refine Kaj 13 [] [[],[0],[],[0,1],[0,1],[0,1],[0,1],[0,1],[0,1],[0,1],[0,1],[0,1],[0,1]] [0,1] nlGm1_5 (by kernel_rfl) (by kernel_rfl) (by kernel_rfl) (by rfl) (by rfl) (by kernel_rfl) ?_
    apply Exists.intro
    apply Exists.intro
    intro bs
    refine zep ?_
    refine z_callB 0 rfl rfl (KcF m0 true o0 T0 c0_0 (.cur k0_2) x10 q10) rfl rfl Wl rfl rfl rfl rfl rfl rfl rfl ?_
    iterate 3 refine zqp ?_
    refine K1 (j := 20) (b' := true) rfl hs11 ?_
    iterate 8 refine zK ?_
    refine z_nil rfl rfl (fun e he => by simp [isAl] at he) ?_
    iterate 7 refine pK ?_
    refine KS rfl rfl rfl rfl rfl rfl ?_
    refine KB ?_
    have e9 := Kn hm; subst e9
    refine ⟨rfl, ?_⟩
    exact WkX.of () (WkS.perm (WkS.cons rfl (Wk.refl _) (WkS.cons rfl (Wk.refl _) (WkS.cons rfl (Wk.refl _) (WkS.nil)))) Pf Pf)
   ·replace hm := yes_f hs11 hm
    refine Kaj 13 [] [[],[0],[],[0,1],[0,1],[0,1],[0,1,5],[0,1,5,6],[0,1,5,6,7],[0,1],[0,1,9],[0,1,9,10],[0,1,9,10,11]] [0,1,5,6,7,8,9,10,11] nlGm1_5 (by kernel_rfl) (by kernel_rfl) (by kernel_rfl) (by rfl) (by rfl) (by kernel_rfl) ?_
    iterate 9 apply Exists.intro
    intro bs
    refine zep ?_
    refine z_callB 0 rfl rfl (KcF m0 true o0 T0 c0_0 (.cur k0_2) x10 q10) rfl rfl Wl rfl rfl rfl rfl rfl rfl rfl ?_
    iterate 3 refine zqp ?_
    refine K1 (j := 20) (b' := false) rfl hs11 ?_
    iterate 3 refine zep ?_
    refine z_eM rfl rfl (KF 0 htab rfl rfl rfl rfl rfl) rfl rfl rfl rfl rfl rfl ?_
    iterate 3 refine zep ?_
    refine z_qM rfl rfl (KF 0 htab rfl rfl rfl rfl rfl) rfl rfl rfl rfl rfl rfl ?_
    refine z_nil rfl rfl (fun e he => by simp [isAl] at he) ?_
    obtain ⟨x12, q12, hm⟩ := Kf hm
    refine Ka8 htab rfl rfl rfl rfl rfl rfl rfl rfl rfl rfl (Kr q12) (Kz q12) ?_
    refine KaE htab rfl rfl rfl rfl rfl rfl rfl rfl ?_
    refine pu ?_
    refine pu ?_
    refine K9 (i := 32) rfl (fun hg13 => ?_) (fun hg13 => ?_)
    ·replace hm := yes_t hg13 hm
     refine pu ?_
     refine pu ?_
     refine KS rfl rfl rfl rfl rfl rfl ?_
     refine KH rfl rfl rfl rfl rfl rfl ?_
     refine KB ?_
     have e9 := Kn hm; subst e9
     refine ⟨rfl, ?_⟩
     exact WkX.of () (WkS.perm (WkS.cons rfl (Wk.refl _) (WkS.cons rfl (Wk.refl _) (WkS.cons rfl (Wk.refl _) (WkS.nil)))) Pf Pf)
    ·replace hm := yes_f hg13 hm
     refine pK ?_
     refine pK ?_
     refine KH rfl rfl rfl rfl rfl rfl ?_
     refine KH rfl rfl rfl rfl rfl rfl ?_
     refine KB ?_
     have e9 := Kn hm; subst e9
     refine ⟨rfl, ?_⟩
     exact WkX.of () (WkS.perm (WkS.cons rfl (Wk.refl _) (WkS.cons rfl (Wk.refl _) (WkS.cons rfl (Wk.refl _) (WkS.nil)))) Pf Pf)
  ·intro s9 hw9; clear hm; have hm := ho9; clear q9 ho9
   refine Km ?_
   refine K3 hw9 (fun z9 => ?_)
   refine Ku rfl (fun hc15 => ?_) (fun hc15 => ?_)
   ·replace hm := yes_t hc15 hm
    refine Kl ?_
    refine pu ?_
    refine Kh ?_
    refine Ks ?_
    refine KD ?_
    have er16 := Kn hm; subst er16
    refine rP (t' := [(2, iD (3 : Int))]) [0] [0] 1 (wC wN) (lT lN) ?_
    exact ⟨k0_2, rfl, rfl, rfl⟩
   ·replace hm := yes_f hc15 hm
    refine Ky ?_
    refine Km ?_
    refine Kl ?_
    refine pu ?_
    refine Kh ?_
    refine Kq ?_
    refine Kq ?_
    obtain ⟨x17, q17, hm⟩ := Kf hm
    refine Kaj 17 [] [[],[0],[0,1],[0,1,2],[],[4],[4,5],[4,5,6],[],[8],[8,9],[8,9,10],[],[8,9,10],[0,1,2,3,4,5,6,8,9,10],[0,1,2,3,4,5,6,8,9,10,14],[]] [0,1,2,3,4,5,6,8,9,10,14] [[],[0],[0,1],[0,1,2],[],[4],[4,5],[4,5,6],[],[8],[8,9],[8,9,10],[],[8,9,10,11,12],[0,1,2,3,4,5,6,7,8,9,10,11,12,13],[0,1,2,3,4,5,6,7,8,9,10,11,12,13,14],[]] (by kernel_rfl) (by kernel_rfl) (by kernel_rfl) (by rfl) (by rfl) (by kernel_rfl) ?_
    iterate 11 apply Exists.intro
    intro bs
    iterate 3 refine zep ?_
    refine z_eM rfl rfl (KF 0 htab rfl rfl rfl rfl rfl) rfl rfl rfl rfl rfl rfl ?_
    iterate 3 refine zep ?_
    refine z_qM rfl rfl (KF 0 htab rfl rfl rfl rfl rfl) rfl rfl rfl rfl rfl rfl ?_
    iterate 3 refine zep ?_
    refine z_qM rfl rfl (KF 0 htab rfl rfl rfl rfl rfl) rfl rfl rfl rfl rfl rfl ?_
    refine zqp ?_
    refine zqp ?_
    refine z_e rfl rfl (x_cut q17 htab rfl rfl rfl rfl rfl rfl rfl rfl rfl rfl) rfl rfl rfl rfl rfl rfl ?_
    refine z_q rfl rfl (KdT htab rfl rfl rfl rfl (by first | exact Kaf | rfl)) rfl rfl rfl rfl rfl rfl ?_
    refine zqp ?_
    refine z_nil rfl rfl (fun e he => by simp [isAl] at he) ?_
    refine Kh ?_
    obtain ⟨x32, q32, ho32⟩ := Kf hm
    refine KdN (τ := Int) (Y := Unit) (fun y32 z32 => (⟨[(0, .ptr o0 0), (3, iD x4), (4, .v (.int .u64 y32))], [(o0, Blk.cells [.lst 1 (m0.gB.map byteD) c0_0, iD m0.gAt, .lst 4 (m0.gL.map Kc) (.cur k0_2)] T0)], [(4, k0_2)]⟩ : S)) x32 ?_ ?_
    ·clear hm; have hm := KE q32
     refine KL ?_
     obtain ⟨u33, hl33, hq33⟩ := yes_m hm
     refine Kbe (Y := Unit) hl33 (fun s33 z33 => (⟨[(0, .ptr o0 0), (3, iD x4), (4, .v (.int .u64 s33.1)), (51, .lst 1 (x17.map byteD) .no), (52, iD (x17.length : Int)), (53, iD s33.2)], [(o0, Blk.cells [.lst 1 (m0.gB.map byteD) c0_0, iD m0.gAt, .lst 4 (m0.gL.map Kc) (.cur k0_2)] T0)], [(4, k0_2)]⟩ : S)) ?_ ?_
     ·skip
      exact WkX.of () (WkS.perm (WkS.cons rfl (Wk.refl _) (WkS.cons rfl (Wk.refl _) (WkS.cons rfl (Wk.refl _) (WkS.cons rfl (Wk.refl _) (WkS.cons rfl (Wk.refl _) (WkS.cons rfl (Wk.refl _) (WkS.nil))))))) Pf Pf)
     ·intro G33 s33 z33 hm
      refine Kl ?_
      refine pu ?_
      refine Kh ?_
      refine Kq ?_
      refine Ku rfl (fun hc42 => ?_) (fun hc42 => ?_)
      ·replace hm := yes_t hc42 hm
       refine Ky ?_
       refine Km ?_
       refine Kq ?_
       refine KL ?_
       refine Kl ?_
       obtain ⟨x43, q43, hm⟩ := Kf hm
       refine Ka8 htab rfl rfl rfl rfl rfl rfl rfl rfl rfl rfl (Kr q43) (Kz q43) ?_
       refine KaE htab rfl rfl rfl rfl rfl rfl rfl rfl ?_
       refine pu ?_
       refine Kv ?_
       iterate 4 refine pu ?_
       refine Kh ?_
       refine Kq ?_
       refine Kl ?_
       iterate 3 refine pu ?_
       refine p_div rfl rfl rfl rfl rfl rfl rfl (by decide) ?_
       refine pu ?_
       refine Kh ?_
       refine Ku rfl (fun hc44 => ?_) (fun hc44 => ?_)
       ·replace hm := yes_t hc44 hm
        refine Kl ?_
        refine pu ?_
        refine Kh ?_
        refine Ks ?_
        refine KD ?_
        refine K0 ?_
        refine KD ?_
        have e33 := Kaq hm; subst e33; clear hm; have hm := hq33
        refine KD ?_
        refine K0 ?_
        have e32 := Kn hm; subst e32; refine KbW ?_; clear hm; have hm := ho32; simp only [Sum.elim_inr] at hm
        refine KD ?_
        have er45 := Kn hm; subst er45
        refine rP (t' := [(2, iD (4 : Int))]) [0] [0] 1 (wC wN) (lT lN) ?_
        exact ⟨k0_2, rfl, rfl, rfl⟩
       ·replace hm := yes_f hc44 hm
        refine Ky ?_
        refine Km ?_
        refine KC ?_
        iterate 5 refine pu ?_
        refine KB ?_
        refine KI ?_
        refine Km ?_
        refine KC ?_
        refine pu ?_
        refine pu ?_
        refine KB ?_
        refine Km ⟨_, KaR hm, ?_⟩
        exact WkX.of () (WkS.perm (WkS.cons rfl (Wk.refl _) (WkS.cons rfl (Wk.refl _) (WkS.cons rfl (Wk.refl _) (WkS.cons rfl (Wk.refl _) (WkS.cons rfl (Wk.refl _) (WkS.cons rfl (Wk.refl _) (WkS.nil))))))) Pf Pf)
      ·replace hm := yes_f hc42 hm
       refine Kay ?_
       refine KN ?_
       have e33 := Kaq hm; subst e33; clear hm; have hm := hq33
       refine KN ?_
       refine Kao ?_
       have e32 := Kn hm; subst e32
       refine Kdp ?_
       exact WkX.of () (WkS.perm (WkS.cons rfl (Wk.refl _) (WkS.cons rfl (Wk.refl _) (WkS.cons rfl (Wk.refl _) (WkS.nil)))) Pf Pf)
    ·intro y32 s32 hx32 hw32; subst hx32; clear hm; have hm := ho32; simp only [Sum.elim_inl] at hm; clear q32 ho32
     refine Km ?_
     refine K3 hw32 (fun z32 => ?_)
     refine Kl ?_
     iterate 4 refine pu ?_
     obtain ⟨x47, q47, hm⟩ := Kf hm
     refine pG (Kc2 m0 (2 : Int) x4 (IntKind.i64.wrap y32) o0 T0 c0_0 k0_2 x47 q47) Wl Pf Pf ?_
     rintro _ _ _ ⟨w46, rfl, rfl, rfl⟩
     refine pu ?_
     refine Kh ?_
     refine Ks ?_
     have er48 := Kn hm; subst er48
     refine rP (t' := [(2, iD x47.1)]) [0] [0] 1 (wC wN) (lT lN) ?_
     exact ⟨w46, rfl, rfl, rfl⟩
noncomputable def KcD (m0 : KU) : Option (Int) :=
 ((cutL m0.gB m0.gAt ((m0.gB).length : Int)).bind fun x1 => (Option.bind (α := Bool) (bif (decide ((1 : Int) < (x1.length : Int))) then ((cutL x1 (0 : Int) (2 : Int)).bind fun x7 => ((Ka2 ([(ByteArray.mk #[61, 61]), (ByteArray.mk #[33, 61]), (ByteArray.mk #[60, 61]), (ByteArray.mk #[38, 38]), (ByteArray.mk #[124, 124])] : List ByteArray) (ByteArray.mk x7.toArray)).bind fun x8 => some x8)) else some false) fun y5 => (bif y5 then some (2 : Int) else ((idx x1 (0 : Int)).bind fun x12 => (bif (decide ((0 : Int) ≤ (indexB (ByteArray.mk #[40, 41, 123, 125, 91, 93, 59, 44, 61, 60, 43, 45, 42, 47, 37, 33, 38]) (x12.toNat : Int)))) then some (1 : Int) else some (0 : Int))))))
theorem KhI (m0 : KU) (o0 : Nat) (T0 : TypeId) (c0_0 : Cap) (c0_2 : Cap) (r : Int) (h0 : KcD m0 = some r) : CallsD Try.prog 67 [.ptr o0 0] [(o0, Blk.cells [.lst 1 (m0.gB.map byteD) c0_0, iD m0.gAt, .lst 4 (m0.gL.map Kc) c0_2] T0)] [] (fun d h k => d = iD r ∧ h = [(o0, Blk.cells [.lst 1 (m0.gB.map byteD) c0_0, iD m0.gAt, .lst 4 (m0.gL.map Kc) c0_2] T0)] ∧ k = []) := by
 have hm := KE h0
 unfold KcD at hm
 clear h0
 refine KW htab Try.func67 rfl rfl rfl rfl rfl (fun C => ?_)
 refine Kl ?_
 refine pu ?_
 refine Kh ?_
 refine Kq ?_
 refine Kaj 8 [] [[],[0],[0,1],[0,1,2],[],[4],[4,5],[4,5,6]] [0,1,2,3,4,5,6] [[],[0],[0,1],[0,1,2],[],[4],[4,5],[4,5,6],[0,1,2,3,4,5,6,7],[0,1,2,3,4,5,6,7,8]] (by kernel_rfl) (by kernel_rfl) (by kernel_rfl) (by rfl) (by rfl) (by kernel_rfl) ?_
 iterate 7 apply Exists.intro
 intro bs
 iterate 3 refine zep ?_
 refine z_eM rfl rfl (KF 0 htab rfl rfl rfl rfl rfl) rfl rfl rfl rfl rfl rfl ?_
 iterate 3 refine zep ?_
 refine z_qM rfl rfl (KF 0 htab rfl rfl rfl rfl rfl) rfl rfl rfl rfl rfl rfl ?_
 refine z_nil rfl rfl (fun e he => by simp [isAl] at he) ?_
 obtain ⟨x1, q1, hm⟩ := Kf hm
 refine p_cut q1 htab rfl rfl rfl rfl rfl rfl rfl rfl rfl rfl rfl rfl rfl ?_
 refine pu ?_
 refine Kh ?_
 refine Kq ?_
 refine Kq ?_
 obtain ⟨y5, q5, ho5⟩ := Kf hm
 refine K6 (Y := Unit) (fun z5 => (⟨[(3, .lst 1 (x1.map byteD) .no), (22, .v (.bool y5))], [(o0, Blk.cells [.lst 1 (m0.gB.map byteD) c0_0, iD m0.gAt, .lst 4 (m0.gL.map Kc) c0_2] T0)], []⟩ : S)) ?_ ?_
 ·clear hm; have hm := KE q5
  refine KC ?_
  refine pu ?_
  refine KaP htab rfl rfl rfl rfl rfl rfl rfl (by first | exact Kaf | rfl) ?_
  refine pu ?_
  refine pu ?_
  refine K9 (i := 16) rfl (fun hg6 => ?_) (fun hg6 => ?_)
  ·replace hm := yes_t hg6 hm
   refine p_lit htab rfl rfl rfl rfl rfl rfl rfl rfl rfl rfl rfl rfl rfl rfl ?_
   refine p_eq (i := 17) (d' := .lst 1 (([(ByteArray.mk #[61, 61]), (ByteArray.mk #[33, 61]), (ByteArray.mk #[60, 61]), (ByteArray.mk #[38, 38]), (ByteArray.mk #[124, 124])] : List ByteArray).map eStr) .full) rfl (Wk.lst0 (.cons (WkC.refl _) (.cons (WkC.refl _) (.cons (WkC.refl _) (.cons (WkC.refl _) (.cons (WkC.refl _) (.nil))))))) ?_
   refine pu ?_
   obtain ⟨x7, q7, hm⟩ := Kf hm
   refine p_cut q7 htab rfl rfl rfl rfl rfl rfl rfl rfl rfl rfl rfl rfl rfl ?_
   refine p_toStr htab rfl rfl rfl rfl rfl rfl rfl rfl rfl rfl rfl ?_
   obtain ⟨x8, q8, hm⟩ := Kf hm
   refine KaJ (KcU ([(ByteArray.mk #[61, 61]), (ByteArray.mk #[33, 61]), (ByteArray.mk #[60, 61]), (ByteArray.mk #[38, 38]), (ByteArray.mk #[124, 124])] : List ByteArray) (ByteArray.mk x7.toArray) x8 q8) rfl rfl rfl rfl rfl (WkL.cons (Wk.no) (WkL.cons (Wk.refl _) Wl)) ?_
   rintro _ rfl
   refine KS rfl rfl rfl rfl rfl rfl ?_
   refine KB ?_
   have e5 := Kn hm; subst e5
   refine ⟨rfl, ?_⟩
   exact WkX.of () (WkS.perm (WkS.cons rfl (Wk.refl _) (WkS.cons rfl (Wk.refl _) (WkS.nil))) Pf Pf)
  ·replace hm := yes_f hg6 hm
   iterate 5 refine pK ?_
   refine KH rfl rfl rfl rfl rfl rfl ?_
   refine KB ?_
   have e5 := Kn hm; subst e5
   refine ⟨rfl, ?_⟩
   exact WkX.of () (WkS.perm (WkS.cons rfl (Wk.refl _) (WkS.cons rfl (Wk.refl _) (WkS.nil))) Pf Pf)
 ·intro s5 hw5; clear hm; have hm := ho5; clear q5 ho5
  refine Km ?_
  refine K3 hw5 (fun z5 => ?_)
  refine Ku rfl (fun hc10 => ?_) (fun hc10 => ?_)
  ·replace hm := yes_t hc10 hm
   refine Kl ?_
   refine pu ?_
   refine Kh ?_
   refine Ks ?_
   refine KD ?_
   have er11 := Kn hm; subst er11
   refine rP (t' := [(2, iD (2 : Int))]) [0] [] 1 (wC wN) (lT lN) ?_
   exact ⟨rfl, rfl, rfl⟩
  ·replace hm := yes_f hc10 hm
   refine Ky ?_
   refine Km ?_
   refine Kq ?_
   refine Kl ?_
   refine pu ?_
   obtain ⟨x12, q12, hm⟩ := Kf hm
   refine Ka8 htab rfl rfl rfl rfl rfl rfl rfl rfl rfl rfl (Kr q12) (Kz q12) ?_
   refine KaE htab rfl rfl rfl rfl rfl rfl rfl rfl ?_
   refine KaJ (indexB_ok (ByteArray.mk #[40, 41, 123, 125, 91, 93, 59, 44, 61, 60, 43, 45, 42, 47, 37, 33, 38]) (x12.toNat : Int)) rfl rfl rfl rfl rfl Wl ?_
   rintro _ rfl
   refine pu ?_
   refine Kh ?_
   refine Ku rfl (fun hc13 => ?_) (fun hc13 => ?_)
   ·replace hm := yes_t hc13 hm
    refine Kl ?_
    refine pu ?_
    refine Kh ?_
    refine Ks ?_
    refine KD ?_
    have er14 := Kn hm; subst er14
    refine rP (t' := [(2, iD (1 : Int))]) [0] [] 1 (wC wN) (lT lN) ?_
    exact ⟨rfl, rfl, rfl⟩
   ·replace hm := yes_f hc13 hm
    refine Ky ?_
    refine Km ?_
    refine Kl ?_
    refine pu ?_
    refine Kh ?_
    refine Ks ?_
    have er15 := Kn hm; subst er15
    refine rP (t' := [(2, iD (0 : Int))]) [0] [] 1 (wC wN) (lT lN) ?_
    exact ⟨rfl, rfl, rfl⟩
noncomputable def KcE (m0 : KU) : Option (Int × KU) :=
 ((idx m0.gB m0.gAt).bind fun x1 => ((Keq (IntKind.i32.wrap (x1.toNat : Int))).bind fun x2 => (bif (x2 == (1 : Int)) then some ((0 : Int), (⟨m0.gB, (IntKind.i64.wrap (m0.gAt + (1 : Int))), m0.gL⟩ : KU)) else (bif (x2 == (2 : Int)) then ((KcC m0).bind fun x27 => some (x27.1, x27.2)) else (bif (x2 == (3 : Int)) then ((Kco m0).bind fun x34 => some (x34.1, x34.2)) else ((KcD m0).bind fun x36 => (bif (x36 == (0 : Int)) then some ((3 : Int), m0) else ((KbC m0 (3 : Int) x36 (0 : Int)).bind fun x41 => some (x41.1, x41.2)))))))))
theorem KhJ (m0 : KU) (o0 : Nat) (T0 : TypeId) (c0_0 : Cap) (k0_2 : Value) (r : Int × KU) (h0 : KcE m0 = some r) : CallsD Try.prog 53 [.ptr o0 0] [(o0, Blk.cells [.lst 1 (m0.gB.map byteD) c0_0, iD m0.gAt, .lst 4 (m0.gL.map Kc) (.cur k0_2)] T0)] [(4, k0_2)] (fun d h k => ∃ y0, d = iD r.1 ∧ h = [(o0, Blk.cells [.lst 1 (r.2.gB.map byteD) c0_0, iD r.2.gAt, .lst 4 (r.2.gL.map Kc) (.cur y0)] T0)] ∧ k = [(4, y0)]) := by
 have hm := KE h0
 unfold KcE at hm
 clear h0
 refine KW htab Try.func53 rfl rfl rfl rfl rfl (fun C => ?_)
 refine Kl ?_
 refine pu ?_
 refine Kh ?_
 refine Kq ?_
 refine Kq ?_
 refine Kaj 8 [] [[],[0],[0,1],[0,1,2],[],[4],[4,5],[4,5,6]] [0,1,2,3,4,5,6] [[],[0],[0,1],[0,1,2],[],[4],[4,5],[4,5,6],[0,1,2,3,4,5,6,7],[0,1,2,3,4,5,6,7,8],[0,1,2,3,4,5,6,7,8,9],[0,1,2,3,4,5,6,7,8,9,10]] (by kernel_rfl) (by kernel_rfl) (by kernel_rfl) (by rfl) (by rfl) (by kernel_rfl) ?_
 iterate 7 apply Exists.intro
 intro bs
 iterate 3 refine zep ?_
 refine z_eM rfl rfl (KF 0 htab rfl rfl rfl rfl rfl) rfl rfl rfl rfl rfl rfl ?_
 iterate 3 refine zep ?_
 refine z_qM rfl rfl (KF 0 htab rfl rfl rfl rfl rfl) rfl rfl rfl rfl rfl rfl ?_
 refine z_nil rfl rfl (fun e he => by simp [isAl] at he) ?_
 obtain ⟨x1, q1, hm⟩ := Kf hm
 refine Ka8 htab rfl rfl rfl rfl rfl rfl rfl rfl rfl rfl (Kr q1) (Kz q1) ?_
 refine KaE htab rfl rfl rfl rfl rfl rfl rfl rfl ?_
 refine pu ?_
 obtain ⟨x2, q2, hm⟩ := Kf hm
 refine KaJ (KhT (IntKind.i32.wrap (x1.toNat : Int)) x2 q2) rfl rfl rfl rfl rfl Wl ?_
 rintro _ rfl
 refine Kh ?_
 refine KL ?_
 refine Kl ?_
 refine pu ?_
 refine pu ?_
 refine Kh ?_
 refine Ku rfl (fun hc17 => ?_) (fun hc17 => ?_)
 ·replace hm := yes_t hc17 hm
  refine Kl ?_
  iterate 3 refine pu ?_
  refine pL 0 ?_
  iterate 3 refine pu ?_
  refine pS0 (ds' := [.lst 1 (m0.gB.map byteD) c0_0, iD (IntKind.i64.wrap (m0.gAt + (1 : Int))), .lst 4 (m0.gL.map Kc) (.cur k0_2)]) ?_
  refine Kv ?_
  refine pu ?_
  refine Kh ?_
  refine Ks ?_
  refine K0 ?_
  refine KD ?_
  have er18 := Kn hm; subst er18
  refine rP (t' := [(2, iD (0 : Int))]) [0] [0] 1 (wC wN) (lT lN) ?_
  exact ⟨k0_2, rfl, rfl, rfl⟩
 ·replace hm := yes_f hc17 hm
  refine Kl ?_
  refine pu ?_
  refine pu ?_
  refine Kh ?_
  refine Ku rfl (fun hc25 => ?_) (fun hc25 => ?_)
  ·replace hm := yes_t hc25 hm
   refine Kl ?_
   refine pu ?_
   obtain ⟨x27, q27, hm⟩ := Kf hm
   refine pG (KhH m0 o0 T0 c0_0 k0_2 x27 q27) Wl Pf Pf ?_
   rintro _ _ _ ⟨w26, rfl, rfl, rfl⟩
   refine pu ?_
   refine Kh ?_
   refine Ks ?_
   refine K0 ?_
   refine KD ?_
   have er28 := Kn hm; subst er28
   refine rP (t' := [(2, iD x27.1)]) [0] [0] 1 (wC wN) (lT lN) ?_
   exact ⟨w26, rfl, rfl, rfl⟩
  ·replace hm := yes_f hc25 hm
   refine Kl ?_
   refine pu ?_
   refine pu ?_
   refine Kh ?_
   refine Ku rfl (fun hc32 => ?_) (fun hc32 => ?_)
   ·replace hm := yes_t hc32 hm
    refine Kl ?_
    refine pu ?_
    obtain ⟨x34, q34, hm⟩ := Kf hm
    refine pG (KgW m0 o0 T0 c0_0 k0_2 x34 q34) Wl Pf Pf ?_
    rintro _ _ _ ⟨w33, rfl, rfl, rfl⟩
    refine pu ?_
    refine Kh ?_
    refine Ks ?_
    refine K0 ?_
    refine KD ?_
    have er35 := Kn hm; subst er35
    refine rP (t' := [(2, iD x34.1)]) [0] [0] 1 (wC wN) (lT lN) ?_
    exact ⟨w33, rfl, rfl, rfl⟩
   ·replace hm := yes_f hc32 hm
    refine Ky ?_
    refine KI ?_
    refine Km ?_
    refine Kl ?_
    refine pu ?_
    obtain ⟨x36, q36, hm⟩ := Kf hm
    refine pG (KhI m0 o0 T0 c0_0 (.cur k0_2) x36 q36) Wl Pf Pf ?_
    rintro _ _ _ ⟨rfl, rfl, rfl⟩
    refine pu ?_
    refine Kh ?_
    refine Kq ?_
    refine Kl ?_
    refine pu ?_
    refine pu ?_
    refine Kh ?_
    refine Ku rfl (fun hc38 => ?_) (fun hc38 => ?_)
    ·replace hm := yes_t hc38 hm
     refine Kl ?_
     refine pu ?_
     refine Kh ?_
     refine Ks ?_
     refine KD ?_
     have er39 := Kn hm; subst er39
     refine rP (t' := [(2, iD (3 : Int))]) [0] [0] 1 (wC wN) (lT lN) ?_
     exact ⟨k0_2, rfl, rfl, rfl⟩
    ·replace hm := yes_f hc38 hm
     refine Ky ?_
     refine Km ?_
     refine Kl ?_
     refine pu ?_
     refine pu ?_
     obtain ⟨x41, q41, hm⟩ := Kf hm
     refine pG (Kc2 m0 (3 : Int) x36 (0 : Int) o0 T0 c0_0 k0_2 x41 q41) Wl Pf Pf ?_
     rintro _ _ _ ⟨w40, rfl, rfl, rfl⟩
     refine pu ?_
     refine Kh ?_
     refine Ks ?_
     have er42 := Kn hm; subst er42
     refine rP (t' := [(2, iD x41.1)]) [0] [0] 1 (wC wN) (lT lN) ?_
     exact ⟨w40, rfl, rfl, rfl⟩
noncomputable def Ke4 (a0 : List UInt8) : Option (List Kt × Int × Int) :=
 (bif (decide ((20000 : Int) < (a0.length : Int))) then some (([] : List Kt), (0 : Int), (6 : Int)) else (Option.bind (α := (List UInt8 × Int × List Kt) ⊕ (List Kt × Int × Int)) (loopM (fun (s25 : List UInt8 × Int × List Kt) => (bif (decide (s25.2.1 < (a0.length : Int))) then ((KcE (⟨s25.1, s25.2.1, s25.2.2⟩ : KU)).bind fun x40 => (bif (x40.1 != (0 : Int)) then some (.done (.inr (([] : List Kt), x40.2.gAt, x40.1))) else some (.next (x40.2.gB, x40.2.gAt, x40.2.gL)))) else some (.done (.inl (s25.1, s25.2.1, s25.2.2))))) (a0, (0 : Int), ([] : List Kt))) (Sum.elim (fun y24 => ((app 40 y24.2.2 ([(⟨(0 : Int), ByteArray.empty, (0 : Int), (a0.length : Int)⟩ : Kt)] : List Kt)).bind fun x44 => some (x44, (0 : Int), (0 : Int)))) (fun r => some r))))
theorem Kj6 (a0 : List UInt8) (r : List Kt × Int × Int) (h0 : Ke4 a0 = some r) : CallsD Try.prog 37 [.lst 1 (a0.map byteD) .no] [] [] (fun d h k => ∃ y0, d = .tup [.lst 4 (r.1.map Kc) (.cur y0), iD r.2.1, iD r.2.2] ∧ h = [] ∧ k = [(4, y0)]) := by
 have hm := KE h0
 unfold Ke4 at hm
 clear h0
 refine KW htab Try.func37 rfl rfl rfl rfl rfl (fun C => ?_)
 refine Kl ?_
 iterate 3 refine pu ?_
 refine Kh ?_
 refine Kq ?_
 refine Kl ?_
 refine pu ?_
 refine KaP htab rfl rfl rfl rfl rfl rfl rfl (by first | exact Kaf | rfl) ?_
 refine pu ?_
 refine Kh ?_
 refine Ku rfl (fun hc2 => ?_) (fun hc2 => ?_)
 ·replace hm := yes_t hc2 hm
  refine Kl ?_
  iterate 3 refine pu ?_
  refine Kh ?_
  refine Ks ?_
  refine KD ?_
  have er3 := Kn hm; subst er3
  refine retX.tokN (i := 2) 4 rfl (fun w4 => ?_)
  refine rP (t' := [(2, .lst 4 (([] : List Kt).map Kc) (.cur w4)), (3, iD (0 : Int)), (4, iD (6 : Int))]) [] [0] 0 (wC (wC (wC wN))) (lT (lT (lT lN))) ?_
  exact ⟨w4, rfl, rfl, rfl⟩
 ·replace hm := yes_f hc2 hm
  refine Ky ?_
  refine Km ?_
  refine Kl ?_
  refine pu ?_
  refine Kal (r := [.lst 1 (a0.map byteD) .no, iD (0 : Int), .lst 1 [] .full]) htab rfl rfl rfl rfl rfl rfl rfl rfl rfl ?_
  refine p_box rfl rfl rfl rfl rfl rfl rfl (fun b5 => ?_)
  refine pu ?_
  refine Kh ?_
  refine Kq ?_
  obtain ⟨x24, q24, ho24⟩ := Kf hm
  refine KdN (τ := List UInt8 × Int × List Kt) (Y := Value) (fun y24 z24 => (⟨[(0, .lst 1 (a0.map byteD) .no), (5, .ptr b5 0)], [(b5, Blk.cells [.lst 1 (y24.1.map byteD) .no, iD y24.2.1, .lst 4 (y24.2.2.map Kc) (.cur z24)] 104)], [(4, z24)]⟩ : S)) x24 ?_ ?_
  ·clear hm; have hm := KE q24
   refine KL ?_
   obtain ⟨u25, hl25, hq25⟩ := yes_m hm
   refine Kbe (Y := Value) hl25 (fun s25 z25 => (⟨[(0, .lst 1 (a0.map byteD) .no), (5, .ptr b5 0)], [(b5, Blk.cells [.lst 1 (s25.1.map byteD) .no, iD s25.2.1, .lst 4 (s25.2.2.map Kc) (.cur z25)] 104)], [(4, z25)]⟩ : S)) ?_ ?_
   ·skip
    refine WkX.cellF (off := 2) 4 0 rfl rfl (by first | exact Or.inl rfl | exact Or.inr rfl) (fun w37 => ?_)
    exact WkX.of w37 (WkS.perm (WkS.cons rfl (Wk.refl _) (WkS.cons rfl (Wk.refl _) (WkS.nil))) Pf Pf)
   ·intro G25 s25 z25 hm
    refine Kq ?_
    refine Kl ?_
    iterate 3 refine pu ?_
    refine pL 0 ?_
    refine pu ?_
    refine KaP htab rfl rfl rfl rfl rfl rfl rfl (by first | exact Kaf | rfl) ?_
    refine pu ?_
    refine Kh ?_
    refine Ku rfl (fun hc38 => ?_) (fun hc38 => ?_)
    ·replace hm := yes_t hc38 hm
     refine Ky ?_
     refine Km ?_
     refine KL ?_
     refine Kl ?_
     refine pu ?_
     obtain ⟨x40, q40, hm⟩ := Kf hm
     refine pG (KhJ (⟨s25.1, s25.2.1, s25.2.2⟩ : KU) b5 104 .no z25 x40 q40) Wl Pf Pf ?_
     rintro _ _ _ ⟨w39, rfl, rfl, rfl⟩
     refine pu ?_
     refine Kv ?_
     refine pu ?_
     refine pu ?_
     refine Kh ?_
     refine Ku rfl (fun hc41 => ?_) (fun hc41 => ?_)
     ·replace hm := yes_t hc41 hm
      refine Kq ?_
      refine Kaj 7 [] [[],[0],[0,1],[0,1,2],[],[],[0,1,2,5]] [0,1,2,5] [[],[0],[0,1],[0,1,2],[],[],[0,1,2,3,5],[0,1,2,3,4,5,6]] (by kernel_rfl) (by kernel_rfl) (by kernel_rfl) (by rfl) (by rfl) (by kernel_rfl) ?_
      iterate 4 apply Exists.intro
      intro bs
      iterate 3 refine zep ?_
      refine z_qM rfl rfl (KF 0 htab rfl rfl rfl rfl rfl) rfl rfl rfl rfl rfl rfl ?_
      refine zqp ?_
      refine zep ?_
      refine zqp ?_
      refine z_nil rfl rfl (fun e he => by simp [isAl] at he) ?_
      refine pu ?_
      refine Kh ?_
      refine Ks ?_
      refine K0 ?_
      have e25 := Kaq hm; subst e25; clear hm; have hm := hq25
      refine KD ?_
      refine K0 ?_
      have e24 := Kn hm; subst e24; refine KbW ?_; clear hm; have hm := ho24; simp only [Sum.elim_inr] at hm
      refine KD ?_
      have er42 := Kn hm; subst er42
      refine retX.tokN (i := 2) 4 rfl (fun w43 => ?_)
      refine rP (t' := [(2, .lst 4 (([] : List Kt).map Kc) (.cur w43)), (3, iD x40.2.gAt), (4, iD x40.1)]) [] [0] 0 (wC (wC (wC wN))) (lT (lT (lT lN))) ?_
      exact ⟨w43, rfl, rfl, rfl⟩
     ·replace hm := yes_f hc41 hm
      refine Ky ?_
      refine KI ?_
      refine Km ⟨_, KaR hm, ?_⟩
      exact WkX.of w39 (WkS.perm (WkS.cons rfl (Wk.refl _) (WkS.cons rfl (Wk.refl _) (WkS.nil))) Pf Pf)
    ·replace hm := yes_f hc38 hm
     refine Kay ?_
     refine KN ?_
     have e25 := Kaq hm; subst e25; clear hm; have hm := hq25
     refine KN ?_
     refine Kao ?_
     have e24 := Kn hm; subst e24
     refine Kdp ?_
     exact WkX.of z25 (WkS.perm (WkS.cons rfl (Wk.refl _) (WkS.cons rfl (Wk.refl _) (WkS.nil))) Pf Pf)
  ·intro y24 s24 hx24 hw24; subst hx24; clear hm; have hm := ho24; simp only [Sum.elim_inl] at hm; clear q24 ho24
   refine Km ?_
   refine K3 hw24 (fun z24 => ?_)
   refine Kl ?_
   iterate 3 refine pu ?_
   refine pL 0 ?_
   refine pu ?_
   refine KaP htab rfl rfl rfl rfl rfl rfl rfl (by first | exact Kaf | rfl) ?_
   refine Kal (r := [iD (0 : Int), tD ByteArray.empty, iD (0 : Int), iD (a0.length : Int)]) htab rfl rfl rfl rfl rfl rfl rfl rfl rfl ?_
   refine p_lit htab rfl rfl rfl rfl rfl rfl rfl rfl rfl rfl rfl rfl rfl rfl ?_
   refine p_eq (i := 36) (d' := .lst 4 (([(⟨(0 : Int), ByteArray.empty, (0 : Int), (a0.length : Int)⟩ : Kt)] : List Kt).map Kc) .full) rfl (Wk.lst0 (.cons (WkC.refl _) (.nil))) ?_
   obtain ⟨x44, q44, hm⟩ := Kf hm
   refine KcS 0 htab rfl rfl rfl rfl rfl rfl rfl rfl rfl rfl rfl rfl rfl rfl rfl rfl rfl (Kbi q44) (fun v44 => ?_)
   refine KcT (i := 37) q44 rfl ?_
   iterate 3 refine pu ?_
   refine Kh ?_
   refine Ks ?_
   have er45 := Kn hm; subst er45
   refine rP (t' := [(2, .lst 4 (x44.map Kc) (.cur v44)), (3, iD (0 : Int)), (4, iD (0 : Int))]) [] [0] 0 (wC (wC (wC wN))) (lT (lT (lT lN))) ?_
   exact ⟨v44, rfl, rfl, rfl⟩
structure Ke where
 gL : List Kt
 gAt : Int
 gE : Int
 gVars : Int
 gOpen : Int
noncomputable def Kbk (a0 : List Kt) (a1 : Int) : Option (Ke × Bool) :=
 (bif (decide ((0 : Int) ≤ a1)) then some ((⟨a0, a1, (0 : Int), (0 : Int), (0 : Int)⟩ : Ke), (decide (a1 ≤ (a0.length : Int)))) else some ((⟨a0, a1, (0 : Int), (0 : Int), (0 : Int)⟩ : Ke), false))
theorem Kgk (a0 : List Kt) (a1 : Int) (r : Ke × Bool) (h0 : Kbk a0 a1 = some r) : CallsD Try.prog 21 [.lst 4 (a0.map Kc) .no, iD a1] [] [] (fun d h k => ∃ y0, d = .tup [.ptr y0 0, .v (.bool r.2)] ∧ h = [(y0, Blk.cells [.lst 4 (r.1.gL.map Kc) .no, iD r.1.gAt, iD r.1.gE, iD r.1.gVars, iD r.1.gOpen] 64)] ∧ k = []) := by
 have hm := KE h0
 unfold Kbk at hm
 clear h0
 refine KW htab Try.func21 rfl rfl rfl rfl rfl (fun C => ?_)
 refine Kl ?_
 refine pu ?_
 refine pu ?_
 refine Kv ?_
 refine pu ?_
 refine pu ?_
 refine Kal (r := [.lst 4 (a0.map Kc) .no, iD a1, iD (0 : Int), iD (0 : Int), iD (0 : Int)]) htab rfl rfl rfl rfl rfl rfl rfl rfl rfl ?_
 refine p_box rfl rfl rfl rfl rfl rfl rfl (fun b1 => ?_)
 iterate 3 refine pu ?_
 refine K9 (i := 12) rfl (fun hg2 => ?_) (fun hg2 => ?_)
 ·replace hm := yes_t hg2 hm
  refine pu ?_
  refine pu ?_
  refine KaP htab rfl rfl rfl rfl rfl rfl rfl (by first | exact Kaf | rfl) ?_
  refine pu ?_
  refine KS rfl rfl rfl rfl rfl rfl ?_
  refine pu ?_
  refine pu ?_
  refine Kh ?_
  refine Ks ?_
  have er3 := Kn hm; subst er3
  refine rP (t' := [(4, .ptr b1 0), (5, .v (.bool (decide (a1 ≤ (a0.length : Int)))))]) [0] [] 1 (wC (wC wN)) (lT (lT lN)) ?_
  exact ⟨b1, rfl, rfl, rfl⟩
 ·replace hm := yes_f hg2 hm
  iterate 4 refine pK ?_
  refine KH rfl rfl rfl rfl rfl rfl ?_
  refine pu ?_
  refine pu ?_
  refine Kh ?_
  refine Ks ?_
  have er4 := Kn hm; subst er4
  refine rP (t' := [(4, .ptr b1 0), (5, .v (.bool false))]) [0] [] 1 (wC (wC wN)) (lT (lT lN)) ?_
  exact ⟨b1, rfl, rfl, rfl⟩
noncomputable def Kar (m0 : Ke) (a1 : Int) : Option (Kt) :=
 (bif (decide ((m0.gL.length : Int) ≤ (IntKind.i64.wrap (m0.gAt + a1)))) then some (⟨(0 : Int), ByteArray.empty, (0 : Int), (0 : Int)⟩ : Kt) else ((idx m0.gL (IntKind.i64.wrap (m0.gAt + a1))).bind fun x5 => some x5))
theorem Kbg (m0 : Ke) (a1 : Int) (o0 : Nat) (T0 : TypeId) (c0_0 : Cap) (r : Kt) (h0 : Kar m0 a1 = some r) : CallsD Try.prog 40 [.ptr o0 0, iD a1] [(o0, Blk.cells [.lst 4 (m0.gL.map Kc) c0_0, iD m0.gAt, iD m0.gE, iD m0.gVars, iD m0.gOpen] T0)] [] (fun d h k => d = Kc r ∧ h = [(o0, Blk.cells [.lst 4 (m0.gL.map Kc) c0_0, iD m0.gAt, iD m0.gE, iD m0.gVars, iD m0.gOpen] T0)] ∧ k = []) := by
 have hm := KE h0
 unfold Kar at hm
 clear h0
 refine KW htab Try.func40 rfl rfl rfl rfl rfl (fun C => ?_)
 refine Kl ?_
 refine KP htab rfl rfl rfl rfl rfl rfl rfl (fun b1 => ?_)
 refine Kh ?_
 refine Kq ?_
 refine Kq ?_
 refine Kaj 11 [] [[],[0],[0,1],[0,1,2],[],[0,1,2],[],[6],[6,7],[6,7,8],[6,7,8,9]] [0,1,2,6,7,8,9] [[],[0],[0,1],[0,1,2],[],[0,1,2,3,4],[],[6],[6,7],[6,7,8],[6,7,8,9],[0,1,2,3,4,5,6,7,8,9,10]] (by kernel_rfl) (by kernel_rfl) (by kernel_rfl) (by rfl) (by rfl) (by kernel_rfl) ?_
 iterate 7 apply Exists.intro
 intro bs
 iterate 3 refine zep ?_
 refine z_qM rfl rfl (KF 0 htab rfl rfl rfl rfl rfl) rfl rfl rfl rfl rfl rfl ?_
 refine zqp ?_
 refine zqp ?_
 iterate 3 refine zep ?_
 refine z_eM rfl rfl (KF 0 htab rfl rfl rfl rfl rfl) rfl rfl rfl rfl rfl rfl ?_
 refine z_q rfl rfl (KdT htab rfl rfl rfl rfl (by first | exact Kaf | rfl)) rfl rfl rfl rfl rfl rfl ?_
 refine z_nil rfl rfl (fun e he => by simp [isAl] at he) ?_
 refine pu ?_
 refine Kh ?_
 refine Ku rfl (fun hc3 => ?_) (fun hc3 => ?_)
 ·replace hm := yes_t hc3 hm
  refine Kl ?_
  refine Kal (r := [iD (0 : Int), tD ByteArray.empty, iD (0 : Int), iD (0 : Int)]) htab rfl rfl rfl rfl rfl rfl rfl rfl rfl ?_
  refine pS1 (ds' := [iD (0 : Int), tD ByteArray.empty, iD (0 : Int), iD (0 : Int)]) ?_
  refine Kh ?_
  refine Ks ?_
  refine KD ?_
  have er4 := Kn hm; subst er4
  refine rP (t' := [(4, .ptr b1 0)]) [0,0] [] 1 (wC wN) (lC 1 lN) ?_
  exact ⟨rfl, rfl, rfl⟩
 ·replace hm := yes_f hc3 hm
  refine Ky ?_
  refine Km ?_
  refine Kq ?_
  refine Kaj 10 [] [[],[0],[0,1],[0,1,2],[],[4],[4,5],[4,5,6],[],[4,5,6]] [0,1,2,3,4,5,6] [[],[0],[0,1],[0,1,2],[],[4],[4,5],[4,5,6],[],[4,5,6,7,8],[0,1,2,3,4,5,6,7,8,9],[0,1,2,3,4,5,6,7,8,9,10],[0,1,2,3,4,5,6,7,8,9,10,11]] (by kernel_rfl) (by kernel_rfl) (by kernel_rfl) (by rfl) (by rfl) (by kernel_rfl) ?_
  iterate 7 apply Exists.intro
  intro bs
  iterate 3 refine zep ?_
  refine z_eM rfl rfl (KF 0 htab rfl rfl rfl rfl rfl) rfl rfl rfl rfl rfl rfl ?_
  iterate 3 refine zep ?_
  refine z_qM rfl rfl (KF 0 htab rfl rfl rfl rfl rfl) rfl rfl rfl rfl rfl rfl ?_
  refine zqp ?_
  refine zqp ?_
  refine z_nil rfl rfl (fun e he => by simp [isAl] at he) ?_
  obtain ⟨x5, q5, hm⟩ := Kf hm
  refine Ka8 htab rfl rfl rfl rfl rfl rfl rfl rfl rfl rfl (Kr q5) (Kz q5) ?_
  refine KaE (d := Kc x5) htab rfl rfl rfl rfl rfl rfl rfl rfl ?_
  refine pS1 (ds' := [iD x5.gKind, tD x5.gText, iD x5.gN, iD x5.gAt]) ?_
  refine Kh ?_
  refine Ks ?_
  have er6 := Kn hm; subst er6
  refine rP (t' := [(4, .ptr b1 0)]) [0,0] [] 1 (wC wN) (lC 1 lN) ?_
  exact ⟨rfl, rfl, rfl⟩
noncomputable def KaB (m0 : Ke) (a1 : Int) (a2 : ByteArray) : Option (Bool) :=
 ((Kar m0 a1).bind fun x1 => (bif (x1.gKind == (3 : Int)) then some (decide (x1.gText = a2)) else some false))
theorem Kce (m0 : Ke) (a1 : Int) (a2 : ByteArray) (o0 : Nat) (T0 : TypeId) (c0_0 : Cap) (r : Bool) (h0 : KaB m0 a1 a2 = some r) : CallsD Try.prog 47 [.ptr o0 0, iD a1, tD a2] [(o0, Blk.cells [.lst 4 (m0.gL.map Kc) c0_0, iD m0.gAt, iD m0.gE, iD m0.gVars, iD m0.gOpen] T0)] [] (fun d h k => d = .v (.bool r) ∧ h = [(o0, Blk.cells [.lst 4 (m0.gL.map Kc) c0_0, iD m0.gAt, iD m0.gE, iD m0.gVars, iD m0.gOpen] T0)] ∧ k = []) := by
 have hm := KE h0
 unfold KaB at hm
 clear h0
 refine KW htab Try.func47 rfl rfl rfl rfl rfl (fun C => ?_)
 refine Kl ?_
 refine pu ?_
 refine Kv ?_
 refine pu ?_
 refine pu ?_
 obtain ⟨x1, q1, hm⟩ := Kf hm
 refine pG (Kbg m0 a1 o0 T0 c0_0 x1 q1) Wl Pf Pf ?_
 rintro _ _ _ ⟨rfl, rfl, rfl⟩
 refine KP htab rfl rfl rfl rfl rfl rfl rfl (fun b2 => ?_)
 refine pS1 (ds' := [iD x1.gKind, tD x1.gText, iD x1.gN, iD x1.gAt]) ?_
 refine Kv ?_
 refine pu ?_
 refine pL 1 ?_
 refine pu ?_
 refine pu ?_
 refine K9 (i := 14) rfl (fun hg3 => ?_) (fun hg3 => ?_)
 ·replace hm := yes_t hg3 hm
  refine pu ?_
  refine pL 1 ?_
  refine pu ?_
  refine pu ?_
  refine KS rfl rfl rfl rfl rfl rfl ?_
  refine pu ?_
  refine Kh ?_
  refine Ks ?_
  have er4 := Kn hm; subst er4
  refine rP (t' := [(6, .v (.bool (decide (x1.gText = a2))))]) [0] [] 1 (wC wN) (lT lN) ?_
  exact ⟨rfl, rfl, rfl⟩
 ·replace hm := yes_f hg3 hm
  iterate 4 refine pK ?_
  refine KH rfl rfl rfl rfl rfl rfl ?_
  refine pu ?_
  refine Kh ?_
  refine Ks ?_
  have er5 := Kn hm; subst er5
  refine rP (t' := [(6, .v (.bool false))]) [0] [] 1 (wC wN) (lT lN) ?_
  exact ⟨rfl, rfl, rfl⟩
noncomputable def Kab (m0 : Ke) (a1 : Int) (a2 : Int) : Option (Ke) :=
 (bif (m0.gE == (0 : Int)) then some (⟨m0.gL, a1, a2, m0.gVars, m0.gOpen⟩ : Ke) else some m0)
theorem KaH (m0 : Ke) (a1 : Int) (a2 : Int) (o0 : Nat) (T0 : TypeId) (c0_0 : Cap) (r : Ke) (h0 : Kab m0 a1 a2 = some r) : CallsD Try.prog 49 [.ptr o0 0, iD a1, iD a2] [(o0, Blk.cells [.lst 4 (m0.gL.map Kc) c0_0, iD m0.gAt, iD m0.gE, iD m0.gVars, iD m0.gOpen] T0)] [] (fun d h k => d = .tup [] ∧ h = [(o0, Blk.cells [.lst 4 (r.gL.map Kc) c0_0, iD r.gAt, iD r.gE, iD r.gVars, iD r.gOpen] T0)] ∧ k = []) := by
 have hm := KE h0
 unfold Kab at hm
 clear h0
 refine KW htab Try.func49 rfl rfl rfl rfl rfl (fun C => ?_)
 refine Kl ?_
 iterate 3 refine pu ?_
 refine pL 0 ?_
 refine pu ?_
 refine Kh ?_
 refine Ku rfl (fun hc1 => ?_) (fun hc1 => ?_)
 ·replace hm := yes_t hc1 hm
  refine KC ?_
  iterate 6 refine pu ?_
  refine pS0 (ds' := [.lst 4 (m0.gL.map Kc) c0_0, iD a1, iD m0.gE, iD m0.gVars, iD m0.gOpen]) ?_
  refine pu ?_
  refine pu ?_
  refine pS0 (ds' := [.lst 4 (m0.gL.map Kc) c0_0, iD a1, iD a2, iD m0.gVars, iD m0.gOpen]) ?_
  refine KB ?_
  have er2 := Kn hm; subst er2
  refine rP (t' := []) [0] [] 1 wN lN ?_
  exact ⟨rfl, rfl, rfl⟩
 ·replace hm := yes_f hc1 hm
  refine Ky ?_
  have er3 := Kn hm; subst er3
  refine rP (t' := []) [0] [] 1 wN lN ?_
  exact ⟨rfl, rfl, rfl⟩
noncomputable def KJ (m0 : Ke) (a1 : List ByteArray) : Option (Ke) :=
 (Option.bind (α := (Int) ⊕ (Ke)) (loopM (fun (s34 : Int × Int) => (bif (decide (s34.1 < (a1.length : Int))) then ((idx a1 s34.1).bind fun x50 => (bif (m0.gE != (0 : Int)) then some (.done (.inr (⟨m0.gL, s34.2, m0.gE, m0.gVars, m0.gOpen⟩ : Ke))) else ((KaB (⟨m0.gL, s34.2, m0.gE, m0.gVars, m0.gOpen⟩ : Ke) (0 : Int) x50).bind fun x53 => (bif (!x53) then ((Kab (⟨m0.gL, s34.2, m0.gE, m0.gVars, m0.gOpen⟩ : Ke) s34.2 (3 : Int)).bind fun x55 => some (.done (.inr x55))) else some (.next ((IntKind.i64.wrap (s34.1 + (1 : Int))), (IntKind.i64.wrap (s34.2 + (1 : Int))))))))) else some (.done (.inl s34.2)))) ((0 : Int), m0.gAt)) (Sum.elim (fun y33 => some (⟨m0.gL, y33, m0.gE, m0.gVars, m0.gOpen⟩ : Ke)) (fun r => some r)))
theorem KZ (m0 : Ke) (a1 : List ByteArray) (o0 : Nat) (T0 : TypeId) (c0_0 : Cap) (r : Ke) (h0 : KJ m0 a1 = some r) : CallsD Try.prog 41 [.ptr o0 0, .lst 1 (a1.map eStr) .no] [(o0, Blk.cells [.lst 4 (m0.gL.map Kc) c0_0, iD m0.gAt, iD m0.gE, iD m0.gVars, iD m0.gOpen] T0)] [] (fun d h k => d = .tup [] ∧ h = [(o0, Blk.cells [.lst 4 (r.gL.map Kc) c0_0, iD r.gAt, iD r.gE, iD r.gVars, iD r.gOpen] T0)] ∧ k = []) := by
 have hm := KE h0
 unfold KJ at hm
 clear h0
 refine KW htab Try.func41 rfl rfl rfl rfl rfl (fun C => ?_)
 refine Kl ?_
 refine pu ?_
 refine KaP htab rfl rfl rfl rfl rfl rfl rfl (by first | exact Kaf | rfl) ?_
 refine pu ?_
 refine Kh ?_
 obtain ⟨x33, q33, ho33⟩ := Kf hm
 refine KdN (τ := Int) (Y := Unit) (fun y33 z33 => (⟨[], [(o0, Blk.cells [.lst 4 (m0.gL.map Kc) c0_0, iD y33, iD m0.gE, iD m0.gVars, iD m0.gOpen] T0)], []⟩ : S)) x33 ?_ ?_
 ·clear hm; have hm := KE q33
  refine KL ?_
  obtain ⟨u34, hl34, hq34⟩ := yes_m hm
  refine Kbe (Y := Unit) hl34 (fun s34 z34 => (⟨[(0, .ptr o0 0), (6, .lst 1 (a1.map eStr) .no), (7, iD (a1.length : Int)), (8, iD s34.1)], [(o0, Blk.cells [.lst 4 (m0.gL.map Kc) c0_0, iD s34.2, iD m0.gE, iD m0.gVars, iD m0.gOpen] T0)], []⟩ : S)) ?_ ?_
  ·skip
   exact WkX.of () (WkS.perm (WkS.cons rfl (Wk.refl _) (WkS.cons rfl (Wk.refl _) (WkS.cons rfl (Wk.refl _) (WkS.cons rfl (Wk.refl _) (WkS.nil))))) Pf Pf)
  ·intro G34 s34 z34 hm
   refine Kl ?_
   refine pu ?_
   refine Kh ?_
   refine Kq ?_
   refine Ku rfl (fun hc49 => ?_) (fun hc49 => ?_)
   ·replace hm := yes_t hc49 hm
    refine Ky ?_
    refine Km ?_
    refine Kq ?_
    refine KL ?_
    refine Kl ?_
    obtain ⟨x50, q50, hm⟩ := Kf hm
    refine Ka8 htab rfl rfl rfl rfl rfl rfl rfl rfl rfl rfl (Kr q50) (Kz q50) ?_
    refine KaE htab rfl rfl rfl rfl rfl rfl rfl rfl ?_
    refine pu ?_
    refine Kh ?_
    refine Kq ?_
    refine KL ?_
    refine Kl ?_
    iterate 3 refine pu ?_
    refine pL 0 ?_
    refine pu ?_
    refine pu ?_
    refine Kh ?_
    refine Ku rfl (fun hc51 => ?_) (fun hc51 => ?_)
    ·replace hm := yes_t hc51 hm
     refine Ks ?_
     refine K0 ?_
     refine KD ?_
     refine K0 ?_
     refine KD ?_
     have e34 := Kaq hm; subst e34; clear hm; have hm := hq34
     refine KD ?_
     refine K0 ?_
     have e33 := Kn hm; subst e33; refine KbW ?_; clear hm; have hm := ho33; simp only [Sum.elim_inr] at hm
     have er52 := Kn hm; subst er52
     refine rP (t' := []) [0] [] 1 wN lN ?_
     exact ⟨rfl, rfl, rfl⟩
    ·replace hm := yes_f hc51 hm
     refine Kl ?_
     refine pu ?_
     refine pu ?_
     obtain ⟨x53, q53, hm⟩ := Kf hm
     refine pG (Kce (⟨m0.gL, s34.2, m0.gE, m0.gVars, m0.gOpen⟩ : Ke) (0 : Int) x50 o0 T0 c0_0 x53 q53) Wl Pf Pf ?_
     rintro _ _ _ ⟨rfl, rfl, rfl⟩
     refine pu ?_
     refine pu ?_
     refine Kh ?_
     refine Ku rfl (fun hc54 => ?_) (fun hc54 => ?_)
     ·replace hm := yes_t hc54 hm
      refine Kl ?_
      iterate 4 refine pu ?_
      refine pL 0 ?_
      obtain ⟨x55, q55, hm⟩ := Kf hm
      refine pG (KaH (⟨m0.gL, s34.2, m0.gE, m0.gVars, m0.gOpen⟩ : Ke) s34.2 (3 : Int) o0 T0 c0_0 x55 q55) Wl Pf Pf ?_
      rintro _ _ _ ⟨rfl, rfl, rfl⟩
      refine Kh ?_
      refine Ks ?_
      refine K0 ?_
      refine KD ?_
      refine K0 ?_
      refine KD ?_
      have e34 := Kaq hm; subst e34; clear hm; have hm := hq34
      refine KD ?_
      refine K0 ?_
      have e33 := Kn hm; subst e33; refine KbW ?_; clear hm; have hm := ho33; simp only [Sum.elim_inr] at hm
      have er56 := Kn hm; subst er56
      refine rP (t' := []) [0] [] 1 wN lN ?_
      exact ⟨rfl, rfl, rfl⟩
     ·replace hm := yes_f hc54 hm
      refine Ky ?_
      refine KI ?_
      refine Km ?_
      refine KC ?_
      iterate 3 refine pu ?_
      refine pL 0 ?_
      iterate 3 refine pu ?_
      refine pS0 (ds' := [.lst 4 (m0.gL.map Kc) c0_0, iD (IntKind.i64.wrap (s34.2 + (1 : Int))), iD m0.gE, iD m0.gVars, iD m0.gOpen]) ?_
      refine KB ?_
      refine KI ?_
      refine Km ?_
      refine KC ?_
      refine pu ?_
      refine pu ?_
      refine KB ?_
      refine Km ⟨_, KaR hm, ?_⟩
      exact WkX.of () (WkS.perm (WkS.cons rfl (Wk.refl _) (WkS.cons rfl (Wk.refl _) (WkS.cons rfl (Wk.refl _) (WkS.cons rfl (Wk.refl _) (WkS.nil))))) Pf Pf)
   ·replace hm := yes_f hc49 hm
    refine Kay ?_
    refine KN ?_
    have e34 := Kaq hm; subst e34; clear hm; have hm := hq34
    refine KN ?_
    refine Kao ?_
    have e33 := Kn hm; subst e33
    refine Kdp ?_
    exact WkX.of () (WkS.perm (WkS.nil) Pf Pf)
 ·intro y33 s33 hx33 hw33; subst hx33; clear hm; have hm := ho33; simp only [Sum.elim_inl] at hm; clear q33 ho33
  refine retX.wkX hw33 (fun z33 => ?_)
  have er57 := Kn hm; subst er57
  refine rP (t' := []) [0] [] 1 wN lN ?_
  exact ⟨rfl, rfl, rfl⟩
noncomputable def Kaw (m0 : Ke) : Option (ByteArray × Ke) :=
 (bif (m0.gE != (0 : Int)) then some ((ByteArray.mk #[]), m0) else ((Kar m0 (0 : Int)).bind fun x4 => (bif (x4.gKind != (1 : Int)) then ((Kab m0 m0.gAt (3 : Int)).bind fun x9 => some ((ByteArray.mk #[]), x9)) else some (x4.gText, (⟨m0.gL, (IntKind.i64.wrap (m0.gAt + (1 : Int))), m0.gE, m0.gVars, m0.gOpen⟩ : Ke)))))
theorem Kby (m0 : Ke) (o0 : Nat) (T0 : TypeId) (c0_0 : Cap) (r : ByteArray × Ke) (h0 : Kaw m0 = some r) : CallsD Try.prog 42 [.ptr o0 0] [(o0, Blk.cells [.lst 4 (m0.gL.map Kc) c0_0, iD m0.gAt, iD m0.gE, iD m0.gVars, iD m0.gOpen] T0)] [] (fun d h k => d = tD r.1 ∧ h = [(o0, Blk.cells [.lst 4 (r.2.gL.map Kc) c0_0, iD r.2.gAt, iD r.2.gE, iD r.2.gVars, iD r.2.gOpen] T0)] ∧ k = []) := by
 have hm := KE h0
 unfold Kaw at hm
 clear h0
 refine KW htab Try.func42 rfl rfl rfl rfl rfl (fun C => ?_)
 refine Kl ?_
 refine pu ?_
 refine Kh ?_
 refine Kq ?_
 refine Kl ?_
 iterate 3 refine pu ?_
 refine pL 0 ?_
 refine pu ?_
 refine Kh ?_
 refine Ku rfl (fun hc2 => ?_) (fun hc2 => ?_)
 ·replace hm := yes_t hc2 hm
  refine Kl ?_
  refine pu ?_
  refine Kh ?_
  refine Ks ?_
  refine KD ?_
  have er3 := Kn hm; subst er3
  refine rP (t' := [(2, tD (ByteArray.mk #[]))]) [0] [] 1 (wC wN) (lT lN) ?_
  exact ⟨rfl, rfl, rfl⟩
 ·replace hm := yes_f hc2 hm
  refine Ky ?_
  refine Km ?_
  refine Kl ?_
  refine pu ?_
  obtain ⟨x4, q4, hm⟩ := Kf hm
  refine pG (Kbg m0 (0 : Int) o0 T0 c0_0 x4 q4) Wl Pf Pf ?_
  rintro _ _ _ ⟨rfl, rfl, rfl⟩
  refine KP htab rfl rfl rfl rfl rfl rfl rfl (fun b5 => ?_)
  refine pS1 (ds' := [iD x4.gKind, tD x4.gText, iD x4.gN, iD x4.gAt]) ?_
  refine Kh ?_
  refine Kq ?_
  refine Kl ?_
  refine pu ?_
  refine pL 1 ?_
  refine pu ?_
  refine Kh ?_
  refine Ku rfl (fun hc8 => ?_) (fun hc8 => ?_)
  ·replace hm := yes_t hc8 hm
   refine Kl ?_
   iterate 4 refine pu ?_
   refine pL 0 ?_
   obtain ⟨x9, q9, hm⟩ := Kf hm
   refine pG (KaH m0 m0.gAt (3 : Int) o0 T0 c0_0 x9 q9) Wl Pf Pf ?_
   rintro _ _ _ ⟨rfl, rfl, rfl⟩
   refine Kv ?_
   refine pu ?_
   refine Kh ?_
   refine Ks ?_
   refine KD ?_
   have er10 := Kn hm; subst er10
   refine rP (t' := [(2, tD (ByteArray.mk #[]))]) [0] [] 1 (wC wN) (lT lN) ?_
   exact ⟨rfl, rfl, rfl⟩
  ·replace hm := yes_f hc8 hm
   refine Ky ?_
   refine Km ?_
   refine Kl ?_
   iterate 3 refine pu ?_
   refine pL 0 ?_
   iterate 3 refine pu ?_
   refine pS0 (ds' := [.lst 4 (m0.gL.map Kc) c0_0, iD (IntKind.i64.wrap (m0.gAt + (1 : Int))), iD m0.gE, iD m0.gVars, iD m0.gOpen]) ?_
   refine Kv ?_
   refine pu ?_
   refine pL 1 ?_
   refine pu ?_
   refine Kh ?_
   refine Ks ?_
   have er11 := Kn hm; subst er11
   refine rP (t' := [(2, tD x4.gText)]) [0] [] 1 (wC wN) (lT lN) ?_
   exact ⟨rfl, rfl, rfl⟩
noncomputable def KX (m0 : Ke) (a1 : ByteArray) : Option (Bool × Ke) :=
 (Option.bind (α := Bool) (bif (m0.gE != (0 : Int)) then some true else ((KaB m0 (0 : Int) a1).bind fun x5 => some (!x5))) fun y3 => (bif y3 then some (false, m0) else some (true, (⟨m0.gL, (IntKind.i64.wrap (m0.gAt + (1 : Int))), m0.gE, m0.gVars, m0.gOpen⟩ : Ke))))
theorem Kad (m0 : Ke) (a1 : ByteArray) (o0 : Nat) (T0 : TypeId) (c0_0 : Cap) (r : Bool × Ke) (h0 : KX m0 a1 = some r) : CallsD Try.prog 52 [.ptr o0 0, tD a1] [(o0, Blk.cells [.lst 4 (m0.gL.map Kc) c0_0, iD m0.gAt, iD m0.gE, iD m0.gVars, iD m0.gOpen] T0)] [] (fun d h k => d = .v (.bool r.1) ∧ h = [(o0, Blk.cells [.lst 4 (r.2.gL.map Kc) c0_0, iD r.2.gAt, iD r.2.gE, iD r.2.gVars, iD r.2.gOpen] T0)] ∧ k = []) := by
 have hm := KE h0
 unfold KX at hm
 clear h0
 refine KW htab Try.func52 rfl rfl rfl rfl rfl (fun C => ?_)
 refine Kl ?_
 refine pu ?_
 refine Kh ?_
 refine Kq ?_
 refine Kq ?_
 obtain ⟨y3, q3, ho3⟩ := Kf hm
 refine K6 (Y := Unit) (fun z3 => (⟨[(0, .ptr o0 0), (15, .v (.bool y3))], [(o0, Blk.cells [.lst 4 (m0.gL.map Kc) c0_0, iD m0.gAt, iD m0.gE, iD m0.gVars, iD m0.gOpen] T0)], []⟩ : S)) ?_ ?_
 ·clear hm; have hm := KE q3
  refine KC ?_
  iterate 3 refine pu ?_
  refine pL 0 ?_
  refine pu ?_
  refine pu ?_
  refine K9 (i := 10) rfl (fun hg4 => ?_) (fun hg4 => ?_)
  ·replace hm := yes_t hg4 hm
   iterate 4 refine pK ?_
   refine KS rfl rfl rfl rfl rfl rfl ?_
   refine KB ?_
   have e3 := Kn hm; subst e3
   refine ⟨rfl, ?_⟩
   exact WkX.of () (WkS.perm (WkS.cons rfl (Wk.refl _) (WkS.cons rfl (Wk.refl _) (WkS.nil))) Pf Pf)
  ·replace hm := yes_f hg4 hm
   refine pu ?_
   refine pu ?_
   obtain ⟨x5, q5, hm⟩ := Kf hm
   refine pG (Kce m0 (0 : Int) a1 o0 T0 c0_0 x5 q5) Wl Pf Pf ?_
   rintro _ _ _ ⟨rfl, rfl, rfl⟩
   refine pu ?_
   refine KH rfl rfl rfl rfl rfl rfl ?_
   refine KB ?_
   have e3 := Kn hm; subst e3
   refine ⟨rfl, ?_⟩
   exact WkX.of () (WkS.perm (WkS.cons rfl (Wk.refl _) (WkS.cons rfl (Wk.refl _) (WkS.nil))) Pf Pf)
 ·intro s3 hw3; clear hm; have hm := ho3; clear q3 ho3
  refine Km ?_
  refine K3 hw3 (fun z3 => ?_)
  refine Ku rfl (fun hc7 => ?_) (fun hc7 => ?_)
  ·replace hm := yes_t hc7 hm
   refine Kl ?_
   refine pu ?_
   refine Kh ?_
   refine Ks ?_
   refine KD ?_
   have er8 := Kn hm; subst er8
   refine rP (t' := [(4, .v (.bool false))]) [0] [] 1 (wC wN) (lT lN) ?_
   exact ⟨rfl, rfl, rfl⟩
  ·replace hm := yes_f hc7 hm
   refine Ky ?_
   refine Km ?_
   refine Kl ?_
   iterate 3 refine pu ?_
   refine pL 0 ?_
   iterate 3 refine pu ?_
   refine pS0 (ds' := [.lst 4 (m0.gL.map Kc) c0_0, iD (IntKind.i64.wrap (m0.gAt + (1 : Int))), iD m0.gE, iD m0.gVars, iD m0.gOpen]) ?_
   refine Kv ?_
   refine pu ?_
   refine Kh ?_
   refine Ks ?_
   have er9 := Kn hm; subst er9
   refine rP (t' := [(4, .v (.bool true))]) [0] [] 1 (wC wN) (lT lN) ?_
   exact ⟨rfl, rfl, rfl⟩
structure KR where
 gName : ByteArray
 gPtr : Bool
def Kw (x : KR) : D := .agg [tD x.gName, .v (.bool x.gPtr)]
noncomputable def KaF (m0 : Ke) : Option (KR × Ke) :=
 ((KJ m0 ([(ByteArray.mk #[105, 110, 116])] : List ByteArray)).bind fun x2 => ((KX x2 (ByteArray.mk #[42])).bind fun x3 => ((Kaw x3.2).bind fun x5 => (bif (decide ((16 : Int) < (IntKind.i64.wrap (x5.2.gVars + (1 : Int))))) then ((Kab (⟨x5.2.gL, x5.2.gAt, x5.2.gE, (IntKind.i64.wrap (x5.2.gVars + (1 : Int))), x5.2.gOpen⟩ : Ke) x3.2.gAt (6 : Int)).bind fun x7 => some ((⟨x5.1, x3.1⟩ : KR), x7)) else some ((⟨x5.1, x3.1⟩ : KR), (⟨x5.2.gL, x5.2.gAt, x5.2.gE, (IntKind.i64.wrap (x5.2.gVars + (1 : Int))), x5.2.gOpen⟩ : Ke))))))
theorem KdU (m0 : Ke) (o0 : Nat) (T0 : TypeId) (c0_0 : Cap) (r : KR × Ke) (h0 : KaF m0 = some r) : CallsD Try.prog 44 [.ptr o0 0] [(o0, Blk.cells [.lst 4 (m0.gL.map Kc) c0_0, iD m0.gAt, iD m0.gE, iD m0.gVars, iD m0.gOpen] T0)] [] (fun d h k => d = Kw r.1 ∧ h = [(o0, Blk.cells [.lst 4 (r.2.gL.map Kc) c0_0, iD r.2.gAt, iD r.2.gE, iD r.2.gVars, iD r.2.gOpen] T0)] ∧ k = []) := by
 have hm := KE h0
 unfold KaF at hm
 clear h0
 refine KW htab Try.func44 rfl rfl rfl rfl rfl (fun C => ?_)
 refine Kl ?_
 refine KP htab rfl rfl rfl rfl rfl rfl rfl (fun b1 => ?_)
 refine Kv ?_
 refine pu ?_
 refine p_lit htab rfl rfl rfl rfl rfl rfl rfl rfl rfl rfl rfl rfl rfl rfl ?_
 refine p_eq (i := 6) (d' := .lst 1 (([(ByteArray.mk #[105, 110, 116])] : List ByteArray).map eStr) .full) rfl (Wk.lst0 (.cons (WkC.refl _) (.nil))) ?_
 obtain ⟨x2, q2, hm⟩ := Kf hm
 refine Kam (KZ m0 ([(ByteArray.mk #[105, 110, 116])] : List ByteArray) o0 T0 c0_0 x2 q2) rfl rfl rfl rfl rfl (WkL.cons (Wk.refl _) (WkL.cons (Wk.no) Wl)) Pf Pf ?_
 rintro _ _ _ ⟨rfl, rfl, rfl⟩
 refine Kv ?_
 refine pu ?_
 obtain ⟨x3, q3, hm⟩ := Kf hm
 refine pG (Kad x2 (ByteArray.mk #[42]) o0 T0 c0_0 x3 q3) Wl Pf Pf ?_
 rintro _ _ _ ⟨rfl, rfl, rfl⟩
 refine Kal (r := [tD ByteArray.empty, .v (.bool x3.1)]) htab rfl rfl rfl rfl rfl rfl rfl rfl rfl ?_
 refine KP htab rfl rfl rfl rfl rfl rfl rfl (fun b4 => ?_)
 refine pS2 (ds' := [tD ByteArray.empty, .v (.bool x3.1)]) ?_
 refine Kv ?_
 iterate 3 refine pu ?_
 refine pL 0 ?_
 refine pu ?_
 refine Kv ?_
 refine pu ?_
 obtain ⟨x5, q5, hm⟩ := Kf hm
 refine pG (Kby x3.2 o0 T0 c0_0 x5 q5) Wl Pf Pf ?_
 rintro _ _ _ ⟨rfl, rfl, rfl⟩
 refine pu ?_
 refine pS2 (ds' := [tD x5.1, .v (.bool x3.1)]) ?_
 refine Kh ?_
 refine Kq ?_
 refine Kl ?_
 iterate 3 refine pu ?_
 refine pL 0 ?_
 iterate 3 refine pu ?_
 refine pS0 (ds' := [.lst 4 (x5.2.gL.map Kc) c0_0, iD x5.2.gAt, iD x5.2.gE, iD (IntKind.i64.wrap (x5.2.gVars + (1 : Int))), iD x5.2.gOpen]) ?_
 refine Kv ?_
 iterate 3 refine pu ?_
 refine pL 0 ?_
 refine pu ?_
 refine Kh ?_
 refine Ku rfl (fun hc6 => ?_) (fun hc6 => ?_)
 ·replace hm := yes_t hc6 hm
  refine KC ?_
  refine pu ?_
  refine pu ?_
  obtain ⟨x7, q7, hm⟩ := Kf hm
  refine pG (KaH (⟨x5.2.gL, x5.2.gAt, x5.2.gE, (IntKind.i64.wrap (x5.2.gVars + (1 : Int))), x5.2.gOpen⟩ : Ke) x3.2.gAt (6 : Int) o0 T0 c0_0 x7 q7) Wl Pf Pf ?_
  rintro _ _ _ ⟨rfl, rfl, rfl⟩
  refine Kv ?_
  refine K7 (d := Kw (⟨x5.1, x3.1⟩ : KR)) 2 htab rfl rfl rfl rfl rfl rfl rfl rfl ?_
  refine pS1 (ds' := [tD x5.1, .v (.bool x3.1)]) ?_
  refine Kh ?_
  refine Ks ?_
  have er8 := Kn hm; subst er8
  refine rP (t' := [(2, .ptr b1 0)]) [0,0] [] 1 (wC wN) (lC 1 lN) ?_
  exact ⟨rfl, rfl, rfl⟩
 ·replace hm := yes_f hc6 hm
  refine Ky ?_
  refine Km ?_
  refine Kl ?_
  refine K7 (d := Kw (⟨x5.1, x3.1⟩ : KR)) 2 htab rfl rfl rfl rfl rfl rfl rfl rfl ?_
  refine pS1 (ds' := [tD x5.1, .v (.bool x3.1)]) ?_
  refine Kh ?_
  refine Ks ?_
  have er9 := Kn hm; subst er9
  refine rP (t' := [(2, .ptr b1 0)]) [0,0] [] 1 (wC wN) (lC 1 lN) ?_
  exact ⟨rfl, rfl, rfl⟩
noncomputable def Kaz (m0 : Ke) : Option (List KR × Ke) :=
 ((KJ m0 ([(ByteArray.mk #[40])] : List ByteArray)).bind fun x1 => ((KX x1 (ByteArray.mk #[41])).bind fun x2 => (bif x2.1 then some (([] : List KR), x2.2) else (Option.bind (α := List KR × List Kt × Int × Int × Int × Int) (loopM (fun (s28 : List KR × List Kt × Int × Int × Int × Int) => (bif (s28.2.2.2.1 == (0 : Int)) then ((KaF (⟨s28.2.1, s28.2.2.1, s28.2.2.2.1, s28.2.2.2.2.1, s28.2.2.2.2.2⟩ : Ke)).bind fun x43 => ((app 24 s28.1 ([x43.1] : List KR)).bind fun x44 => ((KX x43.2 (ByteArray.mk #[44])).bind fun x45 => (bif (!x45.1) then some (.done (x44, x45.2.gL, x45.2.gAt, x45.2.gE, x45.2.gVars, x45.2.gOpen)) else some (.next (x44, x45.2.gL, x45.2.gAt, x45.2.gE, x45.2.gVars, x45.2.gOpen)))))) else some (.done (s28.1, s28.2.1, s28.2.2.1, s28.2.2.2.1, s28.2.2.2.2.1, s28.2.2.2.2.2)))) (([] : List KR), x2.2.gL, x2.2.gAt, x2.2.gE, x2.2.gVars, x2.2.gOpen)) fun y27 => ((KJ (⟨y27.2.1, y27.2.2.1, y27.2.2.2.1, y27.2.2.2.2.1, y27.2.2.2.2.2⟩ : Ke) ([(ByteArray.mk #[41])] : List ByteArray)).bind fun x47 => some (y27.1, x47))))))
theorem KgC (m0 : Ke) (o0 : Nat) (T0 : TypeId) (c0_0 : Cap) (r : List KR × Ke) (h0 : Kaz m0 = some r) : CallsD Try.prog 43 [.ptr o0 0, .fn (.func 44) [.ptr o0 0] []] [(o0, Blk.cells [.lst 4 (m0.gL.map Kc) c0_0, iD m0.gAt, iD m0.gE, iD m0.gVars, iD m0.gOpen] T0)] [] (fun d h k => ∃ y0, d = .lst 2 (r.1.map Kw) (.cur y0) ∧ h = [(o0, Blk.cells [.lst 4 (r.2.gL.map Kc) .no, iD r.2.gAt, iD r.2.gE, iD r.2.gVars, iD r.2.gOpen] T0)] ∧ k = [(2, y0)]) := by
 have hm := KE h0
 unfold Kaz at hm
 clear h0
 refine KW htab Try.func43 rfl rfl rfl rfl rfl (fun C => ?_)
 refine Kl ?_
 refine pu ?_
 refine Kv ?_
 refine pu ?_
 refine Kv ?_
 refine pu ?_
 refine p_lit htab rfl rfl rfl rfl rfl rfl rfl rfl rfl rfl rfl rfl rfl rfl ?_
 refine p_eq (i := 7) (d' := .lst 1 (([(ByteArray.mk #[40])] : List ByteArray).map eStr) .full) rfl (Wk.lst0 (.cons (WkC.refl _) (.nil))) ?_
 obtain ⟨x1, q1, hm⟩ := Kf hm
 refine Kam (KZ m0 ([(ByteArray.mk #[40])] : List ByteArray) o0 T0 c0_0 x1 q1) rfl rfl rfl rfl rfl (WkL.cons (Wk.refl _) (WkL.cons (Wk.no) Wl)) Pf Pf ?_
 rintro _ _ _ ⟨rfl, rfl, rfl⟩
 refine Kh ?_
 refine Kq ?_
 refine Kl ?_
 refine pu ?_
 obtain ⟨x2, q2, hm⟩ := Kf hm
 refine pG (Kad x1 (ByteArray.mk #[41]) o0 T0 c0_0 x2 q2) Wl Pf Pf ?_
 rintro _ _ _ ⟨rfl, rfl, rfl⟩
 refine Kh ?_
 refine Ku rfl (fun hc4 => ?_) (fun hc4 => ?_)
 ·replace hm := yes_t hc4 hm
  refine Kl ?_
  refine pu ?_
  refine pu ?_
  refine Kh ?_
  refine Ks ?_
  refine KD ?_
  have er5 := Kn hm; subst er5
  refine retX.tokN (i := 4) 2 rfl (fun w6 => ?_)
  refine retX.wk (WkS.bl0 (ds' := [.lst 4 (x2.2.gL.map Kc) .no, iD x2.2.gAt, iD x2.2.gE, iD x2.2.gVars, iD x2.2.gOpen]) (rO (rC (rC (rC (rC WkR.nil)))))) ?_
  refine rP (t' := [(4, .lst 2 (([] : List KR).map Kw) (.cur w6))]) [0] [0] 1 (wC wN) (lT lN) ?_
  exact ⟨w6, rfl, rfl, rfl⟩
 ·replace hm := yes_f hc4 hm
  refine Ky ?_
  refine Km ?_
  refine Kq ?_
  obtain ⟨y27, q27, ho27⟩ := Kf hm
  refine K6 (Y := Value) (fun z27 => (⟨[(0, .ptr o0 0), (5, .lst 2 (y27.1.map Kw) (.cur z27))], [(o0, Blk.cells [.lst 4 (y27.2.1.map Kc) .no, iD y27.2.2.1, iD y27.2.2.2.1, iD y27.2.2.2.2.1, iD y27.2.2.2.2.2] T0)], [(2, z27)]⟩ : S)) ?_ ?_
  ·clear hm; have hm := KE q27
   refine KL ?_
   obtain ⟨u28, hl28, hq28⟩ := yes_m hm
   refine Kbe (Y := Value) hl28 (fun s28 z28 => (⟨[(0, .ptr o0 0), (1, .fn (.func 44) [.ptr o0 0] []), (5, .lst 2 (s28.1.map Kw) (.cur z28))], [(o0, Blk.cells [.lst 4 (s28.2.1.map Kc) .no, iD s28.2.2.1, iD s28.2.2.2.1, iD s28.2.2.2.2.1, iD s28.2.2.2.2.2] T0)], [(2, z28)]⟩ : S)) ?_ ?_
   ·skip
    refine WkX.tokN (i := 5) 2 rfl (fun w41 => ?_)
    refine WkX.wk (WkS.bl0 (ds' := [.lst 4 (x2.2.gL.map Kc) .no, iD x2.2.gAt, iD x2.2.gE, iD x2.2.gVars, iD x2.2.gOpen]) (rO (rC (rC (rC (rC WkR.nil)))))) ?_
    exact WkX.of w41 (WkS.perm (WkS.cons rfl (Wk.refl _) (WkS.cons rfl (Wk.refl _) (WkS.cons rfl (Wk.refl _) (WkS.nil)))) Pf Pf)
   ·intro G28 s28 z28 hm
    refine Kq ?_
    refine Kl ?_
    iterate 3 refine pu ?_
    refine pL 0 ?_
    refine pu ?_
    refine Kh ?_
    refine Ku rfl (fun hc42 => ?_) (fun hc42 => ?_)
    ·replace hm := yes_t hc42 hm
     refine Ky ?_
     refine Km ?_
     refine KL ?_
     refine Kl ?_
     refine pu ?_
     refine pu ?_
     obtain ⟨x43, q43, hm⟩ := Kf hm
     refine Kf6 (KdU (⟨s28.2.1, s28.2.2.1, s28.2.2.2.1, s28.2.2.2.2.1, s28.2.2.2.2.2⟩ : Ke) o0 T0 .no x43 q43) rfl rfl rfl rfl rfl rfl rfl Wl Pf Pf ?_
     rintro _ _ _ ⟨rfl, rfl, rfl⟩
     refine p_lit htab rfl rfl rfl rfl rfl rfl rfl rfl rfl rfl rfl rfl rfl rfl ?_
     refine p_eq (i := 20) (d' := .lst 2 (([x43.1] : List KR).map Kw) .full) rfl (Wk.lst0 (.cons (WkC.refl _) (.nil))) ?_
     obtain ⟨x44, q44, hm⟩ := Kf hm
     refine KcS 0 htab rfl rfl rfl rfl rfl rfl rfl rfl rfl rfl rfl rfl rfl rfl rfl rfl rfl (Kbi q44) (fun v44 => ?_)
     refine KcT (i := 21) q44 rfl ?_
     refine pu ?_
     refine Kv ?_
     refine pu ?_
     obtain ⟨x45, q45, hm⟩ := Kf hm
     refine pG (Kad x43.2 (ByteArray.mk #[44]) o0 T0 .no x45 q45) Wl Pf Pf ?_
     rintro _ _ _ ⟨rfl, rfl, rfl⟩
     refine pu ?_
     refine Kh ?_
     refine Ku rfl (fun hc46 => ?_) (fun hc46 => ?_)
     ·replace hm := yes_t hc46 hm
      refine Kay ?_
      refine Ke2 rfl ?_
      have e28 := Kaq hm; subst e28; clear hm; have hm := hq28
      refine KN ?_
      refine Kao ?_
      have e27 := Kn hm; subst e27
      refine ⟨rfl, ?_⟩
      exact WkX.of v44 (WkS.perm (WkS.cons rfl (Wk.refl _) (WkS.cons rfl (Wk.refl _) (WkS.nil))) Pf Pf)
     ·replace hm := yes_f hc46 hm
      refine Ky ?_
      refine KI ?_
      refine Km ⟨_, KaR hm, ?_⟩
      exact WkX.of v44 (WkS.perm (WkS.cons rfl (Wk.refl _) (WkS.cons rfl (Wk.refl _) (WkS.cons rfl (Wk.refl _) (WkS.nil)))) Pf Pf)
    ·replace hm := yes_f hc42 hm
     refine Kay ?_
     refine KN ?_
     have e28 := Kaq hm; subst e28; clear hm; have hm := hq28
     refine KN ?_
     refine Kao ?_
     have e27 := Kn hm; subst e27
     refine ⟨rfl, ?_⟩
     exact WkX.of z28 (WkS.perm (WkS.cons rfl (Wk.refl _) (WkS.cons rfl (Wk.refl _) (WkS.nil))) Pf Pf)
  ·intro s27 hw27; clear hm; have hm := ho27; clear q27 ho27
   refine Km ?_
   refine K3 hw27 (fun z27 => ?_)
   refine Kl ?_
   refine pu ?_
   refine p_lit htab rfl rfl rfl rfl rfl rfl rfl rfl rfl rfl rfl rfl rfl rfl ?_
   refine p_eq (i := 26) (d' := .lst 1 (([(ByteArray.mk #[41])] : List ByteArray).map eStr) .full) rfl (Wk.lst0 (.cons (WkC.refl _) (.nil))) ?_
   obtain ⟨x47, q47, hm⟩ := Kf hm
   refine Kam (KZ (⟨y27.2.1, y27.2.2.1, y27.2.2.2.1, y27.2.2.2.2.1, y27.2.2.2.2.2⟩ : Ke) ([(ByteArray.mk #[41])] : List ByteArray) o0 T0 .no x47 q47) rfl rfl rfl rfl rfl (WkL.cons (Wk.refl _) (WkL.cons (Wk.no) Wl)) Pf Pf ?_
   rintro _ _ _ ⟨rfl, rfl, rfl⟩
   refine Kv ?_
   refine pu ?_
   refine pu ?_
   refine Kh ?_
   refine Ks ?_
   have er48 := Kn hm; subst er48
   refine rP (t' := [(4, .lst 2 (y27.1.map Kw) (.cur z27))]) [0] [0] 1 (wC wN) (lT lN) ?_
   exact ⟨z27, rfl, rfl, rfl⟩
structure Ka where
 gOp : Int
 gN : Int
 gName : ByteArray
 gKids : List Ka
 gAt : Int
mutual
def Kg : Ka → D
 | ⟨f0, f1, f2, f3, f4⟩ => .agg [iD f0, iD f1, tD f2, .lst 5 (Kez f3) .no, iD f4]
def Kez : List Ka → List D
 | [] => []
 | x :: l => Kg x :: Kez l
end
theorem KhU : ∀ l, Kez l = l.map Kg
 | [] => by simp [Kez]
 | x :: l => by simp only [Kez, List.map_cons, KhU l]
theorem Kk (x : Ka) : Kg x = .agg [iD x.gOp, iD x.gN, tD x.gName, .lst 5 (x.gKids.map Kg) .no, iD x.gAt] := by
 cases x
 simp only [Kg, KhU]
structure Kj where
 gOp : Int
 gName : ByteArray
 gFunc : ByteArray
 gExps : List Ka
 gKids : List Kj
 gElse : List Kj
 gAt : Int
mutual
def Ki : Kj → D
 | ⟨f0, f1, f2, f3, f4, f5, f6⟩ => .agg [iD f0, tD f1, tD f2, .lst 5 (f3.map Kg) .no, .lst 7 (Kd1 f4) .no, .lst 7 (Kd1 f5) .no, iD f6]
def Kd1 : List Kj → List D
 | [] => []
 | x :: l => Ki x :: Kd1 l
end
theorem KhV : ∀ l, Kd1 l = l.map Ki
 | [] => by simp [Kd1]
 | x :: l => by simp only [Kd1, List.map_cons, KhV l]
theorem Kp (x : Kj) : Ki x = .agg [iD x.gOp, tD x.gName, tD x.gFunc, .lst 5 (x.gExps.map Kg) .no, .lst 7 (x.gKids.map Ki) .no, .lst 7 (x.gElse.map Ki) .no, iD x.gAt] := by
 cases x
 simp only [Ki, KhV]
structure KQ where
 gName : ByteArray
 gParams : List KR
 gLocals : List KR
 gBody : List Kj
 gAt : Int
def KjT (x : KQ) : D := .agg [tD x.gName, .lst 2 (x.gParams.map Kw) .no, .lst 2 (x.gLocals.map Kw) .no, .lst 7 (x.gBody.map Ki) .no, iD x.gAt]
noncomputable def Ka3 (m2 : KQ) (m1 : Ke) : Option (Ke × KQ) :=
 (Option.bind (α := List Kt × Int × Int × Int × Int × List KR) (loopM (fun (s33 : List Kt × Int × Int × Int × Int × List KR) => (Option.bind (α := Bool) (bif (s33.2.2.1 == (0 : Int)) then ((KaB (⟨s33.1, s33.2.1, s33.2.2.1, s33.2.2.2.1, s33.2.2.2.2.1⟩ : Ke) (0 : Int) (ByteArray.mk #[105, 110, 116])).bind fun x58 => some x58) else some false) fun y56 => (bif y56 then ((KaF (⟨s33.1, s33.2.1, s33.2.2.1, s33.2.2.2.1, s33.2.2.2.2.1⟩ : Ke)).bind fun x60 => ((app 24 s33.2.2.2.2.2 ([x60.1] : List KR)).bind fun x61 => ((KJ x60.2 ([(ByteArray.mk #[59])] : List ByteArray)).bind fun x62 => some (.next (x62.gL, x62.gAt, x62.gE, x62.gVars, x62.gOpen, x61))))) else some (.done (s33.1, s33.2.1, s33.2.2.1, s33.2.2.2.1, s33.2.2.2.2.1, s33.2.2.2.2.2))))) (m1.gL, m1.gAt, m1.gE, m1.gVars, m1.gOpen, m2.gLocals)) fun y32 => some ((⟨y32.1, y32.2.1, y32.2.2.1, y32.2.2.2.1, y32.2.2.2.2.1⟩ : Ke), (⟨m2.gName, m2.gParams, y32.2.2.2.2.2, m2.gBody, m2.gAt⟩ : KQ)))
theorem Kfl (m2 : KQ) (m1 : Ke) (o0 : Nat) (T0 : TypeId) (o1 : Nat) (T1 : TypeId) (c1_0 : Cap) (o2 : Nat) (T2 : TypeId) (c2_1 : Cap) (k2_2 : Value) (c2_3 : Cap) (r : Ke × KQ) (h0 : Ka3 m2 m1 = some r) : CallsD Try.prog 46 [.ptr o0 0, .ptr o2 0] [(o0, Blk.cells [.ptr o1 0] T0), (o1, Blk.cells [.lst 4 (m1.gL.map Kc) c1_0, iD m1.gAt, iD m1.gE, iD m1.gVars, iD m1.gOpen] T1), (o2, Blk.cells [tD m2.gName, .lst 2 (m2.gParams.map Kw) c2_1, .lst 2 (m2.gLocals.map Kw) (.cur k2_2), .lst 7 (m2.gBody.map Ki) c2_3, iD m2.gAt] T2)] [(2, k2_2)] (fun d h k => ∃ y0, d = .tup [] ∧ h = [(o0, Blk.cells [.ptr o1 0] T0), (o1, Blk.cells [.lst 4 (r.1.gL.map Kc) .no, iD r.1.gAt, iD r.1.gE, iD r.1.gVars, iD r.1.gOpen] T1), (o2, Blk.cells [tD r.2.gName, .lst 2 (r.2.gParams.map Kw) c2_1, .lst 2 (r.2.gLocals.map Kw) (.cur y0), .lst 7 (r.2.gBody.map Ki) c2_3, iD r.2.gAt] T2)] ∧ k = [(2, y0)]) := by
 have hm := KE h0
 unfold Ka3 at hm
 clear h0
 refine KW htab Try.func46 rfl rfl rfl rfl rfl (fun C => ?_)
 obtain ⟨y32, q32, ho32⟩ := Kf hm
 refine K6 (Y := Value) (fun z32 => (⟨[], [(o0, Blk.cells [.ptr o1 0] T0), (o1, Blk.cells [.lst 4 (y32.1.map Kc) .no, iD y32.2.1, iD y32.2.2.1, iD y32.2.2.2.1, iD y32.2.2.2.2.1] T1), (o2, Blk.cells [tD m2.gName, .lst 2 (m2.gParams.map Kw) c2_1, .lst 2 (y32.2.2.2.2.2.map Kw) (.cur z32), .lst 7 (m2.gBody.map Ki) c2_3, iD m2.gAt] T2)], [(2, z32)]⟩ : S)) ?_ ?_
 ·clear hm; have hm := KE q32
  refine KL ?_
  obtain ⟨u33, hl33, hq33⟩ := yes_m hm
  refine Kbe (Y := Value) hl33 (fun s33 z33 => (⟨[(0, .ptr o0 0), (1, .ptr o2 0)], [(o0, Blk.cells [.ptr o1 0] T0), (o1, Blk.cells [.lst 4 (s33.1.map Kc) .no, iD s33.2.1, iD s33.2.2.1, iD s33.2.2.2.1, iD s33.2.2.2.2.1] T1), (o2, Blk.cells [tD m2.gName, .lst 2 (m2.gParams.map Kw) c2_1, .lst 2 (s33.2.2.2.2.2.map Kw) (.cur z33), .lst 7 (m2.gBody.map Ki) c2_3, iD m2.gAt] T2)], [(2, z33)]⟩ : S)) ?_ ?_
  ·skip
   refine WkX.wk (WkS.bl1 (ds' := [.lst 4 (m1.gL.map Kc) .no, iD m1.gAt, iD m1.gE, iD m1.gVars, iD m1.gOpen]) (rO (rC (rC (rC (rC WkR.nil)))))) ?_
   exact WkX.of k2_2 (WkS.perm (WkS.cons rfl (Wk.refl _) (WkS.cons rfl (Wk.refl _) (WkS.nil))) Pf Pf)
  ·intro G33 s33 z33 hm
   refine Kq ?_
   refine Kq ?_
   obtain ⟨y56, q56, ho56⟩ := Kf hm
   refine K6 (Y := Unit) (fun z56 => (⟨[(0, .ptr o0 0), (1, .ptr o2 0), (10, .v (.bool y56))], [(o0, Blk.cells [.ptr o1 0] T0), (o1, Blk.cells [.lst 4 (s33.1.map Kc) .no, iD s33.2.1, iD s33.2.2.1, iD s33.2.2.2.1, iD s33.2.2.2.2.1] T1), (o2, Blk.cells [tD m2.gName, .lst 2 (m2.gParams.map Kw) c2_1, .lst 2 (s33.2.2.2.2.2.map Kw) (.cur z33), .lst 7 (m2.gBody.map Ki) c2_3, iD m2.gAt] T2)], [(2, z33)]⟩ : S)) ?_ ?_
   ·clear hm; have hm := KE q56
    refine KC ?_
    refine pL 0 ?_
    refine pu ?_
    refine pu ?_
    refine pL 1 ?_
    refine pu ?_
    refine pu ?_
    refine K9 (i := 7) rfl (fun hg57 => ?_) (fun hg57 => ?_)
    ·replace hm := yes_t hg57 hm
     refine pL 0 ?_
     obtain ⟨x58, q58, hm⟩ := Kf hm
     refine pG (Kce (⟨s33.1, s33.2.1, s33.2.2.1, s33.2.2.2.1, s33.2.2.2.2.1⟩ : Ke) (0 : Int) (ByteArray.mk #[105, 110, 116]) o1 T1 .no x58 q58) Wl ((Kap (j := 1) rfl).trans (List.Perm.cons _ Pf)) Pf ?_
     rintro _ _ _ ⟨rfl, rfl, rfl⟩
     refine KS rfl rfl rfl rfl rfl rfl ?_
     refine KB ?_
     have e56 := Kn hm; subst e56
     refine ⟨rfl, ?_⟩
     exact WkX.of () (WkS.perm (WkS.cons rfl (Wk.refl _) (WkS.cons rfl (Wk.refl _) (WkS.cons rfl (Wk.refl _) (WkS.nil)))) ((Kap (j := 1) rfl).trans (List.Perm.cons _ ((Kap (j := 0) rfl).trans (List.Perm.cons _ ((Kap (j := 0) rfl).trans (List.Perm.cons _ Pf)))))) Pf)
    ·replace hm := yes_f hg57 hm
     refine pK ?_
     refine pK ?_
     refine KH rfl rfl rfl rfl rfl rfl ?_
     refine KB ?_
     have e56 := Kn hm; subst e56
     refine ⟨rfl, ?_⟩
     exact WkX.of () (WkS.perm (WkS.cons rfl (Wk.refl _) (WkS.cons rfl (Wk.refl _) (WkS.cons rfl (Wk.refl _) (WkS.nil)))) Pf Pf)
   ·intro s56 hw56; clear hm; have hm := ho56; clear q56 ho56
    refine Km ?_
    refine K3 hw56 (fun z56 => ?_)
    refine Ku rfl (fun hc59 => ?_) (fun hc59 => ?_)
    ·replace hm := yes_t hc59 hm
     refine Ky ?_
     refine Km ?_
     refine KL ?_
     refine Kq ?_
     obtain ⟨x60, q60, hm⟩ := Kf hm
     refine KdM (X := BK) 5 [] [[],[0],[],[2],[2,3]] [0,1,2,3,4] [[],[0],[],[2],[2,3],[0,1,2,3,4],[0,1,2,3,4,5],[0,1,2,3,4,5,6]] ⟨3, fun x => x.1 ++ [(o0, Blk.cells [.ptr o1 0] T0), (o2, Blk.cells [tD m2.gName, .lst 2 (m2.gParams.map Kw) c2_1, .lst 2 (s33.2.2.2.2.2.map Kw) (.cur z33), .lst 7 (m2.gBody.map Ki) c2_3, iD m2.gAt] T2)], fun x => x.2 ++ [(2, z33)], fun x => x.1 = [(o1, Blk.cells [.lst 4 (x60.2.gL.map Kc) .no, iD x60.2.gAt, iD x60.2.gE, iD x60.2.gVars, iD x60.2.gOpen] T1)] ∧ x.2 = []⟩ ([], []) (by kernel_rfl) (by kernel_rfl) (by kernel_rfl) (by rfl) (by rfl) (by kernel_rfl) ?_
     iterate 5 apply Exists.intro
     intro bs
     refine zx_e rfl rfl (KT htab rfl) rfl rfl rfl rfl rfl rfl rfl rfl ?_
     refine zx_M rfl rfl (fun _ => KF 2 htab rfl rfl rfl rfl rfl) (fun _ ⟨x1, x2⟩ ⟨e1, e2⟩ => by cases e1; cases e2; exact KF 2 htab rfl rfl rfl rfl rfl) rfl rfl rfl rfl rfl rfl rfl rfl ?_
     refine zx_M rfl rfl (fun _ => KF 0 htab rfl rfl rfl rfl rfl) (offB rfl) rfl rfl rfl rfl rfl rfl rfl rfl ?_
     refine KeJ (h1 := [(o1, Blk.cells [.lst 4 (s33.1.map Kc) .no, iD s33.2.1, iD s33.2.2.1, iD s33.2.2.2.1, iD s33.2.2.2.2.1] T1)]) (k1 := []) (d := Kw x60.1) rfl rfl rfl (KdU (⟨s33.1, s33.2.1, s33.2.2.1, s33.2.2.2.1, s33.2.2.2.2.1⟩ : Ke) o1 T1 .no x60 q60) rfl rfl Wl ((Kap (j := 1) rfl).trans (List.Perm.cons _ Pf)) Pf (fun _ => rfl) (fun _ => rfl) (fun d' h' k' ⟨e1, e2, e3⟩ => ⟨⟨e2, e3⟩, by subst e1; exact Wk.refl _⟩) rfl rfl rfl rfl rfl rfl ?_
     refine zx_E rfl rfl (ExE.wk (x_lit htab rfl rfl rfl rfl rfl rfl rfl rfl rfl rfl rfl) (show Wk _ (.lst 2 (([x60.1] : List KR).map Kw) .full) from Wk.lst0 (.cons (WkC.refl _) (.nil)))) rfl rfl rfl rfl rfl rfl rfl rfl ?_
     refine Kfk (h2 := [(o0, Blk.cells [.ptr o1 0] T0), (o2, Blk.cells [tD m2.gName, .lst 2 (m2.gParams.map Kw) c2_1, .lst 2 (s33.2.2.2.2.2.map Kw) (.cur z33), .lst 7 (m2.gBody.map Ki) c2_3, iD m2.gAt] T2)]) (hz := [(o0, Blk.cells [.ptr o1 0] T0), (o2, Blk.cells [tD m2.gName, .lst 2 (m2.gParams.map Kw) c2_1, .lst 2 (s33.2.2.2.2.2.map Kw) (.cur z33), .lst 7 (m2.gBody.map Ki) c2_3, iD m2.gAt] T2)]) rfl rfl (fun _ => rfl) (fun _ => rfl) rfl (fun e he => by simp [isAl] at he) ?_
     rintro _ _ ⟨rfl, rfl⟩
     obtain ⟨x61, q61, hm⟩ := Kf hm
     refine KcS 0 htab rfl rfl rfl rfl rfl rfl rfl rfl rfl rfl rfl rfl rfl rfl rfl rfl rfl (Kbi q61) (fun v61 => ?_)
     refine KcT (i := 16) q61 rfl ?_
     refine pu ?_
     refine pS2 (ds' := [tD m2.gName, .lst 2 (m2.gParams.map Kw) c2_1, .lst 2 (x61.map Kw) (.cur v61), .lst 7 (m2.gBody.map Ki) c2_3, iD m2.gAt]) ?_
     refine Kh ?_
     refine KC ?_
     refine pL 1 ?_
     refine p_lit htab rfl rfl rfl rfl rfl rfl rfl rfl rfl rfl rfl rfl rfl rfl ?_
     refine p_eq (i := 19) (d' := .lst 1 (([(ByteArray.mk #[59])] : List ByteArray).map eStr) .full) rfl (Wk.lst0 (.cons (WkC.refl _) (.nil))) ?_
     obtain ⟨x62, q62, hm⟩ := Kf hm
     refine Kam (KZ x60.2 ([(ByteArray.mk #[59])] : List ByteArray) o1 T1 .no x62 q62) rfl rfl rfl rfl rfl (WkL.cons (Wk.refl _) (WkL.cons (Wk.no) Wl)) Pf Pf ?_
     rintro _ _ _ ⟨rfl, rfl, rfl⟩
     refine KB ?_
     refine KI ?_
     refine Km ⟨_, KaR hm, ?_⟩
     exact WkX.of v61 (WkS.perm (WkS.cons rfl (Wk.refl _) (WkS.cons rfl (Wk.refl _) (WkS.nil))) ((Kap (j := 1) rfl).trans (List.Perm.cons _ ((Kap (j := 0) rfl).trans (List.Perm.cons _ ((Kap (j := 0) rfl).trans (List.Perm.cons _ Pf)))))) Pf)
    ·replace hm := yes_f hc59 hm
     refine Kay ?_
     refine KN ?_
     have e33 := Kaq hm; subst e33; clear hm; have hm := hq33
     refine KN ?_
     refine Kao ?_
     have e32 := Kn hm; subst e32
     refine ⟨rfl, ?_⟩
     exact WkX.of z33 (WkS.perm (WkS.nil) Pf Pf)
 ·intro s32 hw32; clear hm; have hm := ho32; clear q32 ho32
  refine retX.wkX hw32 (fun z32 => ?_)
  have er63 := Kn hm; subst er63
  refine rP (t' := []) [0,0,0] [0] 3 wN lN ?_
  exact ⟨z32, rfl, rfl, rfl⟩
structure Kb where
 gL : List Kt
 gAt : Int
 gE : Int
noncomputable def KaQ (m0 : Kb) : Option (Kt) :=
 (bif (decide ((m0.gL.length : Int) ≤ m0.gAt)) then some (⟨(0 : Int), ByteArray.empty, (0 : Int), (0 : Int)⟩ : Kt) else ((idx m0.gL m0.gAt).bind fun x5 => some x5))
theorem KcG (m0 : Kb) (o0 : Nat) (T0 : TypeId) (c0_0 : Cap) (r : Kt) (h0 : KaQ m0 = some r) : CallsD Try.prog 96 [.ptr o0 0] [(o0, Blk.cells [.lst 4 (m0.gL.map Kc) c0_0, iD m0.gAt, iD m0.gE] T0)] [] (fun d h k => d = Kc r ∧ h = [(o0, Blk.cells [.lst 4 (m0.gL.map Kc) c0_0, iD m0.gAt, iD m0.gE] T0)] ∧ k = []) := by
 have hm := KE h0
 unfold KaQ at hm
 clear h0
 refine KW htab Try.func96 rfl rfl rfl rfl rfl (fun C => ?_)
 refine Kl ?_
 refine KP htab rfl rfl rfl rfl rfl rfl rfl (fun b1 => ?_)
 refine Kh ?_
 refine Kq ?_
 refine Kq ?_
 refine Kaj 9 [] [[],[0],[0,1],[0,1,2],[],[4],[4,5],[4,5,6],[4,5,6,7]] [0,1,2,4,5,6,7] [[],[0],[0,1],[0,1,2],[],[4],[4,5],[4,5,6],[4,5,6,7],[0,1,2,3,4,5,6,7,8]] (by kernel_rfl) (by kernel_rfl) (by kernel_rfl) (by rfl) (by rfl) (by kernel_rfl) ?_
 iterate 7 apply Exists.intro
 intro bs
 iterate 3 refine zep ?_
 refine z_qM rfl rfl (KF 0 htab rfl rfl rfl rfl rfl) rfl rfl rfl rfl rfl rfl ?_
 iterate 3 refine zep ?_
 refine z_eM rfl rfl (KF 0 htab rfl rfl rfl rfl rfl) rfl rfl rfl rfl rfl rfl ?_
 refine z_q rfl rfl (KdT htab rfl rfl rfl rfl (by first | exact Kaf | rfl)) rfl rfl rfl rfl rfl rfl ?_
 refine z_nil rfl rfl (fun e he => by simp [isAl] at he) ?_
 refine pu ?_
 refine Kh ?_
 refine Ku rfl (fun hc3 => ?_) (fun hc3 => ?_)
 ·replace hm := yes_t hc3 hm
  refine Kl ?_
  refine Kal (r := [iD (0 : Int), tD ByteArray.empty, iD (0 : Int), iD (0 : Int)]) htab rfl rfl rfl rfl rfl rfl rfl rfl rfl ?_
  refine pS1 (ds' := [iD (0 : Int), tD ByteArray.empty, iD (0 : Int), iD (0 : Int)]) ?_
  refine Kh ?_
  refine Ks ?_
  refine KD ?_
  have er4 := Kn hm; subst er4
  refine rP (t' := [(2, .ptr b1 0)]) [0,0] [] 1 (wC wN) (lC 1 lN) ?_
  exact ⟨rfl, rfl, rfl⟩
 ·replace hm := yes_f hc3 hm
  refine Ky ?_
  refine Km ?_
  refine Kq ?_
  refine Kaj 8 [] [[],[0],[0,1],[0,1,2],[],[4],[4,5],[4,5,6]] [0,1,2,3,4,5,6] [[],[0],[0,1],[0,1,2],[],[4],[4,5],[4,5,6],[0,1,2,3,4,5,6,7],[0,1,2,3,4,5,6,7,8],[0,1,2,3,4,5,6,7,8,9]] (by kernel_rfl) (by kernel_rfl) (by kernel_rfl) (by rfl) (by rfl) (by kernel_rfl) ?_
  iterate 7 apply Exists.intro
  intro bs
  iterate 3 refine zep ?_
  refine z_eM rfl rfl (KF 0 htab rfl rfl rfl rfl rfl) rfl rfl rfl rfl rfl rfl ?_
  iterate 3 refine zep ?_
  refine z_qM rfl rfl (KF 0 htab rfl rfl rfl rfl rfl) rfl rfl rfl rfl rfl rfl ?_
  refine z_nil rfl rfl (fun e he => by simp [isAl] at he) ?_
  obtain ⟨x5, q5, hm⟩ := Kf hm
  refine Ka8 htab rfl rfl rfl rfl rfl rfl rfl rfl rfl rfl (Kr q5) (Kz q5) ?_
  refine KaE (d := Kc x5) htab rfl rfl rfl rfl rfl rfl rfl rfl ?_
  refine pS1 (ds' := [iD x5.gKind, tD x5.gText, iD x5.gN, iD x5.gAt]) ?_
  refine Kh ?_
  refine Ks ?_
  have er6 := Kn hm; subst er6
  refine rP (t' := [(2, .ptr b1 0)]) [0,0] [] 1 (wC wN) (lC 1 lN) ?_
  exact ⟨rfl, rfl, rfl⟩
noncomputable def KbQ (m0 : Kb) (a1 : ByteArray) : Option (Bool) :=
 ((KaQ m0).bind fun x1 => (bif (x1.gKind == (3 : Int)) then some (decide (x1.gText = a1)) else some false))
theorem KfB (m0 : Kb) (a1 : ByteArray) (o0 : Nat) (T0 : TypeId) (c0_0 : Cap) (r : Bool) (h0 : KbQ m0 a1 = some r) : CallsD Try.prog 104 [.ptr o0 0, tD a1] [(o0, Blk.cells [.lst 4 (m0.gL.map Kc) c0_0, iD m0.gAt, iD m0.gE] T0)] [] (fun d h k => d = .v (.bool r) ∧ h = [(o0, Blk.cells [.lst 4 (m0.gL.map Kc) c0_0, iD m0.gAt, iD m0.gE] T0)] ∧ k = []) := by
 have hm := KE h0
 unfold KbQ at hm
 clear h0
 refine KW htab Try.func104 rfl rfl rfl rfl rfl (fun C => ?_)
 refine Kl ?_
 refine pu ?_
 refine Kv ?_
 refine pu ?_
 obtain ⟨x1, q1, hm⟩ := Kf hm
 refine pG (KcG m0 o0 T0 c0_0 x1 q1) Wl Pf Pf ?_
 rintro _ _ _ ⟨rfl, rfl, rfl⟩
 refine KP htab rfl rfl rfl rfl rfl rfl rfl (fun b2 => ?_)
 refine pS1 (ds' := [iD x1.gKind, tD x1.gText, iD x1.gN, iD x1.gAt]) ?_
 refine Kv ?_
 refine pu ?_
 refine pL 1 ?_
 refine pu ?_
 refine pu ?_
 refine K9 (i := 11) rfl (fun hg3 => ?_) (fun hg3 => ?_)
 ·replace hm := yes_t hg3 hm
  refine pu ?_
  refine pL 1 ?_
  refine pu ?_
  refine pu ?_
  refine KS rfl rfl rfl rfl rfl rfl ?_
  refine pu ?_
  refine Kh ?_
  refine Ks ?_
  have er4 := Kn hm; subst er4
  refine rP (t' := [(4, .v (.bool (decide (x1.gText = a1))))]) [0] [] 1 (wC wN) (lT lN) ?_
  exact ⟨rfl, rfl, rfl⟩
 ·replace hm := yes_f hg3 hm
  iterate 4 refine pK ?_
  refine KH rfl rfl rfl rfl rfl rfl ?_
  refine pu ?_
  refine Kh ?_
  refine Ks ?_
  have er5 := Kn hm; subst er5
  refine rP (t' := [(4, .v (.bool false))]) [0] [] 1 (wC wN) (lT lN) ?_
  exact ⟨rfl, rfl, rfl⟩
noncomputable def KaC (m0 : Kb) (a1 : Int) (a2 : Int) : Option (Kb) :=
 (bif (m0.gE == (0 : Int)) then some (⟨m0.gL, a1, a2⟩ : Kb) else some m0)
theorem Kcf (m0 : Kb) (a1 : Int) (a2 : Int) (o0 : Nat) (T0 : TypeId) (c0_0 : Cap) (r : Kb) (h0 : KaC m0 a1 a2 = some r) : CallsD Try.prog 101 [.ptr o0 0, iD a1, iD a2] [(o0, Blk.cells [.lst 4 (m0.gL.map Kc) c0_0, iD m0.gAt, iD m0.gE] T0)] [] (fun d h k => d = .tup [] ∧ h = [(o0, Blk.cells [.lst 4 (r.gL.map Kc) c0_0, iD r.gAt, iD r.gE] T0)] ∧ k = []) := by
 have hm := KE h0
 unfold KaC at hm
 clear h0
 refine KW htab Try.func101 rfl rfl rfl rfl rfl (fun C => ?_)
 refine Kl ?_
 iterate 3 refine pu ?_
 refine pL 0 ?_
 refine pu ?_
 refine Kh ?_
 refine Ku rfl (fun hc1 => ?_) (fun hc1 => ?_)
 ·replace hm := yes_t hc1 hm
  refine KC ?_
  iterate 6 refine pu ?_
  refine pS0 (ds' := [.lst 4 (m0.gL.map Kc) c0_0, iD a1, iD m0.gE]) ?_
  refine pu ?_
  refine pu ?_
  refine pS0 (ds' := [.lst 4 (m0.gL.map Kc) c0_0, iD a1, iD a2]) ?_
  refine KB ?_
  have er2 := Kn hm; subst er2
  refine rP (t' := []) [0] [] 1 wN lN ?_
  exact ⟨rfl, rfl, rfl⟩
 ·replace hm := yes_f hc1 hm
  refine Ky ?_
  have er3 := Kn hm; subst er3
  refine rP (t' := []) [0] [] 1 wN lN ?_
  exact ⟨rfl, rfl, rfl⟩
noncomputable def KaY (m0 : Kb) (a1 : ByteArray) : Option (Kb) :=
 ((KbQ m0 a1).bind fun x1 => (bif (!x1) then ((KaC m0 m0.gAt (3 : Int)).bind fun x5 => some x5) else some (⟨m0.gL, (IntKind.i64.wrap (m0.gAt + (1 : Int))), m0.gE⟩ : Kb)))
theorem Kh3 (m0 : Kb) (a1 : ByteArray) (o0 : Nat) (T0 : TypeId) (c0_0 : Cap) (r : Kb) (h0 : KaY m0 a1 = some r) : CallsD Try.prog 107 [.ptr o0 0, tD a1] [(o0, Blk.cells [.lst 4 (m0.gL.map Kc) c0_0, iD m0.gAt, iD m0.gE] T0)] [] (fun d h k => d = .tup [] ∧ h = [(o0, Blk.cells [.lst 4 (r.gL.map Kc) c0_0, iD r.gAt, iD r.gE] T0)] ∧ k = []) := by
 have hm := KE h0
 unfold KaY at hm
 clear h0
 refine KW htab Try.func107 rfl rfl rfl rfl rfl (fun C => ?_)
 refine Kq ?_
 refine Kl ?_
 refine pu ?_
 refine pu ?_
 obtain ⟨x1, q1, hm⟩ := Kf hm
 refine pG (KfB m0 a1 o0 T0 c0_0 x1 q1) Wl Pf Pf ?_
 rintro _ _ _ ⟨rfl, rfl, rfl⟩
 refine pu ?_
 refine Kh ?_
 refine Ku rfl (fun hc4 => ?_) (fun hc4 => ?_)
 ·replace hm := yes_t hc4 hm
  refine Kl ?_
  iterate 4 refine pu ?_
  refine pL 0 ?_
  obtain ⟨x5, q5, hm⟩ := Kf hm
  refine pG (Kcf m0 m0.gAt (3 : Int) o0 T0 c0_0 x5 q5) Wl Pf Pf ?_
  rintro _ _ _ ⟨rfl, rfl, rfl⟩
  refine Kh ?_
  refine Ks ?_
  refine KD ?_
  have er6 := Kn hm; subst er6
  refine rP (t' := []) [0] [] 1 wN lN ?_
  exact ⟨rfl, rfl, rfl⟩
 ·replace hm := yes_f hc4 hm
  refine Ky ?_
  refine Km ?_
  refine KC ?_
  iterate 3 refine pu ?_
  refine pL 0 ?_
  iterate 3 refine pu ?_
  refine pS0 (ds' := [.lst 4 (m0.gL.map Kc) c0_0, iD (IntKind.i64.wrap (m0.gAt + (1 : Int))), iD m0.gE]) ?_
  refine KB ?_
  have er7 := Kn hm; subst er7
  refine rP (t' := []) [0] [] 1 wN lN ?_
  exact ⟨rfl, rfl, rfl⟩
noncomputable def Kb5 (g0 : (Ka) → Option (Int)) (a0 : Ka) : Option (Int) :=
 (Option.bind (α := Int) (loopM (fun (s19 : Int × Int) => (bif (decide (s19.2 < (a0.gKids.length : Int))) then ((idx a0.gKids s19.2).bind fun x31 => ((g0 x31).bind fun x33 => some (.next ((max s19.1 x33), (IntKind.i64.wrap (s19.2 + (1 : Int))))))) else some (.done s19.1))) ((0 : Int), (0 : Int))) fun y18 => some (IntKind.i64.wrap (y18 + (1 : Int))))
theorem Kjn (g0 : (Ka) → Option (Int)) (hg0 : ∀ (a0 : Ka) (r : Int) (h0 : g0 a0 = some r), CallsD Try.prog 103 [Kg a0] [] [] (fun d h k => d = iD r ∧ h = [] ∧ k = [])) (a0 : Ka) (r : Int) (h0 : Kb5 g0 a0 = some r) : CallsD Try.prog 103 [Kg a0] [] [] (fun d h k => d = iD r ∧ h = [] ∧ k = []) := by
 have hm := KE h0
 unfold Kb5 at hm
 clear h0
 refine KW htab Try.func103 rfl rfl rfl rfl rfl (fun C => ?_)
 refine w_eq (i := 0) rfl (Wk.of_eq (Kk a0)) ?_
 refine Kl ?_
 refine p_box rfl rfl rfl rfl rfl rfl rfl (fun b1 => ?_)
 refine pu ?_
 refine Kv ?_
 refine pu ?_
 refine Kh ?_
 refine Kq ?_
 refine Kl ?_
 refine pu ?_
 refine pL 0 ?_
 refine KaP htab rfl rfl rfl rfl rfl rfl rfl (by first | exact Kaf | rfl) ?_
 refine pu ?_
 refine Kh ?_
 obtain ⟨y18, q18, ho18⟩ := Kf hm
 refine K6 (Y := Unit) (fun z18 => (⟨[(3, iD y18)], [], []⟩ : S)) ?_ ?_
 ·clear hm; have hm := KE q18
  refine KL ?_
  obtain ⟨u19, hl19, hq19⟩ := yes_m hm
  refine Kbe (Y := Unit) hl19 (fun s19 z19 => (⟨[(3, iD s19.1), (7, .lst 5 (a0.gKids.map Kg) .no), (8, iD (a0.gKids.length : Int)), (9, iD s19.2)], [], []⟩ : S)) ?_ ?_
  ·skip
   exact WkX.of () (WkS.perm (WkS.cons rfl (Wk.refl _) (WkS.cons rfl (Wk.refl _) (WkS.cons rfl (Wk.refl _) (WkS.cons rfl (Wk.refl _) (WkS.nil))))) Pf Pf)
  ·intro G19 s19 z19 hm
   refine Kl ?_
   refine pu ?_
   refine Kh ?_
   refine Kq ?_
   refine Ku rfl (fun hc30 => ?_) (fun hc30 => ?_)
   ·replace hm := yes_t hc30 hm
    refine Ky ?_
    refine Km ?_
    refine Kq ?_
    refine KL ?_
    refine Kl ?_
    obtain ⟨x31, q31, hm⟩ := Kf hm
    refine Ka8 htab rfl rfl rfl rfl rfl rfl rfl rfl rfl rfl (Kr q31) (Kz q31) ?_
    refine p_eq (i := 11) rfl (Wk.of_eq (congrArg D.el (Kk x31))) ?_
    refine KaE (d := .agg [iD x31.gOp, iD x31.gN, tD x31.gName, .lst 5 (x31.gKids.map Kg) .no, iD x31.gAt]) htab rfl rfl rfl rfl rfl rfl rfl rfl ?_
    refine KP htab rfl rfl rfl rfl rfl rfl rfl (fun b32 => ?_)
    refine pS0 (ds' := [iD x31.gOp, iD x31.gN, tD x31.gName, .lst 5 (x31.gKids.map Kg) .no, iD x31.gAt]) ?_
    refine Kh ?_
    refine KC ?_
    refine pu ?_
    refine K7 (d := .agg [iD x31.gOp, iD x31.gN, tD x31.gName, .lst 5 (x31.gKids.map Kg) .no, iD x31.gAt]) 0 htab rfl rfl rfl rfl rfl rfl rfl rfl ?_
    obtain ⟨x33, q33, hm⟩ := Kf hm
    refine KaJ (hg0 x31 x33 q33) rfl rfl rfl rfl rfl (WkL.cons (Wk.trans (Wk.agg (WkR.refl _)) (Wk.of_eq (Kk x31).symm)) Wl) ?_
    rintro _ rfl
    refine p_max rfl rfl rfl rfl rfl rfl ?_
    refine pu ?_
    refine KB ?_
    refine KI ?_
    refine Km ?_
    refine KC ?_
    refine pu ?_
    refine pu ?_
    refine KB ?_
    refine Km ⟨_, KaR hm, ?_⟩
    exact WkX.of () (WkS.perm (WkS.cons rfl (Wk.refl _) (WkS.cons rfl (Wk.refl _) (WkS.cons rfl (Wk.refl _) (WkS.cons rfl (Wk.refl _) (WkS.nil))))) Pf Pf)
   ·replace hm := yes_f hc30 hm
    refine Kay ?_
    refine KN ?_
    have e19 := Kaq hm; subst e19; clear hm; have hm := hq19
    refine KN ?_
    refine Kao ?_
    have e18 := Kn hm; subst e18
    refine ⟨rfl, ?_⟩
    exact WkX.of () (WkS.perm (WkS.cons rfl (Wk.refl _) (WkS.nil)) Pf Pf)
 ·intro s18 hw18; clear hm; have hm := ho18; clear q18 ho18
  refine Km ?_
  refine K3 hw18 (fun z18 => ?_)
  refine Kl ?_
  iterate 3 refine pu ?_
  refine Kh ?_
  refine Ks ?_
  have er34 := Kn hm; subst er34
  refine rP (t' := [(2, iD (IntKind.i64.wrap (y18 + (1 : Int))))]) [] [] 0 (wC wN) (lT lN) ?_
  exact ⟨rfl, rfl, rfl⟩
noncomputable def KbG : Nat → ((Ka) → Option (Int))
 | 0 => (fun _ => none)
 | n + 1 => (Kb5 ((KbG n)))
theorem Khb : ∀ n, (∀ (a0 : Ka) (r : Int) (h0 : (KbG n) a0 = some r), CallsD Try.prog 103 [Kg a0] [] [] (fun d h k => d = iD r ∧ h = [] ∧ k = []))
  | 0 => fun _ _ h0 => by cases h0
  | n + 1 => by
    have ih := Khb n
    exact Kjn (KbG n) ih
theorem Khc : ∀ n, (∀ (a0 : Ka), Le ((KbG n) a0) ((KbG (n + 1)) a0))
  | 0 => fun _ => Le.none _
  | n + 1 => by
    have ih := Khc n
    exact fun a0 => by show Le (Kb5 ((KbG n)) a0) (Kb5 ((KbG (n + 1))) a0); unfold Kb5; repeat (first | exact Le.refl _ | exact ih _ | assumption | (refine Le.bind ?_ (fun _ => ?_)) | (refine Le.cond ?_ ?_) | (refine Le.loop (fun _ => ?_)) | (refine Le.elim (fun _ => ?_) (fun _ => ?_)))
noncomputable def KfC (a0 : Ka) : Option (Int) := anyN fun n => (KbG n) a0
theorem Kif (a0 : Ka) {r : Int} (n : Nat) (h : (KbG n) a0 = some r) : KfC a0 = some r := Kc8 (fun m => (Khc m) a0) h
theorem Kkl (a0 : Ka) (r : Int) (h0 : KfC a0 = some r) : CallsD Try.prog 103 [Kg a0] [] [] (fun d h k => d = iD r ∧ h = [] ∧ k = []) :=
 let ⟨n, hn⟩ := KcB h0; (Khb n) a0  r hn
noncomputable def Kag (m0 : Kb) (a1 : Ka) (a2 : Int) : Option (Ka × Kb) :=
 (bif (m0.gE != (0 : Int)) then some ((⟨(0 : Int), (0 : Int), ByteArray.empty, [], (0 : Int)⟩ : Ka), m0) else ((KfC a1).bind fun x6 => (bif (decide ((24 : Int) < x6)) then ((KaC m0 a2 (5 : Int)).bind fun x8 => some ((⟨(0 : Int), (0 : Int), ByteArray.empty, [], (0 : Int)⟩ : Ka), x8)) else some (a1, m0))))
theorem KdF (m0 : Kb) (a1 : Ka) (a2 : Int) (o0 : Nat) (T0 : TypeId) (c0_0 : Cap) (r : Ka × Kb) (h0 : Kag m0 a1 a2 = some r) : CallsD Try.prog 98 [.ptr o0 0, Kg a1, iD a2] [(o0, Blk.cells [.lst 4 (m0.gL.map Kc) c0_0, iD m0.gAt, iD m0.gE] T0)] [] (fun d h k => d = Kg r.1 ∧ h = [(o0, Blk.cells [.lst 4 (r.2.gL.map Kc) c0_0, iD r.2.gAt, iD r.2.gE] T0)] ∧ k = []) := by
 have hm := KE h0
 unfold Kag at hm
 clear h0
 refine KW htab Try.func98 rfl rfl rfl rfl rfl (fun C => ?_)
 refine w_eq (i := 1) rfl (Wk.of_eq (Kk a1)) ?_
 refine Kl ?_
 refine p_box rfl rfl rfl rfl rfl rfl rfl (fun b1 => ?_)
 refine KP htab rfl rfl rfl rfl rfl rfl rfl (fun b2 => ?_)
 refine Kh ?_
 refine Kq ?_
 refine Kl ?_
 iterate 3 refine pu ?_
 refine pL 0 ?_
 refine pu ?_
 refine Kh ?_
 refine Ku rfl (fun hc4 => ?_) (fun hc4 => ?_)
 ·replace hm := yes_t hc4 hm
  refine Kl ?_
  refine Kal (r := [iD (0 : Int), iD (0 : Int), tD ByteArray.empty, .lst 1 [] .full, iD (0 : Int)]) htab rfl rfl rfl rfl rfl rfl rfl rfl rfl ?_
  refine pS2 (ds' := [iD (0 : Int), iD (0 : Int), tD ByteArray.empty, .lst 1 [] .full, iD (0 : Int)]) ?_
  refine Kh ?_
  refine Ks ?_
  refine KD ?_
  have er5 := Kn hm; subst er5
  refine retX.wk (WkS.bl2 (ds' := [iD (0 : Int), iD (0 : Int), tD ByteArray.empty, .lst 5 (([] : List Ka).map Kg) .no, iD (0 : Int)]) (rC (rC (rC (WkR.cons (WkC.nil) rfl (rC WkR.nil)))))) ?_
  refine rP (t' := [(6, .ptr b2 0)]) [0,1] [] 1 (wC wN) (lC 1 lN) ?_
  exact ⟨by first | rfl | (simp only [wrapD, Kk]; done) | (simp only [wrapD, Kk]; rfl), rfl, rfl⟩
 ·replace hm := yes_f hc4 hm
  refine Ky ?_
  refine Km ?_
  refine Kq ?_
  refine Kl ?_
  refine K7 (d := .agg [iD a1.gOp, iD a1.gN, tD a1.gName, .lst 5 (a1.gKids.map Kg) .no, iD a1.gAt]) 1 htab rfl rfl rfl rfl rfl rfl rfl rfl ?_
  obtain ⟨x6, q6, hm⟩ := Kf hm
  refine KaJ (Kkl a1 x6 q6) rfl rfl rfl rfl rfl (WkL.cons (Wk.trans (Wk.agg (WkR.refl _)) (Wk.of_eq (Kk a1).symm)) Wl) ?_
  rintro _ rfl
  refine pu ?_
  refine Kh ?_
  refine Ku rfl (fun hc7 => ?_) (fun hc7 => ?_)
  ·replace hm := yes_t hc7 hm
   refine Kl ?_
   refine pu ?_
   refine pu ?_
   obtain ⟨x8, q8, hm⟩ := Kf hm
   refine pG (Kcf m0 a2 (5 : Int) o0 T0 c0_0 x8 q8) Wl Pf Pf ?_
   rintro _ _ _ ⟨rfl, rfl, rfl⟩
   refine Kv ?_
   refine Kal (r := [iD (0 : Int), iD (0 : Int), tD ByteArray.empty, .lst 1 [] .full, iD (0 : Int)]) htab rfl rfl rfl rfl rfl rfl rfl rfl rfl ?_
   refine pS2 (ds' := [iD (0 : Int), iD (0 : Int), tD ByteArray.empty, .lst 1 [] .full, iD (0 : Int)]) ?_
   refine Kh ?_
   refine Ks ?_
   refine KD ?_
   have er9 := Kn hm; subst er9
   refine retX.wk (WkS.bl2 (ds' := [iD (0 : Int), iD (0 : Int), tD ByteArray.empty, .lst 5 (([] : List Ka).map Kg) .no, iD (0 : Int)]) (rC (rC (rC (WkR.cons (WkC.nil) rfl (rC WkR.nil)))))) ?_
   refine rP (t' := [(6, .ptr b2 0)]) [0,1] [] 1 (wC wN) (lC 1 lN) ?_
   exact ⟨by first | rfl | (simp only [wrapD, Kk]; done) | (simp only [wrapD, Kk]; rfl), rfl, rfl⟩
  ·replace hm := yes_f hc7 hm
   refine Ky ?_
   refine Km ?_
   refine Kl ?_
   refine K7 (d := .agg [iD a1.gOp, iD a1.gN, tD a1.gName, .lst 5 (a1.gKids.map Kg) .no, iD a1.gAt]) 1 htab rfl rfl rfl rfl rfl rfl rfl rfl ?_
   refine pS2 (ds' := [iD a1.gOp, iD a1.gN, tD a1.gName, .lst 5 (a1.gKids.map Kg) .no, iD a1.gAt]) ?_
   refine Kh ?_
   refine Ks ?_
   have er10 := Kn hm; subst er10
   refine rP (t' := [(6, .ptr b2 0)]) [0,1] [] 1 (wC wN) (lC 1 lN) ?_
   exact ⟨by first | rfl | (simp only [wrapD, Kk]; done) | (simp only [wrapD, Kk]; rfl), rfl, rfl⟩
noncomputable def Kcg (a0 : ByteArray) (a1 : ByteArray) (a2 : Int) (a3 : ByteArray) (a4 : Int) : Option (Int) :=
 (bif (decide (a0 = a1)) then some a2 else (bif (decide (a0 = a3)) then some a4 else some (0 : Int)))
theorem KdV (a0 : ByteArray) (a1 : ByteArray) (a2 : Int) (a3 : ByteArray) (a4 : Int) (r : Int) (h0 : Kcg a0 a1 a2 a3 a4 = some r) : CallsD Try.prog 102 [tD a0, tD a1, iD a2, tD a3, iD a4] [] [] (fun d h k => d = iD r ∧ h = [] ∧ k = []) := by
 have hm := KE h0
 unfold Kcg at hm
 clear h0
 refine KW htab Try.func102 rfl rfl rfl rfl rfl (fun C => ?_)
 refine Kl ?_
 refine pu ?_
 refine Kh ?_
 refine Kq ?_
 refine Kl ?_
 refine pu ?_
 refine Kh ?_
 refine KL ?_
 refine Kl ?_
 iterate 3 refine pu ?_
 refine Kh ?_
 refine Ku rfl (fun hc1 => ?_) (fun hc1 => ?_)
 ·replace hm := yes_t hc1 hm
  refine Kl ?_
  refine pu ?_
  refine pu ?_
  refine Kh ?_
  refine Ks ?_
  refine K0 ?_
  refine KD ?_
  have er2 := Kn hm; subst er2
  refine rP (t' := [(10, iD a2)]) [] [] 0 (wC wN) (lT lN) ?_
  exact ⟨rfl, rfl, rfl⟩
 ·replace hm := yes_f hc1 hm
  refine Kl ?_
  iterate 3 refine pu ?_
  refine Kh ?_
  refine Ku rfl (fun hc3 => ?_) (fun hc3 => ?_)
  ·replace hm := yes_t hc3 hm
   refine Kl ?_
   refine pu ?_
   refine pu ?_
   refine Kh ?_
   refine Ks ?_
   refine K0 ?_
   refine KD ?_
   have er4 := Kn hm; subst er4
   refine rP (t' := [(10, iD a4)]) [] [] 0 (wC wN) (lT lN) ?_
   exact ⟨rfl, rfl, rfl⟩
  ·replace hm := yes_f hc3 hm
   refine Ky ?_
   refine KI ?_
   refine Km ?_
   refine Kl ?_
   refine pu ?_
   refine Kh ?_
   refine Ks ?_
   have er5 := Kn hm; subst er5
   refine rP (t' := [(10, iD (0 : Int))]) [] [] 0 (wC wN) (lT lN) ?_
   exact ⟨rfl, rfl, rfl⟩
noncomputable def Kbb (m0 : Kb) : Option (ByteArray × Kb) :=
 ((KaQ m0).bind fun x1 => (bif (x1.gKind != (1 : Int)) then ((KaC m0 m0.gAt (3 : Int)).bind fun x6 => some ((ByteArray.mk #[]), x6)) else some (x1.gText, (⟨m0.gL, (IntKind.i64.wrap (m0.gAt + (1 : Int))), m0.gE⟩ : Kb))))
theorem Ke5 (m0 : Kb) (o0 : Nat) (T0 : TypeId) (c0_0 : Cap) (r : ByteArray × Kb) (h0 : Kbb m0 = some r) : CallsD Try.prog 106 [.ptr o0 0] [(o0, Blk.cells [.lst 4 (m0.gL.map Kc) c0_0, iD m0.gAt, iD m0.gE] T0)] [] (fun d h k => d = tD r.1 ∧ h = [(o0, Blk.cells [.lst 4 (r.2.gL.map Kc) c0_0, iD r.2.gAt, iD r.2.gE] T0)] ∧ k = []) := by
 have hm := KE h0
 unfold Kbb at hm
 clear h0
 refine KW htab Try.func106 rfl rfl rfl rfl rfl (fun C => ?_)
 refine Kl ?_
 refine pu ?_
 refine Kv ?_
 refine pu ?_
 obtain ⟨x1, q1, hm⟩ := Kf hm
 refine pG (KcG m0 o0 T0 c0_0 x1 q1) Wl Pf Pf ?_
 rintro _ _ _ ⟨rfl, rfl, rfl⟩
 refine KP htab rfl rfl rfl rfl rfl rfl rfl (fun b2 => ?_)
 refine pS1 (ds' := [iD x1.gKind, tD x1.gText, iD x1.gN, iD x1.gAt]) ?_
 refine Kh ?_
 refine Kq ?_
 refine Kl ?_
 refine pu ?_
 refine pL 1 ?_
 refine pu ?_
 refine Kh ?_
 refine Ku rfl (fun hc5 => ?_) (fun hc5 => ?_)
 ·replace hm := yes_t hc5 hm
  refine Kl ?_
  iterate 4 refine pu ?_
  refine pL 0 ?_
  obtain ⟨x6, q6, hm⟩ := Kf hm
  refine pG (Kcf m0 m0.gAt (3 : Int) o0 T0 c0_0 x6 q6) Wl Pf Pf ?_
  rintro _ _ _ ⟨rfl, rfl, rfl⟩
  refine Kv ?_
  refine pu ?_
  refine Kh ?_
  refine Ks ?_
  refine KD ?_
  have er7 := Kn hm; subst er7
  refine rP (t' := [(2, tD (ByteArray.mk #[]))]) [0] [] 1 (wC wN) (lT lN) ?_
  exact ⟨rfl, rfl, rfl⟩
 ·replace hm := yes_f hc5 hm
  refine Ky ?_
  refine Km ?_
  refine Kl ?_
  iterate 3 refine pu ?_
  refine pL 0 ?_
  iterate 3 refine pu ?_
  refine pS0 (ds' := [.lst 4 (m0.gL.map Kc) c0_0, iD (IntKind.i64.wrap (m0.gAt + (1 : Int))), iD m0.gE]) ?_
  refine Kv ?_
  refine pu ?_
  refine pL 1 ?_
  refine pu ?_
  refine Kh ?_
  refine Ks ?_
  have er8 := Kn hm; subst er8
  refine rP (t' := [(2, tD x1.gText)]) [0] [] 1 (wC wN) (lT lN) ?_
  exact ⟨rfl, rfl, rfl⟩
end Go.Proofs.Ytmgklehakmdiiaa.Ab
namespace Go.Proofs.Ytmgklehakmdiiaa.Ab
open Go
set_option linter.all false
noncomputable def Kbl (a0 : Int) (a1 : ByteArray) : Option (Int) :=
 (bif (a0 == (0 : Int)) then (bif (decide (a1 = (ByteArray.mk #[124, 124]))) then some (17 : Int) else some (0 : Int)) else (bif (a0 == (1 : Int)) then (bif (decide (a1 = (ByteArray.mk #[38, 38]))) then some (16 : Int) else some (0 : Int)) else (bif (a0 == (2 : Int)) then ((Kcg a1 (ByteArray.mk #[61, 61]) (14 : Int) (ByteArray.mk #[33, 61]) (15 : Int)).bind fun x10 => some x10) else (bif (a0 == (3 : Int)) then ((Kcg a1 (ByteArray.mk #[60]) (12 : Int) (ByteArray.mk #[60, 61]) (13 : Int)).bind fun x13 => some x13) else (bif (a0 == (4 : Int)) then ((Kcg a1 (ByteArray.mk #[43]) (10 : Int) (ByteArray.mk #[45]) (11 : Int)).bind fun x16 => some x16) else (bif (a0 == (5 : Int)) then (bif (decide (a1 = (ByteArray.mk #[37]))) then some (9 : Int) else ((Kcg a1 (ByteArray.mk #[42]) (7 : Int) (ByteArray.mk #[47]) (8 : Int)).bind fun x22 => some x22)) else some (0 : Int)))))))
theorem KiY (a0 : Int) (a1 : ByteArray) (r : Int) (h0 : Kbl a0 a1 = some r) : CallsD Try.prog 97 [iD a0, tD a1] [] [] (fun d h k => d = iD r ∧ h = [] ∧ k = []) := by
 have hm := KE h0
 unfold Kbl at hm
 clear h0
 refine KW htab Try.func97 rfl rfl rfl rfl rfl (fun C => ?_)
 refine Kl ?_
 refine pu ?_
 refine Kh ?_
 refine Kq ?_
 refine Kl ?_
 refine pu ?_
 refine Kh ?_
 refine KL ?_
 refine Kl ?_
 refine pu ?_
 refine pu ?_
 refine Kh ?_
 refine Ku rfl (fun hc1 => ?_) (fun hc1 => ?_)
 ·replace hm := yes_t hc1 hm
  refine Kl ?_
  refine pu ?_
  refine pu ?_
  refine Kh ?_
  refine Ku rfl (fun hc2 => ?_) (fun hc2 => ?_)
  ·replace hm := yes_t hc2 hm
   refine Kl ?_
   refine pu ?_
   refine Kh ?_
   refine Ks ?_
   refine K0 ?_
   refine KD ?_
   have er3 := Kn hm; subst er3
   refine rP (t' := [(4, iD (17 : Int))]) [] [] 0 (wC wN) (lT lN) ?_
   exact ⟨rfl, rfl, rfl⟩
  ·replace hm := yes_f hc2 hm
   refine Ky ?_
   refine KI ?_
   refine Km ?_
   refine Kl ?_
   refine pu ?_
   refine Kh ?_
   refine Ks ?_
   have er4 := Kn hm; subst er4
   refine rP (t' := [(4, iD (0 : Int))]) [] [] 0 (wC wN) (lT lN) ?_
   exact ⟨rfl, rfl, rfl⟩
 ·replace hm := yes_f hc1 hm
  refine Kl ?_
  refine pu ?_
  refine pu ?_
  refine Kh ?_
  refine Ku rfl (fun hc5 => ?_) (fun hc5 => ?_)
  ·replace hm := yes_t hc5 hm
   refine Kl ?_
   refine pu ?_
   refine pu ?_
   refine Kh ?_
   refine Ku rfl (fun hc6 => ?_) (fun hc6 => ?_)
   ·replace hm := yes_t hc6 hm
    refine Kl ?_
    refine pu ?_
    refine Kh ?_
    refine Ks ?_
    refine K0 ?_
    refine KD ?_
    have er7 := Kn hm; subst er7
    refine rP (t' := [(4, iD (16 : Int))]) [] [] 0 (wC wN) (lT lN) ?_
    exact ⟨rfl, rfl, rfl⟩
   ·replace hm := yes_f hc6 hm
    refine Ky ?_
    refine KI ?_
    refine Km ?_
    refine Kl ?_
    refine pu ?_
    refine Kh ?_
    refine Ks ?_
    have er8 := Kn hm; subst er8
    refine rP (t' := [(4, iD (0 : Int))]) [] [] 0 (wC wN) (lT lN) ?_
    exact ⟨rfl, rfl, rfl⟩
  ·replace hm := yes_f hc5 hm
   refine Kl ?_
   refine pu ?_
   refine pu ?_
   refine Kh ?_
   refine Ku rfl (fun hc9 => ?_) (fun hc9 => ?_)
   ·replace hm := yes_t hc9 hm
    refine Kl ?_
    refine pu ?_
    obtain ⟨x10, q10, hm⟩ := Kf hm
    refine KaJ (KdV a1 (ByteArray.mk #[61, 61]) (14 : Int) (ByteArray.mk #[33, 61]) (15 : Int) x10 q10) rfl rfl rfl rfl rfl Wl ?_
    rintro _ rfl
    refine pu ?_
    refine Kh ?_
    refine Ks ?_
    refine K0 ?_
    refine KD ?_
    have er11 := Kn hm; subst er11
    refine rP (t' := [(4, iD x10)]) [] [] 0 (wC wN) (lT lN) ?_
    exact ⟨rfl, rfl, rfl⟩
   ·replace hm := yes_f hc9 hm
    refine Kl ?_
    refine pu ?_
    refine pu ?_
    refine Kh ?_
    refine Ku rfl (fun hc12 => ?_) (fun hc12 => ?_)
    ·replace hm := yes_t hc12 hm
     refine Kl ?_
     refine pu ?_
     obtain ⟨x13, q13, hm⟩ := Kf hm
     refine KaJ (KdV a1 (ByteArray.mk #[60]) (12 : Int) (ByteArray.mk #[60, 61]) (13 : Int) x13 q13) rfl rfl rfl rfl rfl Wl ?_
     rintro _ rfl
     refine pu ?_
     refine Kh ?_
     refine Ks ?_
     refine K0 ?_
     refine KD ?_
     have er14 := Kn hm; subst er14
     refine rP (t' := [(4, iD x13)]) [] [] 0 (wC wN) (lT lN) ?_
     exact ⟨rfl, rfl, rfl⟩
    ·replace hm := yes_f hc12 hm
     refine Kl ?_
     refine pu ?_
     refine pu ?_
     refine Kh ?_
     refine Ku rfl (fun hc15 => ?_) (fun hc15 => ?_)
     ·replace hm := yes_t hc15 hm
      refine Kl ?_
      refine pu ?_
      obtain ⟨x16, q16, hm⟩ := Kf hm
      refine KaJ (KdV a1 (ByteArray.mk #[43]) (10 : Int) (ByteArray.mk #[45]) (11 : Int) x16 q16) rfl rfl rfl rfl rfl Wl ?_
      rintro _ rfl
      refine pu ?_
      refine Kh ?_
      refine Ks ?_
      refine K0 ?_
      refine KD ?_
      have er17 := Kn hm; subst er17
      refine rP (t' := [(4, iD x16)]) [] [] 0 (wC wN) (lT lN) ?_
      exact ⟨rfl, rfl, rfl⟩
     ·replace hm := yes_f hc15 hm
      refine Kl ?_
      refine pu ?_
      refine pu ?_
      refine Kh ?_
      refine Ku rfl (fun hc18 => ?_) (fun hc18 => ?_)
      ·replace hm := yes_t hc18 hm
       refine Kq ?_
       refine Kl ?_
       refine pu ?_
       refine pu ?_
       refine Kh ?_
       refine Ku rfl (fun hc20 => ?_) (fun hc20 => ?_)
       ·replace hm := yes_t hc20 hm
        refine Kl ?_
        refine pu ?_
        refine Kh ?_
        refine Ks ?_
        refine KD ?_
        refine K0 ?_
        refine KD ?_
        have er21 := Kn hm; subst er21
        refine rP (t' := [(4, iD (9 : Int))]) [] [] 0 (wC wN) (lT lN) ?_
        exact ⟨rfl, rfl, rfl⟩
       ·replace hm := yes_f hc20 hm
        refine Ky ?_
        refine Km ?_
        refine Kl ?_
        refine pu ?_
        obtain ⟨x22, q22, hm⟩ := Kf hm
        refine KaJ (KdV a1 (ByteArray.mk #[42]) (7 : Int) (ByteArray.mk #[47]) (8 : Int) x22 q22) rfl rfl rfl rfl rfl Wl ?_
        rintro _ rfl
        refine pu ?_
        refine Kh ?_
        refine Ks ?_
        refine K0 ?_
        refine KD ?_
        have er23 := Kn hm; subst er23
        refine rP (t' := [(4, iD x22)]) [] [] 0 (wC wN) (lT lN) ?_
        exact ⟨rfl, rfl, rfl⟩
      ·replace hm := yes_f hc18 hm
       refine Ky ?_
       refine KI ?_
       refine Km ?_
       refine Kl ?_
       refine pu ?_
       refine Kh ?_
       refine Ks ?_
       have er24 := Kn hm; subst er24
       refine rP (t' := [(4, iD (0 : Int))]) [] [] 0 (wC wN) (lT lN) ?_
       exact ⟨rfl, rfl, rfl⟩
noncomputable def KaK (g0 : (Kb) → (Int) → Option (Ka × Kb)) (g1 : (Kb) → Option (Ka × Kb)) (g2 : (Kb) → (Ka) → (Int) → (Int) → Option (Ka × Kb)) (g3 : (Kb) → (ByteArray) → Option (Ka × Kb)) (g4 : (Kb) → (Kt) → (Int) → Option (Ka × Kb)) (m0 : Kb) (a1 : Int) : Option (Ka × Kb) :=
 (bif (a1 == (6 : Int)) then ((g1 m0).bind fun x5 => some (x5.1, x5.2)) else ((g0 m0 (IntKind.i64.wrap (a1 + (1 : Int)))).bind fun x7 => (Option.bind (α := List Kt × Int × Int × Int × Int × ByteArray × List Ka × Int) (loopM (fun (s51 : List Kt × Int × Int × Int × Int × ByteArray × List Ka × Int) => (bif (s51.2.2.1 == (0 : Int)) then ((KaQ (⟨s51.1, s51.2.1, s51.2.2.1⟩ : Kb)).bind fun x79 => (Option.bind (α := Int) (bif (x79.gKind == (3 : Int)) then ((Kbl a1 x79.gText).bind fun x85 => some x85) else some (0 : Int)) fun y83 => (bif (y83 == (0 : Int)) then some (.done (s51.1, s51.2.1, s51.2.2.1, s51.2.2.2.1, s51.2.2.2.2.1, s51.2.2.2.2.2.1, s51.2.2.2.2.2.2.1, s51.2.2.2.2.2.2.2)) else ((g0 (⟨s51.1, (IntKind.i64.wrap (s51.2.1 + (1 : Int))), s51.2.2.1⟩ : Kb) (IntKind.i64.wrap (a1 + (1 : Int)))).bind fun x87 => ((Kag x87.2 (⟨y83, (0 : Int), ByteArray.empty, ([(⟨s51.2.2.2.1, s51.2.2.2.2.1, s51.2.2.2.2.2.1, s51.2.2.2.2.2.2.1, s51.2.2.2.2.2.2.2⟩ : Ka), x87.1] : List Ka), x79.gAt⟩ : Ka) s51.2.1).bind fun x89 => some (.next (x89.2.gL, x89.2.gAt, x89.2.gE, x89.1.gOp, x89.1.gN, x89.1.gName, x89.1.gKids, x89.1.gAt))))))) else some (.done (s51.1, s51.2.1, s51.2.2.1, s51.2.2.2.1, s51.2.2.2.2.1, s51.2.2.2.2.2.1, s51.2.2.2.2.2.2.1, s51.2.2.2.2.2.2.2)))) (x7.2.gL, x7.2.gAt, x7.2.gE, x7.1.gOp, x7.1.gN, x7.1.gName, x7.1.gKids, x7.1.gAt)) fun y50 => some ((⟨y50.2.2.2.1, y50.2.2.2.2.1, y50.2.2.2.2.2.1, y50.2.2.2.2.2.2.1, y50.2.2.2.2.2.2.2⟩ : Ka), (⟨y50.1, y50.2.1, y50.2.2.1⟩ : Kb)))))
theorem Khd (g0 : (Kb) → (Int) → Option (Ka × Kb)) (g1 : (Kb) → Option (Ka × Kb)) (g2 : (Kb) → (Ka) → (Int) → (Int) → Option (Ka × Kb)) (g3 : (Kb) → (ByteArray) → Option (Ka × Kb)) (g4 : (Kb) → (Kt) → (Int) → Option (Ka × Kb)) (hg0 : ∀ (m0 : Kb) (a1 : Int) (o0 : Nat) (T0 : TypeId) (c0_0 : Cap) (r : Ka × Kb) (h0 : g0 m0 a1 = some r), CallsD Try.prog 91 [.ptr o0 0, iD a1] [(o0, Blk.cells [.lst 4 (m0.gL.map Kc) c0_0, iD m0.gAt, iD m0.gE] T0)] [] (fun d h k => d = Kg r.1 ∧ h = [(o0, Blk.cells [.lst 4 (r.2.gL.map Kc) .no, iD r.2.gAt, iD r.2.gE] T0)] ∧ k = [])) (hg1 : ∀ (m0 : Kb) (o0 : Nat) (T0 : TypeId) (c0_0 : Cap) (r : Ka × Kb) (h0 : g1 m0 = some r), CallsD Try.prog 95 [.ptr o0 0] [(o0, Blk.cells [.lst 4 (m0.gL.map Kc) c0_0, iD m0.gAt, iD m0.gE] T0)] [] (fun d h k => d = Kg r.1 ∧ h = [(o0, Blk.cells [.lst 4 (r.2.gL.map Kc) .no, iD r.2.gAt, iD r.2.gE] T0)] ∧ k = [])) (hg2 : ∀ (m0 : Kb) (a1 : Ka) (a2 : Int) (a3 : Int) (o0 : Nat) (T0 : TypeId) (c0_0 : Cap) (r : Ka × Kb) (h0 : g2 m0 a1 a2 a3 = some r), CallsD Try.prog 99 [.ptr o0 0, Kg a1, iD a2, iD a3] [(o0, Blk.cells [.lst 4 (m0.gL.map Kc) c0_0, iD m0.gAt, iD m0.gE] T0)] [] (fun d h k => d = Kg r.1 ∧ h = [(o0, Blk.cells [.lst 4 (r.2.gL.map Kc) .no, iD r.2.gAt, iD r.2.gE] T0)] ∧ k = [])) (hg3 : ∀ (m0 : Kb) (a1 : ByteArray) (o0 : Nat) (T0 : TypeId) (c0_0 : Cap) (r : Ka × Kb) (h0 : g3 m0 a1 = some r), CallsD Try.prog 105 [.ptr o0 0, tD a1] [(o0, Blk.cells [.lst 4 (m0.gL.map Kc) c0_0, iD m0.gAt, iD m0.gE] T0)] [] (fun d h k => d = Kg r.1 ∧ h = [(o0, Blk.cells [.lst 4 (r.2.gL.map Kc) .no, iD r.2.gAt, iD r.2.gE] T0)] ∧ k = [])) (hg4 : ∀ (m0 : Kb) (a1 : Kt) (a2 : Int) (o0 : Nat) (T0 : TypeId) (c0_0 : Cap) (r : Ka × Kb) (h0 : g4 m0 a1 a2 = some r), CallsD Try.prog 100 [.ptr o0 0, Kc a1, iD a2] [(o0, Blk.cells [.lst 4 (m0.gL.map Kc) c0_0, iD m0.gAt, iD m0.gE] T0)] [] (fun d h k => d = Kg r.1 ∧ h = [(o0, Blk.cells [.lst 4 (r.2.gL.map Kc) .no, iD r.2.gAt, iD r.2.gE] T0)] ∧ k = [])) (m0 : Kb) (a1 : Int) (o0 : Nat) (T0 : TypeId) (c0_0 : Cap) (r : Ka × Kb) (h0 : KaK g0 g1 g2 g3 g4 m0 a1 = some r) : CallsD Try.prog 91 [.ptr o0 0, iD a1] [(o0, Blk.cells [.lst 4 (m0.gL.map Kc) c0_0, iD m0.gAt, iD m0.gE] T0)] [] (fun d h k => d = Kg r.1 ∧ h = [(o0, Blk.cells [.lst 4 (r.2.gL.map Kc) .no, iD r.2.gAt, iD r.2.gE] T0)] ∧ k = []) := by
 have hm := KE h0
 unfold KaK at hm
 clear h0
 refine KW htab Try.func91 rfl rfl rfl rfl rfl (fun C => ?_)
 refine Kl ?_
 refine KP htab rfl rfl rfl rfl rfl rfl rfl (fun b1 => ?_)
 refine Kh ?_
 refine Kq ?_
 refine Kl ?_
 refine pu ?_
 refine pu ?_
 refine Kh ?_
 refine Ku rfl (fun hc4 => ?_) (fun hc4 => ?_)
 ·replace hm := yes_t hc4 hm
  refine Kl ?_
  refine pu ?_
  obtain ⟨x5, q5, hm⟩ := Kf hm
  refine pG (hg1 m0 o0 T0 c0_0 x5 q5) Wl Pf Pf ?_
  rintro _ _ _ ⟨rfl, rfl, rfl⟩
  refine p_eq (i := 13) rfl (Wk.of_eq (Kk x5.1)) ?_
  refine pS1 (ds' := [iD x5.1.gOp, iD x5.1.gN, tD x5.1.gName, .lst 5 (x5.1.gKids.map Kg) .no, iD x5.1.gAt]) ?_
  refine Kh ?_
  refine Ks ?_
  refine KD ?_
  have er6 := Kn hm; subst er6
  refine rP (t' := [(4, .ptr b1 0)]) [0,0] [] 1 (wC wN) (lC 1 lN) ?_
  exact ⟨by first | rfl | (simp only [wrapD, Kk]; done) | (simp only [wrapD, Kk]; rfl), rfl, rfl⟩
 ·replace hm := yes_f hc4 hm
  refine Ky ?_
  refine Km ?_
  refine Kl ?_
  iterate 3 refine pu ?_
  obtain ⟨x7, q7, hm⟩ := Kf hm
  refine pG (hg0 m0 (IntKind.i64.wrap (a1 + (1 : Int))) o0 T0 c0_0 x7 q7) Wl Pf Pf ?_
  rintro _ _ _ ⟨rfl, rfl, rfl⟩
  refine p_eq (i := 17) rfl (Wk.of_eq (Kk x7.1)) ?_
  refine KP htab rfl rfl rfl rfl rfl rfl rfl (fun b8 => ?_)
  refine pS2 (ds' := [iD x7.1.gOp, iD x7.1.gN, tD x7.1.gName, .lst 5 (x7.1.gKids.map Kg) .no, iD x7.1.gAt]) ?_
  refine Kh ?_
  refine Kq ?_
  obtain ⟨y50, q50, ho50⟩ := Kf hm
  refine K6 (Y := Unit) (fun z50 => (⟨[(4, .ptr b1 0), (5, .ptr b8 0)], [(o0, Blk.cells [.lst 4 (y50.1.map Kc) .no, iD y50.2.1, iD y50.2.2.1] T0), (b1, Blk.cells [iD (0 : Int), iD (0 : Int), tD ByteArray.empty, .lst 1 [] .full, iD (0 : Int)] 100), (b8, Blk.cells [iD y50.2.2.2.1, iD y50.2.2.2.2.1, tD y50.2.2.2.2.2.1, .lst 5 (y50.2.2.2.2.2.2.1.map Kg) .no, iD y50.2.2.2.2.2.2.2] 100)], []⟩ : S)) ?_ ?_
  ·clear hm; have hm := KE q50
   refine KL ?_
   obtain ⟨u51, hl51, hq51⟩ := yes_m hm
   refine Kbe (Y := Unit) hl51 (fun s51 z51 => (⟨[(0, .ptr o0 0), (1, iD a1), (4, .ptr b1 0), (5, .ptr b8 0)], [(o0, Blk.cells [.lst 4 (s51.1.map Kc) .no, iD s51.2.1, iD s51.2.2.1] T0), (b1, Blk.cells [iD (0 : Int), iD (0 : Int), tD ByteArray.empty, .lst 1 [] .full, iD (0 : Int)] 100), (b8, Blk.cells [iD s51.2.2.2.1, iD s51.2.2.2.2.1, tD s51.2.2.2.2.2.1, .lst 5 (s51.2.2.2.2.2.2.1.map Kg) .no, iD s51.2.2.2.2.2.2.2] 100)], []⟩ : S)) ?_ ?_
   ·skip
    exact WkX.of () (WkS.perm (WkS.cons rfl (Wk.refl _) (WkS.cons rfl (Wk.refl _) (WkS.cons rfl (Wk.refl _) (WkS.cons rfl (Wk.refl _) (WkS.nil))))) Pf Pf)
   ·intro G51 s51 z51 hm
    refine Kq ?_
    refine Kl ?_
    iterate 3 refine pu ?_
    refine pL 0 ?_
    refine pu ?_
    refine Kh ?_
    refine Ku rfl (fun hc78 => ?_) (fun hc78 => ?_)
    ·replace hm := yes_t hc78 hm
     refine Ky ?_
     refine Km ?_
     refine KL ?_
     refine Kq ?_
     obtain ⟨x79, q79, hm⟩ := Kf hm
     refine KeO 8 [(6, [iD (0 : Int), tD ByteArray.empty, iD (0 : Int), iD (0 : Int)], 69)] [(6, 7, [iD x79.gKind, tD x79.gText, iD x79.gN, iD x79.gAt])] [[],[0],[],[2],[2,3],[2,3,4],[],[0,1,6]] [0,1,2,3,4,6,7] [[],[0],[],[2],[2,3],[2,3,4],[],[0,1,6],[0,1,2,3,4,5,6,7]] (by kernel_rfl) (by kernel_rfl) (by kernel_rfl) (by rfl) (by rfl) (by kernel_rfl) ?_
     iterate 5 apply Exists.intro
     refine ⟨.any, ?_⟩
     refine ⟨.any, ?_⟩
     intro bs
     refine zf_e rfl rfl (KT htab rfl) rfl rfl rfl rfl rfl rfl rfl ?_
     refine Kgf 0 rfl rfl (KcG (⟨s51.1, s51.2.1, s51.2.2.1⟩ : Kb) o0 T0 .no x79 q79) rfl rfl Wl rfl rfl rfl rfl rfl rfl rfl rfl ?_
     iterate 3 refine zf_e rfl rfl (KT htab rfl) rfl rfl rfl rfl rfl rfl rfl ?_
     refine zf_qM rfl rfl (KF 0 htab rfl rfl rfl rfl rfl) rfl rfl rfl rfl rfl rfl ?_
     refine Kfj rfl htab rfl rfl rfl rfl rfl rfl rfl rfl rfl rfl (by simp [dOf, eI64]) (by simp) ?_
     refine Kf4 (e := 6) (zs := [iD (0 : Int), tD ByteArray.empty, iD (0 : Int), iD (0 : Int)]) (T' := 69) (ds' := [iD x79.gKind, tD x79.gText, iD x79.gN, iD x79.gAt]) htab rfl rfl rfl rfl rfl rfl rfl rfl rfl (by simp) (by simp) rfl rfl rfl rfl rfl rfl rfl rfl rfl ?_
     refine Kg9 (h' := [(o0, Blk.cells [.lst 4 (s51.1.map Kc) .no, iD s51.2.1, iD s51.2.2.1] T0), (b1, Blk.cells [iD (0 : Int), iD (0 : Int), tD ByteArray.empty, .lst 1 [] .full, iD (0 : Int)] 100), (b8, Blk.cells [iD s51.2.2.2.1, iD s51.2.2.2.2.1, tD s51.2.2.2.2.2.1, .lst 5 (s51.2.2.2.2.2.2.1.map Kg) .no, iD s51.2.2.2.2.2.2.2] 100), (bs 6, Blk.cells [iD x79.gKind, tD x79.gText, iD x79.gN, iD x79.gAt] 69)]) rfl rfl rfl (fun e he => by simp [isAl] at he; subst he; rfl) ?_
     obtain ⟨b80, hb80⟩ : ∃ b, bs 6 = b := ⟨_, rfl⟩
     simp only [hb80]
     clear hb80
     refine pu ?_
     refine Kv ?_
     refine pu ?_
     refine Kh ?_
     refine Kq ?_
     refine Kl ?_
     refine pu ?_
     refine pL 3 ?_
     refine pu ?_
     refine Kh ?_
     obtain ⟨y83, q83, ho83⟩ := Kf hm
     refine K6 (Y := Unit) (fun z83 => (⟨[(0, .ptr o0 0), (1, iD a1), (4, .ptr b1 0), (5, .ptr b8 0), (6, .ptr b80 0), (7, iD s51.2.1), (8, iD y83)], [(o0, Blk.cells [.lst 4 (s51.1.map Kc) .no, iD s51.2.1, iD s51.2.2.1] T0), (b1, Blk.cells [iD (0 : Int), iD (0 : Int), tD ByteArray.empty, .lst 1 [] .full, iD (0 : Int)] 100), (b8, Blk.cells [iD s51.2.2.2.1, iD s51.2.2.2.2.1, tD s51.2.2.2.2.2.1, .lst 5 (s51.2.2.2.2.2.2.1.map Kg) .no, iD s51.2.2.2.2.2.2.2] 100), (b80, Blk.cells [iD x79.gKind, tD x79.gText, iD x79.gN, iD x79.gAt] 69)], []⟩ : S)) ?_ ?_
     ·clear hm; have hm := KE q83
      refine Ku rfl (fun hc84 => ?_) (fun hc84 => ?_)
      ·replace hm := yes_t hc84 hm
       refine KC ?_
       refine pu ?_
       refine pu ?_
       refine pL 3 ?_
       obtain ⟨x85, q85, hm⟩ := Kf hm
       refine KaJ (KiY a1 x79.gText x85 q85) rfl rfl rfl rfl rfl Wl ?_
       rintro _ rfl
       refine pu ?_
       refine KB ?_
       have e83 := Kn hm; subst e83
       refine ⟨rfl, ?_⟩
       exact WkX.of () (WkS.perm (WkS.cons rfl (Wk.refl _) (WkS.cons rfl (Wk.refl _) (WkS.cons rfl (Wk.refl _) (WkS.cons rfl (Wk.refl _) (WkS.cons rfl (Wk.refl _) (WkS.cons rfl (Wk.refl _) (WkS.cons rfl (Wk.refl _) (WkS.nil)))))))) Pf Pf)
      ·replace hm := yes_f hc84 hm
       refine Ky ?_
       have e83 := Kn hm; subst e83
       refine ⟨rfl, ?_⟩
       exact WkX.of () (WkS.perm (WkS.cons rfl (Wk.refl _) (WkS.cons rfl (Wk.refl _) (WkS.cons rfl (Wk.refl _) (WkS.cons rfl (Wk.refl _) (WkS.cons rfl (Wk.refl _) (WkS.cons rfl (Wk.refl _) (WkS.cons rfl (Wk.refl _) (WkS.nil)))))))) Pf Pf)
     ·intro s83 hw83; clear hm; have hm := ho83; clear q83 ho83
      refine Km ?_
      refine K3 hw83 (fun z83 => ?_)
      refine Kq ?_
      refine Kl ?_
      refine pu ?_
      refine pu ?_
      refine Kh ?_
      refine Ku rfl (fun hc86 => ?_) (fun hc86 => ?_)
      ·replace hm := yes_t hc86 hm
       refine Kay ?_
       refine KN ?_
       refine Ke2 rfl ?_
       have e51 := Kaq hm; subst e51; clear hm; have hm := hq51
       refine KN ?_
       refine Kao ?_
       have e50 := Kn hm; subst e50
       refine ⟨rfl, ?_⟩
       exact WkX.of () (WkS.perm (WkS.cons rfl (Wk.refl _) (WkS.cons rfl (Wk.refl _) (WkS.nil))) Pf Pf)
      ·replace hm := yes_f hc86 hm
       refine Ky ?_
       refine Km ?_
       refine Kl ?_
       iterate 3 refine pu ?_
       refine pL 0 ?_
       iterate 3 refine pu ?_
       refine pS0 (ds' := [.lst 4 (s51.1.map Kc) .no, iD (IntKind.i64.wrap (s51.2.1 + (1 : Int))), iD s51.2.2.1]) ?_
       refine Kv ?_
       iterate 3 refine pu ?_
       obtain ⟨x87, q87, hm⟩ := Kf hm
       refine pG (hg0 (⟨s51.1, (IntKind.i64.wrap (s51.2.1 + (1 : Int))), s51.2.2.1⟩ : Kb) (IntKind.i64.wrap (a1 + (1 : Int))) o0 T0 .no x87 q87) Wl Pf Pf ?_
       rintro _ _ _ ⟨rfl, rfl, rfl⟩
       refine p_eq (i := 48) rfl (Wk.of_eq (Kk x87.1)) ?_
       refine KP htab rfl rfl rfl rfl rfl rfl rfl (fun b88 => ?_)
       refine pS4 (ds' := [iD x87.1.gOp, iD x87.1.gN, tD x87.1.gName, .lst 5 (x87.1.gKids.map Kg) .no, iD x87.1.gAt]) ?_
       refine Kh ?_
       refine KC ?_
       refine pu ?_
       refine pu ?_
       refine K7 (d := .agg [iD s51.2.2.2.1, iD s51.2.2.2.2.1, tD s51.2.2.2.2.2.1, .lst 5 (s51.2.2.2.2.2.2.1.map Kg) .no, iD s51.2.2.2.2.2.2.2]) 2 htab rfl rfl rfl rfl rfl rfl rfl rfl ?_
       refine K7 (d := .agg [iD x87.1.gOp, iD x87.1.gN, tD x87.1.gName, .lst 5 (x87.1.gKids.map Kg) .no, iD x87.1.gAt]) 4 htab rfl rfl rfl rfl rfl rfl rfl rfl ?_
       refine p_lit htab rfl rfl rfl rfl rfl rfl rfl rfl rfl rfl rfl rfl rfl rfl ?_
       refine p_eq (i := 53) (d' := .lst 5 (([(⟨s51.2.2.2.1, s51.2.2.2.2.1, s51.2.2.2.2.2.1, s51.2.2.2.2.2.2.1, s51.2.2.2.2.2.2.2⟩ : Ka), x87.1] : List Ka).map Kg) .full) rfl (Wk.lst0 (.cons (WkC.trans (WkC.agg (WkR.refl _)) (WkC.of_eq (Kk (⟨s51.2.2.2.1, s51.2.2.2.2.1, s51.2.2.2.2.2.1, s51.2.2.2.2.2.2.1, s51.2.2.2.2.2.2.2⟩ : Ka)).symm)) (.cons (WkC.trans (WkC.agg (WkR.refl _)) (WkC.of_eq (Kk x87.1).symm)) (.nil)))) ?_
       refine pu ?_
       refine pL 3 ?_
       refine Kal (r := [iD y83, iD (0 : Int), tD ByteArray.empty, .lst 5 (([(⟨s51.2.2.2.1, s51.2.2.2.2.1, s51.2.2.2.2.2.1, s51.2.2.2.2.2.2.1, s51.2.2.2.2.2.2.2⟩ : Ka), x87.1] : List Ka).map Kg) .full, iD x79.gAt]) htab rfl rfl rfl rfl rfl rfl rfl rfl rfl ?_
       refine pu ?_
       obtain ⟨x89, q89, hm⟩ := Kf hm
       refine Kam (KdF x87.2 (⟨y83, (0 : Int), ByteArray.empty, ([(⟨s51.2.2.2.1, s51.2.2.2.2.1, s51.2.2.2.2.2.1, s51.2.2.2.2.2.2.1, s51.2.2.2.2.2.2.2⟩ : Ka), x87.1] : List Ka), x79.gAt⟩ : Ka) s51.2.1 o0 T0 .no x89 q89) rfl rfl rfl rfl rfl (WkL.cons (Wk.refl _) (WkL.cons (Wk.trans (Wk.agg (rC (rC (rC (rO (rC WkR.nil)))))) (Wk.of_eq (Kk (⟨y83, (0 : Int), ByteArray.empty, ([(⟨s51.2.2.2.1, s51.2.2.2.2.1, s51.2.2.2.2.2.1, s51.2.2.2.2.2.2.1, s51.2.2.2.2.2.2.2⟩ : Ka), x87.1] : List Ka), x79.gAt⟩ : Ka)).symm)) (WkL.cons (Wk.refl _) Wl))) Pf Pf ?_
       rintro _ _ _ ⟨rfl, rfl, rfl⟩
       refine p_eq (i := 58) rfl (Wk.of_eq (Kk x89.1)) ?_
       refine pS2 (ds' := [iD x89.1.gOp, iD x89.1.gN, tD x89.1.gName, .lst 5 (x89.1.gKids.map Kg) .no, iD x89.1.gAt]) ?_
       refine KB ?_
       refine KI ?_
       refine Km ⟨_, KaR hm, ?_⟩
       exact WkX.of () (WkS.perm (WkS.cons rfl (Wk.refl _) (WkS.cons rfl (Wk.refl _) (WkS.cons rfl (Wk.refl _) (WkS.cons rfl (Wk.refl _) (WkS.nil))))) Pf Pf)
    ·replace hm := yes_f hc78 hm
     refine Kay ?_
     refine KN ?_
     have e51 := Kaq hm; subst e51; clear hm; have hm := hq51
     refine KN ?_
     refine Kao ?_
     have e50 := Kn hm; subst e50
     refine ⟨rfl, ?_⟩
     exact WkX.of () (WkS.perm (WkS.cons rfl (Wk.refl _) (WkS.cons rfl (Wk.refl _) (WkS.nil))) Pf Pf)
  ·intro s50 hw50; clear hm; have hm := ho50; clear q50 ho50
   refine Km ?_
   refine K3 hw50 (fun z50 => ?_)
   refine Kl ?_
   refine K7 (d := .agg [iD y50.2.2.2.1, iD y50.2.2.2.2.1, tD y50.2.2.2.2.2.1, .lst 5 (y50.2.2.2.2.2.2.1.map Kg) .no, iD y50.2.2.2.2.2.2.2]) 2 htab rfl rfl rfl rfl rfl rfl rfl rfl ?_
   refine pS1 (ds' := [iD y50.2.2.2.1, iD y50.2.2.2.2.1, tD y50.2.2.2.2.2.1, .lst 5 (y50.2.2.2.2.2.2.1.map Kg) .no, iD y50.2.2.2.2.2.2.2]) ?_
   refine Kh ?_
   refine Ks ?_
   have er90 := Kn hm; subst er90
   refine rP (t' := [(4, .ptr b1 0)]) [0,0] [] 1 (wC wN) (lC 1 lN) ?_
   exact ⟨by first | rfl | (simp only [wrapD, Kk]; done) | (simp only [wrapD, Kk]; rfl), rfl, rfl⟩
noncomputable def KaV (g0 : (Kb) → (Int) → Option (Ka × Kb)) (g1 : (Kb) → Option (Ka × Kb)) (g2 : (Kb) → (Ka) → (Int) → (Int) → Option (Ka × Kb)) (g3 : (Kb) → (ByteArray) → Option (Ka × Kb)) (g4 : (Kb) → (Kt) → (Int) → Option (Ka × Kb)) (m0 : Kb) : Option (Ka × Kb) :=
 ((KaQ m0).bind fun x2 => (bif (m0.gE != (0 : Int)) then some ((⟨(0 : Int), (0 : Int), ByteArray.empty, [], (0 : Int)⟩ : Ka), m0) else (bif (x2.gKind == (2 : Int)) then some ((⟨(1 : Int), x2.gN, ByteArray.empty, [], x2.gAt⟩ : Ka), (⟨m0.gL, (IntKind.i64.wrap (m0.gAt + (1 : Int))), m0.gE⟩ : Kb)) else (bif (x2.gKind == (1 : Int)) then ((g2 (⟨m0.gL, (IntKind.i64.wrap (m0.gAt + (1 : Int))), m0.gE⟩ : Kb) (⟨(2 : Int), (0 : Int), x2.gText, [], x2.gAt⟩ : Ka) (3 : Int) m0.gAt).bind fun x24 => some (x24.1, x24.2)) else (bif (x2.gKind == (3 : Int)) then ((g4 (⟨m0.gL, (IntKind.i64.wrap (m0.gAt + (1 : Int))), m0.gE⟩ : Kb) x2 m0.gAt).bind fun x29 => some (x29.1, x29.2)) else ((KaC (⟨m0.gL, (IntKind.i64.wrap (m0.gAt + (1 : Int))), m0.gE⟩ : Kb) m0.gAt (3 : Int)).bind fun x31 => some ((⟨(0 : Int), (0 : Int), ByteArray.empty, [], (0 : Int)⟩ : Ka), x31)))))))
theorem KgX (g0 : (Kb) → (Int) → Option (Ka × Kb)) (g1 : (Kb) → Option (Ka × Kb)) (g2 : (Kb) → (Ka) → (Int) → (Int) → Option (Ka × Kb)) (g3 : (Kb) → (ByteArray) → Option (Ka × Kb)) (g4 : (Kb) → (Kt) → (Int) → Option (Ka × Kb)) (hg0 : ∀ (m0 : Kb) (a1 : Int) (o0 : Nat) (T0 : TypeId) (c0_0 : Cap) (r : Ka × Kb) (h0 : g0 m0 a1 = some r), CallsD Try.prog 91 [.ptr o0 0, iD a1] [(o0, Blk.cells [.lst 4 (m0.gL.map Kc) c0_0, iD m0.gAt, iD m0.gE] T0)] [] (fun d h k => d = Kg r.1 ∧ h = [(o0, Blk.cells [.lst 4 (r.2.gL.map Kc) .no, iD r.2.gAt, iD r.2.gE] T0)] ∧ k = [])) (hg1 : ∀ (m0 : Kb) (o0 : Nat) (T0 : TypeId) (c0_0 : Cap) (r : Ka × Kb) (h0 : g1 m0 = some r), CallsD Try.prog 95 [.ptr o0 0] [(o0, Blk.cells [.lst 4 (m0.gL.map Kc) c0_0, iD m0.gAt, iD m0.gE] T0)] [] (fun d h k => d = Kg r.1 ∧ h = [(o0, Blk.cells [.lst 4 (r.2.gL.map Kc) .no, iD r.2.gAt, iD r.2.gE] T0)] ∧ k = [])) (hg2 : ∀ (m0 : Kb) (a1 : Ka) (a2 : Int) (a3 : Int) (o0 : Nat) (T0 : TypeId) (c0_0 : Cap) (r : Ka × Kb) (h0 : g2 m0 a1 a2 a3 = some r), CallsD Try.prog 99 [.ptr o0 0, Kg a1, iD a2, iD a3] [(o0, Blk.cells [.lst 4 (m0.gL.map Kc) c0_0, iD m0.gAt, iD m0.gE] T0)] [] (fun d h k => d = Kg r.1 ∧ h = [(o0, Blk.cells [.lst 4 (r.2.gL.map Kc) .no, iD r.2.gAt, iD r.2.gE] T0)] ∧ k = [])) (hg3 : ∀ (m0 : Kb) (a1 : ByteArray) (o0 : Nat) (T0 : TypeId) (c0_0 : Cap) (r : Ka × Kb) (h0 : g3 m0 a1 = some r), CallsD Try.prog 105 [.ptr o0 0, tD a1] [(o0, Blk.cells [.lst 4 (m0.gL.map Kc) c0_0, iD m0.gAt, iD m0.gE] T0)] [] (fun d h k => d = Kg r.1 ∧ h = [(o0, Blk.cells [.lst 4 (r.2.gL.map Kc) .no, iD r.2.gAt, iD r.2.gE] T0)] ∧ k = [])) (hg4 : ∀ (m0 : Kb) (a1 : Kt) (a2 : Int) (o0 : Nat) (T0 : TypeId) (c0_0 : Cap) (r : Ka × Kb) (h0 : g4 m0 a1 a2 = some r), CallsD Try.prog 100 [.ptr o0 0, Kc a1, iD a2] [(o0, Blk.cells [.lst 4 (m0.gL.map Kc) c0_0, iD m0.gAt, iD m0.gE] T0)] [] (fun d h k => d = Kg r.1 ∧ h = [(o0, Blk.cells [.lst 4 (r.2.gL.map Kc) .no, iD r.2.gAt, iD r.2.gE] T0)] ∧ k = [])) (m0 : Kb) (o0 : Nat) (T0 : TypeId) (c0_0 : Cap) (r : Ka × Kb) (h0 : KaV g0 g1 g2 g3 g4 m0 = some r) : CallsD Try.prog 95 [.ptr o0 0] [(o0, Blk.cells [.lst 4 (m0.gL.map Kc) c0_0, iD m0.gAt, iD m0.gE] T0)] [] (fun d h k => d = Kg r.1 ∧ h = [(o0, Blk.cells [.lst 4 (r.2.gL.map Kc) .no, iD r.2.gAt, iD r.2.gE] T0)] ∧ k = []) := by
 have hm := KE h0
 unfold KaV at hm
 clear h0
 refine KW htab Try.func95 rfl rfl rfl rfl rfl (fun C => ?_)
 refine Kl ?_
 refine KP htab rfl rfl rfl rfl rfl rfl rfl (fun b1 => ?_)
 refine Kh ?_
 refine Kq ?_
 obtain ⟨x2, q2, hm⟩ := Kf hm
 refine KeO 8 [(6, [iD (0 : Int), tD ByteArray.empty, iD (0 : Int), iD (0 : Int)], 69)] [(6, 7, [iD x2.gKind, tD x2.gText, iD x2.gN, iD x2.gAt])] [[],[0],[],[2],[2,3],[2,3,4],[],[0,1,6]] [0,1,2,3,4,6,7] [[],[0],[],[2],[2,3],[2,3,4],[],[0,1,6],[0,1,2,3,4,5,6,7]] (by kernel_rfl) (by kernel_rfl) (by kernel_rfl) (by rfl) (by rfl) (by kernel_rfl) ?_
 iterate 5 apply Exists.intro
 refine ⟨.any, ?_⟩
 refine ⟨.any, ?_⟩
 intro bs
 refine zf_e rfl rfl (KT htab rfl) rfl rfl rfl rfl rfl rfl rfl ?_
 refine Kgf 0 rfl rfl (KcG m0 o0 T0 c0_0 x2 q2) rfl rfl Wl rfl rfl rfl rfl rfl rfl rfl rfl ?_
 iterate 3 refine zf_e rfl rfl (KT htab rfl) rfl rfl rfl rfl rfl rfl rfl ?_
 refine zf_qM rfl rfl (KF 0 htab rfl rfl rfl rfl rfl) rfl rfl rfl rfl rfl rfl ?_
 refine Kfj rfl htab rfl rfl rfl rfl rfl rfl rfl rfl rfl rfl (by simp [dOf, eI64]) (by simp) ?_
 refine Kf4 (e := 6) (zs := [iD (0 : Int), tD ByteArray.empty, iD (0 : Int), iD (0 : Int)]) (T' := 69) (ds' := [iD x2.gKind, tD x2.gText, iD x2.gN, iD x2.gAt]) htab rfl rfl rfl rfl rfl rfl rfl rfl rfl (by simp) (by simp) rfl rfl rfl rfl rfl rfl rfl rfl rfl ?_
 refine Kg9 (h' := [(o0, Blk.cells [.lst 4 (m0.gL.map Kc) c0_0, iD m0.gAt, iD m0.gE] T0), (b1, Blk.cells [iD (0 : Int), iD (0 : Int), tD ByteArray.empty, .lst 1 [] .full, iD (0 : Int)] 100), (bs 6, Blk.cells [iD x2.gKind, tD x2.gText, iD x2.gN, iD x2.gAt] 69)]) rfl rfl rfl (fun e he => by simp [isAl] at he; subst he; rfl) ?_
 obtain ⟨b3, hb3⟩ : ∃ b, bs 6 = b := ⟨_, rfl⟩
 simp only [hb3]
 clear hb3
 refine pu ?_
 refine Kh ?_
 refine Kq ?_
 refine Kl ?_
 iterate 3 refine pu ?_
 refine pL 0 ?_
 refine pu ?_
 refine Kh ?_
 refine Ku rfl (fun hc5 => ?_) (fun hc5 => ?_)
 ·replace hm := yes_t hc5 hm
  refine Kl ?_
  refine Kal (r := [iD (0 : Int), iD (0 : Int), tD ByteArray.empty, .lst 1 [] .full, iD (0 : Int)]) htab rfl rfl rfl rfl rfl rfl rfl rfl rfl ?_
  refine pS1 (ds' := [iD (0 : Int), iD (0 : Int), tD ByteArray.empty, .lst 1 [] .full, iD (0 : Int)]) ?_
  refine Kh ?_
  refine Ks ?_
  refine KD ?_
  have er6 := Kn hm; subst er6
  refine retX.wk (WkS.bl1 (ds' := [iD (0 : Int), iD (0 : Int), tD ByteArray.empty, .lst 5 (([] : List Ka).map Kg) .no, iD (0 : Int)]) (rC (rC (rC (WkR.cons (WkC.nil) rfl (rC WkR.nil)))))) ?_
  refine retX.wk (WkS.bl0 (ds' := [.lst 4 (m0.gL.map Kc) .no, iD m0.gAt, iD m0.gE]) (rO (rC (rC WkR.nil)))) ?_
  refine rP (t' := [(2, .ptr b1 0)]) [0,0] [] 1 (wC wN) (lC 1 lN) ?_
  exact ⟨by first | rfl | (simp only [wrapD, Kk]; done) | (simp only [wrapD, Kk]; rfl), rfl, rfl⟩
 ·replace hm := yes_f hc5 hm
  refine Ky ?_
  refine Km ?_
  refine Kl ?_
  iterate 3 refine pu ?_
  refine pL 0 ?_
  iterate 3 refine pu ?_
  refine pS0 (ds' := [.lst 4 (m0.gL.map Kc) c0_0, iD (IntKind.i64.wrap (m0.gAt + (1 : Int))), iD m0.gE]) ?_
  refine Kh ?_
  refine Kq ?_
  refine Kl ?_
  refine pu ?_
  refine pL 2 ?_
  refine Kh ?_
  refine KL ?_
  refine Kl ?_
  refine pu ?_
  refine pu ?_
  refine Kh ?_
  refine Ku rfl (fun hc17 => ?_) (fun hc17 => ?_)
  ·replace hm := yes_t hc17 hm
   refine Kl ?_
   refine pu ?_
   refine pL 2 ?_
   refine pu ?_
   refine pL 2 ?_
   refine Kal (r := [iD (1 : Int), iD x2.gN, tD ByteArray.empty, .lst 1 [] .full, iD x2.gAt]) htab rfl rfl rfl rfl rfl rfl rfl rfl rfl ?_
   refine pS1 (ds' := [iD (1 : Int), iD x2.gN, tD ByteArray.empty, .lst 1 [] .full, iD x2.gAt]) ?_
   refine Kh ?_
   refine Ks ?_
   refine K0 ?_
   refine KD ?_
   have er18 := Kn hm; subst er18
   refine retX.wk (WkS.bl1 (ds' := [iD (1 : Int), iD x2.gN, tD ByteArray.empty, .lst 5 (([] : List Ka).map Kg) .no, iD x2.gAt]) (rC (rC (rC (WkR.cons (WkC.nil) rfl (rC WkR.nil)))))) ?_
   refine retX.wk (WkS.bl0 (ds' := [.lst 4 (m0.gL.map Kc) .no, iD (IntKind.i64.wrap (m0.gAt + (1 : Int))), iD m0.gE]) (rO (rC (rC WkR.nil)))) ?_
   refine rP (t' := [(2, .ptr b1 0)]) [0,0] [] 1 (wC wN) (lC 1 lN) ?_
   exact ⟨by first | rfl | (simp only [wrapD, Kk]; done) | (simp only [wrapD, Kk]; rfl), rfl, rfl⟩
  ·replace hm := yes_f hc17 hm
   refine Kl ?_
   refine pu ?_
   refine pu ?_
   refine Kh ?_
   refine Ku rfl (fun hc23 => ?_) (fun hc23 => ?_)
   ·replace hm := yes_t hc23 hm
    refine Kl ?_
    refine pu ?_
    refine pu ?_
    refine pL 2 ?_
    refine pu ?_
    refine pL 2 ?_
    refine Kal (r := [iD (2 : Int), iD (0 : Int), tD x2.gText, .lst 1 [] .full, iD x2.gAt]) htab rfl rfl rfl rfl rfl rfl rfl rfl rfl ?_
    refine pu ?_
    obtain ⟨x24, q24, hm⟩ := Kf hm
    refine Kam (hg2 (⟨m0.gL, (IntKind.i64.wrap (m0.gAt + (1 : Int))), m0.gE⟩ : Kb) (⟨(2 : Int), (0 : Int), x2.gText, [], x2.gAt⟩ : Ka) (3 : Int) m0.gAt o0 T0 c0_0 x24 q24) rfl rfl rfl rfl rfl (WkL.cons (Wk.refl _) (WkL.cons (Wk.trans (Wk.agg (rC (rC (rC (WkR.cons (WkC.nil) rfl (rC WkR.nil)))))) (Wk.of_eq (Kk (⟨(2 : Int), (0 : Int), x2.gText, [], x2.gAt⟩ : Ka)).symm)) (WkL.cons (Wk.refl _) (WkL.cons (Wk.refl _) Wl)))) Pf Pf ?_
    rintro _ _ _ ⟨rfl, rfl, rfl⟩
    refine p_eq (i := 42) rfl (Wk.of_eq (Kk x24.1)) ?_
    refine pS1 (ds' := [iD x24.1.gOp, iD x24.1.gN, tD x24.1.gName, .lst 5 (x24.1.gKids.map Kg) .no, iD x24.1.gAt]) ?_
    refine Kh ?_
    refine Ks ?_
    refine K0 ?_
    refine KD ?_
    have er25 := Kn hm; subst er25
    refine rP (t' := [(2, .ptr b1 0)]) [0,0] [] 1 (wC wN) (lC 1 lN) ?_
    exact ⟨by first | rfl | (simp only [wrapD, Kk]; done) | (simp only [wrapD, Kk]; rfl), rfl, rfl⟩
   ·replace hm := yes_f hc23 hm
    refine Kl ?_
    refine pu ?_
    refine pu ?_
    refine Kh ?_
    refine Ku rfl (fun hc28 => ?_) (fun hc28 => ?_)
    ·replace hm := yes_t hc28 hm
     refine Kl ?_
     refine pu ?_
     refine K7 (d := Kc x2) 2 htab rfl rfl rfl rfl rfl rfl rfl rfl ?_
     refine pu ?_
     obtain ⟨x29, q29, hm⟩ := Kf hm
     refine pG (hg4 (⟨m0.gL, (IntKind.i64.wrap (m0.gAt + (1 : Int))), m0.gE⟩ : Kb) x2 m0.gAt o0 T0 c0_0 x29 q29) Wl Pf Pf ?_
     rintro _ _ _ ⟨rfl, rfl, rfl⟩
     refine p_eq (i := 48) rfl (Wk.of_eq (Kk x29.1)) ?_
     refine pS1 (ds' := [iD x29.1.gOp, iD x29.1.gN, tD x29.1.gName, .lst 5 (x29.1.gKids.map Kg) .no, iD x29.1.gAt]) ?_
     refine Kh ?_
     refine Ks ?_
     refine K0 ?_
     refine KD ?_
     have er30 := Kn hm; subst er30
     refine rP (t' := [(2, .ptr b1 0)]) [0,0] [] 1 (wC wN) (lC 1 lN) ?_
     exact ⟨by first | rfl | (simp only [wrapD, Kk]; done) | (simp only [wrapD, Kk]; rfl), rfl, rfl⟩
    ·replace hm := yes_f hc28 hm
     refine Ky ?_
     refine KI ?_
     refine Km ?_
     refine Kl ?_
     refine pu ?_
     refine pu ?_
     obtain ⟨x31, q31, hm⟩ := Kf hm
     refine pG (Kcf (⟨m0.gL, (IntKind.i64.wrap (m0.gAt + (1 : Int))), m0.gE⟩ : Kb) m0.gAt (3 : Int) o0 T0 c0_0 x31 q31) Wl Pf Pf ?_
     rintro _ _ _ ⟨rfl, rfl, rfl⟩
     refine Kv ?_
     refine Kal (r := [iD (0 : Int), iD (0 : Int), tD ByteArray.empty, .lst 1 [] .full, iD (0 : Int)]) htab rfl rfl rfl rfl rfl rfl rfl rfl rfl ?_
     refine pS1 (ds' := [iD (0 : Int), iD (0 : Int), tD ByteArray.empty, .lst 1 [] .full, iD (0 : Int)]) ?_
     refine Kh ?_
     refine Ks ?_
     have er32 := Kn hm; subst er32
     refine retX.wk (WkS.bl1 (ds' := [iD (0 : Int), iD (0 : Int), tD ByteArray.empty, .lst 5 (([] : List Ka).map Kg) .no, iD (0 : Int)]) (rC (rC (rC (WkR.cons (WkC.nil) rfl (rC WkR.nil)))))) ?_
     refine retX.wk (WkS.bl0 (ds' := [.lst 4 (x31.gL.map Kc) .no, iD x31.gAt, iD x31.gE]) (rO (rC (rC WkR.nil)))) ?_
     refine rP (t' := [(2, .ptr b1 0)]) [0,0] [] 1 (wC wN) (lC 1 lN) ?_
     exact ⟨by first | rfl | (simp only [wrapD, Kk]; done) | (simp only [wrapD, Kk]; rfl), rfl, rfl⟩
noncomputable def Kau (g0 : (Kb) → (Int) → Option (Ka × Kb)) (g1 : (Kb) → Option (Ka × Kb)) (g2 : (Kb) → (Ka) → (Int) → (Int) → Option (Ka × Kb)) (g3 : (Kb) → (ByteArray) → Option (Ka × Kb)) (g4 : (Kb) → (Kt) → (Int) → Option (Ka × Kb)) (m0 : Kb) (a1 : Ka) (a2 : Int) (a3 : Int) : Option (Ka × Kb) :=
 (Option.bind (α := Bool) (bif (m0.gE != (0 : Int)) then some true else ((KbQ m0 (ByteArray.mk #[91])).bind fun x7 => some (!x7))) fun y5 => (bif y5 then some (a1, m0) else ((g3 (⟨m0.gL, (IntKind.i64.wrap (m0.gAt + (1 : Int))), m0.gE⟩ : Kb) (ByteArray.mk #[93])).bind fun x11 => ((Kag x11.2 (⟨a2, a1.gN, a1.gName, ([x11.1] : List Ka), a1.gAt⟩ : Ka) a3).bind fun x12 => some (x12.1, x12.2)))))
theorem KfW (g0 : (Kb) → (Int) → Option (Ka × Kb)) (g1 : (Kb) → Option (Ka × Kb)) (g2 : (Kb) → (Ka) → (Int) → (Int) → Option (Ka × Kb)) (g3 : (Kb) → (ByteArray) → Option (Ka × Kb)) (g4 : (Kb) → (Kt) → (Int) → Option (Ka × Kb)) (hg0 : ∀ (m0 : Kb) (a1 : Int) (o0 : Nat) (T0 : TypeId) (c0_0 : Cap) (r : Ka × Kb) (h0 : g0 m0 a1 = some r), CallsD Try.prog 91 [.ptr o0 0, iD a1] [(o0, Blk.cells [.lst 4 (m0.gL.map Kc) c0_0, iD m0.gAt, iD m0.gE] T0)] [] (fun d h k => d = Kg r.1 ∧ h = [(o0, Blk.cells [.lst 4 (r.2.gL.map Kc) .no, iD r.2.gAt, iD r.2.gE] T0)] ∧ k = [])) (hg1 : ∀ (m0 : Kb) (o0 : Nat) (T0 : TypeId) (c0_0 : Cap) (r : Ka × Kb) (h0 : g1 m0 = some r), CallsD Try.prog 95 [.ptr o0 0] [(o0, Blk.cells [.lst 4 (m0.gL.map Kc) c0_0, iD m0.gAt, iD m0.gE] T0)] [] (fun d h k => d = Kg r.1 ∧ h = [(o0, Blk.cells [.lst 4 (r.2.gL.map Kc) .no, iD r.2.gAt, iD r.2.gE] T0)] ∧ k = [])) (hg2 : ∀ (m0 : Kb) (a1 : Ka) (a2 : Int) (a3 : Int) (o0 : Nat) (T0 : TypeId) (c0_0 : Cap) (r : Ka × Kb) (h0 : g2 m0 a1 a2 a3 = some r), CallsD Try.prog 99 [.ptr o0 0, Kg a1, iD a2, iD a3] [(o0, Blk.cells [.lst 4 (m0.gL.map Kc) c0_0, iD m0.gAt, iD m0.gE] T0)] [] (fun d h k => d = Kg r.1 ∧ h = [(o0, Blk.cells [.lst 4 (r.2.gL.map Kc) .no, iD r.2.gAt, iD r.2.gE] T0)] ∧ k = [])) (hg3 : ∀ (m0 : Kb) (a1 : ByteArray) (o0 : Nat) (T0 : TypeId) (c0_0 : Cap) (r : Ka × Kb) (h0 : g3 m0 a1 = some r), CallsD Try.prog 105 [.ptr o0 0, tD a1] [(o0, Blk.cells [.lst 4 (m0.gL.map Kc) c0_0, iD m0.gAt, iD m0.gE] T0)] [] (fun d h k => d = Kg r.1 ∧ h = [(o0, Blk.cells [.lst 4 (r.2.gL.map Kc) .no, iD r.2.gAt, iD r.2.gE] T0)] ∧ k = [])) (hg4 : ∀ (m0 : Kb) (a1 : Kt) (a2 : Int) (o0 : Nat) (T0 : TypeId) (c0_0 : Cap) (r : Ka × Kb) (h0 : g4 m0 a1 a2 = some r), CallsD Try.prog 100 [.ptr o0 0, Kc a1, iD a2] [(o0, Blk.cells [.lst 4 (m0.gL.map Kc) c0_0, iD m0.gAt, iD m0.gE] T0)] [] (fun d h k => d = Kg r.1 ∧ h = [(o0, Blk.cells [.lst 4 (r.2.gL.map Kc) .no, iD r.2.gAt, iD r.2.gE] T0)] ∧ k = [])) (m0 : Kb) (a1 : Ka) (a2 : Int) (a3 : Int) (o0 : Nat) (T0 : TypeId) (c0_0 : Cap) (r : Ka × Kb) (h0 : Kau g0 g1 g2 g3 g4 m0 a1 a2 a3 = some r) : CallsD Try.prog 99 [.ptr o0 0, Kg a1, iD a2, iD a3] [(o0, Blk.cells [.lst 4 (m0.gL.map Kc) c0_0, iD m0.gAt, iD m0.gE] T0)] [] (fun d h k => d = Kg r.1 ∧ h = [(o0, Blk.cells [.lst 4 (r.2.gL.map Kc) .no, iD r.2.gAt, iD r.2.gE] T0)] ∧ k = []) := by
 have hm := KE h0
 unfold Kau at hm
 clear h0
 refine KW htab Try.func99 rfl rfl rfl rfl rfl (fun C => ?_)
 refine w_eq (i := 1) rfl (Wk.of_eq (Kk a1)) ?_
 refine Kl ?_
 refine p_box rfl rfl rfl rfl rfl rfl rfl (fun b1 => ?_)
 refine KP htab rfl rfl rfl rfl rfl rfl rfl (fun b2 => ?_)
 refine Kh ?_
 refine Kq ?_
 refine Kq ?_
 obtain ⟨y5, q5, ho5⟩ := Kf hm
 refine K6 (Y := Unit) (fun z5 => (⟨[(0, .ptr o0 0), (2, iD a2), (3, iD a3), (5, .ptr b1 0), (8, .ptr b2 0), (18, .v (.bool y5))], [(o0, Blk.cells [.lst 4 (m0.gL.map Kc) c0_0, iD m0.gAt, iD m0.gE] T0), (b1, Blk.cells [iD a1.gOp, iD a1.gN, tD a1.gName, .lst 5 (a1.gKids.map Kg) .no, iD a1.gAt] 100), (b2, Blk.cells [iD (0 : Int), iD (0 : Int), tD ByteArray.empty, .lst 1 [] .full, iD (0 : Int)] 100)], []⟩ : S)) ?_ ?_
 ·clear hm; have hm := KE q5
  refine KC ?_
  iterate 3 refine pu ?_
  refine pL 0 ?_
  refine pu ?_
  refine pu ?_
  refine K9 (i := 14) rfl (fun hg6 => ?_) (fun hg6 => ?_)
  ·replace hm := yes_t hg6 hm
   iterate 3 refine pK ?_
   refine KS rfl rfl rfl rfl rfl rfl ?_
   refine KB ?_
   have e5 := Kn hm; subst e5
   refine ⟨rfl, ?_⟩
   exact WkX.of () (WkS.perm (WkS.cons rfl (Wk.refl _) (WkS.cons rfl (Wk.refl _) (WkS.cons rfl (Wk.refl _) (WkS.cons rfl (Wk.refl _) (WkS.cons rfl (Wk.refl _) (WkS.cons rfl (Wk.refl _) (WkS.nil))))))) Pf Pf)
  ·replace hm := yes_f hg6 hm
   refine pu ?_
   obtain ⟨x7, q7, hm⟩ := Kf hm
   refine pG (KfB m0 (ByteArray.mk #[91]) o0 T0 c0_0 x7 q7) Wl Pf Pf ?_
   rintro _ _ _ ⟨rfl, rfl, rfl⟩
   refine pu ?_
   refine KH rfl rfl rfl rfl rfl rfl ?_
   refine KB ?_
   have e5 := Kn hm; subst e5
   refine ⟨rfl, ?_⟩
   exact WkX.of () (WkS.perm (WkS.cons rfl (Wk.refl _) (WkS.cons rfl (Wk.refl _) (WkS.cons rfl (Wk.refl _) (WkS.cons rfl (Wk.refl _) (WkS.cons rfl (Wk.refl _) (WkS.cons rfl (Wk.refl _) (WkS.nil))))))) Pf Pf)
 ·intro s5 hw5; clear hm; have hm := ho5; clear q5 ho5
  refine Km ?_
  refine K3 hw5 (fun z5 => ?_)
  refine Ku rfl (fun hc9 => ?_) (fun hc9 => ?_)
  ·replace hm := yes_t hc9 hm
   refine Kl ?_
   refine K7 (d := .agg [iD a1.gOp, iD a1.gN, tD a1.gName, .lst 5 (a1.gKids.map Kg) .no, iD a1.gAt]) 1 htab rfl rfl rfl rfl rfl rfl rfl rfl ?_
   refine pS2 (ds' := [iD a1.gOp, iD a1.gN, tD a1.gName, .lst 5 (a1.gKids.map Kg) .no, iD a1.gAt]) ?_
   refine Kh ?_
   refine Ks ?_
   refine KD ?_
   have er10 := Kn hm; subst er10
   refine retX.wk (WkS.bl0 (ds' := [.lst 4 (m0.gL.map Kc) .no, iD m0.gAt, iD m0.gE]) (rO (rC (rC WkR.nil)))) ?_
   refine rP (t' := [(8, .ptr b2 0)]) [0,1] [] 1 (wC wN) (lC 1 lN) ?_
   exact ⟨by first | rfl | (simp only [wrapD, Kk]; done) | (simp only [wrapD, Kk]; rfl), rfl, rfl⟩
  ·replace hm := yes_f hc9 hm
   refine Ky ?_
   refine Km ?_
   refine Kl ?_
   iterate 3 refine pu ?_
   refine pL 0 ?_
   iterate 3 refine pu ?_
   refine pS0 (ds' := [.lst 4 (m0.gL.map Kc) c0_0, iD (IntKind.i64.wrap (m0.gAt + (1 : Int))), iD m0.gE]) ?_
   refine Kv ?_
   refine pu ?_
   refine pu ?_
   refine pS1 (ds' := [iD a2, iD a1.gN, tD a1.gName, .lst 5 (a1.gKids.map Kg) .no, iD a1.gAt]) ?_
   refine Kv ?_
   refine pu ?_
   obtain ⟨x11, q11, hm⟩ := Kf hm
   refine pG (hg3 (⟨m0.gL, (IntKind.i64.wrap (m0.gAt + (1 : Int))), m0.gE⟩ : Kb) (ByteArray.mk #[93]) o0 T0 c0_0 x11 q11) Wl Pf Pf ?_
   rintro _ _ _ ⟨rfl, rfl, rfl⟩
   refine p_eq (i := 30) rfl (Wk.of_eq (Kk x11.1)) ?_
   refine p_lit htab rfl rfl rfl rfl rfl rfl rfl rfl rfl rfl rfl rfl rfl rfl ?_
   refine p_eq (i := 31) (d' := .lst 5 (([x11.1] : List Ka).map Kg) .full) rfl (Wk.lst0 (.cons (WkC.trans (WkC.agg (WkR.refl _)) (WkC.of_eq (Kk x11.1).symm)) (.nil))) ?_
   refine pu ?_
   refine pS1 (ds' := [iD a2, iD a1.gN, tD a1.gName, .lst 5 (([x11.1] : List Ka).map Kg) .full, iD a1.gAt]) ?_
   refine Kv ?_
   refine pu ?_
   refine K7 (d := .agg [iD a2, iD a1.gN, tD a1.gName, .lst 5 (([x11.1] : List Ka).map Kg) .full, iD a1.gAt]) 1 htab rfl rfl rfl rfl rfl rfl rfl rfl ?_
   refine pu ?_
   obtain ⟨x12, q12, hm⟩ := Kf hm
   refine Kam (KdF x11.2 (⟨a2, a1.gN, a1.gName, ([x11.1] : List Ka), a1.gAt⟩ : Ka) a3 o0 T0 .no x12 q12) rfl rfl rfl rfl rfl (WkL.cons (Wk.refl _) (WkL.cons (Wk.trans (Wk.agg (rC (rC (rC (rO (rC WkR.nil)))))) (Wk.of_eq (Kk (⟨a2, a1.gN, a1.gName, ([x11.1] : List Ka), a1.gAt⟩ : Ka)).symm)) (WkL.cons (Wk.refl _) Wl))) Pf Pf ?_
   rintro _ _ _ ⟨rfl, rfl, rfl⟩
   refine p_eq (i := 36) rfl (Wk.of_eq (Kk x12.1)) ?_
   refine pS2 (ds' := [iD x12.1.gOp, iD x12.1.gN, tD x12.1.gName, .lst 5 (x12.1.gKids.map Kg) .no, iD x12.1.gAt]) ?_
   refine Kh ?_
   refine Ks ?_
   have er13 := Kn hm; subst er13
   refine rP (t' := [(8, .ptr b2 0)]) [0,1] [] 1 (wC wN) (lC 1 lN) ?_
   exact ⟨by first | rfl | (simp only [wrapD, Kk]; done) | (simp only [wrapD, Kk]; rfl), rfl, rfl⟩
noncomputable def Ka5 (g0 : (Kb) → (Int) → Option (Ka × Kb)) (g1 : (Kb) → Option (Ka × Kb)) (g2 : (Kb) → (Ka) → (Int) → (Int) → Option (Ka × Kb)) (g3 : (Kb) → (ByteArray) → Option (Ka × Kb)) (g4 : (Kb) → (Kt) → (Int) → Option (Ka × Kb)) (m0 : Kb) (a1 : ByteArray) : Option (Ka × Kb) :=
 ((g0 m0 (0 : Int)).bind fun x2 => (bif (x2.2.gE == (0 : Int)) then ((KaY x2.2 a1).bind fun x5 => some (x2.1, x5)) else some (x2.1, x2.2)))
theorem Khe (g0 : (Kb) → (Int) → Option (Ka × Kb)) (g1 : (Kb) → Option (Ka × Kb)) (g2 : (Kb) → (Ka) → (Int) → (Int) → Option (Ka × Kb)) (g3 : (Kb) → (ByteArray) → Option (Ka × Kb)) (g4 : (Kb) → (Kt) → (Int) → Option (Ka × Kb)) (hg0 : ∀ (m0 : Kb) (a1 : Int) (o0 : Nat) (T0 : TypeId) (c0_0 : Cap) (r : Ka × Kb) (h0 : g0 m0 a1 = some r), CallsD Try.prog 91 [.ptr o0 0, iD a1] [(o0, Blk.cells [.lst 4 (m0.gL.map Kc) c0_0, iD m0.gAt, iD m0.gE] T0)] [] (fun d h k => d = Kg r.1 ∧ h = [(o0, Blk.cells [.lst 4 (r.2.gL.map Kc) .no, iD r.2.gAt, iD r.2.gE] T0)] ∧ k = [])) (hg1 : ∀ (m0 : Kb) (o0 : Nat) (T0 : TypeId) (c0_0 : Cap) (r : Ka × Kb) (h0 : g1 m0 = some r), CallsD Try.prog 95 [.ptr o0 0] [(o0, Blk.cells [.lst 4 (m0.gL.map Kc) c0_0, iD m0.gAt, iD m0.gE] T0)] [] (fun d h k => d = Kg r.1 ∧ h = [(o0, Blk.cells [.lst 4 (r.2.gL.map Kc) .no, iD r.2.gAt, iD r.2.gE] T0)] ∧ k = [])) (hg2 : ∀ (m0 : Kb) (a1 : Ka) (a2 : Int) (a3 : Int) (o0 : Nat) (T0 : TypeId) (c0_0 : Cap) (r : Ka × Kb) (h0 : g2 m0 a1 a2 a3 = some r), CallsD Try.prog 99 [.ptr o0 0, Kg a1, iD a2, iD a3] [(o0, Blk.cells [.lst 4 (m0.gL.map Kc) c0_0, iD m0.gAt, iD m0.gE] T0)] [] (fun d h k => d = Kg r.1 ∧ h = [(o0, Blk.cells [.lst 4 (r.2.gL.map Kc) .no, iD r.2.gAt, iD r.2.gE] T0)] ∧ k = [])) (hg3 : ∀ (m0 : Kb) (a1 : ByteArray) (o0 : Nat) (T0 : TypeId) (c0_0 : Cap) (r : Ka × Kb) (h0 : g3 m0 a1 = some r), CallsD Try.prog 105 [.ptr o0 0, tD a1] [(o0, Blk.cells [.lst 4 (m0.gL.map Kc) c0_0, iD m0.gAt, iD m0.gE] T0)] [] (fun d h k => d = Kg r.1 ∧ h = [(o0, Blk.cells [.lst 4 (r.2.gL.map Kc) .no, iD r.2.gAt, iD r.2.gE] T0)] ∧ k = [])) (hg4 : ∀ (m0 : Kb) (a1 : Kt) (a2 : Int) (o0 : Nat) (T0 : TypeId) (c0_0 : Cap) (r : Ka × Kb) (h0 : g4 m0 a1 a2 = some r), CallsD Try.prog 100 [.ptr o0 0, Kc a1, iD a2] [(o0, Blk.cells [.lst 4 (m0.gL.map Kc) c0_0, iD m0.gAt, iD m0.gE] T0)] [] (fun d h k => d = Kg r.1 ∧ h = [(o0, Blk.cells [.lst 4 (r.2.gL.map Kc) .no, iD r.2.gAt, iD r.2.gE] T0)] ∧ k = [])) (m0 : Kb) (a1 : ByteArray) (o0 : Nat) (T0 : TypeId) (c0_0 : Cap) (r : Ka × Kb) (h0 : Ka5 g0 g1 g2 g3 g4 m0 a1 = some r) : CallsD Try.prog 105 [.ptr o0 0, tD a1] [(o0, Blk.cells [.lst 4 (m0.gL.map Kc) c0_0, iD m0.gAt, iD m0.gE] T0)] [] (fun d h k => d = Kg r.1 ∧ h = [(o0, Blk.cells [.lst 4 (r.2.gL.map Kc) .no, iD r.2.gAt, iD r.2.gE] T0)] ∧ k = []) := by
 have hm := KE h0
 unfold Ka5 at hm
 clear h0
 refine KW htab Try.func105 rfl rfl rfl rfl rfl (fun C => ?_)
 refine Kl ?_
 refine KP htab rfl rfl rfl rfl rfl rfl rfl (fun b1 => ?_)
 refine Kv ?_
 refine pu ?_
 obtain ⟨x2, q2, hm⟩ := Kf hm
 refine pG (hg0 m0 (0 : Int) o0 T0 c0_0 x2 q2) Wl Pf Pf ?_
 rintro _ _ _ ⟨rfl, rfl, rfl⟩
 refine p_eq (i := 7) rfl (Wk.of_eq (Kk x2.1)) ?_
 refine KP htab rfl rfl rfl rfl rfl rfl rfl (fun b3 => ?_)
 refine pS2 (ds' := [iD x2.1.gOp, iD x2.1.gN, tD x2.1.gName, .lst 5 (x2.1.gKids.map Kg) .no, iD x2.1.gAt]) ?_
 refine Kh ?_
 refine Kq ?_
 refine Kl ?_
 iterate 3 refine pu ?_
 refine pL 0 ?_
 refine pu ?_
 refine Kh ?_
 refine Ku rfl (fun hc4 => ?_) (fun hc4 => ?_)
 ·replace hm := yes_t hc4 hm
  refine KC ?_
  refine pu ?_
  refine pu ?_
  obtain ⟨x5, q5, hm⟩ := Kf hm
  refine pG (Kh3 x2.2 a1 o0 T0 .no x5 q5) Wl Pf Pf ?_
  rintro _ _ _ ⟨rfl, rfl, rfl⟩
  refine Kv ?_
  refine K7 (d := .agg [iD x2.1.gOp, iD x2.1.gN, tD x2.1.gName, .lst 5 (x2.1.gKids.map Kg) .no, iD x2.1.gAt]) 2 htab rfl rfl rfl rfl rfl rfl rfl rfl ?_
  refine pS1 (ds' := [iD x2.1.gOp, iD x2.1.gN, tD x2.1.gName, .lst 5 (x2.1.gKids.map Kg) .no, iD x2.1.gAt]) ?_
  refine Kh ?_
  refine Ks ?_
  have er6 := Kn hm; subst er6
  refine rP (t' := [(4, .ptr b1 0)]) [0,0] [] 1 (wC wN) (lC 1 lN) ?_
  exact ⟨by first | rfl | (simp only [wrapD, Kk]; done) | (simp only [wrapD, Kk]; rfl), rfl, rfl⟩
 ·replace hm := yes_f hc4 hm
  refine Ky ?_
  refine Km ?_
  refine Kl ?_
  refine K7 (d := .agg [iD x2.1.gOp, iD x2.1.gN, tD x2.1.gName, .lst 5 (x2.1.gKids.map Kg) .no, iD x2.1.gAt]) 2 htab rfl rfl rfl rfl rfl rfl rfl rfl ?_
  refine pS1 (ds' := [iD x2.1.gOp, iD x2.1.gN, tD x2.1.gName, .lst 5 (x2.1.gKids.map Kg) .no, iD x2.1.gAt]) ?_
  refine Kh ?_
  refine Ks ?_
  have er7 := Kn hm; subst er7
  refine rP (t' := [(4, .ptr b1 0)]) [0,0] [] 1 (wC wN) (lC 1 lN) ?_
  exact ⟨by first | rfl | (simp only [wrapD, Kk]; done) | (simp only [wrapD, Kk]; rfl), rfl, rfl⟩
noncomputable def KaW (g0 : (Kb) → (Int) → Option (Ka × Kb)) (g1 : (Kb) → Option (Ka × Kb)) (g2 : (Kb) → (Ka) → (Int) → (Int) → Option (Ka × Kb)) (g3 : (Kb) → (ByteArray) → Option (Ka × Kb)) (g4 : (Kb) → (Kt) → (Int) → Option (Ka × Kb)) (m0 : Kb) (a1 : Kt) (a2 : Int) : Option (Ka × Kb) :=
 (Option.bind (α := Bool) (bif (decide (a1.gText = (ByteArray.mk #[45]))) then some (decide (a1.gText = (ByteArray.mk #[45]))) else some (decide (a1.gText = (ByteArray.mk #[33])))) fun y19 => (bif y19 then ((Kcg a1.gText (ByteArray.mk #[45]) (5 : Int) (ByteArray.mk #[33]) (6 : Int)).bind fun x34 => ((g1 m0).bind fun x35 => ((Kag x35.2 (⟨x34, (0 : Int), ByteArray.empty, ([x35.1] : List Ka), a1.gAt⟩ : Ka) a2).bind fun x36 => some (x36.1, x36.2)))) else (bif (decide (a1.gText = (ByteArray.mk #[42]))) then ((Kbb m0).bind fun x47 => some ((⟨(4 : Int), (0 : Int), x47.1, [], a1.gAt⟩ : Ka), x47.2)) else (bif (decide (a1.gText = (ByteArray.mk #[38]))) then ((Kbb m0).bind fun x56 => ((g2 x56.2 (⟨(19 : Int), (0 : Int), x56.1, [], a1.gAt⟩ : Ka) (20 : Int) a2).bind fun x57 => some (x57.1, x57.2))) else (bif (decide (a1.gText = (ByteArray.mk #[110, 117, 108, 108]))) then some ((⟨(18 : Int), (0 : Int), ByteArray.empty, [], a1.gAt⟩ : Ka), m0) else (bif (decide (a1.gText = (ByteArray.mk #[40]))) then ((g3 m0 (ByteArray.mk #[41])).bind fun x67 => some (x67.1, x67.2)) else ((KaC m0 a2 (3 : Int)).bind fun x69 => some ((⟨(0 : Int), (0 : Int), ByteArray.empty, [], (0 : Int)⟩ : Ka), x69))))))))
theorem KgY (g0 : (Kb) → (Int) → Option (Ka × Kb)) (g1 : (Kb) → Option (Ka × Kb)) (g2 : (Kb) → (Ka) → (Int) → (Int) → Option (Ka × Kb)) (g3 : (Kb) → (ByteArray) → Option (Ka × Kb)) (g4 : (Kb) → (Kt) → (Int) → Option (Ka × Kb)) (hg0 : ∀ (m0 : Kb) (a1 : Int) (o0 : Nat) (T0 : TypeId) (c0_0 : Cap) (r : Ka × Kb) (h0 : g0 m0 a1 = some r), CallsD Try.prog 91 [.ptr o0 0, iD a1] [(o0, Blk.cells [.lst 4 (m0.gL.map Kc) c0_0, iD m0.gAt, iD m0.gE] T0)] [] (fun d h k => d = Kg r.1 ∧ h = [(o0, Blk.cells [.lst 4 (r.2.gL.map Kc) .no, iD r.2.gAt, iD r.2.gE] T0)] ∧ k = [])) (hg1 : ∀ (m0 : Kb) (o0 : Nat) (T0 : TypeId) (c0_0 : Cap) (r : Ka × Kb) (h0 : g1 m0 = some r), CallsD Try.prog 95 [.ptr o0 0] [(o0, Blk.cells [.lst 4 (m0.gL.map Kc) c0_0, iD m0.gAt, iD m0.gE] T0)] [] (fun d h k => d = Kg r.1 ∧ h = [(o0, Blk.cells [.lst 4 (r.2.gL.map Kc) .no, iD r.2.gAt, iD r.2.gE] T0)] ∧ k = [])) (hg2 : ∀ (m0 : Kb) (a1 : Ka) (a2 : Int) (a3 : Int) (o0 : Nat) (T0 : TypeId) (c0_0 : Cap) (r : Ka × Kb) (h0 : g2 m0 a1 a2 a3 = some r), CallsD Try.prog 99 [.ptr o0 0, Kg a1, iD a2, iD a3] [(o0, Blk.cells [.lst 4 (m0.gL.map Kc) c0_0, iD m0.gAt, iD m0.gE] T0)] [] (fun d h k => d = Kg r.1 ∧ h = [(o0, Blk.cells [.lst 4 (r.2.gL.map Kc) .no, iD r.2.gAt, iD r.2.gE] T0)] ∧ k = [])) (hg3 : ∀ (m0 : Kb) (a1 : ByteArray) (o0 : Nat) (T0 : TypeId) (c0_0 : Cap) (r : Ka × Kb) (h0 : g3 m0 a1 = some r), CallsD Try.prog 105 [.ptr o0 0, tD a1] [(o0, Blk.cells [.lst 4 (m0.gL.map Kc) c0_0, iD m0.gAt, iD m0.gE] T0)] [] (fun d h k => d = Kg r.1 ∧ h = [(o0, Blk.cells [.lst 4 (r.2.gL.map Kc) .no, iD r.2.gAt, iD r.2.gE] T0)] ∧ k = [])) (hg4 : ∀ (m0 : Kb) (a1 : Kt) (a2 : Int) (o0 : Nat) (T0 : TypeId) (c0_0 : Cap) (r : Ka × Kb) (h0 : g4 m0 a1 a2 = some r), CallsD Try.prog 100 [.ptr o0 0, Kc a1, iD a2] [(o0, Blk.cells [.lst 4 (m0.gL.map Kc) c0_0, iD m0.gAt, iD m0.gE] T0)] [] (fun d h k => d = Kg r.1 ∧ h = [(o0, Blk.cells [.lst 4 (r.2.gL.map Kc) .no, iD r.2.gAt, iD r.2.gE] T0)] ∧ k = [])) (m0 : Kb) (a1 : Kt) (a2 : Int) (o0 : Nat) (T0 : TypeId) (c0_0 : Cap) (r : Ka × Kb) (h0 : KaW g0 g1 g2 g3 g4 m0 a1 a2 = some r) : CallsD Try.prog 100 [.ptr o0 0, Kc a1, iD a2] [(o0, Blk.cells [.lst 4 (m0.gL.map Kc) c0_0, iD m0.gAt, iD m0.gE] T0)] [] (fun d h k => d = Kg r.1 ∧ h = [(o0, Blk.cells [.lst 4 (r.2.gL.map Kc) .no, iD r.2.gAt, iD r.2.gE] T0)] ∧ k = []) := by
 have hm := KE h0
 unfold KaW at hm
 clear h0
 refine KW htab Try.func100 rfl rfl rfl rfl rfl (fun C => ?_)
 refine Kl ?_
 refine p_box rfl rfl rfl rfl rfl rfl rfl (fun b1 => ?_)
 refine KP htab rfl rfl rfl rfl rfl rfl rfl (fun b2 => ?_)
 refine Kh ?_
 refine Kq ?_
 refine Kl ?_
 refine pu ?_
 refine pL 1 ?_
 refine Kh ?_
 refine KL ?_
 refine Kq ?_
 refine Kl ?_
 refine pu ?_
 refine pu ?_
 refine Kh ?_
 obtain ⟨y19, q19, ho19⟩ := Kf hm
 refine K6 (Y := Unit) (fun z19 => (⟨[(0, .ptr o0 0), (2, iD a2), (4, .ptr b1 0), (6, .ptr b2 0), (9, tD a1.gText), (10, .v (.bool y19))], [(o0, Blk.cells [.lst 4 (m0.gL.map Kc) c0_0, iD m0.gAt, iD m0.gE] T0), (b1, Blk.cells [iD a1.gKind, tD a1.gText, iD a1.gN, iD a1.gAt] 69), (b2, Blk.cells [iD (0 : Int), iD (0 : Int), tD ByteArray.empty, .lst 1 [] .full, iD (0 : Int)] 100)], []⟩ : S)) ?_ ?_
 ·clear hm; have hm := KE q19
  refine Ku rfl (fun hc20 => ?_) (fun hc20 => ?_)
  ·replace hm := yes_t hc20 hm
   refine Ky ?_
   have e19 := Kn hm; subst e19
   refine ⟨rfl, ?_⟩
   exact WkX.of () (WkS.perm (WkS.cons rfl (Wk.refl _) (WkS.cons rfl (Wk.refl _) (WkS.cons rfl (Wk.refl _) (WkS.cons rfl (Wk.refl _) (WkS.cons rfl (Wk.refl _) (WkS.cons rfl (Wk.refl _) (WkS.nil))))))) Pf Pf)
  ·replace hm := yes_f hc20 hm
   refine KC ?_
   refine pu ?_
   refine pu ?_
   refine KB ?_
   have e19 := Kn hm; subst e19
   refine ⟨rfl, ?_⟩
   exact WkX.of () (WkS.perm (WkS.cons rfl (Wk.refl _) (WkS.cons rfl (Wk.refl _) (WkS.cons rfl (Wk.refl _) (WkS.cons rfl (Wk.refl _) (WkS.cons rfl (Wk.refl _) (WkS.cons rfl (Wk.refl _) (WkS.nil))))))) Pf Pf)
 ·intro s19 hw19; clear hm; have hm := ho19; clear q19 ho19
  refine Km ?_
  refine K3 hw19 (fun z19 => ?_)
  refine Ku rfl (fun hc33 => ?_) (fun hc33 => ?_)
  ·replace hm := yes_t hc33 hm
   refine Kl ?_
   refine pu ?_
   refine pL 1 ?_
   obtain ⟨x34, q34, hm⟩ := Kf hm
   refine KaJ (KdV a1.gText (ByteArray.mk #[45]) (5 : Int) (ByteArray.mk #[33]) (6 : Int) x34 q34) rfl rfl rfl rfl rfl Wl ?_
   rintro _ rfl
   refine pu ?_
   refine Kh ?_
   refine Kq ?_
   obtain ⟨x35, q35, hm⟩ := Kf hm
   refine KdM (X := BK) 9 [] [[],[],[],[2],[2,3],[],[5],[2,3,4,5,6],[]] [0,2,3,4,5,6,7] [[],[],[],[2],[2,3],[],[5],[1,2,3,4,5,6],[],[0,1,2,3,4,5,6,7,8],[0,1,2,3,4,5,6,7,8,9]] ⟨3, fun x => x.1 ++ [(b1, Blk.cells [iD a1.gKind, tD a1.gText, iD a1.gN, iD a1.gAt] 69), (b2, Blk.cells [iD (0 : Int), iD (0 : Int), tD ByteArray.empty, .lst 1 [] .full, iD (0 : Int)] 100)], fun x => x.2 ++ [], fun x => x.1 = [(o0, Blk.cells [.lst 4 (x35.2.gL.map Kc) .no, iD x35.2.gAt, iD x35.2.gE] T0)] ∧ x.2 = []⟩ ([], []) (by kernel_rfl) (by kernel_rfl) (by kernel_rfl) (by rfl) (by rfl) (by kernel_rfl) ?_
   iterate 7 apply Exists.intro
   intro bs
   refine zx_e rfl rfl (KT htab rfl) rfl rfl rfl rfl rfl rfl rfl rfl ?_
   refine zx_q rfl rfl (KT htab rfl) rfl rfl rfl rfl rfl rfl ?_
   refine zx_e rfl rfl (KT htab rfl) rfl rfl rfl rfl rfl rfl rfl rfl ?_
   refine KeJ (h1 := [(o0, Blk.cells [.lst 4 (m0.gL.map Kc) c0_0, iD m0.gAt, iD m0.gE] T0)]) (k1 := []) (d := .agg [iD x35.1.gOp, iD x35.1.gN, tD x35.1.gName, .lst 5 (x35.1.gKids.map Kg) .no, iD x35.1.gAt]) rfl rfl rfl (hg1 m0 o0 T0 c0_0 x35 q35) rfl rfl Wl Pf Pf (fun _ => rfl) (fun _ => rfl) (fun d' h' k' ⟨e1, e2, e3⟩ => ⟨⟨e2, e3⟩, by subst e1; exact Wk.of_eq (Kk x35.1)⟩) rfl rfl rfl rfl rfl rfl ?_
   refine zx_E rfl rfl (ExE.wk (x_lit htab rfl rfl rfl rfl rfl rfl rfl rfl rfl rfl rfl) (show Wk _ (.lst 5 (([x35.1] : List Ka).map Kg) .full) from Wk.lst0 (.cons (WkC.trans (WkC.agg (WkR.refl _)) (WkC.of_eq (Kk x35.1).symm)) (.nil)))) rfl rfl rfl rfl rfl rfl rfl rfl ?_
   refine zx_e rfl rfl (KT htab rfl) rfl rfl rfl rfl rfl rfl rfl rfl ?_
   refine zx_M rfl rfl (fun _ => KF 1 htab rfl rfl rfl rfl rfl) (fun _ ⟨x1, x2⟩ ⟨e1, e2⟩ => by cases e1; cases e2; exact KF 1 htab rfl rfl rfl rfl rfl) rfl rfl rfl rfl rfl rfl rfl rfl ?_
   refine zx_e rfl rfl (KdY (r := [iD x34, iD (0 : Int), tD ByteArray.empty, .lst 5 (([x35.1] : List Ka).map Kg) .full, iD a1.gAt]) htab rfl rfl rfl rfl rfl rfl) rfl rfl rfl rfl rfl rfl rfl rfl ?_
   refine zx_q rfl rfl (KT htab rfl) rfl rfl rfl rfl rfl rfl ?_
   refine Kfk (h2 := [(b1, Blk.cells [iD a1.gKind, tD a1.gText, iD a1.gN, iD a1.gAt] 69), (b2, Blk.cells [iD (0 : Int), iD (0 : Int), tD ByteArray.empty, .lst 1 [] .full, iD (0 : Int)] 100)]) (hz := [(b1, Blk.cells [iD a1.gKind, tD a1.gText, iD a1.gN, iD a1.gAt] 69), (b2, Blk.cells [iD (0 : Int), iD (0 : Int), tD ByteArray.empty, .lst 1 [] .full, iD (0 : Int)] 100)]) rfl rfl (fun _ => rfl) (fun _ => rfl) rfl (fun e he => by simp [isAl] at he) ?_
   rintro _ _ ⟨rfl, rfl⟩
   obtain ⟨x36, q36, hm⟩ := Kf hm
   refine Kam (KdF x35.2 (⟨x34, (0 : Int), ByteArray.empty, ([x35.1] : List Ka), a1.gAt⟩ : Ka) a2 o0 T0 .no x36 q36) rfl rfl rfl rfl rfl (WkL.cons (Wk.refl _) (WkL.cons (Wk.trans (Wk.agg (rC (rC (rC (rO (rC WkR.nil)))))) (Wk.of_eq (Kk (⟨x34, (0 : Int), ByteArray.empty, ([x35.1] : List Ka), a1.gAt⟩ : Ka)).symm)) (WkL.cons (Wk.refl _) Wl))) Pf Pf ?_
   rintro _ _ _ ⟨rfl, rfl, rfl⟩
   refine p_eq (i := 25) rfl (Wk.of_eq (Kk x36.1)) ?_
   refine pS2 (ds' := [iD x36.1.gOp, iD x36.1.gN, tD x36.1.gName, .lst 5 (x36.1.gKids.map Kg) .no, iD x36.1.gAt]) ?_
   refine Kh ?_
   refine Ks ?_
   refine K0 ?_
   refine KD ?_
   have er37 := Kn hm; subst er37
   refine rP (t' := [(6, .ptr b2 0)]) [0,1] [] 1 (wC wN) (lC 1 lN) ?_
   exact ⟨by first | rfl | (simp only [wrapD, Kk]; done) | (simp only [wrapD, Kk]; rfl), rfl, rfl⟩
  ·replace hm := yes_f hc33 hm
   refine Kl ?_
   refine pu ?_
   refine pu ?_
   refine Kh ?_
   refine Ku rfl (fun hc46 => ?_) (fun hc46 => ?_)
   ·replace hm := yes_t hc46 hm
    refine Kq ?_
    obtain ⟨x47, q47, hm⟩ := Kf hm
    refine KdM (X := BK) 4 [] [[],[0],[],[2]] [0,1,2,3] [[],[0],[],[2],[0,1,2,3],[0,1,2,3,4]] ⟨1, fun x => x.1 ++ [(b1, Blk.cells [iD a1.gKind, tD a1.gText, iD a1.gN, iD a1.gAt] 69), (b2, Blk.cells [iD (0 : Int), iD (0 : Int), tD ByteArray.empty, .lst 1 [] .full, iD (0 : Int)] 100)], fun x => x.2 ++ [], fun x => x.1 = [(o0, Blk.cells [.lst 4 (x47.2.gL.map Kc) c0_0, iD x47.2.gAt, iD x47.2.gE] T0)] ∧ x.2 = []⟩ ([], []) (by kernel_rfl) (by kernel_rfl) (by kernel_rfl) (by rfl) (by rfl) (by kernel_rfl) ?_
    iterate 4 apply Exists.intro
    intro bs
    refine zx_e rfl rfl (KT htab rfl) rfl rfl rfl rfl rfl rfl rfl rfl ?_
    refine KeJ (h1 := [(o0, Blk.cells [.lst 4 (m0.gL.map Kc) c0_0, iD m0.gAt, iD m0.gE] T0)]) (k1 := []) (d := tD x47.1) rfl rfl rfl (Ke5 m0 o0 T0 c0_0 x47 q47) rfl rfl Wl Pf Pf (fun _ => rfl) (fun _ => rfl) (fun d' h' k' ⟨e1, e2, e3⟩ => ⟨⟨e2, e3⟩, by subst e1; exact Wk.refl _⟩) rfl rfl rfl rfl rfl rfl ?_
    refine zx_e rfl rfl (KT htab rfl) rfl rfl rfl rfl rfl rfl rfl rfl ?_
    refine zx_M rfl rfl (fun _ => KF 1 htab rfl rfl rfl rfl rfl) (fun _ ⟨x1, x2⟩ ⟨e1, e2⟩ => by cases e1; cases e2; exact KF 1 htab rfl rfl rfl rfl rfl) rfl rfl rfl rfl rfl rfl rfl rfl ?_
    refine Kfk (h2 := [(b1, Blk.cells [iD a1.gKind, tD a1.gText, iD a1.gN, iD a1.gAt] 69), (b2, Blk.cells [iD (0 : Int), iD (0 : Int), tD ByteArray.empty, .lst 1 [] .full, iD (0 : Int)] 100)]) (hz := [(b1, Blk.cells [iD a1.gKind, tD a1.gText, iD a1.gN, iD a1.gAt] 69), (b2, Blk.cells [iD (0 : Int), iD (0 : Int), tD ByteArray.empty, .lst 1 [] .full, iD (0 : Int)] 100)]) rfl rfl (fun _ => rfl) (fun _ => rfl) rfl (fun e he => by simp [isAl] at he) ?_
    rintro _ _ ⟨rfl, rfl⟩
    refine Kal (r := [iD (4 : Int), iD (0 : Int), tD x47.1, .lst 1 [] .full, iD a1.gAt]) htab rfl rfl rfl rfl rfl rfl rfl rfl rfl ?_
    refine pS2 (ds' := [iD (4 : Int), iD (0 : Int), tD x47.1, .lst 1 [] .full, iD a1.gAt]) ?_
    refine Kh ?_
    refine Ks ?_
    refine K0 ?_
    refine KD ?_
    have er48 := Kn hm; subst er48
    refine retX.wk (WkS.bl2 (ds' := [iD (4 : Int), iD (0 : Int), tD x47.1, .lst 5 (([] : List Ka).map Kg) .no, iD a1.gAt]) (rC (rC (rC (WkR.cons (WkC.nil) rfl (rC WkR.nil)))))) ?_
    refine retX.wk (WkS.bl0 (ds' := [.lst 4 (x47.2.gL.map Kc) .no, iD x47.2.gAt, iD x47.2.gE]) (rO (rC (rC WkR.nil)))) ?_
    refine rP (t' := [(6, .ptr b2 0)]) [0,1] [] 1 (wC wN) (lC 1 lN) ?_
    exact ⟨by first | rfl | (simp only [wrapD, Kk]; done) | (simp only [wrapD, Kk]; rfl), rfl, rfl⟩
   ·replace hm := yes_f hc46 hm
    refine Kl ?_
    refine pu ?_
    refine pu ?_
    refine Kh ?_
    refine Ku rfl (fun hc55 => ?_) (fun hc55 => ?_)
    ·replace hm := yes_t hc55 hm
     refine Kq ?_
     obtain ⟨x56, q56, hm⟩ := Kf hm
     refine KdM (X := BK) 7 [] [[],[],[1],[],[3],[1,2,3,4],[]] [0,1,2,3,4,5] [[],[],[1],[],[3],[1,2,3,4],[],[0,1,2,3,4,5,6],[0,1,2,3,4,5,6,7]] ⟨2, fun x => x.1 ++ [(b1, Blk.cells [iD a1.gKind, tD a1.gText, iD a1.gN, iD a1.gAt] 69), (b2, Blk.cells [iD (0 : Int), iD (0 : Int), tD ByteArray.empty, .lst 1 [] .full, iD (0 : Int)] 100)], fun x => x.2 ++ [], fun x => x.1 = [(o0, Blk.cells [.lst 4 (x56.2.gL.map Kc) c0_0, iD x56.2.gAt, iD x56.2.gE] T0)] ∧ x.2 = []⟩ ([], []) (by kernel_rfl) (by kernel_rfl) (by kernel_rfl) (by rfl) (by rfl) (by kernel_rfl) ?_
     iterate 6 apply Exists.intro
     intro bs
     refine zx_e rfl rfl (KT htab rfl) rfl rfl rfl rfl rfl rfl rfl rfl ?_
     refine zx_e rfl rfl (KT htab rfl) rfl rfl rfl rfl rfl rfl rfl rfl ?_
     refine KeJ (h1 := [(o0, Blk.cells [.lst 4 (m0.gL.map Kc) c0_0, iD m0.gAt, iD m0.gE] T0)]) (k1 := []) (d := tD x56.1) rfl rfl rfl (Ke5 m0 o0 T0 c0_0 x56 q56) rfl rfl Wl Pf Pf (fun _ => rfl) (fun _ => rfl) (fun d' h' k' ⟨e1, e2, e3⟩ => ⟨⟨e2, e3⟩, by subst e1; exact Wk.refl _⟩) rfl rfl rfl rfl rfl rfl ?_
     refine zx_e rfl rfl (KT htab rfl) rfl rfl rfl rfl rfl rfl rfl rfl ?_
     refine zx_M rfl rfl (fun _ => KF 1 htab rfl rfl rfl rfl rfl) (fun _ ⟨x1, x2⟩ ⟨e1, e2⟩ => by cases e1; cases e2; exact KF 1 htab rfl rfl rfl rfl rfl) rfl rfl rfl rfl rfl rfl rfl rfl ?_
     refine zx_e rfl rfl (KdY (r := [iD (19 : Int), iD (0 : Int), tD x56.1, .lst 1 [] .full, iD a1.gAt]) htab rfl rfl rfl rfl rfl rfl) rfl rfl rfl rfl rfl rfl rfl rfl ?_
     refine zx_q rfl rfl (KT htab rfl) rfl rfl rfl rfl rfl rfl ?_
     refine Kfk (h2 := [(b1, Blk.cells [iD a1.gKind, tD a1.gText, iD a1.gN, iD a1.gAt] 69), (b2, Blk.cells [iD (0 : Int), iD (0 : Int), tD ByteArray.empty, .lst 1 [] .full, iD (0 : Int)] 100)]) (hz := [(b1, Blk.cells [iD a1.gKind, tD a1.gText, iD a1.gN, iD a1.gAt] 69), (b2, Blk.cells [iD (0 : Int), iD (0 : Int), tD ByteArray.empty, .lst 1 [] .full, iD (0 : Int)] 100)]) rfl rfl (fun _ => rfl) (fun _ => rfl) rfl (fun e he => by simp [isAl] at he) ?_
     rintro _ _ ⟨rfl, rfl⟩
     obtain ⟨x57, q57, hm⟩ := Kf hm
     refine Kam (hg2 x56.2 (⟨(19 : Int), (0 : Int), x56.1, [], a1.gAt⟩ : Ka) (20 : Int) a2 o0 T0 c0_0 x57 q57) rfl rfl rfl rfl rfl (WkL.cons (Wk.refl _) (WkL.cons (Wk.trans (Wk.agg (rC (rC (rC (WkR.cons (WkC.nil) rfl (rC WkR.nil)))))) (Wk.of_eq (Kk (⟨(19 : Int), (0 : Int), x56.1, [], a1.gAt⟩ : Ka)).symm)) (WkL.cons (Wk.refl _) (WkL.cons (Wk.refl _) Wl)))) Pf Pf ?_
     rintro _ _ _ ⟨rfl, rfl, rfl⟩
     refine p_eq (i := 42) rfl (Wk.of_eq (Kk x57.1)) ?_
     refine pS2 (ds' := [iD x57.1.gOp, iD x57.1.gN, tD x57.1.gName, .lst 5 (x57.1.gKids.map Kg) .no, iD x57.1.gAt]) ?_
     refine Kh ?_
     refine Ks ?_
     refine K0 ?_
     refine KD ?_
     have er58 := Kn hm; subst er58
     refine rP (t' := [(6, .ptr b2 0)]) [0,1] [] 1 (wC wN) (lC 1 lN) ?_
     exact ⟨by first | rfl | (simp only [wrapD, Kk]; done) | (simp only [wrapD, Kk]; rfl), rfl, rfl⟩
    ·replace hm := yes_f hc55 hm
     refine Kl ?_
     refine pu ?_
     refine pu ?_
     refine Kh ?_
     refine Ku rfl (fun hc62 => ?_) (fun hc62 => ?_)
     ·replace hm := yes_t hc62 hm
      refine Kl ?_
      refine pu ?_
      refine pL 1 ?_
      refine Kal (r := [iD (18 : Int), iD (0 : Int), tD ByteArray.empty, .lst 1 [] .full, iD a1.gAt]) htab rfl rfl rfl rfl rfl rfl rfl rfl rfl ?_
      refine pS2 (ds' := [iD (18 : Int), iD (0 : Int), tD ByteArray.empty, .lst 1 [] .full, iD a1.gAt]) ?_
      refine Kh ?_
      refine Ks ?_
      refine K0 ?_
      refine KD ?_
      have er63 := Kn hm; subst er63
      refine retX.wk (WkS.bl2 (ds' := [iD (18 : Int), iD (0 : Int), tD ByteArray.empty, .lst 5 (([] : List Ka).map Kg) .no, iD a1.gAt]) (rC (rC (rC (WkR.cons (WkC.nil) rfl (rC WkR.nil)))))) ?_
      refine retX.wk (WkS.bl0 (ds' := [.lst 4 (m0.gL.map Kc) .no, iD m0.gAt, iD m0.gE]) (rO (rC (rC WkR.nil)))) ?_
      refine rP (t' := [(6, .ptr b2 0)]) [0,1] [] 1 (wC wN) (lC 1 lN) ?_
      exact ⟨by first | rfl | (simp only [wrapD, Kk]; done) | (simp only [wrapD, Kk]; rfl), rfl, rfl⟩
     ·replace hm := yes_f hc62 hm
      refine Kl ?_
      refine pu ?_
      refine pu ?_
      refine Kh ?_
      refine Ku rfl (fun hc66 => ?_) (fun hc66 => ?_)
      ·replace hm := yes_t hc66 hm
       refine Kl ?_
       refine pu ?_
       obtain ⟨x67, q67, hm⟩ := Kf hm
       refine pG (hg3 m0 (ByteArray.mk #[41]) o0 T0 c0_0 x67 q67) Wl Pf Pf ?_
       rintro _ _ _ ⟨rfl, rfl, rfl⟩
       refine p_eq (i := 51) rfl (Wk.of_eq (Kk x67.1)) ?_
       refine pS2 (ds' := [iD x67.1.gOp, iD x67.1.gN, tD x67.1.gName, .lst 5 (x67.1.gKids.map Kg) .no, iD x67.1.gAt]) ?_
       refine Kh ?_
       refine Ks ?_
       refine K0 ?_
       refine KD ?_
       have er68 := Kn hm; subst er68
       refine rP (t' := [(6, .ptr b2 0)]) [0,1] [] 1 (wC wN) (lC 1 lN) ?_
       exact ⟨by first | rfl | (simp only [wrapD, Kk]; done) | (simp only [wrapD, Kk]; rfl), rfl, rfl⟩
      ·replace hm := yes_f hc66 hm
       refine Ky ?_
       refine KI ?_
       refine Km ?_
       refine Kl ?_
       refine pu ?_
       refine pu ?_
       obtain ⟨x69, q69, hm⟩ := Kf hm
       refine pG (Kcf m0 a2 (3 : Int) o0 T0 c0_0 x69 q69) Wl Pf Pf ?_
       rintro _ _ _ ⟨rfl, rfl, rfl⟩
       refine Kv ?_
       refine Kal (r := [iD (0 : Int), iD (0 : Int), tD ByteArray.empty, .lst 1 [] .full, iD (0 : Int)]) htab rfl rfl rfl rfl rfl rfl rfl rfl rfl ?_
       refine pS2 (ds' := [iD (0 : Int), iD (0 : Int), tD ByteArray.empty, .lst 1 [] .full, iD (0 : Int)]) ?_
       refine Kh ?_
       refine Ks ?_
       have er70 := Kn hm; subst er70
       refine retX.wk (WkS.bl2 (ds' := [iD (0 : Int), iD (0 : Int), tD ByteArray.empty, .lst 5 (([] : List Ka).map Kg) .no, iD (0 : Int)]) (rC (rC (rC (WkR.cons (WkC.nil) rfl (rC WkR.nil)))))) ?_
       refine retX.wk (WkS.bl0 (ds' := [.lst 4 (x69.gL.map Kc) .no, iD x69.gAt, iD x69.gE]) (rO (rC (rC WkR.nil)))) ?_
       refine rP (t' := [(6, .ptr b2 0)]) [0,1] [] 1 (wC wN) (lC 1 lN) ?_
       exact ⟨by first | rfl | (simp only [wrapD, Kk]; done) | (simp only [wrapD, Kk]; rfl), rfl, rfl⟩
noncomputable def Ko : Nat → ((Kb) → (Int) → Option (Ka × Kb)) × ((Kb) → Option (Ka × Kb)) × ((Kb) → (Ka) → (Int) → (Int) → Option (Ka × Kb)) × ((Kb) → (ByteArray) → Option (Ka × Kb)) × ((Kb) → (Kt) → (Int) → Option (Ka × Kb))
 | 0 => (fun _ _ => none, fun _ => none, fun _ _ _ _ => none, fun _ _ => none, fun _ _ _ => none)
 | n + 1 => (KaK ((Ko n).1) ((Ko n).2.1) ((Ko n).2.2.1) ((Ko n).2.2.2.1) ((Ko n).2.2.2.2), KaV ((Ko n).1) ((Ko n).2.1) ((Ko n).2.2.1) ((Ko n).2.2.2.1) ((Ko n).2.2.2.2), Kau ((Ko n).1) ((Ko n).2.1) ((Ko n).2.2.1) ((Ko n).2.2.2.1) ((Ko n).2.2.2.2), Ka5 ((Ko n).1) ((Ko n).2.1) ((Ko n).2.2.1) ((Ko n).2.2.2.1) ((Ko n).2.2.2.2), KaW ((Ko n).1) ((Ko n).2.1) ((Ko n).2.2.1) ((Ko n).2.2.2.1) ((Ko n).2.2.2.2))
theorem KeP : ∀ n, (∀ (m0 : Kb) (a1 : Int) (o0 : Nat) (T0 : TypeId) (c0_0 : Cap) (r : Ka × Kb) (h0 : (Ko n).1 m0 a1 = some r), CallsD Try.prog 91 [.ptr o0 0, iD a1] [(o0, Blk.cells [.lst 4 (m0.gL.map Kc) c0_0, iD m0.gAt, iD m0.gE] T0)] [] (fun d h k => d = Kg r.1 ∧ h = [(o0, Blk.cells [.lst 4 (r.2.gL.map Kc) .no, iD r.2.gAt, iD r.2.gE] T0)] ∧ k = [])) ∧ (∀ (m0 : Kb) (o0 : Nat) (T0 : TypeId) (c0_0 : Cap) (r : Ka × Kb) (h0 : (Ko n).2.1 m0 = some r), CallsD Try.prog 95 [.ptr o0 0] [(o0, Blk.cells [.lst 4 (m0.gL.map Kc) c0_0, iD m0.gAt, iD m0.gE] T0)] [] (fun d h k => d = Kg r.1 ∧ h = [(o0, Blk.cells [.lst 4 (r.2.gL.map Kc) .no, iD r.2.gAt, iD r.2.gE] T0)] ∧ k = [])) ∧ (∀ (m0 : Kb) (a1 : Ka) (a2 : Int) (a3 : Int) (o0 : Nat) (T0 : TypeId) (c0_0 : Cap) (r : Ka × Kb) (h0 : (Ko n).2.2.1 m0 a1 a2 a3 = some r), CallsD Try.prog 99 [.ptr o0 0, Kg a1, iD a2, iD a3] [(o0, Blk.cells [.lst 4 (m0.gL.map Kc) c0_0, iD m0.gAt, iD m0.gE] T0)] [] (fun d h k => d = Kg r.1 ∧ h = [(o0, Blk.cells [.lst 4 (r.2.gL.map Kc) .no, iD r.2.gAt, iD r.2.gE] T0)] ∧ k = [])) ∧ (∀ (m0 : Kb) (a1 : ByteArray) (o0 : Nat) (T0 : TypeId) (c0_0 : Cap) (r : Ka × Kb) (h0 : (Ko n).2.2.2.1 m0 a1 = some r), CallsD Try.prog 105 [.ptr o0 0, tD a1] [(o0, Blk.cells [.lst 4 (m0.gL.map Kc) c0_0, iD m0.gAt, iD m0.gE] T0)] [] (fun d h k => d = Kg r.1 ∧ h = [(o0, Blk.cells [.lst 4 (r.2.gL.map Kc) .no, iD r.2.gAt, iD r.2.gE] T0)] ∧ k = [])) ∧ (∀ (m0 : Kb) (a1 : Kt) (a2 : Int) (o0 : Nat) (T0 : TypeId) (c0_0 : Cap) (r : Ka × Kb) (h0 : (Ko n).2.2.2.2 m0 a1 a2 = some r), CallsD Try.prog 100 [.ptr o0 0, Kc a1, iD a2] [(o0, Blk.cells [.lst 4 (m0.gL.map Kc) c0_0, iD m0.gAt, iD m0.gE] T0)] [] (fun d h k => d = Kg r.1 ∧ h = [(o0, Blk.cells [.lst 4 (r.2.gL.map Kc) .no, iD r.2.gAt, iD r.2.gE] T0)] ∧ k = []))
  | 0 => ⟨(fun _ _ _ _ _ _ h0 => by cases h0), (fun _ _ _ _ _ h0 => by cases h0), (fun _ _ _ _ _ _ _ _ h0 => by cases h0), (fun _ _ _ _ _ _ h0 => by cases h0), (fun _ _ _ _ _ _ _ h0 => by cases h0)⟩
  | n + 1 => by
    have ih := KeP n
    exact ⟨Khd ((Ko n).1) ((Ko n).2.1) ((Ko n).2.2.1) ((Ko n).2.2.2.1) ((Ko n).2.2.2.2) (ih.1) (ih.2.1) (ih.2.2.1) (ih.2.2.2.1) (ih.2.2.2.2), KgX ((Ko n).1) ((Ko n).2.1) ((Ko n).2.2.1) ((Ko n).2.2.2.1) ((Ko n).2.2.2.2) (ih.1) (ih.2.1) (ih.2.2.1) (ih.2.2.2.1) (ih.2.2.2.2), KfW ((Ko n).1) ((Ko n).2.1) ((Ko n).2.2.1) ((Ko n).2.2.2.1) ((Ko n).2.2.2.2) (ih.1) (ih.2.1) (ih.2.2.1) (ih.2.2.2.1) (ih.2.2.2.2), Khe ((Ko n).1) ((Ko n).2.1) ((Ko n).2.2.1) ((Ko n).2.2.2.1) ((Ko n).2.2.2.2) (ih.1) (ih.2.1) (ih.2.2.1) (ih.2.2.2.1) (ih.2.2.2.2), KgY ((Ko n).1) ((Ko n).2.1) ((Ko n).2.2.1) ((Ko n).2.2.2.1) ((Ko n).2.2.2.2) (ih.1) (ih.2.1) (ih.2.2.1) (ih.2.2.2.1) (ih.2.2.2.2)⟩
theorem KeQ : ∀ n, (∀ (m0 : Kb) (a1 : Int), Le ((Ko n).1 m0 a1) ((Ko (n + 1)).1 m0 a1)) ∧ (∀ (m0 : Kb), Le ((Ko n).2.1 m0) ((Ko (n + 1)).2.1 m0)) ∧ (∀ (m0 : Kb) (a1 : Ka) (a2 : Int) (a3 : Int), Le ((Ko n).2.2.1 m0 a1 a2 a3) ((Ko (n + 1)).2.2.1 m0 a1 a2 a3)) ∧ (∀ (m0 : Kb) (a1 : ByteArray), Le ((Ko n).2.2.2.1 m0 a1) ((Ko (n + 1)).2.2.2.1 m0 a1)) ∧ (∀ (m0 : Kb) (a1 : Kt) (a2 : Int), Le ((Ko n).2.2.2.2 m0 a1 a2) ((Ko (n + 1)).2.2.2.2 m0 a1 a2))
  | 0 => ⟨fun _ _ => Le.none _, fun _ => Le.none _, fun _ _ _ _ => Le.none _, fun _ _ => Le.none _, fun _ _ _ => Le.none _⟩
  | n + 1 => by
    have ih := KeQ n
    exact ⟨fun m0 a1 => by show Le (KaK ((Ko n).1) ((Ko n).2.1) ((Ko n).2.2.1) ((Ko n).2.2.2.1) ((Ko n).2.2.2.2) m0 a1) (KaK ((Ko (n + 1)).1) ((Ko (n + 1)).2.1) ((Ko (n + 1)).2.2.1) ((Ko (n + 1)).2.2.2.1) ((Ko (n + 1)).2.2.2.2) m0 a1); unfold KaK; repeat (first | exact Le.refl _ | exact ih.1 _ _ | exact ih.2.1 _ | exact ih.2.2.1 _ _ _ _ | exact ih.2.2.2.1 _ _ | exact ih.2.2.2.2 _ _ _ | assumption | (refine Le.bind ?_ (fun _ => ?_)) | (refine Le.cond ?_ ?_) | (refine Le.loop (fun _ => ?_)) | (refine Le.elim (fun _ => ?_) (fun _ => ?_))), fun m0 => by show Le (KaV ((Ko n).1) ((Ko n).2.1) ((Ko n).2.2.1) ((Ko n).2.2.2.1) ((Ko n).2.2.2.2) m0) (KaV ((Ko (n + 1)).1) ((Ko (n + 1)).2.1) ((Ko (n + 1)).2.2.1) ((Ko (n + 1)).2.2.2.1) ((Ko (n + 1)).2.2.2.2) m0); unfold KaV; repeat (first | exact Le.refl _ | exact ih.1 _ _ | exact ih.2.1 _ | exact ih.2.2.1 _ _ _ _ | exact ih.2.2.2.1 _ _ | exact ih.2.2.2.2 _ _ _ | assumption | (refine Le.bind ?_ (fun _ => ?_)) | (refine Le.cond ?_ ?_) | (refine Le.loop (fun _ => ?_)) | (refine Le.elim (fun _ => ?_) (fun _ => ?_))), fun m0 a1 a2 a3 => by show Le (Kau ((Ko n).1) ((Ko n).2.1) ((Ko n).2.2.1) ((Ko n).2.2.2.1) ((Ko n).2.2.2.2) m0 a1 a2 a3) (Kau ((Ko (n + 1)).1) ((Ko (n + 1)).2.1) ((Ko (n + 1)).2.2.1) ((Ko (n + 1)).2.2.2.1) ((Ko (n + 1)).2.2.2.2) m0 a1 a2 a3); unfold Kau; repeat (first | exact Le.refl _ | exact ih.1 _ _ | exact ih.2.1 _ | exact ih.2.2.1 _ _ _ _ | exact ih.2.2.2.1 _ _ | exact ih.2.2.2.2 _ _ _ | assumption | (refine Le.bind ?_ (fun _ => ?_)) | (refine Le.cond ?_ ?_) | (refine Le.loop (fun _ => ?_)) | (refine Le.elim (fun _ => ?_) (fun _ => ?_))), fun m0 a1 => by show Le (Ka5 ((Ko n).1) ((Ko n).2.1) ((Ko n).2.2.1) ((Ko n).2.2.2.1) ((Ko n).2.2.2.2) m0 a1) (Ka5 ((Ko (n + 1)).1) ((Ko (n + 1)).2.1) ((Ko (n + 1)).2.2.1) ((Ko (n + 1)).2.2.2.1) ((Ko (n + 1)).2.2.2.2) m0 a1); unfold Ka5; repeat (first | exact Le.refl _ | exact ih.1 _ _ | exact ih.2.1 _ | exact ih.2.2.1 _ _ _ _ | exact ih.2.2.2.1 _ _ | exact ih.2.2.2.2 _ _ _ | assumption | (refine Le.bind ?_ (fun _ => ?_)) | (refine Le.cond ?_ ?_) | (refine Le.loop (fun _ => ?_)) | (refine Le.elim (fun _ => ?_) (fun _ => ?_))), fun m0 a1 a2 => by show Le (KaW ((Ko n).1) ((Ko n).2.1) ((Ko n).2.2.1) ((Ko n).2.2.2.1) ((Ko n).2.2.2.2) m0 a1 a2) (KaW ((Ko (n + 1)).1) ((Ko (n + 1)).2.1) ((Ko (n + 1)).2.2.1) ((Ko (n + 1)).2.2.2.1) ((Ko (n + 1)).2.2.2.2) m0 a1 a2); unfold KaW; repeat (first | exact Le.refl _ | exact ih.1 _ _ | exact ih.2.1 _ | exact ih.2.2.1 _ _ _ _ | exact ih.2.2.2.1 _ _ | exact ih.2.2.2.2 _ _ _ | assumption | (refine Le.bind ?_ (fun _ => ?_)) | (refine Le.cond ?_ ?_) | (refine Le.loop (fun _ => ?_)) | (refine Le.elim (fun _ => ?_) (fun _ => ?_)))⟩
noncomputable def KcV (m0 : Kb) (a1 : Int) : Option (Ka × Kb) := anyN fun n => (Ko n).1 m0 a1
theorem Kfh (m0 : Kb) (a1 : Int) {r : Ka × Kb} (n : Nat) (h : (Ko n).1 m0 a1 = some r) : KcV m0 a1 = some r := Kc8 (fun m => (KeQ m).1 m0 a1) h
theorem Kh4 (m0 : Kb) (a1 : Int) (o0 : Nat) (T0 : TypeId) (c0_0 : Cap) (r : Ka × Kb) (h0 : KcV m0 a1 = some r) : CallsD Try.prog 91 [.ptr o0 0, iD a1] [(o0, Blk.cells [.lst 4 (m0.gL.map Kc) c0_0, iD m0.gAt, iD m0.gE] T0)] [] (fun d h k => d = Kg r.1 ∧ h = [(o0, Blk.cells [.lst 4 (r.2.gL.map Kc) .no, iD r.2.gAt, iD r.2.gE] T0)] ∧ k = []) :=
 let ⟨n, hn⟩ := KcB h0; (KeP n).1 m0 a1 o0 T0 c0_0 r hn
noncomputable def Ker (a0 : List Kt) (a1 : Int) : Option (Ka × Int × Int) :=
 (Option.bind (α := Bool) (bif (decide (a1 < (0 : Int))) then some true else some (decide ((a0.length : Int) < a1))) fun y3 => (bif y3 then some ((⟨(0 : Int), (0 : Int), ByteArray.empty, [], (0 : Int)⟩ : Ka), (0 : Int), (2 : Int)) else ((KcV (⟨a0, a1, (0 : Int)⟩ : Kb) (0 : Int)).bind fun x9 => (bif (x9.2.gE != (0 : Int)) then some ((⟨(0 : Int), (0 : Int), ByteArray.empty, [], (0 : Int)⟩ : Ka), x9.2.gAt, x9.2.gE) else some (x9.1, x9.2.gAt, (0 : Int))))))
theorem Kj7 (a0 : List Kt) (a1 : Int) (r : Ka × Int × Int) (h0 : Ker a0 a1 = some r) : CallsD Try.prog 83 [.lst 4 (a0.map Kc) .no, iD a1] [] [] (fun d h k => d = .tup [Kg r.1, iD r.2.1, iD r.2.2] ∧ h = [] ∧ k = []) := by
 have hm := KE h0
 unfold Ker at hm
 clear h0
 refine KW htab Try.func83 rfl rfl rfl rfl rfl (fun C => ?_)
 refine Kl ?_
 refine KP htab rfl rfl rfl rfl rfl rfl rfl (fun b1 => ?_)
 refine pu ?_
 refine pu ?_
 refine Kh ?_
 refine Kq ?_
 refine Kq ?_
 obtain ⟨y3, q3, ho3⟩ := Kf hm
 refine K6 (Y := Unit) (fun z3 => (⟨[(0, .lst 4 (a0.map Kc) .no), (1, iD a1), (4, .ptr b1 0), (17, .v (.bool y3))], [(b1, Blk.cells [iD (0 : Int), iD (0 : Int), tD ByteArray.empty, .lst 1 [] .full, iD (0 : Int)] 100)], []⟩ : S)) ?_ ?_
 ·clear hm; have hm := KE q3
  refine KC ?_
  iterate 3 refine pu ?_
  refine K9 (i := 12) rfl (fun hg4 => ?_) (fun hg4 => ?_)
  ·replace hm := yes_t hg4 hm
   iterate 4 refine pK ?_
   refine KS rfl rfl rfl rfl rfl rfl ?_
   refine KB ?_
   have e3 := Kn hm; subst e3
   refine ⟨rfl, ?_⟩
   exact WkX.of () (WkS.perm (WkS.cons rfl (Wk.refl _) (WkS.cons rfl (Wk.refl _) (WkS.cons rfl (Wk.refl _) (WkS.cons rfl (Wk.refl _) (WkS.nil))))) Pf Pf)
  ·replace hm := yes_f hg4 hm
   refine pu ?_
   refine pu ?_
   refine KaP htab rfl rfl rfl rfl rfl rfl rfl (by first | exact Kaf | rfl) ?_
   refine pu ?_
   refine KH rfl rfl rfl rfl rfl rfl ?_
   refine KB ?_
   have e3 := Kn hm; subst e3
   refine ⟨rfl, ?_⟩
   exact WkX.of () (WkS.perm (WkS.cons rfl (Wk.refl _) (WkS.cons rfl (Wk.refl _) (WkS.cons rfl (Wk.refl _) (WkS.cons rfl (Wk.refl _) (WkS.nil))))) Pf Pf)
 ·intro s3 hw3; clear hm; have hm := ho3; clear q3 ho3
  refine Km ?_
  refine K3 hw3 (fun z3 => ?_)
  refine Ku rfl (fun hc6 => ?_) (fun hc6 => ?_)
  ·replace hm := yes_t hc6 hm
   refine Kl ?_
   refine Kal (r := [iD (0 : Int), iD (0 : Int), tD ByteArray.empty, .lst 1 [] .full, iD (0 : Int)]) htab rfl rfl rfl rfl rfl rfl rfl rfl rfl ?_
   refine pS0 (ds' := [iD (0 : Int), iD (0 : Int), tD ByteArray.empty, .lst 1 [] .full, iD (0 : Int)]) ?_
   refine pu ?_
   refine pu ?_
   refine Kh ?_
   refine Ks ?_
   refine KD ?_
   have er7 := Kn hm; subst er7
   refine retX.wk (WkS.bl0 (ds' := [iD (0 : Int), iD (0 : Int), tD ByteArray.empty, .lst 5 (([] : List Ka).map Kg) .no, iD (0 : Int)]) (rC (rC (rC (WkR.cons (WkC.nil) rfl (rC WkR.nil)))))) ?_
   refine rP (t' := [(4, .ptr b1 0), (5, iD (0 : Int)), (6, iD (2 : Int))]) [0] [] 0 (wC (wC (wC wN))) (lC 0 (lT (lT lN))) ?_
   exact ⟨by first | rfl | (simp only [wrapD, Kk]; done) | (simp only [wrapD, Kk]; rfl), rfl, rfl⟩
  ·replace hm := yes_f hc6 hm
   refine Ky ?_
   refine Km ?_
   refine Kl ?_
   refine pu ?_
   refine pu ?_
   refine Kal (r := [.lst 4 (a0.map Kc) .no, iD a1, iD (0 : Int)]) htab rfl rfl rfl rfl rfl rfl rfl rfl rfl ?_
   refine p_box rfl rfl rfl rfl rfl rfl rfl (fun b8 => ?_)
   refine pu ?_
   refine Kv ?_
   refine pu ?_
   refine Kv ?_
   refine pu ?_
   refine pu ?_
   obtain ⟨x9, q9, hm⟩ := Kf hm
   refine Kf6 (Kh4 (⟨a0, a1, (0 : Int)⟩ : Kb) (0 : Int) b8 134 .no x9 q9) rfl rfl rfl rfl rfl rfl rfl Wl ((Kap (j := 1) rfl).trans (List.Perm.cons _ Pf)) Pf ?_
   rintro _ _ _ ⟨rfl, rfl, rfl⟩
   refine p_eq (i := 25) rfl (Wk.of_eq (Kk x9.1)) ?_
   refine KP htab rfl rfl rfl rfl rfl rfl rfl (fun b10 => ?_)
   refine pS2 (ds' := [iD x9.1.gOp, iD x9.1.gN, tD x9.1.gName, .lst 5 (x9.1.gKids.map Kg) .no, iD x9.1.gAt]) ?_
   refine Kh ?_
   refine Kq ?_
   refine Kl ?_
   iterate 3 refine pu ?_
   refine pL 0 ?_
   refine pu ?_
   refine Kh ?_
   refine Ku rfl (fun hc13 => ?_) (fun hc13 => ?_)
   ·replace hm := yes_t hc13 hm
    refine Kq ?_
    refine Kcm 11 [] [[],[],[1],[1,2],[1,2,3],[],[5],[5,6],[5,6,7],[0],[0,1,2,3,4,9]] [0,1,2,3,4,5,6,7,8,9] [[],[],[1],[1,2],[1,2,3],[],[5],[5,6],[5,6,7],[0],[0,1,2,3,4,9],[0,1,2,3,4,5,6,7,8,9,10]] 9 (by kernel_rfl) (by kernel_rfl) (by kernel_rfl) (by rfl) (by rfl) (by kernel_rfl) ?_
    refine ⟨[(b8, Blk.cells [.lst 4 (x9.2.gL.map Kc) .no, iD x9.2.gAt, iD x9.2.gE] 134), (b1, Blk.cells [iD (0 : Int), iD (0 : Int), tD ByteArray.empty, .lst 1 [] .full, iD (0 : Int)] 100), (b10, Blk.cells [iD x9.1.gOp, iD x9.1.gN, tD x9.1.gName, .lst 5 (x9.1.gKids.map Kg) .no, iD x9.1.gAt] 100)], ?_⟩
    iterate 9 apply Exists.intro
    refine ⟨.any, ?_⟩
    intro bs v14
    refine zh_e rfl rfl (KdY (r := [iD (0 : Int), iD (0 : Int), tD ByteArray.empty, .lst 1 [] .full, iD (0 : Int)]) htab rfl rfl rfl rfl rfl rfl) rfl rfl rfl rfl rfl rfl rfl rfl ?_
    iterate 3 refine zh_e rfl rfl (KT htab rfl) rfl rfl rfl rfl rfl rfl rfl rfl ?_
    refine zh_M rfl rfl (fun _ => KF 0 htab rfl rfl rfl rfl rfl) (fun _ => KF 0 htab rfl rfl rfl rfl rfl) rfl rfl rfl rfl rfl rfl rfl rfl ?_
    iterate 3 refine zh_e rfl rfl (KT htab rfl) rfl rfl rfl rfl rfl rfl rfl rfl ?_
    refine zh_M rfl rfl (fun _ => KF 0 htab rfl rfl rfl rfl rfl) (fun _ => KF 0 htab rfl rfl rfl rfl rfl) rfl rfl rfl rfl rfl rfl rfl rfl ?_
    refine KcA 1 htab rfl rfl rfl rfl rfl rfl rfl rfl rfl rfl rfl rfl rfl rfl rfl rfl ?_
    refine zh_q rfl rfl (KT htab rfl) rfl rfl rfl rfl rfl rfl ?_
    refine KdE rfl rfl rfl rfl (fun e he => by simp [isAl] at he) ?_
    refine pu ?_
    refine Kh ?_
    refine Ks ?_
    refine KD ?_
    have er15 := Kn hm; subst er15
    refine retX.wk (WkS.bl1 (ds' := [iD (0 : Int), iD (0 : Int), tD ByteArray.empty, .lst 5 (([] : List Ka).map Kg) .no, iD (0 : Int)]) (rC (rC (rC (WkR.cons (WkC.nil) rfl (rC WkR.nil)))))) ?_
    refine rP (t' := [(4, .ptr b1 0), (5, iD x9.2.gAt), (6, iD x9.2.gE)]) [1] [] 0 (wC (wC (wC wN))) (lC 0 (lT (lT lN))) ?_
    exact ⟨by first | rfl | (simp only [wrapD, Kk]; done) | (simp only [wrapD, Kk]; rfl), rfl, rfl⟩
   ·replace hm := yes_f hc13 hm
    refine Ky ?_
    refine Km ?_
    refine Kq ?_
    refine Kcm 6 [] [[],[],[1],[1,2],[1,2,3],[0]] [0,1,2,3,4,5] [[],[],[1],[1,2],[1,2,3],[0],[0,1,2,3,4,5],[0,1,2,3,4,5,6]] 5 (by kernel_rfl) (by kernel_rfl) (by kernel_rfl) (by rfl) (by rfl) (by kernel_rfl) ?_
    refine ⟨[(b8, Blk.cells [.lst 4 (x9.2.gL.map Kc) .no, iD x9.2.gAt, iD x9.2.gE] 134), (b1, Blk.cells [iD x9.1.gOp, iD x9.1.gN, tD x9.1.gName, .lst 5 (x9.1.gKids.map Kg) .no, iD x9.1.gAt] 100), (b10, Blk.cells [iD x9.1.gOp, iD x9.1.gN, tD x9.1.gName, .lst 5 (x9.1.gKids.map Kg) .no, iD x9.1.gAt] 100)], ?_⟩
    iterate 5 apply Exists.intro
    refine ⟨.any, ?_⟩
    intro bs v16
    refine zh_M rfl rfl (fun _ => KF (d := .agg [iD x9.1.gOp, iD x9.1.gN, tD x9.1.gName, .lst 5 (x9.1.gKids.map Kg) .no, iD x9.1.gAt]) 2 htab rfl rfl rfl rfl rfl) (offB rfl) rfl rfl rfl rfl rfl rfl rfl rfl ?_
    iterate 3 refine zh_e rfl rfl (KT htab rfl) rfl rfl rfl rfl rfl rfl rfl rfl ?_
    refine zh_M rfl rfl (fun _ => KF 0 htab rfl rfl rfl rfl rfl) (fun _ => KF 0 htab rfl rfl rfl rfl rfl) rfl rfl rfl rfl rfl rfl rfl rfl ?_
    refine KcA 1 htab rfl rfl rfl rfl rfl rfl rfl rfl rfl rfl rfl rfl rfl rfl rfl rfl ?_
    refine KdE rfl rfl rfl rfl (fun e he => by simp [isAl] at he) ?_
    refine pu ?_
    refine pu ?_
    refine Kh ?_
    refine Ks ?_
    have er17 := Kn hm; subst er17
    refine rP (t' := [(4, .ptr b1 0), (5, iD x9.2.gAt), (6, iD (0 : Int))]) [1] [] 0 (wC (wC (wC wN))) (lC 0 (lT (lT lN))) ?_
    exact ⟨by first | rfl | (simp only [wrapD, Kk]; done) | (simp only [wrapD, Kk]; rfl), rfl, rfl⟩
abbrev nlGm1_6 : List (List Nat) := nlD [] [(0,[]),(0,[0]),(2,[1]),(3,[2]),(0,[]),(0,[4]),(6,[5]),(7,[6]),(0,[]),(0,[8]),(10,[9]),(11,[10]),(12,[11]),(8,[8,9,10,11]),(4,[3,4,5,6,8,9,10,11]),(15,[14]),(16,[15]),(17,[]),(17,[]),(0,[]),(17,[16,19]),(21,[20])]
abbrev nlGm1_7 : List (List Nat) := nlD [] [(0,[]),(0,[0]),(2,[1]),(3,[2]),(0,[]),(0,[4]),(6,[5]),(7,[6]),(0,[]),(0,[8]),(10,[9]),(11,[10]),(12,[11]),(8,[7,8,9,10,11,12]),(4,[3,4,5,6,7,8,9,10,11,12,13]),(15,[14]),(16,[15]),(17,[]),(17,[]),(0,[]),(17,[16,19]),(17,[16,17,19,20]),(17,[16,17,18,19,20,21])]
noncomputable def K8 (m0 : Ke) : Option (Ka × Ke) :=
 (bif (m0.gE != (0 : Int)) then some ((⟨(0 : Int), (0 : Int), ByteArray.empty, [], (0 : Int)⟩ : Ka), m0) else ((Ker m0.gL (min m0.gAt (m0.gL.length : Int))).bind fun x5 => (bif (x5.2.2 != (0 : Int)) then ((Kab m0 x5.2.1 x5.2.2).bind fun x10 => some ((⟨(0 : Int), (0 : Int), ByteArray.empty, [], (0 : Int)⟩ : Ka), x10)) else some (x5.1, (⟨m0.gL, x5.2.1, m0.gE, m0.gVars, m0.gOpen⟩ : Ke)))))
theorem Kbh (m0 : Ke) (o0 : Nat) (T0 : TypeId) (c0_0 : Cap) (r : Ka × Ke) (h0 : K8 m0 = some r) : CallsD Try.prog 71 [.ptr o0 0] [(o0, Blk.cells [.lst 4 (m0.gL.map Kc) c0_0, iD m0.gAt, iD m0.gE, iD m0.gVars, iD m0.gOpen] T0)] [] (fun d h k => d = Kg r.1 ∧ h = [(o0, Blk.cells [.lst 4 (r.2.gL.map Kc) c0_0, iD r.2.gAt, iD r.2.gE, iD r.2.gVars, iD r.2.gOpen] T0)] ∧ k = []) := by
 have hm := KE h0
 unfold K8 at hm
 clear h0
 refine KW htab Try.func71 rfl rfl rfl rfl rfl (fun C => ?_)
 refine Kl ?_
 refine KP htab rfl rfl rfl rfl rfl rfl rfl (fun b1 => ?_)
 refine Kh ?_
 refine Kq ?_
 refine Kl ?_
 iterate 3 refine pu ?_
 refine pL 0 ?_
 refine pu ?_
 refine Kh ?_
 refine Ku rfl (fun hc3 => ?_) (fun hc3 => ?_)
 ·replace hm := yes_t hc3 hm
  refine Kl ?_
  refine Kal (r := [iD (0 : Int), iD (0 : Int), tD ByteArray.empty, .lst 1 [] .full, iD (0 : Int)]) htab rfl rfl rfl rfl rfl rfl rfl rfl rfl ?_
  refine pS1 (ds' := [iD (0 : Int), iD (0 : Int), tD ByteArray.empty, .lst 1 [] .full, iD (0 : Int)]) ?_
  refine Kh ?_
  refine Ks ?_
  refine KD ?_
  have er4 := Kn hm; subst er4
  refine retX.wk (WkS.bl1 (ds' := [iD (0 : Int), iD (0 : Int), tD ByteArray.empty, .lst 5 (([] : List Ka).map Kg) .no, iD (0 : Int)]) (rC (rC (rC (WkR.cons (WkC.nil) rfl (rC WkR.nil)))))) ?_
  refine rP (t' := [(2, .ptr b1 0)]) [0,0] [] 1 (wC wN) (lC 1 lN) ?_
  exact ⟨by first | rfl | (simp only [wrapD, Kk]; done) | (simp only [wrapD, Kk]; rfl), rfl, rfl⟩
 ·replace hm := yes_f hc3 hm
  refine Ky ?_
  refine Km ?_
  refine Kq ?_
  obtain ⟨x5, q5, hm⟩ := Kf hm
  refine KeO 22 [(19, [iD (0 : Int), iD (0 : Int), tD ByteArray.empty, .lst 1 [] .full, iD (0 : Int)], 100)] [(19, 20, [iD x5.1.gOp, iD x5.1.gN, tD x5.1.gName, .lst 5 (x5.1.gKids.map Kg) .no, iD x5.1.gAt])] nlGm1_6 [0,1,2,3,4,5,6,8,9,10,11,14,15,16,19,20] nlGm1_7 (by kernel_rfl) (by kernel_rfl) (by kernel_rfl) (by rfl) (by rfl) (by kernel_rfl) ?_
  iterate 14 apply Exists.intro
  refine ⟨.any, ?_⟩
  refine ⟨.any, ?_⟩
  intro bs
  iterate 3 refine zf_e rfl rfl (KT htab rfl) rfl rfl rfl rfl rfl rfl rfl ?_
  refine zf_eM rfl rfl (KF 0 htab rfl rfl rfl rfl rfl) rfl rfl rfl rfl rfl rfl rfl ?_
  iterate 3 refine zf_e rfl rfl (KT htab rfl) rfl rfl rfl rfl rfl rfl rfl ?_
  refine zf_qM rfl rfl (KF 0 htab rfl rfl rfl rfl rfl) rfl rfl rfl rfl rfl rfl ?_
  iterate 3 refine zf_e rfl rfl (KT htab rfl) rfl rfl rfl rfl rfl rfl rfl ?_
  refine zf_eM rfl rfl (KF 0 htab rfl rfl rfl rfl rfl) rfl rfl rfl rfl rfl rfl rfl ?_
  refine zf_q rfl rfl (KdT htab rfl rfl rfl rfl (by first | exact Kaf | rfl)) rfl rfl rfl rfl rfl rfl ?_
  refine zf_q rfl rfl (x_min rfl rfl rfl) rfl rfl rfl rfl rfl rfl ?_
  refine zf_call rfl rfl (Kj7 m0.gL (min m0.gAt (m0.gL.length : Int)) x5 q5) rfl rfl (WkL.cons (Wk.no) (WkL.cons (Wk.refl _) Wl)) rfl rfl rfl rfl rfl rfl rfl ?_
  refine zf_e rfl rfl (KT htab rfl) rfl rfl rfl rfl rfl rfl rfl ?_
  refine zf_e rfl rfl (Ex.wk (KT htab rfl) (Wk.of_eq (Kk x5.1))) rfl rfl rfl rfl rfl rfl rfl ?_
  refine zf_q rfl rfl (KT htab rfl) rfl rfl rfl rfl rfl rfl ?_
  refine zf_q rfl rfl (KT htab rfl) rfl rfl rfl rfl rfl rfl ?_
  refine Kfj rfl htab rfl rfl rfl rfl rfl rfl rfl rfl rfl rfl (by simp [dOf, eI64]) (by simp) ?_
  refine Kf4 (e := 19) (zs := [iD (0 : Int), iD (0 : Int), tD ByteArray.empty, .lst 1 [] .full, iD (0 : Int)]) (T' := 100) (ds' := [iD x5.1.gOp, iD x5.1.gN, tD x5.1.gName, .lst 5 (x5.1.gKids.map Kg) .no, iD x5.1.gAt]) htab rfl rfl rfl rfl rfl rfl rfl rfl rfl (by simp) (by simp) rfl rfl rfl rfl rfl rfl rfl rfl rfl ?_
  refine zf_q rfl rfl (KT htab rfl) rfl rfl rfl rfl rfl rfl ?_
  refine Kg9 (h' := [(o0, Blk.cells [.lst 4 (m0.gL.map Kc) c0_0, iD m0.gAt, iD m0.gE, iD m0.gVars, iD m0.gOpen] T0), (b1, Blk.cells [iD (0 : Int), iD (0 : Int), tD ByteArray.empty, .lst 1 [] .full, iD (0 : Int)] 100), (bs 19, Blk.cells [iD x5.1.gOp, iD x5.1.gN, tD x5.1.gName, .lst 5 (x5.1.gKids.map Kg) .no, iD x5.1.gAt] 100)]) rfl rfl rfl (fun e he => by simp [isAl] at he; subst he; rfl) ?_
  obtain ⟨b6, hb6⟩ : ∃ b, bs 19 = b := ⟨_, rfl⟩
  simp only [hb6]
  clear hb6
  refine pu ?_
  refine Kh ?_
  refine Kq ?_
  refine Kl ?_
  refine pu ?_
  refine pu ?_
  refine Kh ?_
  refine Ku rfl (fun hc9 => ?_) (fun hc9 => ?_)
  ·replace hm := yes_t hc9 hm
   refine Kl ?_
   iterate 3 refine pu ?_
   obtain ⟨x10, q10, hm⟩ := Kf hm
   refine pG (KaH m0 x5.2.1 x5.2.2 o0 T0 c0_0 x10 q10) Wl Pf Pf ?_
   rintro _ _ _ ⟨rfl, rfl, rfl⟩
   refine Kv ?_
   refine Kal (r := [iD (0 : Int), iD (0 : Int), tD ByteArray.empty, .lst 1 [] .full, iD (0 : Int)]) htab rfl rfl rfl rfl rfl rfl rfl rfl rfl ?_
   refine pS1 (ds' := [iD (0 : Int), iD (0 : Int), tD ByteArray.empty, .lst 1 [] .full, iD (0 : Int)]) ?_
   refine Kh ?_
   refine Ks ?_
   refine KD ?_
   have er11 := Kn hm; subst er11
   refine retX.wk (WkS.bl1 (ds' := [iD (0 : Int), iD (0 : Int), tD ByteArray.empty, .lst 5 (([] : List Ka).map Kg) .no, iD (0 : Int)]) (rC (rC (rC (WkR.cons (WkC.nil) rfl (rC WkR.nil)))))) ?_
   refine rP (t' := [(2, .ptr b1 0)]) [0,0] [] 1 (wC wN) (lC 1 lN) ?_
   exact ⟨by first | rfl | (simp only [wrapD, Kk]; done) | (simp only [wrapD, Kk]; rfl), rfl, rfl⟩
  ·replace hm := yes_f hc9 hm
   refine Ky ?_
   refine Km ?_
   refine Kl ?_
   iterate 4 refine pu ?_
   refine pS0 (ds' := [.lst 4 (m0.gL.map Kc) c0_0, iD x5.2.1, iD m0.gE, iD m0.gVars, iD m0.gOpen]) ?_
   refine Kv ?_
   refine K7 (d := .agg [iD x5.1.gOp, iD x5.1.gN, tD x5.1.gName, .lst 5 (x5.1.gKids.map Kg) .no, iD x5.1.gAt]) 2 htab rfl rfl rfl rfl rfl rfl rfl rfl ?_
   refine pS1 (ds' := [iD x5.1.gOp, iD x5.1.gN, tD x5.1.gName, .lst 5 (x5.1.gKids.map Kg) .no, iD x5.1.gAt]) ?_
   refine Kh ?_
   refine Ks ?_
   have er12 := Kn hm; subst er12
   refine rP (t' := [(2, .ptr b1 0)]) [0,0] [] 1 (wC wN) (lC 1 lN) ?_
   exact ⟨by first | rfl | (simp only [wrapD, Kk]; done) | (simp only [wrapD, Kk]; rfl), rfl, rfl⟩
noncomputable def KaT (m0 : Ke) : Option (List Ka × Ke) :=
 ((KJ m0 ([(ByteArray.mk #[40])] : List ByteArray)).bind fun x1 => ((KX x1 (ByteArray.mk #[41])).bind fun x2 => (bif x2.1 then some (([] : List Ka), x2.2) else (Option.bind (α := List Ka × List Kt × Int × Int × Int × Int) (loopM (fun (s28 : List Ka × List Kt × Int × Int × Int × Int) => (bif (s28.2.2.2.1 == (0 : Int)) then ((K8 (⟨s28.2.1, s28.2.2.1, s28.2.2.2.1, s28.2.2.2.2.1, s28.2.2.2.2.2⟩ : Ke)).bind fun x43 => ((app 64 s28.1 ([x43.1] : List Ka)).bind fun x44 => ((KX x43.2 (ByteArray.mk #[44])).bind fun x45 => (bif (!x45.1) then some (.done (x44, x45.2.gL, x45.2.gAt, x45.2.gE, x45.2.gVars, x45.2.gOpen)) else some (.next (x44, x45.2.gL, x45.2.gAt, x45.2.gE, x45.2.gVars, x45.2.gOpen)))))) else some (.done (s28.1, s28.2.1, s28.2.2.1, s28.2.2.2.1, s28.2.2.2.2.1, s28.2.2.2.2.2)))) (([] : List Ka), x2.2.gL, x2.2.gAt, x2.2.gE, x2.2.gVars, x2.2.gOpen)) fun y27 => ((KJ (⟨y27.2.1, y27.2.2.1, y27.2.2.2.1, y27.2.2.2.2.1, y27.2.2.2.2.2⟩ : Ke) ([(ByteArray.mk #[41])] : List ByteArray)).bind fun x47 => some (y27.1, x47))))))
theorem Kgl (m0 : Ke) (o0 : Nat) (T0 : TypeId) (c0_0 : Cap) (r : List Ka × Ke) (h0 : KaT m0 = some r) : CallsD Try.prog 90 [.ptr o0 0, .fn (.func 71) [.ptr o0 0] []] [(o0, Blk.cells [.lst 4 (m0.gL.map Kc) c0_0, iD m0.gAt, iD m0.gE, iD m0.gVars, iD m0.gOpen] T0)] [] (fun d h k => ∃ y0, d = .lst 5 (r.1.map Kg) (.cur y0) ∧ h = [(o0, Blk.cells [.lst 4 (r.2.gL.map Kc) .no, iD r.2.gAt, iD r.2.gE, iD r.2.gVars, iD r.2.gOpen] T0)] ∧ k = [(5, y0)]) := by
 have hm := KE h0
 unfold KaT at hm
 clear h0
 refine KW htab Try.func90 rfl rfl rfl rfl rfl (fun C => ?_)
 refine Kl ?_
 refine pu ?_
 refine Kv ?_
 refine pu ?_
 refine Kv ?_
 refine pu ?_
 refine p_lit htab rfl rfl rfl rfl rfl rfl rfl rfl rfl rfl rfl rfl rfl rfl ?_
 refine p_eq (i := 7) (d' := .lst 1 (([(ByteArray.mk #[40])] : List ByteArray).map eStr) .full) rfl (Wk.lst0 (.cons (WkC.refl _) (.nil))) ?_
 obtain ⟨x1, q1, hm⟩ := Kf hm
 refine Kam (KZ m0 ([(ByteArray.mk #[40])] : List ByteArray) o0 T0 c0_0 x1 q1) rfl rfl rfl rfl rfl (WkL.cons (Wk.refl _) (WkL.cons (Wk.no) Wl)) Pf Pf ?_
 rintro _ _ _ ⟨rfl, rfl, rfl⟩
 refine Kh ?_
 refine Kq ?_
 refine Kl ?_
 refine pu ?_
 obtain ⟨x2, q2, hm⟩ := Kf hm
 refine pG (Kad x1 (ByteArray.mk #[41]) o0 T0 c0_0 x2 q2) Wl Pf Pf ?_
 rintro _ _ _ ⟨rfl, rfl, rfl⟩
 refine Kh ?_
 refine Ku rfl (fun hc4 => ?_) (fun hc4 => ?_)
 ·replace hm := yes_t hc4 hm
  refine Kl ?_
  refine pu ?_
  refine pu ?_
  refine Kh ?_
  refine Ks ?_
  refine KD ?_
  have er5 := Kn hm; subst er5
  refine retX.tokN (i := 4) 5 rfl (fun w6 => ?_)
  refine retX.wk (WkS.bl0 (ds' := [.lst 4 (x2.2.gL.map Kc) .no, iD x2.2.gAt, iD x2.2.gE, iD x2.2.gVars, iD x2.2.gOpen]) (rO (rC (rC (rC (rC WkR.nil)))))) ?_
  refine rP (t' := [(4, .lst 5 (([] : List Ka).map Kg) (.cur w6))]) [0] [0] 1 (wC wN) (lT lN) ?_
  exact ⟨w6, rfl, rfl, rfl⟩
 ·replace hm := yes_f hc4 hm
  refine Ky ?_
  refine Km ?_
  refine Kq ?_
  obtain ⟨y27, q27, ho27⟩ := Kf hm
  refine K6 (Y := Value) (fun z27 => (⟨[(0, .ptr o0 0), (5, .lst 5 (y27.1.map Kg) (.cur z27))], [(o0, Blk.cells [.lst 4 (y27.2.1.map Kc) .no, iD y27.2.2.1, iD y27.2.2.2.1, iD y27.2.2.2.2.1, iD y27.2.2.2.2.2] T0)], [(5, z27)]⟩ : S)) ?_ ?_
  ·clear hm; have hm := KE q27
   refine KL ?_
   obtain ⟨u28, hl28, hq28⟩ := yes_m hm
   refine Kbe (Y := Value) hl28 (fun s28 z28 => (⟨[(0, .ptr o0 0), (1, .fn (.func 71) [.ptr o0 0] []), (5, .lst 5 (s28.1.map Kg) (.cur z28))], [(o0, Blk.cells [.lst 4 (s28.2.1.map Kc) .no, iD s28.2.2.1, iD s28.2.2.2.1, iD s28.2.2.2.2.1, iD s28.2.2.2.2.2] T0)], [(5, z28)]⟩ : S)) ?_ ?_
   ·skip
    refine WkX.tokN (i := 5) 5 rfl (fun w41 => ?_)
    refine WkX.wk (WkS.bl0 (ds' := [.lst 4 (x2.2.gL.map Kc) .no, iD x2.2.gAt, iD x2.2.gE, iD x2.2.gVars, iD x2.2.gOpen]) (rO (rC (rC (rC (rC WkR.nil)))))) ?_
    exact WkX.of w41 (WkS.perm (WkS.cons rfl (Wk.refl _) (WkS.cons rfl (Wk.refl _) (WkS.cons rfl (Wk.refl _) (WkS.nil)))) Pf Pf)
   ·intro G28 s28 z28 hm
    refine Kq ?_
    refine Kl ?_
    iterate 3 refine pu ?_
    refine pL 0 ?_
    refine pu ?_
    refine Kh ?_
    refine Ku rfl (fun hc42 => ?_) (fun hc42 => ?_)
    ·replace hm := yes_t hc42 hm
     refine Ky ?_
     refine Km ?_
     refine KL ?_
     refine Kl ?_
     refine pu ?_
     refine pu ?_
     obtain ⟨x43, q43, hm⟩ := Kf hm
     refine Kf6 (Kbh (⟨s28.2.1, s28.2.2.1, s28.2.2.2.1, s28.2.2.2.2.1, s28.2.2.2.2.2⟩ : Ke) o0 T0 .no x43 q43) rfl rfl rfl rfl rfl rfl rfl Wl Pf Pf ?_
     rintro _ _ _ ⟨rfl, rfl, rfl⟩
     refine p_eq (i := 19) rfl (Wk.of_eq (Kk x43.1)) ?_
     refine p_lit htab rfl rfl rfl rfl rfl rfl rfl rfl rfl rfl rfl rfl rfl rfl ?_
     refine p_eq (i := 20) (d' := .lst 5 (([x43.1] : List Ka).map Kg) .full) rfl (Wk.lst0 (.cons (WkC.trans (WkC.agg (WkR.refl _)) (WkC.of_eq (Kk x43.1).symm)) (.nil))) ?_
     obtain ⟨x44, q44, hm⟩ := Kf hm
     refine KcS 0 htab rfl rfl rfl rfl rfl rfl rfl rfl rfl rfl rfl rfl rfl rfl rfl rfl rfl (Kbi q44) (fun v44 => ?_)
     refine KcT (i := 21) q44 rfl ?_
     refine pu ?_
     refine Kv ?_
     refine pu ?_
     obtain ⟨x45, q45, hm⟩ := Kf hm
     refine pG (Kad x43.2 (ByteArray.mk #[44]) o0 T0 .no x45 q45) Wl Pf Pf ?_
     rintro _ _ _ ⟨rfl, rfl, rfl⟩
     refine pu ?_
     refine Kh ?_
     refine Ku rfl (fun hc46 => ?_) (fun hc46 => ?_)
     ·replace hm := yes_t hc46 hm
      refine Kay ?_
      refine Ke2 rfl ?_
      have e28 := Kaq hm; subst e28; clear hm; have hm := hq28
      refine KN ?_
      refine Kao ?_
      have e27 := Kn hm; subst e27
      refine ⟨rfl, ?_⟩
      exact WkX.of v44 (WkS.perm (WkS.cons rfl (Wk.refl _) (WkS.cons rfl (Wk.refl _) (WkS.nil))) Pf Pf)
     ·replace hm := yes_f hc46 hm
      refine Ky ?_
      refine KI ?_
      refine Km ⟨_, KaR hm, ?_⟩
      exact WkX.of v44 (WkS.perm (WkS.cons rfl (Wk.refl _) (WkS.cons rfl (Wk.refl _) (WkS.cons rfl (Wk.refl _) (WkS.nil)))) Pf Pf)
    ·replace hm := yes_f hc42 hm
     refine Kay ?_
     refine KN ?_
     have e28 := Kaq hm; subst e28; clear hm; have hm := hq28
     refine KN ?_
     refine Kao ?_
     have e27 := Kn hm; subst e27
     refine ⟨rfl, ?_⟩
     exact WkX.of z28 (WkS.perm (WkS.cons rfl (Wk.refl _) (WkS.cons rfl (Wk.refl _) (WkS.nil))) Pf Pf)
  ·intro s27 hw27; clear hm; have hm := ho27; clear q27 ho27
   refine Km ?_
   refine K3 hw27 (fun z27 => ?_)
   refine Kl ?_
   refine pu ?_
   refine p_lit htab rfl rfl rfl rfl rfl rfl rfl rfl rfl rfl rfl rfl rfl rfl ?_
   refine p_eq (i := 26) (d' := .lst 1 (([(ByteArray.mk #[41])] : List ByteArray).map eStr) .full) rfl (Wk.lst0 (.cons (WkC.refl _) (.nil))) ?_
   obtain ⟨x47, q47, hm⟩ := Kf hm
   refine Kam (KZ (⟨y27.2.1, y27.2.2.1, y27.2.2.2.1, y27.2.2.2.2.1, y27.2.2.2.2.2⟩ : Ke) ([(ByteArray.mk #[41])] : List ByteArray) o0 T0 .no x47 q47) rfl rfl rfl rfl rfl (WkL.cons (Wk.refl _) (WkL.cons (Wk.no) Wl)) Pf Pf ?_
   rintro _ _ _ ⟨rfl, rfl, rfl⟩
   refine Kv ?_
   refine pu ?_
   refine pu ?_
   refine Kh ?_
   refine Ks ?_
   have er48 := Kn hm; subst er48
   refine rP (t' := [(4, .lst 5 (y27.1.map Kg) (.cur z27))]) [0] [0] 1 (wC wN) (lT lN) ?_
   exact ⟨z27, rfl, rfl, rfl⟩
noncomputable def KaO (m0 : Ke) (a1 : Kj) : Option (Kj × Ke) :=
 ((Kaw m0).bind fun x3 => ((KaT x3.2).bind fun x5 => ((KJ x5.2 ([(ByteArray.mk #[59])] : List ByteArray)).bind fun x6 => some ((⟨(4 : Int), a1.gName, x3.1, x5.1, a1.gKids, a1.gElse, a1.gAt⟩ : Kj), x6))))
theorem KeA (m0 : Ke) (a1 : Kj) (o0 : Nat) (T0 : TypeId) (c0_0 : Cap) (r : Kj × Ke) (h0 : KaO m0 a1 = some r) : CallsD Try.prog 81 [.ptr o0 0, Ki a1] [(o0, Blk.cells [.lst 4 (m0.gL.map Kc) c0_0, iD m0.gAt, iD m0.gE, iD m0.gVars, iD m0.gOpen] T0)] [] (fun d h k => d = Ki r.1 ∧ h = [(o0, Blk.cells [.lst 4 (r.2.gL.map Kc) .no, iD r.2.gAt, iD r.2.gE, iD r.2.gVars, iD r.2.gOpen] T0)] ∧ k = []) := by
 have hm := KE h0
 unfold KaO at hm
 clear h0
 refine KW htab Try.func81 rfl rfl rfl rfl rfl (fun C => ?_)
 refine w_eq (i := 1) rfl (Wk.of_eq (Kp a1)) ?_
 refine Kl ?_
 refine p_box rfl rfl rfl rfl rfl rfl rfl (fun b1 => ?_)
 refine KP htab rfl rfl rfl rfl rfl rfl rfl (fun b2 => ?_)
 refine Kv ?_
 refine pu ?_
 refine pS1 (ds' := [iD (4 : Int), tD a1.gName, tD a1.gFunc, .lst 5 (a1.gExps.map Kg) .no, .lst 7 (a1.gKids.map Ki) .no, .lst 7 (a1.gElse.map Ki) .no, iD a1.gAt]) ?_
 refine Kv ?_
 refine pu ?_
 obtain ⟨x3, q3, hm⟩ := Kf hm
 refine pG (Kby m0 o0 T0 c0_0 x3 q3) Wl Pf Pf ?_
 rintro _ _ _ ⟨rfl, rfl, rfl⟩
 refine pu ?_
 refine pS1 (ds' := [iD (4 : Int), tD a1.gName, tD x3.1, .lst 5 (a1.gExps.map Kg) .no, .lst 7 (a1.gKids.map Ki) .no, .lst 7 (a1.gElse.map Ki) .no, iD a1.gAt]) ?_
 refine Kv ?_
 iterate 3 refine pu ?_
 obtain ⟨x5, q5, hm⟩ := Kf hm
 refine pG (Kgl x3.2 o0 T0 c0_0 x5 q5) Wl Pf Pf ?_
 rintro _ _ _ ⟨w4, rfl, rfl, rfl⟩
 refine pu ?_
 refine pS1 (ds' := [iD (4 : Int), tD a1.gName, tD x3.1, .lst 5 (x5.1.map Kg) (.cur w4), .lst 7 (a1.gKids.map Ki) .no, .lst 7 (a1.gElse.map Ki) .no, iD a1.gAt]) ?_
 refine Kv ?_
 refine pu ?_
 refine p_lit htab rfl rfl rfl rfl rfl rfl rfl rfl rfl rfl rfl rfl rfl rfl ?_
 refine p_eq (i := 15) (d' := .lst 1 (([(ByteArray.mk #[59])] : List ByteArray).map eStr) .full) rfl (Wk.lst0 (.cons (WkC.refl _) (.nil))) ?_
 obtain ⟨x6, q6, hm⟩ := Kf hm
 refine Kam (KZ x5.2 ([(ByteArray.mk #[59])] : List ByteArray) o0 T0 .no x6 q6) rfl rfl rfl rfl rfl (WkL.cons (Wk.refl _) (WkL.cons (Wk.no) Wl)) Pf Pf ?_
 rintro _ _ _ ⟨rfl, rfl, rfl⟩
 refine Kv ?_
 refine K7 (d := .agg [iD (4 : Int), tD a1.gName, tD x3.1, .lst 5 (x5.1.map Kg) (.cur w4), .lst 7 (a1.gKids.map Ki) .no, .lst 7 (a1.gElse.map Ki) .no, iD a1.gAt]) 1 htab rfl rfl rfl rfl rfl rfl rfl rfl ?_
 refine pS2 (ds' := [iD (4 : Int), tD a1.gName, tD x3.1, .lst 5 (x5.1.map Kg) (.cur w4), .lst 7 (a1.gKids.map Ki) .no, .lst 7 (a1.gElse.map Ki) .no, iD a1.gAt]) ?_
 refine Kh ?_
 refine Ks ?_
 have er7 := Kn hm; subst er7
 refine retX.wk (WkS.bl2 (ds' := [iD (4 : Int), tD a1.gName, tD x3.1, .lst 5 (x5.1.map Kg) .no, .lst 7 (a1.gKids.map Ki) .no, .lst 7 (a1.gElse.map Ki) .no, iD a1.gAt]) (rC (rC (rC (rO (rC (rC (rC WkR.nil)))))))) ?_
 refine rP (t' := [(4, .ptr b2 0)]) [0,1] [] 1 (wC wN) (lC 1 lN) ?_
 exact ⟨by first | rfl | (simp only [wrapD, Kp]; done) | (simp only [wrapD, Kp]; rfl), rfl, rfl⟩
noncomputable def KaM (m0 : Ke) (a1 : Kj) : Option (Kj × Ke) :=
 ((KX m0 (ByteArray.mk #[105, 110, 112, 117, 116])).bind fun x15 => (bif x15.1 then ((KJ x15.2 ([(ByteArray.mk #[40]), (ByteArray.mk #[41]), (ByteArray.mk #[59])] : List ByteArray)).bind fun x28 => some ((⟨(5 : Int), a1.gName, a1.gFunc, a1.gExps, a1.gKids, a1.gElse, a1.gAt⟩ : Kj), x28)) else (Option.bind (α := Bool) ((Kar x15.2 (0 : Int)).bind fun x34 => (bif (x34.gKind == (1 : Int)) then ((KaB x15.2 (1 : Int) (ByteArray.mk #[40])).bind fun x36 => some x36) else some false)) fun y33 => (bif y33 then ((KaO x15.2 a1).bind fun x40 => some (x40.1, x40.2)) else ((K8 x15.2).bind fun x42 => ((KJ x42.2 ([(ByteArray.mk #[59])] : List ByteArray)).bind fun x43 => some ((⟨(1 : Int), a1.gName, a1.gFunc, ([x42.1] : List Ka), a1.gKids, a1.gElse, a1.gAt⟩ : Kj), x43)))))))
theorem Kgm (m0 : Ke) (a1 : Kj) (o0 : Nat) (T0 : TypeId) (c0_0 : Cap) (r : Kj × Ke) (h0 : KaM m0 a1 = some r) : CallsD Try.prog 82 [.ptr o0 0, Ki a1] [(o0, Blk.cells [.lst 4 (m0.gL.map Kc) c0_0, iD m0.gAt, iD m0.gE, iD m0.gVars, iD m0.gOpen] T0)] [] (fun d h k => d = Ki r.1 ∧ h = [(o0, Blk.cells [.lst 4 (r.2.gL.map Kc) .no, iD r.2.gAt, iD r.2.gE, iD r.2.gVars, iD r.2.gOpen] T0)] ∧ k = []) := by
 have hm := KE h0
 unfold KaM at hm
 clear h0
 refine KW htab Try.func82 rfl rfl rfl rfl rfl (fun C => ?_)
 refine w_eq (i := 1) rfl (Wk.of_eq (Kp a1)) ?_
 refine Kl ?_
 refine p_box rfl rfl rfl rfl rfl rfl rfl (fun b1 => ?_)
 refine KP htab rfl rfl rfl rfl rfl rfl rfl (fun b2 => ?_)
 refine Kh ?_
 refine Kq ?_
 refine KL ?_
 refine Kl ?_
 refine pu ?_
 obtain ⟨x15, q15, hm⟩ := Kf hm
 refine pG (Kad m0 (ByteArray.mk #[105, 110, 112, 117, 116]) o0 T0 c0_0 x15 q15) Wl Pf Pf ?_
 rintro _ _ _ ⟨rfl, rfl, rfl⟩
 refine pu ?_
 refine Kh ?_
 refine Ku rfl (fun hc27 => ?_) (fun hc27 => ?_)
 ·replace hm := yes_t hc27 hm
  refine Kl ?_
  refine pu ?_
  refine pS1 (ds' := [iD (5 : Int), tD a1.gName, tD a1.gFunc, .lst 5 (a1.gExps.map Kg) .no, .lst 7 (a1.gKids.map Ki) .no, .lst 7 (a1.gElse.map Ki) .no, iD a1.gAt]) ?_
  refine Kv ?_
  refine pu ?_
  refine p_lit htab rfl rfl rfl rfl rfl rfl rfl rfl rfl rfl rfl rfl rfl rfl ?_
  refine p_eq (i := 10) (d' := .lst 1 (([(ByteArray.mk #[40]), (ByteArray.mk #[41]), (ByteArray.mk #[59])] : List ByteArray).map eStr) .full) rfl (Wk.lst0 (.cons (WkC.refl _) (.cons (WkC.refl _) (.cons (WkC.refl _) (.nil))))) ?_
  obtain ⟨x28, q28, hm⟩ := Kf hm
  refine Kam (KZ x15.2 ([(ByteArray.mk #[40]), (ByteArray.mk #[41]), (ByteArray.mk #[59])] : List ByteArray) o0 T0 c0_0 x28 q28) rfl rfl rfl rfl rfl (WkL.cons (Wk.refl _) (WkL.cons (Wk.no) Wl)) Pf Pf ?_
  rintro _ _ _ ⟨rfl, rfl, rfl⟩
  refine Kv ?_
  refine K7 (d := .agg [iD (5 : Int), tD a1.gName, tD a1.gFunc, .lst 5 (a1.gExps.map Kg) .no, .lst 7 (a1.gKids.map Ki) .no, .lst 7 (a1.gElse.map Ki) .no, iD a1.gAt]) 1 htab rfl rfl rfl rfl rfl rfl rfl rfl ?_
  refine pS2 (ds' := [iD (5 : Int), tD a1.gName, tD a1.gFunc, .lst 5 (a1.gExps.map Kg) .no, .lst 7 (a1.gKids.map Ki) .no, .lst 7 (a1.gElse.map Ki) .no, iD a1.gAt]) ?_
  refine Kh ?_
  refine Ks ?_
  refine K0 ?_
  refine KD ?_
  have er29 := Kn hm; subst er29
  refine retX.wk (WkS.bl0 (ds' := [.lst 4 (x28.gL.map Kc) .no, iD x28.gAt, iD x28.gE, iD x28.gVars, iD x28.gOpen]) (rO (rC (rC (rC (rC WkR.nil)))))) ?_
  refine rP (t' := [(4, .ptr b2 0)]) [0,1] [] 1 (wC wN) (lC 1 lN) ?_
  exact ⟨by first | rfl | (simp only [wrapD, Kp]; done) | (simp only [wrapD, Kp]; rfl), rfl, rfl⟩
 ·replace hm := yes_f hc27 hm
  refine Kq ?_
  obtain ⟨y33, q33, ho33⟩ := Kf hm
  refine K6 (Y := Unit) (fun z33 => (⟨[(0, .ptr o0 0), (3, .ptr b1 0), (4, .ptr b2 0), (13, .v (.bool y33))], [(o0, Blk.cells [.lst 4 (x15.2.gL.map Kc) c0_0, iD x15.2.gAt, iD x15.2.gE, iD x15.2.gVars, iD x15.2.gOpen] T0), (b1, Blk.cells [iD a1.gOp, tD a1.gName, tD a1.gFunc, .lst 5 (a1.gExps.map Kg) .no, .lst 7 (a1.gKids.map Ki) .no, .lst 7 (a1.gElse.map Ki) .no, iD a1.gAt] 58), (b2, Blk.cells [iD (0 : Int), tD ByteArray.empty, tD ByteArray.empty, .lst 1 [] .full, .lst 1 [] .full, .lst 1 [] .full, iD (0 : Int)] 58)], []⟩ : S)) ?_ ?_
  ·clear hm; have hm := KE q33
   refine KC ?_
   refine pu ?_
   obtain ⟨x34, q34, hm⟩ := Kf hm
   refine pG (Kbg x15.2 (0 : Int) o0 T0 c0_0 x34 q34) Wl Pf Pf ?_
   rintro _ _ _ ⟨rfl, rfl, rfl⟩
   iterate 3 refine pu ?_
   refine K9 (i := 18) rfl (fun hg35 => ?_) (fun hg35 => ?_)
   ·replace hm := yes_t hg35 hm
    refine pu ?_
    obtain ⟨x36, q36, hm⟩ := Kf hm
    refine pG (Kce x15.2 (1 : Int) (ByteArray.mk #[40]) o0 T0 c0_0 x36 q36) Wl Pf Pf ?_
    rintro _ _ _ ⟨rfl, rfl, rfl⟩
    refine KS rfl rfl rfl rfl rfl rfl ?_
    refine pu ?_
    refine KB ?_
    have e33 := Kn hm; subst e33
    refine ⟨rfl, ?_⟩
    exact WkX.of () (WkS.perm (WkS.cons rfl (Wk.refl _) (WkS.cons rfl (Wk.refl _) (WkS.cons rfl (Wk.refl _) (WkS.cons rfl (Wk.refl _) (WkS.nil))))) Pf Pf)
   ·replace hm := yes_f hg35 hm
    refine pK ?_
    refine pK ?_
    refine KH rfl rfl rfl rfl rfl rfl ?_
    refine pu ?_
    refine KB ?_
    have e33 := Kn hm; subst e33
    refine ⟨rfl, ?_⟩
    exact WkX.of () (WkS.perm (WkS.cons rfl (Wk.refl _) (WkS.cons rfl (Wk.refl _) (WkS.cons rfl (Wk.refl _) (WkS.cons rfl (Wk.refl _) (WkS.nil))))) Pf Pf)
  ·intro s33 hw33; clear hm; have hm := ho33; clear q33 ho33
   refine Km ?_
   refine K3 hw33 (fun z33 => ?_)
   refine Ku rfl (fun hc39 => ?_) (fun hc39 => ?_)
   ·replace hm := yes_t hc39 hm
    refine Kl ?_
    refine pu ?_
    refine K7 (d := .agg [iD a1.gOp, tD a1.gName, tD a1.gFunc, .lst 5 (a1.gExps.map Kg) .no, .lst 7 (a1.gKids.map Ki) .no, .lst 7 (a1.gElse.map Ki) .no, iD a1.gAt]) 1 htab rfl rfl rfl rfl rfl rfl rfl rfl ?_
    obtain ⟨x40, q40, hm⟩ := Kf hm
    refine Kam (KeA x15.2 a1 o0 T0 c0_0 x40 q40) rfl rfl rfl rfl rfl (WkL.cons (Wk.refl _) (WkL.cons (Wk.trans (Wk.agg (WkR.refl _)) (Wk.of_eq (Kp a1).symm)) Wl)) Pf Pf ?_
    rintro _ _ _ ⟨rfl, rfl, rfl⟩
    refine p_eq (i := 24) rfl (Wk.of_eq (Kp x40.1)) ?_
    refine pS2 (ds' := [iD x40.1.gOp, tD x40.1.gName, tD x40.1.gFunc, .lst 5 (x40.1.gExps.map Kg) .no, .lst 7 (x40.1.gKids.map Ki) .no, .lst 7 (x40.1.gElse.map Ki) .no, iD x40.1.gAt]) ?_
    refine Kh ?_
    refine Ks ?_
    refine K0 ?_
    refine KD ?_
    have er41 := Kn hm; subst er41
    refine rP (t' := [(4, .ptr b2 0)]) [0,1] [] 1 (wC wN) (lC 1 lN) ?_
    exact ⟨by first | rfl | (simp only [wrapD, Kp]; done) | (simp only [wrapD, Kp]; rfl), rfl, rfl⟩
   ·replace hm := yes_f hc39 hm
    refine Ky ?_
    refine KI ?_
    refine Km ?_
    refine Kl ?_
    refine pu ?_
    refine pS1 (ds' := [iD (1 : Int), tD a1.gName, tD a1.gFunc, .lst 5 (a1.gExps.map Kg) .no, .lst 7 (a1.gKids.map Ki) .no, .lst 7 (a1.gElse.map Ki) .no, iD a1.gAt]) ?_
    refine Kv ?_
    refine pu ?_
    obtain ⟨x42, q42, hm⟩ := Kf hm
    refine pG (Kbh x15.2 o0 T0 c0_0 x42 q42) Wl Pf Pf ?_
    rintro _ _ _ ⟨rfl, rfl, rfl⟩
    refine p_eq (i := 27) rfl (Wk.of_eq (Kk x42.1)) ?_
    refine p_lit htab rfl rfl rfl rfl rfl rfl rfl rfl rfl rfl rfl rfl rfl rfl ?_
    refine p_eq (i := 28) (d' := .lst 5 (([x42.1] : List Ka).map Kg) .full) rfl (Wk.lst0 (.cons (WkC.trans (WkC.agg (WkR.refl _)) (WkC.of_eq (Kk x42.1).symm)) (.nil))) ?_
    refine pu ?_
    refine pS1 (ds' := [iD (1 : Int), tD a1.gName, tD a1.gFunc, .lst 5 (([x42.1] : List Ka).map Kg) .full, .lst 7 (a1.gKids.map Ki) .no, .lst 7 (a1.gElse.map Ki) .no, iD a1.gAt]) ?_
    refine Kv ?_
    refine pu ?_
    refine p_lit htab rfl rfl rfl rfl rfl rfl rfl rfl rfl rfl rfl rfl rfl rfl ?_
    refine p_eq (i := 31) (d' := .lst 1 (([(ByteArray.mk #[59])] : List ByteArray).map eStr) .full) rfl (Wk.lst0 (.cons (WkC.refl _) (.nil))) ?_
    obtain ⟨x43, q43, hm⟩ := Kf hm
    refine Kam (KZ x42.2 ([(ByteArray.mk #[59])] : List ByteArray) o0 T0 c0_0 x43 q43) rfl rfl rfl rfl rfl (WkL.cons (Wk.refl _) (WkL.cons (Wk.no) Wl)) Pf Pf ?_
    rintro _ _ _ ⟨rfl, rfl, rfl⟩
    refine Kv ?_
    refine K7 (d := .agg [iD (1 : Int), tD a1.gName, tD a1.gFunc, .lst 5 (([x42.1] : List Ka).map Kg) .full, .lst 7 (a1.gKids.map Ki) .no, .lst 7 (a1.gElse.map Ki) .no, iD a1.gAt]) 1 htab rfl rfl rfl rfl rfl rfl rfl rfl ?_
    refine pS2 (ds' := [iD (1 : Int), tD a1.gName, tD a1.gFunc, .lst 5 (([x42.1] : List Ka).map Kg) .full, .lst 7 (a1.gKids.map Ki) .no, .lst 7 (a1.gElse.map Ki) .no, iD a1.gAt]) ?_
    refine Kh ?_
    refine Ks ?_
    have er44 := Kn hm; subst er44
    refine retX.wk (WkS.bl2 (ds' := [iD (1 : Int), tD a1.gName, tD a1.gFunc, .lst 5 (([x42.1] : List Ka).map Kg) .no, .lst 7 (a1.gKids.map Ki) .no, .lst 7 (a1.gElse.map Ki) .no, iD a1.gAt]) (rC (rC (rC (rO (rC (rC (rC WkR.nil)))))))) ?_
    refine retX.wk (WkS.bl0 (ds' := [.lst 4 (x43.gL.map Kc) .no, iD x43.gAt, iD x43.gE, iD x43.gVars, iD x43.gOpen]) (rO (rC (rC (rC (rC WkR.nil)))))) ?_
    refine rP (t' := [(4, .ptr b2 0)]) [0,1] [] 1 (wC wN) (lC 1 lN) ?_
    exact ⟨by first | rfl | (simp only [wrapD, Kp]; done) | (simp only [wrapD, Kp]; rfl), rfl, rfl⟩
end Go.Proofs.Ytmgklehakmdiiaa.Ab
