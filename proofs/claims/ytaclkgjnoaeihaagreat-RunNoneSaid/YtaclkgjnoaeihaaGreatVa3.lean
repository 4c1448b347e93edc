/- The texts that runNone_holds leans on, part 3. -/
import Derived.Test.YtaclkgjnoaeihaaGreatVa2
set_option maxRecDepth 100000
set_option maxHeartbeats 80000000
namespace Go.Proofs.YtaclkgjnoaeihaaGreat.Ab
open Go
set_option linter.all false
def KdQ (tab : List (Option TI)) (ts : List Nat) : Nat → List (Nat × Nat) → Option Nat
  | off, [] => some off
  | off, (ty, o) :: fs => match ti tab ty with
    | some i => bif Nat.beq o off && ts.contains ty then KdQ tab ts (off + i.size) fs else none
    | none => none
def typeOK (tab : List (Option TI)) (ts : List Nat) (t : Nat) : Bool :=
  match ti tab t with
  | some i => match i.d with
    | .bool => Nat.beq i.size 1
    | .int _ => Nat.beq i.size 1
    | .str => Nat.beq i.size 1
    | .slice e => ts.contains e && Nat.beq i.size 1 && (match ti tab e with | some ie => Nat.ble 1 ie.size | none => false)
    | .struct fs => match KdQ tab ts 0 fs with
      | some n => Nat.beq n i.size
      | none => false
    | .array n e => ts.contains e && (match ti tab e with | some ie => Nat.beq i.size (n * ie.size) | none => false)
    | _ => false
  | none => false
def closedT (tab : List (Option TI)) (ts : List Nat) : Bool := ts.all (typeOK tab ts)
def GoodT (tab : List (Option TI)) : Nat → Nat → D → Prop
  | 0, _, _ => False
  | n + 1, t, d => ∃ i, ti tab t = some i ∧ match i.d with
    | .bool => ∃ b, d = .v (.bool b)
    | .int k => ∃ m, d = .v (.int k m) ∧ (Lit.int k m).wf = true
    | .str => ∃ s : ByteArray, d = .v (.string s) ∧ s.size ≤ maxLen
    | .slice e => ∃ ie xs, ti tab e = some ie ∧ d = .lst ie.size xs .no ∧ xs.length ≤ maxLen ∧ ∀ x ∈ xs, GoodT tab n e x
    | .struct fs => ∃ ds : List D, d = .agg (ds.flatMap KG) ∧ ds.length = fs.length ∧ ∀ (j : Nat) (f : Nat × Nat) (d0 : D), fs[j]? = some f → ds[j]? = some d0 → GoodT tab n f.1 d0
    | .array m e => ∃ ds : List D, d = .agg (ds.flatMap KG) ∧ ds.length = m ∧ ∀ x ∈ ds, GoodT tab n e x
    | _ => False
section
variable {H : Type} {enc : TypeId × Value → H} {P : Program} {w : World} {base : Nat} {spare : Nat → Bool} {held : Bool} {tab : List (Option TI)} {ts : List Nat}
theorem Kda (hT : TabOK P tab) {t : TypeId} {i : TI} (h : ti tab t = some i) : P.cellsOf t = i.size := by
 obtain ⟨tf, z, dd, h1, _, _, h2, _⟩ := Kcj (ti_ok hT h)
 simp [Program.cellsOf, h1, h2]
def allOf (w : World) : Hp := fun a => w.cell? a
theorem ag_all (w : World) : Ag (allOf w) w := fun _ _ h => h
def Rd (tab : List (Option TI)) (w : World) (n t : Nat) (cs : List Value) (d : D) : Prop :=
 ∃ i, ti tab t = some i ∧ RepC (allOf w) d cs ∧ Reps (allOf w) (KG d) cs ∧ cs.length = i.size ∧ (KG d).length = i.size ∧ GoodT tab n t d
theorem KgJ (hT : TabOK P tab) {n : Nat} {cs : List Value} (ih : ∀ t cs x, ts.contains t = true → DataW.trod enc P w base spare held n t cs = some x → ∃ d, Rd tab w n t cs d) :
    ∀ (gs : List Field) (off total : Nat), KdQ tab ts off (gs.map fun f => (f.type, f.offset)) = some total → total ≤ cs.length → (∀ f ∈ gs, ∃ y, DataW.trod enc P w base spare held n f.type ((cs.drop f.offset).take (P.cellsOf f.type)) = some y) →
      off ≤ total ∧ ∃ ds : List D, ds.length = gs.length ∧ Reps (allOf w) (ds.flatMap KG) ((cs.drop off).take (total - off)) ∧ (ds.flatMap KG).length = total - off ∧ ∀ (j : Nat) (f : Nat × Nat) (d0 : D), (gs.map fun f => (f.type, f.offset))[j]? = some f → ds[j]? = some d0 → GoodT tab n f.1 d0
  | [], off, total, h, _, _ => by
    simp [KdQ] at h; subst h
    exact ⟨Nat.le_refl _, [], rfl, by simp [Reps], by simp, fun j f d0 e => by simp at e⟩
  | g :: gs, off, total, h, hl, hy => by
    simp only [List.map_cons, KdQ] at h
    split at h
    · rename_i i hi
      cases hb : (Nat.beq g.offset off && ts.contains g.type) with
      | false => rw [hb] at h; cases h
      | true =>
        rw [hb] at h
        simp only [cond_true] at h
        simp only [Bool.and_eq_true] at hb
        have ho := Nat.eq_of_beq_eq_true hb.1
        obtain ⟨y, hy0⟩ := hy g (by simp)
        obtain ⟨d, i', hi', h1, h2, h3, h4, h5⟩ := ih _ _ y hb.2 hy0
        rw [hi] at hi'; cases hi'
        obtain ⟨hle, ds, e1, e2, e3, e4⟩ := KgJ hT ih gs (off + i.size) total h hl fun f hf => hy f (by simp [hf])
        rw [Kda hT hi, ho] at h2
        refine ⟨by omega, d :: ds, by simp [e1], ?_, by simp [h4, e3]; omega, ?_⟩
        · simp only [List.flatMap_cons]
          have := KcA h2 e2
          have e : (cs.drop off).take i.size ++ (cs.drop (off + i.size)).take (total - (off + i.size)) = (cs.drop off).take (total - off) := by
            rw [show total - off = i.size + (total - (off + i.size)) by omega, List.take_add, List.drop_drop]
          rwa [e] at this
        · intro j f d0 hf hd
          cases j with
          | zero => simp at hf hd; subst hf; subst hd; exact h5
          | succ j => exact e4 j f d0 (by simpa using hf) (by simpa using hd)
    · cases h
theorem rd_elems {n e sz b off : Nat} {ie : TI} (hie : ti tab e = some ie) (hsz : ie.size = sz) (he : ts.contains e = true) (ih : ∀ t cs x, ts.contains t = true → DataW.trod enc P w base spare held n t cs = some x → ∃ d, Rd tab w n t cs d) :
    ∀ (m i0 : Nat), (∀ i, i0 ≤ i → i < i0 + m → ∃ cs y, w.cells? base ((⟨b, off, none⟩ : Addr).add (i * sz)) sz = some cs ∧ DataW.trod enc P w base spare held n e cs = some y) →
      ∃ xs : List D, xs.length = m ∧ Els (allOf w) sz b (off + i0 * sz) xs ∧ ∀ x ∈ xs, GoodT tab n e x
  | 0, i0, _ => ⟨[], rfl, by simp [Els], by simp⟩
  | m + 1, i0, h => by
    obtain ⟨cs, y, h1, h2⟩ := h i0 (Nat.le_refl _) (by omega)
    obtain ⟨d, i', hi', g1, g2, g3, g4, g5⟩ := ih e cs y he h2
    rw [hie] at hi'; cases hi'
    obtain ⟨xs, f1, f2, f3⟩ := rd_elems hie hsz he ih m (i0 + 1) fun i hi hi' => h i (by omega) (by omega)
    refine ⟨d :: xs, by simp [f1], ?_, ?_⟩
    · simp only [Els]
      refine ⟨⟨cs, by rw [g3, hsz], g1, fun j u hj => ?_, KcN g2⟩, ?_⟩
      · obtain ⟨_, hlen, hc⟩ := World.cells?_some h1
        have hjl : j < sz := by rw [← hlen]; exact (List.getElem?_eq_some_iff.1 hj).1
        have := hc j hjl
        rw [KbM, KbM] at this
        show w.cell? _ = _
        rw [this]; exact hj
      · rw [show off + i0 * sz + sz = off + (i0 + 1) * sz by rw [Nat.add_mul]; omega]; exact f2
    · intro x hx
      rcases List.mem_cons.1 hx with rfl | hx
      · exact g5
      · exact f3 x hx
theorem rd_arr {n e sz : Nat} {ie : TI} {cs : List Value} (hie : ti tab e = some ie) (hsz : ie.size = sz) (he : ts.contains e = true) (ih : ∀ t cs x, ts.contains t = true → DataW.trod enc P w base spare held n t cs = some x → ∃ d, Rd tab w n t cs d) :
    ∀ (m i0 : Nat), (∀ i, i0 ≤ i → i < i0 + m → ∃ y, DataW.trod enc P w base spare held n e ((cs.drop (i * sz)).take sz) = some y) →
      ∃ ds : List D, ds.length = m ∧ Reps (allOf w) (ds.flatMap KG) ((cs.drop (i0 * sz)).take (m * sz)) ∧ (ds.flatMap KG).length = m * sz ∧ ∀ x ∈ ds, GoodT tab n e x
  | 0, i0, _ => ⟨[], rfl, by simp [Reps], by simp, by simp⟩
  | m + 1, i0, h => by
    obtain ⟨y, h2⟩ := h i0 (Nat.le_refl _) (by omega)
    obtain ⟨d, i', hi', g1, g2, g3, g4, g5⟩ := ih e _ y he h2
    rw [hie] at hi'; cases hi'
    obtain ⟨ds, f1, f2, f3, f4⟩ := rd_arr hie hsz he ih m (i0 + 1) fun i hi hi' => h i (by omega) (by omega)
    refine ⟨d :: ds, by simp [f1], ?_, ?_, ?_⟩
    · simp only [List.flatMap_cons]
      have := KcA g2 f2
      have e2 : (cs.drop (i0 * sz)).take sz ++ (cs.drop ((i0 + 1) * sz)).take (m * sz) = (cs.drop (i0 * sz)).take ((m + 1) * sz) := by
        rw [show (m + 1) * sz = sz + m * sz by rw [Nat.add_mul]; omega, List.take_add, List.drop_drop, show i0 * sz + sz = (i0 + 1) * sz by rw [Nat.add_mul]; omega]
      rwa [e2] at this
    · simp only [List.flatMap_cons, List.length_append, f3, g4, hsz]
      rw [Nat.add_mul]; omega
    · intro x hx
      rcases List.mem_cons.1 hx with rfl | hx
      · exact g5
      · exact f4 x hx
theorem rd (hT : TabOK P tab) (hc : closedT tab ts = true) : ∀ (n : Nat) (t : TypeId) (cs : List Value) (x : DataW H × List MemPlace), ts.contains t = true → DataW.trod enc P w base spare held n t cs = some x → ∃ d, Rd tab w n t cs d := by
  intro n
  induction n with
  | zero => intro t cs x _ h; simp [DataW.trod] at h
  | succ n ih =>
    intro t cs x ht h
    have hok : typeOK tab ts t = true := by
      unfold closedT at hc
      rw [List.all_eq_true] at hc
      exact hc t (by simpa using ht)
    unfold typeOK at hok
    split at hok
    · rename_i i hi
      obtain ⟨tf, z, dd, h1, h2, h3, h4, _⟩ := Kcj (ti_ok hT hi)
      split at hok
      · rename_i hd
        have hs := Nat.eq_of_beq_eq_true hok
        obtain ⟨b, rfl, _⟩ := DataW.trod_bool (by rw [h2, Kef (h3.trans hd)]) h
        refine ⟨.v (.bool b), i, hi, by simp [RepC], ?_, by simp [hs], by simp [KG, hs], ?_⟩
        · simp only [KG, Reps]; exact ⟨_, _, rfl, ⟨by simp [RepC], rfl, rfl⟩, rfl⟩
        · unfold GoodT; exact ⟨i, hi, by rw [hd]; exact ⟨b, rfl⟩⟩
      · rename_i k hd
        have hs := Nat.eq_of_beq_eq_true hok
        obtain ⟨m, rfl, _, hwf⟩ := DataW.trod_int (by rw [h2, Keh (h3.trans hd)]) h
        refine ⟨.v (.int k m), i, hi, by simp [RepC], ?_, by simp [hs], by simp [KG, hs], ?_⟩
        · simp only [KG, Reps]; exact ⟨_, _, rfl, ⟨by simp [RepC], rfl, rfl⟩, rfl⟩
        · unfold GoodT; exact ⟨i, hi, by rw [hd]; exact ⟨m, rfl, hwf⟩⟩
      · rename_i hd
        have hs := Nat.eq_of_beq_eq_true hok
        obtain ⟨s, rfl, _, hwf⟩ := DataW.trod_string (by rw [h2, Keg (h3.trans hd)]) h
        refine ⟨.v (.string s), i, hi, by simp [RepC], ?_, by simp [hs], by simp [KG, hs], ?_⟩
        · simp only [KG, Reps]; exact ⟨_, _, rfl, ⟨by simp [RepC], rfl, rfl⟩, rfl⟩
        · unfold GoodT; exact ⟨i, hi, by rw [hd]; exact ⟨s, rfl, hwf⟩⟩
      · rename_i e hd
        simp only [Bool.and_eq_true] at hok
        obtain ⟨⟨he, hs⟩, hsz⟩ := hok
        have hs := Nat.eq_of_beq_eq_true hs
        split at hsz
        · rename_i ie hie
          have hsz := Nat.le_of_ble_eq_true hsz
          rcases DataW.trod_slice (by rw [h2, Kbs (h3.trans hd)]) h with ⟨rfl, _⟩ | ⟨a, len, cap, elems, rest, n', hf, rfl, _, hb, hlc, hcm, hel, hcells, _, _⟩
          · have hr : RepC (allOf w) (.lst ie.size [] .no) [.slice none 0 0] := by
              simp only [RepC, CapOK]; exact ⟨_, rfl, trivial, .inl ⟨by trivial, none, 0, rfl, fun _ => rfl⟩⟩
            refine ⟨.lst ie.size [] .no, i, hi, hr, ?_, by simp [hs], by simp [KG, hs], ?_⟩
            · simp only [KG, Reps]; exact ⟨_, _, rfl, ⟨hr, rfl, rfl⟩, rfl⟩
            · unfold GoodT; exact ⟨i, hi, by rw [hd]; exact ⟨ie, [], hie, rfl, by simp, by simp⟩⟩
          · have : n' = n := by omega
            subst this
            rw [Kda hT hie] at hcells
            rcases Nat.eq_zero_or_pos len with hz | hpos
            · subst hz
              have hr : RepC (allOf w) (.lst ie.size [] .no) [.slice (some a) 0 cap] := by
                simp only [RepC, CapOK]; exact ⟨_, rfl, trivial, .inl ⟨by trivial, some a, cap, rfl, fun q => by cases q⟩⟩
              refine ⟨.lst ie.size [] .no, i, hi, hr, ?_, by simp [hs], by simp [KG, hs], ?_⟩
              · simp only [KG, Reps]; exact ⟨_, _, rfl, ⟨hr, rfl, rfl⟩, rfl⟩
              · unfold GoodT; exact ⟨i, hi, by rw [hd]; exact ⟨ie, [], hie, rfl, by simp, by simp⟩⟩
            · have hsome : ∀ j, j < len → ∃ cs y, w.cells? base (a.add (j * ie.size)) ie.size = some cs ∧ DataW.trod enc P w base spare held n' e cs = some y := by
                intro j hj
                have hj2 := hcells j hj
                rw [List.getElem?_eq_getElem (by omega)] at hj2
                rw [Option.bind_eq_some_iff] at hj2
                obtain ⟨cs, q1, q2⟩ := hj2
                exact ⟨cs, _, q1, q2⟩
              have hspot : a.spot = none := by
                obtain ⟨cs, y, q1, _⟩ := hsome 0 hpos
                obtain ⟨_, hlen, hcc⟩ := World.cells?_some q1
                have q2 := hcc 0 (by omega)
                rw [List.getElem?_eq_getElem (by omega)] at q2
                have q3 : (a.add (0 * ie.size)).add 0 = a := by simp [Addr.add]
                rw [q3] at q2
                cases hsp : a.spot with
                | none => rfl
                | some s =>
                  unfold World.cell? at q2
                  split at q2
                  · simp [hsp] at q2
                  · cases q2
              obtain ⟨b, off, sp⟩ := a
              simp only at hspot; subst hspot
              obtain ⟨xs, f1, f2, f3⟩ := rd_elems (spare := spare) (held := held) (enc := enc) (P := P) (base := base) hie rfl he ih len 0 fun j _ hj => hsome j (by omega)
              have hr : RepC (allOf w) (.lst ie.size xs .no) [.slice (some ⟨b, off, none⟩) len cap] := by
                simp only [RepC, CapOK]
                refine ⟨_, rfl, trivial, .inr ⟨b, off, cap, by rw [f1], by rw [f1]; exact hlc, by simpa using f2⟩⟩
              refine ⟨.lst ie.size xs .no, i, hi, hr, ?_, by simp [hs], by simp [KG, hs], ?_⟩
              · simp only [KG, Reps]; exact ⟨_, _, rfl, ⟨hr, rfl, rfl⟩, rfl⟩
              · unfold GoodT; exact ⟨i, hi, by rw [hd]; exact ⟨ie, xs, hie, rfl, by rw [f1]; omega, f3⟩⟩
        · cases hsz
      · rename_i fs hd
        split at hok
        · rename_i tot hfo
          have hs := Nat.eq_of_beq_eq_true hok
          obtain ⟨gs, e1, e2⟩ := KcW (h3.trans hd)
          obtain ⟨xs, n', hf, _, hl, hxl, hx⟩ := DataW.trod_struct (by rw [h2, e1]) h
          have : n' = n := by omega
          subst this
          rw [Kda hT hi] at hl
          obtain ⟨_, ds, f1, f2, f3, f4⟩ := KgJ hT (cs := cs) ih gs.toList 0 tot (by rw [e2]; exact hfo) (by omega) fun f hfm => by
            obtain ⟨j, hj⟩ := List.getElem?_of_mem hfm
            have hj' : gs[j]? = some f := by simpa using hj
            have q := hx j f hj'
            have hjl : j < xs.length := by rw [hxl]; exact (Array.getElem?_eq_some_iff.1 hj').1
            rw [List.getElem?_eq_getElem hjl] at q
            exact ⟨_, q⟩
          simp only [List.drop_zero, Nat.sub_zero] at f2 f3
          rw [List.take_of_length_le (by omega)] at f2
          refine ⟨.agg (ds.flatMap KG), i, hi, by simp only [RepC]; exact f2, f2, hl, by simp only [KG]; omega, ?_⟩
          unfold GoodT
          exact ⟨i, hi, by rw [hd]; exact ⟨ds, rfl, by rw [f1, ← e2]; simp, fun j f d0 q1 q2 => f4 j f d0 (by rw [e2]; exact q1) q2⟩⟩
        · cases hok
      · rename_i m e hd
        simp only [Bool.and_eq_true] at hok
        obtain ⟨he, hsz⟩ := hok
        split at hsz
        · rename_i ie hie
          have hsz := Nat.eq_of_beq_eq_true hsz
          obtain ⟨xs, n', hf, _, hl, hxl, hx⟩ := DataW.trod_array (by rw [h2, KeB (h3.trans hd)]) h
          have : n' = n := by omega
          subst this
          rw [Kda hT hi] at hl
          rw [Kda hT hie] at hx
          obtain ⟨ds, f1, f2, f3, f4⟩ := rd_arr (cs := cs) hie rfl he ih m 0 fun j _ hj => by
            have q := hx j (by omega)
            rw [List.getElem?_eq_getElem (by omega)] at q
            exact ⟨_, q⟩
          simp only [Nat.zero_mul, List.drop_zero] at f2
          rw [List.take_of_length_le (by omega)] at f2
          refine ⟨.agg (ds.flatMap KG), i, hi, by simp only [RepC]; exact f2, f2, hl, by simp only [KG]; omega, ?_⟩
          unfold GoodT
          exact ⟨i, hi, by rw [hd]; exact ⟨ds, rfl, f1, f4⟩⟩
        · cases hsz
      · cases hok
    · cases hok
end
end Go.Proofs.YtaclkgjnoaeihaaGreat.Ab
namespace Go.Proofs.YtaclkgjnoaeihaaGreat.Ab
open Go
set_option linter.all false
section
variable {P : Program} {tab : List (Option TI)} {n t : Nat} {i : TI} {d : D}
theorem good_int {k : IntKind} (hi : ti tab t = some i) (hd : i.d = .int k) (g : GoodT tab n t d) : ∃ m, d = .v (.int k m) ∧ (Lit.int k m).wf = true := by
  cases n with
  | zero => simp [GoodT] at g
  | succ n =>
    unfold GoodT at g
    obtain ⟨i', h1, h2⟩ := g
    rw [hi] at h1; cases h1
    rw [hd] at h2; exact h2
theorem good_str (hi : ti tab t = some i) (hd : i.d = .str) (g : GoodT tab n t d) : ∃ s : ByteArray, d = .v (.string s) ∧ s.size ≤ maxLen := by
  cases n with
  | zero => simp [GoodT] at g
  | succ n =>
    unfold GoodT at g
    obtain ⟨i', h1, h2⟩ := g
    rw [hi] at h1; cases h1
    rw [hd] at h2; exact h2
theorem Kg7 {fs : List (Nat × Nat)} (hi : ti tab t = some i) (hd : i.d = .struct fs) (g : GoodT tab n t d) : ∃ (n' : Nat) (ds : List D), n = n' + 1 ∧ d = .agg (ds.flatMap KG) ∧ ds.length = fs.length ∧ ∀ (j : Nat) (f : Nat × Nat) (d0 : D), fs[j]? = some f → ds[j]? = some d0 → GoodT tab n' f.1 d0 := by
  cases n with
  | zero => simp [GoodT] at g
  | succ n =>
    unfold GoodT at g
    obtain ⟨i', h1, h2⟩ := g
    rw [hi] at h1; cases h1
    rw [hd] at h2
    obtain ⟨ds, h4, h5, h6⟩ := h2
    exact ⟨n, ds, rfl, h4, h5, h6⟩
theorem shape_of {w : World} {r : Reach} {base : Nat} {v : Value} (hT : TabOK P tab) (hv : Value.okWide P w r base t v) (g : GoodT tab n t d) : d.shape v = true := by
  cases n with
  | zero => simp [GoodT] at g
  | succ n =>
    unfold GoodT at g
    obtain ⟨i, hi, g⟩ := g
    obtain ⟨tf, z, dd, h1, h2, h3, _⟩ := Kcj (ti_ok hT hi)
    unfold Value.okWide at hv
    rw [h2] at hv
    split at g
    · rename_i hd
      have := Kef (h3.trans hd); subst this
      obtain ⟨b, rfl⟩ := g
      cases v <;> first | rfl | (simp [Cell.okWide, Cell.ok, h2] at hv)
    · rename_i k hd
      have := Keh (h3.trans hd); subst this
      obtain ⟨b, rfl, _⟩ := g
      cases v <;> first | rfl | (simp [Cell.okWide, Cell.ok, h2] at hv)
    · rename_i hd
      have := Keg (h3.trans hd); subst this
      obtain ⟨b, rfl, _⟩ := g
      cases v <;> first | rfl | (simp [Cell.okWide, Cell.ok, h2] at hv)
    · rename_i e hd
      have := Kbs (h3.trans hd); subst this
      obtain ⟨ie, xs, _, rfl, _⟩ := g
      cases v <;> first | rfl | (simp [Cell.okWide, Cell.ok, h2] at hv)
    · rename_i fs hd
      obtain ⟨gs, rfl, _⟩ := KcW (h3.trans hd)
      obtain ⟨ds, rfl, _⟩ := g
      simp only at hv
      obtain ⟨cs, rfl, _⟩ := hv
      rfl
    · rename_i m e hd
      have := KeB (h3.trans hd); subst this
      obtain ⟨ds, rfl, _⟩ := g
      simp only at hv
      obtain ⟨cs, rfl, _⟩ := hv
      rfl
    · exact g.elim
theorem rd_arg {H : Type} {enc : TypeId × Value → H} {w : World} {base : Nat} {spare : Nat → Bool} {held : Bool} {v : Value} {x : DataW H} {ps : List MemPlace} {r : Reach} {b0 : Nat} (hT : TabOK P tab) (ts : List Nat) (hc : closedT tab ts = true) (ht : ts.contains t = true)
  (hv : Value.okWide P w r b0 t v) (h : DataW.Trod enc P w base spare held t v x ps) : ∃ n d, GoodT tab n t d ∧ Rep (allOf w) d v := by
 obtain ⟨n, hn⟩ := h
 obtain ⟨d, i, h1, h2, h3, h4, h5, h6⟩ := rd hT hc n t _ _ ht hn
 exact ⟨n, d, h6, h2, shape_of hT hv h6⟩
end
end Go.Proofs.YtaclkgjnoaeihaaGreat.Ab
namespace Go.Proofs.YtaclkgjnoaeihaaGreat
open Go.ChangeShapes Go.WideShapes Go.ChangeAt Go.RowKit Go.Joins
set_option linter.all false
theorem own : ownKnob Tryz.prog.godebug = none := by kernel_rfl
theorem laidOut' : laidOutB Tryz.prog = true := by kernel_rfl
theorem KgK {H : Type} {enc : TypeId × Value → H} {P : Program} {W : World} (hl : laidOutB P = true) : ∀ {ts : List TypeId} {vs : List Value} {ds : List (DataW H)} {ps : List MemPlace},
    (ts.all fun t => P.readableRec t && decide (t < P.types.size)) = true → DataW.TrodAll enc P W 0 (fun _ => true) true ts vs ds ps → (∀ x ∈ ps, x.block < W.heap.size) → ∀ W', Below W.heap.size W W' →
    ∀ sp : Nat → Bool, (∀ x ∈ ps, sp x.block = true) → DataW.TrodAll enc P W' 0 sp true ts vs ds ps
  | [], vs, ds, ps, _, h, _, W', hb, sp, hsp => by
    obtain ⟨rfl, rfl, rfl⟩ := trodAll_nil h
    exact trodAll_mk0
  | t :: ts, vs, ds, ps, hr, h, hlt, W', hb, sp, hsp => by
    obtain ⟨v, vs', d, ds', p, q, rfl, rfl, rfl, h0, h1⟩ := trodAll_cons h
    simp only [List.all_cons, Bool.and_eq_true, decide_eq_true_eq] at hr
    exact trodAll_cons_mk (WideElems.Trod_stays hl hr.1.1 hr.1.2 h0 (fun x hx => hb.same (hlt x (by simp [hx]))) (fun x hx => hsp x (by simp [hx])))
      (KgK hl hr.2 h1 (fun x hx => hlt x (by simp [hx])) W' hb sp (fun x hx => hsp x (by simp [hx])))
end Go.Proofs.YtaclkgjnoaeihaaGreat
namespace Go.Proofs.YtaclkgjnoaeihaaGreat.Ab
open Go
set_option linter.all false
section
variable {H : Type} {enc : TypeId × Value → H} {P : Program} {w : World} {base : Nat} {spare : Nat → Bool} {held : Bool} {tab : List (Option TI)} {ts : List Nat}
end
end Go.Proofs.YtaclkgjnoaeihaaGreat.Ab
namespace Go.Proofs.YtaclkgjnoaeihaaGreat.Ab
open Go
set_option linter.all false
section
variable {α β : Type} [DecidableEq α]
def mget : List (α × β) → α → Option β
 | [], _ => none
 | (a, b) :: l, k => if a = k then some b else mget l k
def mput : List (α × β) → α → β → List (α × β)
 | [], k, v => [(k, v)]
 | (a, b) :: l, k, v => if a = k then (k, v) :: l else (a, b) :: mput l k v
def mgetD (l : List (α × β)) (k : α) (z : β) : β := (mget l k).getD z
def ffind : List α → α → List MapEntry → Nat → Option (Nat × Value)
 | a :: ks, k, e :: me, i => if a = k then some (i, e.val) else ffind ks k me (i + 1)
 | _, _, _, _ => none
end
structure KeyOK (P : Program) (kt : TypeId) {α : Type} [DecidableEq α] (f : α → Value) : Prop where
 find : ∀ (w : World) (k : α) (me : List MapEntry) (ks : List α), me.map (·.key) = ks.map f → (Instr.findKey kt (f k) me).run P w = .ok (ffind ks k me 0) w
 check : ∀ (w : World) (e : Bool) (k : α), (Instr.checkKey e 10000 kt (f k)).run P w = .ok () w
 stays : ∀ (w : World) (k : α), (Instr.keyThatStays (f k) (f k)).run P w = .ok (f k) w
theorem str_key {P : Program} {kt : TypeId} (h : P.underlying kt = some .string) : KeyOK P kt (fun s : ByteArray => Value.string s) where
  find w k me ks e := by
    refine MapKept.run_findKey h ?_
    have : ∀ (ks : List ByteArray) (me : List MapEntry) (i : Nat), me.map (·.key) = ks.map (fun s => Value.string s) → Instr.findNow .string (.string k) me i = some (ffind ks k me i) := by
      intro ks
      induction ks with
      | nil => intro me i e; simp at e; subst e; rfl
      | cons a ks ih =>
        intro me i e
        cases me with
        | nil => cases e
        | cons m me =>
          simp only [List.map_cons, List.cons.injEq] at e
          have hb : (k == a) = decide (a = k) := by
            by_cases q : a = k
            · subst q; rw [decide_eq_true rfl]; exact (MapKept.bytes_beq _ _).2 rfl
            · rw [decide_eq_false q]
              cases hq : k == a with
              | false => rfl
              | true => exact absurd ((MapKept.bytes_beq _ _).1 hq).symm q
          unfold Instr.findNow ffind
          rw [e.1]
          simp only [Instr.sameNow, hb]
          by_cases q : a = k
          · rw [decide_eq_true q, if_pos q]
          · rw [decide_eq_false q, if_neg q]; exact ih me (i + 1) e.2
    exact this ks me 0 e
  check w e k := by
    have := MapKept.run_checkKey (w := w) h (k := .string k) (by simp [MapKept.IsKey]) e 9999
    exact this
  stays w k := MapKept.run_keyThatStays (d := .string) (by simp [MapKept.IsKey])
section
variable {α β : Type} [DecidableEq α] {f : α → Value} {e : β → D} {H : Hp}
theorem Kfi : ∀ {l : List (α × β)} {me : List MapEntry}, MapR H (l.map fun p => (f p.1, e p.2)) me → me.map (·.key) = (l.map (·.1)).map f
  | [], me, h => by simp [MapR] at h; subst h; rfl
  | p :: l, me, h => by
    simp only [List.map_cons, MapR] at h
    obtain ⟨m, me', rfl, h1, _, h2⟩ := h
    simp only [List.map_cons, h1, Kfi h2]
theorem Kfj (k : α) : ∀ {l : List (α × β)} {me : List MapEntry} (i : Nat), MapR H (l.map fun p => (f p.1, e p.2)) me →
    (mget l k = none ∧ ffind (l.map (·.1)) k me i = none ∧ ∀ (v : β) (y : Value) (b : Nat), Rep H (e v) y → MapR H ((mput l k v).map fun p => (f p.1, e p.2)) (me ++ [⟨f k, y, b⟩])) ∨
    ∃ j b m, mget l k = some b ∧ ffind (l.map (·.1)) k me i = some (i + j, m.val) ∧ Rep H (e b) m.val ∧ me[j]? = some m ∧ m.key = f k ∧ ∀ (v : β) (y : Value), Rep H (e v) y → MapR H ((mput l k v).map fun p => (f p.1, e p.2)) (me.modify j fun x => { x with key := f k, val := y })
  | [], me, i, h => by
    simp [MapR] at h; subst h
    refine .inl ⟨rfl, rfl, fun v y b hy => ?_⟩
    simp only [mput, List.map_cons, List.map_nil, MapR, List.nil_append]
    exact ⟨_, _, rfl, rfl, hy, rfl⟩
  | p :: l, me, i, h => by
    simp only [List.map_cons, MapR] at h
    obtain ⟨m, me', rfl, h1, h2, h3⟩ := h
    by_cases q : p.1 = k
    · refine .inr ⟨0, p.2, m, by unfold mget; rw [if_pos q], by simp only [List.map_cons, ffind]; rw [if_pos q]; rfl, h2, rfl, by rw [h1, q], fun v y hy => ?_⟩
      simp only [mput, if_pos q, List.map_cons, MapR, List.modify_zero_cons]
      exact ⟨_, _, rfl, rfl, hy, h3⟩
    · rcases Kfj k (i + 1) h3 with ⟨g1, g2, g3⟩ | ⟨j, b, m', g1, g2, g3, g4, g5, g6⟩
      · refine .inl ⟨by unfold mget; rw [if_neg q]; exact g1, by simp only [List.map_cons, ffind]; rw [if_neg q]; exact g2, fun v y b hy => ?_⟩
        simp only [mput, if_neg q, List.map_cons, MapR, List.cons_append]
        exact ⟨_, _, rfl, h1, h2, g3 v y b hy⟩
      · refine .inr ⟨j + 1, b, m', by unfold mget; rw [if_neg q]; exact g1, by simp only [List.map_cons, ffind]; rw [if_neg q, g2]; congr 2; omega, g3, by simpa using g4, g5, fun v y hy => ?_⟩
        simp only [mput, if_neg q, List.map_cons, MapR, List.modify_succ_cons]
        exact ⟨_, _, rfl, h1, h2, g6 v y hy⟩
end
theorem Core.allocMap {C : Ctx} {H : Hp} {h : List (Nat × Blk)} {k : List (Nat × Value)} {w : World} (c : Core C H h k w) :
  Core C H ((w.heap.size, .mp []) :: h) k (w.alloc (.map #[] 0)) := by
 have c0 : Core ⟨H, w, []⟩ H [(w.heap.size, .mp [])] [] (w.alloc (.map #[] 0)) := by
  refine ⟨fun a v e => Kct _ (c.ag a v e), Hp.le_refl H, fun _ _ x => .inl x, fun b hb _ => ?_, ?_, ?_, by simp, ?_, ?_, ⟨rfl, rfl, rfl, Nat.le_refl _⟩⟩
  ·rw [KS, if_neg (by exact Nat.ne_of_lt hb)]
  ·rw [Kcs]; exact Nat.le_succ _
  ·intro p hp
   simp only [List.mem_singleton] at hp; subst hp
   refine ⟨#[], 0, by rw [KS, if_pos rfl], rfl, fun o => ?_⟩
   cases e : H ⟨w.heap.size, o, none⟩ with
   | none => rfl
   | some v => exact absurd (c.ag.lt e) (Nat.lt_irrefl _)
  ·simp [Kv, KF]
  ·intro b hb
   simp [Kv, KF] at hb; subst hb
   exact .inr (Nat.le_refl _)
 exact Core.call (h1 := []) (k1 := []) (h2 := h) (k2 := k) c c0
theorem Core.setMap {C : Ctx} {H : Hp} {h : List (Nat × Blk)} {k : List (Nat × Value)} {w : World} (c : Core C H h k w) {j b : Nat} {es es' : List (Value × D)} {me : Array MapEntry} {ck : Nat} (hj : h[j]? = some (b, .mp es))
  (hr : MapR H es' me.toList) : Core C H (h.set j (b, .mp es')) k { w with heap := w.heap.setIfInBounds b (.map me ck) } := by
 have hlt : j < h.length := (List.getElem?_eq_some_iff.1 hj).1
 have p1 : h.Perm ([(b, .mp es)] ++ h.eraseIdx j) := K2 hj
 have c1 := c.perm p1 (List.Perm.refl k)
 obtain ⟨me0, ck0, h1, h2, h3⟩ := c.blks _ (List.mem_of_getElem? hj)
 have hs := MapKept.heap_set (w := w) (o' := .map me ck) h1
 have c2 : Core ⟨H, w, Kv [(b, Blk.mp es)] []⟩ H [(b, .mp es')] [] { w with heap := w.heap.setIfInBounds b (.map me ck) } := by
  refine ⟨fun a v e => ?_, Hp.le_refl H, fun _ _ x => .inl x, fun i _ hm => hs.2 i (by simpa [Kv, KF] using hm), by simp, ?_, by simp, by simp [Kv, KF], ?_, ⟨rfl, rfl, rfl, Nat.le_refl _⟩⟩
  ·have hne : a.block ≠ b := fun e2 => by
    obtain ⟨ab, ao, sp0⟩ := a
    simp only at e2; subst e2
    have hc := c.ag _ _ e
    cases sp0 with
    | none => rw [h3] at e; cases e
    | some s => simp [World.cell?, h1] at hc
   have := c.ag a v e
   simp only [World.cell?] at this ⊢
   rw [hs.2 _ hne]; exact this
  ·intro p hp
   simp only [List.mem_singleton] at hp; subst hp
   exact ⟨me, ck, hs.1, hr, h3⟩
  ·intro x hx
   exact .inl (by simpa [Kv, KF] using hx)
 have c3 := Core.call (h1 := [(b, .mp es)]) (k1 := []) (h2 := h.eraseIdx j) (k2 := k) (by simpa using c1) c2
 refine c3.perm ?_ (by simp)
 have p2 : (h.set j (b, Blk.mp es'))[j]? = some (b, Blk.mp es') := by rw [List.getElem?_set_self hlt]
 have p3 := K2 p2
 rw [List.eraseIdx_set_eq] at p3
 exact p3.symm
section
variable {P : Program} {C : Ctx} {N : Nat} {ops rest : List Oper} {o : Oper} {t : List (Nat × D)} {h : List (Nat × Blk)} {k : List (Nat × Value)} {Q : Exit → S → Prop} {tab : List (Option TI)}
theorem Kd2 {i : Nat} {T : TypeId} (ho : o.op = .makeMap T none) (hw : wantD ops t o = some true) (hd : o.dst = some i) (hi : Nat.blt i N = true)
  (g : ∀ b : Nat, opsD P C N ops rest ⟨(i, .v (.map (some b))) :: t, (b, .mp []) :: h, k⟩ Q) : opsD P C N ops (o :: rest) ⟨t, h, k⟩ Q :=
 Kbx (s := ⟨t, h, k⟩) hw hd hi fun H a w c kt => by
  refine ⟨.map (some w.heap.size), _, H, .v (.map (some w.heap.size)), _, k, ?_, Hp.le_refl H, c.allocMap, rep_v rfl, g w.heap.size⟩
  unfold execOp
  rw [ho]
  refine KaH ?_
  rfl
theorem run_zv {w : World} {t : TypeId} {z : Value} (h : (P.info? t).bind (·.zero) = some z) : (Go.zeroValue t).run P w = .ok z w := by
  cases hi : P.info? t with
  | none => rw [hi] at h; cases h
  | some i =>
    rw [hi] at h
    have ht : (Go.typeInfo t).run P w = .ok i w := by
      unfold Go.typeInfo Go.program
      rw [Kk (a := P) rfl, hi]; rfl
    unfold Go.zeroValue
    rw [Kk ht]
    simp only [Option.bind_some] at h
    rw [h]; rfl
section
variable {α β : Type} [DecidableEq α] {f : α → Value} {e : β → D}
theorem KcO {i b kt et : Nat} {T : TypeId} {x ix : Operand} {l : List (α × β)} {es : List (Value × D)} {kk : α} {dk dr : D} {z : β} {zv : Value} {ti0 : TI} (j : Nat) (hT : TabOK P tab) (ho : o.op = .lookup T x ix false) (hw : wantD ops t o = some true) (hd : o.dst = some i) (hi : Nat.blt i N = true)
  (hx : opD t x = some (.v (.map (some b)))) (hj : h[j]? = some (b, .mp es)) (hes : es = l.map fun p => (f p.1, e p.2)) (hix : opD t ix = some dk) (hti : ti tab T = some ti0) (hs : ti0.d = .map kt et) (K : KeyOK P kt f) (hk : ∀ H v, Rep H dk v → v = f kk)
  (hz : (P.info? et).bind (·.zero) = some zv) (hzr : ∀ H, Rep H (e z) zv) (hr : dr = e (mgetD l kk z))
  (g : opsD P C N ops rest ⟨(i, dr) :: t, h, k⟩ Q) : opsD P C N ops (o :: rest) ⟨t, h, k⟩ Q :=
 Kbx (s := ⟨t, h, k⟩) hw hd hi fun H a w core kt' => by
  subst hes; subst hr
  obtain ⟨dd, h1, h2⟩ := K1 (w := w) (ti_ok hT hti)
  have := td_map (h2.trans hs); subst this
  obtain ⟨me, ck, g1, g2, g3⟩ := core.blks _ (List.mem_of_getElem? hj)
  have hkv := hk H _ (KZ kt' hix)
  have hfk := K.find w kk me.toList (l.map (·.1)) (Kfi g2)
  have key : ∃ v, (Instr.lookup T (a.eval x) (a.eval ix) false).run P w = .ok v w ∧ Rep H (e (mgetD l kk z)) v := by
   rw [hkv, KO (KZ kt' hx)]
   unfold Instr.lookup mgetD
   rcases Kfj kk 0 g2 with ⟨q1, q2, _⟩ | ⟨j', b', m, q1, q2, q3, _⟩
   ·refine ⟨zv, ?_, by rw [q1]; exact hzr H⟩
    rw [q2] at hfk
    simp only [run_bind, h1, Result.andThen, MapKept.run_getObj_map g1, run_pure, K.check, hfk, run_zv hz]
    simp
   ·refine ⟨m.val, ?_, by rw [q1]; exact q3⟩
    rw [q2] at hfk
    simp only [run_bind, h1, Result.andThen, MapKept.run_getObj_map g1, run_pure, K.check, hfk]
    simp
  obtain ⟨v, e1, e2⟩ := key
  refine ⟨v, w, H, _, h, k, ?_, Hp.le_refl H, core, e2, g⟩
  unfold execOp
  rw [ho]
  exact KaH e1
theorem KcC {b kt et : Nat} {T : TypeId} {x ix y : Operand} {l : List (α × β)} {es : List (Value × D)} {h' : List (Nat × Blk)} {kk : α} {vv : β} {dk dv : D} {ti0 : TI} (j : Nat) (hT : TabOK P tab) (ho : o.op = .mapUpdate T x ix y) (hw : wantD ops t o = some true) (hd : o.dst = none)
  (hx : opD t x = some (.v (.map (some b)))) (hj : h[j]? = some (b, .mp es)) (hes : es = l.map fun p => (f p.1, e p.2)) (hix : opD t ix = some dk) (hy : opD t y = some dv) (hti : ti tab T = some ti0) (hs : ti0.d = .map kt et) (K : KeyOK P kt f) (hk : ∀ H v, Rep H dk v → v = f kk) (hv : Wk dv (e vv))
  (he : h.set j (b, .mp ((mput l kk vv).map fun p => (f p.1, e p.2))) = h')
  (g : opsD P C N ops rest ⟨t, h', k⟩ Q) : opsD P C N ops (o :: rest) ⟨t, h, k⟩ Q :=
 ops_unit (s := ⟨t, h, k⟩) hw hd fun H a w core kt' => by
  subst hes; subst he
  obtain ⟨dd, h1, h2⟩ := K1 (w := w) (ti_ok hT hti)
  have := td_map (h2.trans hs); subst this
  obtain ⟨me, ck, g1, g2, g3⟩ := core.blks _ (List.mem_of_getElem? hj)
  have hkv := hk H _ (KZ kt' hix)
  have hfk := K.find w kk me.toList (l.map (·.1)) (Kfi g2)
  have hyv : Rep H (e vv) (a.eval y) := hv H _ (KZ kt' hy)
  have key : ∃ me' ck', (Instr.mapUpdate T (a.eval x) (a.eval ix) (a.eval y)).run P w = .ok () { w with heap := w.heap.setIfInBounds b (.map me' ck') } ∧ MapR H ((mput l kk vv).map fun p => (f p.1, e p.2)) me'.toList := by
   rw [hkv, KO (KZ kt' hx)]
   unfold Instr.mapUpdate
   rcases Kfj kk 0 g2 with ⟨q1, q2, q3⟩ | ⟨j', b', m, q1, q2, q3, q4, q5, q6⟩
   ·refine ⟨me.push ⟨f kk, a.eval y, ck⟩, ck + 1, ?_, by rw [Array.toList_push]; exact q3 vv _ ck hyv⟩
    rw [q2] at hfk
    simp only [run_bind, h1, Result.andThen, MapKept.run_getObj_map g1, run_pure, K.check, hfk, MapKept.run_setObj_map _ g1]
   ·refine ⟨me.modify j' fun x => { x with key := f kk, val := a.eval y }, ck, ?_, by rw [Array.toList_modify]; exact q6 vv _ hyv⟩
    rw [q2] at hfk
    have hm : me[j']? = some m := by rw [← Array.getElem?_toList]; exact q4
    rw [Nat.zero_add] at hfk
    simp only [run_bind, h1, Result.andThen, MapKept.run_getObj_map g1, run_pure, K.check, hfk, hm, Option.map_some, Option.getD_some, q5, K.stays, MapKept.run_setObj_map _ g1]
  obtain ⟨me', ck', e1, e2⟩ := key
  refine ⟨_, H, _, k, ?_, Hp.le_refl H, core.setMap (ck := ck') hj e2, g⟩
  unfold execOp
  rw [ho]
  show ((Instr.mapUpdate T (a.eval x) (a.eval ix) (a.eval y)) >>= fun _ => pure Next.skip).run P w = _
  rw [Kk e1]; rfl
end
end
end Go.Proofs.YtaclkgjnoaeihaaGreat.Ab
namespace Go.Proofs.YtaclkgjnoaeihaaGreat.Ab
open Go
set_option linter.all false
theorem reps_v (H : Hp) : ∀ us : List Value, us.all one = true → Reps H (us.map .v) us
  | [], _ => rfl
  | u :: us, h => by
    simp only [List.all_cons, Bool.and_eq_true] at h
    simp only [List.map_cons, Reps]
    exact ⟨u, us, rfl, ⟨by simp [RepC], h.1, rfl⟩, reps_v H us h.2⟩
theorem Kga {H : Hp} : ∀ {us vs : List Value}, Reps H (us.map .v) vs → vs = us
  | [], vs, h => h
  | u :: us, vs, h => by
    simp only [List.map_cons, Reps] at h
    obtain ⟨v, vs', rfl, ⟨h1, _⟩, h2⟩ := h
    simp only [RepC, List.cons.injEq, and_true] at h1
    rw [h1, Kga h2]
theorem rep_va_inv {H : Hp} {us : List Value} {v : Value} (h : Rep H (.agg (us.map .v)) v) : v = .agg us.toArray := by
 obtain ⟨vs, rfl, h2⟩ := Kbo h
 rw [Kga h2]
def keyF (tab : List (Option TI)) (us : List Value) (g : Nat × Nat) : Bool :=
  match ti tab g.1, us[g.2]? with
  | some i, some x => match i.d, x with
    | .int k, .int k' _ => keq k k'
    | .bool, .bool _ => true
    | .str, .string _ => true
    | _, _ => false
  | _, _ => false
theorem keyF_ok {P : Program} {w : World} {tab : List (Option TI)} (hT : TabOK P tab) {us : List Value} (h1 : us.all one = true) {g : Nat × Nat} (h : keyF tab us g = true) (e : Bool) (n : Nat) :
  ∃ v, (Go.part g.1 us.toArray g.2).run P w = .ok v w ∧ (Instr.checkKey e (n + 1) g.1 v).run P w = .ok () w := by
 unfold keyF at h
 split at h
 ·rename_i i x hi hx
  have hag : i.agg = false := by
   unfold TI.agg
   split at h <;> first | (rename_i hd; rw [hd]) | cases h
  obtain ⟨v, p1, q1⟩ := KdI (P := P) (w := w) (H := fun _ => none) (ti_ok hT hi) (reps_v _ us h1) (d := .v x) (off := g.2) (by simp [partD, hag, hx])
  have e1 := KO q1; subst e1
  refine ⟨v, p1, ?_⟩
  obtain ⟨ti', z, dd, h3, h4, h5, _⟩ := Kcj (ti_ok hT hi)
  split at h
  ·rename_i k k' a hd
   have := keq_eq h; subst this
   exact MapKept.run_checkKey (by rw [h4, Keh (h5.trans hd)]) (k := .int k a) (by simp [MapKept.IsKey]) e n
  ·rename_i a hd
   exact MapKept.run_checkKey (by rw [h4, Kef (h5.trans hd)]) (k := .bool a) (by simp [MapKept.IsKey]) e n
  ·rename_i a hd
   exact MapKept.run_checkKey (by rw [h4, Keg (h5.trans hd)]) (k := .string a) (by simp [MapKept.IsKey]) e n
  ·cases h
 ·cases h
theorem KgX {P : Program} {w : World} {tab : List (Option TI)} (hT : TabOK P tab) {kt : TypeId} {ti0 : TI} {fs : List (Nat × Nat)} (hti : ti tab kt = some ti0) (hfs : ti0.d = .struct fs) {us : List Value} (h1 : us.all one = true)
    (hk : fs.all (keyF tab us) = true) (e : Bool) (n : Nat) : (Instr.checkKey e (n + 2) kt (.agg us.toArray)).run P w = .ok () w := by
  obtain ⟨dd, g1, g2⟩ := K1 (w := w) (ti_ok hT hti)
  obtain ⟨gs, rfl, h8⟩ := KcW (g2.trans hfs)
  rw [show n + 2 = (n + 1) + 1 from rfl, Instr.checkKey]
  simp only [Sem.run_bind, g1, Result.andThen_ok]
  rw [← Array.forIn_toList]
  generalize gs.toList = L at h8
  clear g1 g2 hfs hti
  induction L generalizing fs with
  | nil => simp
  | cons f L ih =>
    subst h8
    simp only [List.map_cons, List.all_cons, Bool.and_eq_true] at hk
    obtain ⟨v, p1, p2⟩ := keyF_ok (w := w) hT h1 hk.1 e n
    simp only at p1 p2
    by_cases hn : f.name = "_"
    · simp only [List.forIn_cons, Sem.run_bind, hn, ne_eq, not_true_eq_false, if_false, Result.andThen_ok, Sem.run_pure]
      exact ih hk.2 rfl
    · simp only [List.forIn_cons, Sem.run_bind, hn, ne_eq, not_false_eq_true, if_true, Result.andThen_ok, p1, p2, Sem.run_pure]
      exact ih hk.2 rfl
theorem KgY {P : Program} {w : World} {us : List Value} (h : us.all (fun x => match x with | .int _ _ => true | .bool _ => true | .string _ => true | _ => false) = true) :
    (Instr.keyThatStays (.agg us.toArray) (.agg us.toArray)).run P w = .ok (.agg us.toArray) w := by
  have hb : Instr.sameBits 10000 (.agg us.toArray) (.agg us.toArray) = true := by
    show Instr.sameBits (9999 + 1) _ _ = true
    simp only [Instr.sameBits, beq_self_eq_true, Bool.true_and, List.all_eq_true]
    intro p hp
    have : p.1 = p.2 ∧ p.1 ∈ us := by
      clear h
      generalize us = l at hp
      induction l with
      | nil => simp at hp
      | cons a l ih =>
        simp only [List.zip_cons_cons, List.mem_cons] at hp
        rcases hp with rfl | hp
        · simp
        · obtain ⟨e1, e2⟩ := ih hp
          exact ⟨e1, by simp [e2]⟩
    obtain ⟨e1, e2⟩ := this
    have hx := List.all_eq_true.1 h _ e2
    rw [← e1]
    cases hq : p.1 <;> rw [hq] at hx <;> simp at hx
    · exact MapKept.sameBits_self (d := .bool) (by simp [MapKept.IsKey]) _
    · exact MapKept.sameBits_self (d := .int _) (by simp [MapKept.IsKey]; rfl) _
    · exact MapKept.sameBits_self (d := .string) (by simp [MapKept.IsKey]) _
  unfold Instr.keyThatStays
  rw [hb]; rfl
theorem KfM {P : Program} {w : World} {kt : TypeId} {α : Type} [DecidableEq α] {f : α → Value} (k : α) (heq : ∀ a, (Op.equal kt (f k) (f a)).run P w = .ok (decide (a = k)) w) :
    ∀ (ks : List α) (me : List MapEntry) (i : Nat), me.map (·.key) = ks.map f → (Instr.findAsking kt (f k) me i).run P w = .ok (ffind ks k me i) w
  | [], me, i, e => by simp at e; subst e; rfl
  | a :: ks, [], i, e => by cases e
  | a :: ks, m :: me, i, e => by
    simp only [List.map_cons, List.cons.injEq] at e
    unfold Instr.findAsking ffind
    rw [e.1, Kk (heq a)]
    by_cases q : a = k
    · rw [decide_eq_true q, if_pos q]; rfl
    · rw [decide_eq_false q, if_neg q]
      exact KfM k heq ks me (i + 1) e.2
theorem struct_key {P : Program} {tab : List (Option TI)} {kt : TypeId} {α : Type} [DecidableEq α] {g : α → List Value} {ti0 : TI} {fs : List (Nat × Nat)} (hT : TabOK P tab) (hE : EqT P kt) (hti : ti tab kt = some ti0) (hfs : ti0.d = .struct fs)
  (h1 : ∀ a, (g a).all (fun x => match x with | .int _ _ => true | .bool _ => true | .string _ => true | _ => false) = true) (h2 : ∀ a, fs.all (keyF tab (g a)) = true)
  (h3 : ∀ a b, eqL tab fs ((g a).map .v) ((g b).map .v) = some (decide (b = a))) : KeyOK P kt (fun a => .agg (g a).toArray) := by
 have ho : ∀ a, (g a).all one = true := fun a => by
  have := h1 a
  rw [List.all_eq_true] at this ⊢
  intro x hx
  have := this x hx
  cases x <;> simp at this <;> rfl
 refine ⟨fun w k me ks e => ?_, fun w e k => KgX hT hti hfs (ho k) (h2 k) e 9998, fun w k => KgY (h1 k)⟩
 obtain ⟨ti', z, dd', h5, h6, h7, _⟩ := Kcj (ti_ok hT hti)
 obtain ⟨gs, rfl, h8⟩ := KcW (h7.trans hfs)
 have hf : P.fieldsOf kt = gs := by unfold Program.fieldsOf; rw [h6]
 rw [run_findKey_eq w (by rw [h6])]
 refine KfM k (fun a => ?_) ks me 0 e
 show (Op.equalIn (9999 + 1) kt _ _).run P w = _
 rw [run_equalIn_struct w 9999 kt _ _ (by rw [h6, hf]) hE.stood]
 have hn := hE.names
 rw [hf] at hn ⊢
 exact eqL_ok (H := fun _ => none) hT (reps_v _ _ (ho k)) (reps_v _ _ (ho a)) 9998 gs.toList fs _ h8 hn (h3 k a)
section
variable {P : Program} {C : Ctx} {o : Oper} {t : List (Nat × D)} {h : List (Nat × Blk)} {k : List (Nat × Value)} {tab : List (Option TI)} {α β : Type} [DecidableEq α] {f : α → Value} {e : β → D}
end
end Go.Proofs.YtaclkgjnoaeihaaGreat.Ab
namespace Go.Proofs.YtaclkgjnoaeihaaGreat.Ab
open Go
set_option linter.all false
theorem rep_full0 {H : Hp} {k0 : Nat} {v : Value} (hr : Rep H (.lst k0 [] .full) v) : ∃ a, v = .slice a 0 0 := by
 obtain ⟨hc, hx⟩ := Kaq hr
 rcases hx with ⟨_, a, m, rfl, _⟩ | ⟨b, off, m, rfl, hm, _⟩
 ·simp only [CapOK] at hc; subst hc; exact ⟨a, rfl⟩
 ·simp only [CapOK, List.length_nil] at hc; subst hc; exact ⟨_, rfl⟩
theorem grow_nil {P : Program} {f : FuncId} {e : TypeId} {kk bb k0 : Nat} (hg : Goes P f)
  (hi : ∃ i0 z, P.info? e = some i0 ∧ i0.zero = some z ∧ i0.size = kk ∧ i0.bytes = bb ∧ z.cells.size = kk) (hkk : 0 < kk)
  (hroom : ∀ (a : Option Addr) (w : World), Calls P f #[.slice a 0 0, .int .i64 ((0 : Nat) : Int)] w fun e' w' => e' = .returned (.slice a 0 0) ∧ w' = w)
  (hgrow : ∀ (i0 : TypeInfo) (z : Value) (hi0 : P.info? e = some i0) (hz0 : i0.zero = some z) (hs0 : 0 < i0.size) (a : Option Addr) (n : Nat) (w : World), 0 < n → n * i0.bytes ≤ 140737488355328 → n ≤ 4611686018427387904 →
   Calls P f #[.slice a 0 0, .int .i64 (n : Int)] w fun e' w' => e' = .returned (.slice (some ⟨w.heap.size, 0, none⟩) 0 (grownCap w n 0 e)) ∧
    w' = w.drew.alloc (.cells (#[] ++ Builtin.zeroCells z.cells n ++ Builtin.zeroCells z.cells (grownCap w n 0 e - n)) e))
  (n : Int) (hn : 0 ≤ n) (hb : n * bb ≤ 140737488355328) (h62 : n ≤ 4611686018427387904) :
  CallsD P f [.lst k0 [] .full, .v (.int .i64 n)] [] [] (fun d h k => ∃ z : Z3, d = .v (SL z) ∧ h = [(0, .row kk [] (SL z))] ∧ k = []) := by
 refine ⟨hg, fun H w vs hv hA _ _ _ => ?_⟩
 simp only [RepsV] at hv
 obtain ⟨u, us, rfl, hu, u2, us2, rfl, hu2, rfl⟩ := hv
 have := KO hu2
 subst this
 obtain ⟨a, rfl⟩ := rep_full0 hu
 obtain ⟨m, rfl⟩ := Int.eq_ofNat_of_zero_le hn
 by_cases h0 : m = 0
 ·subst h0
  refine (hroom a w).mono fun e' w' ⟨he', hw⟩ => ?_
  subst hw
  refine ⟨_, H, .v (SL (a, 0, 0)), [(0, .row kk [] (SL (a, 0, 0)))], [], he', rep_v rfl, ?_, (a, 0, 0), rfl, rfl, rfl⟩
  refine ⟨hA, Hp.le_refl H, fun _ _ x => .inl x, fun _ _ _ => rfl, Nat.le_refl _, ?_, by simp, ?_, ?_, Env.refl _⟩
  ·intro p hp
   simp only [List.mem_singleton] at hp; subst hp
   exact .inl ⟨a, rfl, rfl⟩
  ·cases a <;> simp [Kv, KF, Kau]
  ·cases a <;> simp [Kv, KF, Kau]
 ·obtain ⟨i0, z, hi0, hz0, hs, hbb, hzs⟩ := hi
  have hgc := grownCap_ge w m 0 e
  refine (hgrow i0 z hi0 hz0 (by omega) a m w (by omega) (by rw [hbb]; omega) (by omega)).mono fun e' w' ⟨he', hw⟩ => ?_
  generalize grownCap w m 0 e = gc at hgc he' hw
  have earr : #[] ++ Builtin.zeroCells z.cells m ++ Builtin.zeroCells z.cells (gc - m) = ((Builtin.zeroCells z.cells m).toList ++ (Builtin.zeroCells z.cells (gc - m)).toList).toArray := by simp
  rw [earr] at hw
  have hlen : ((Builtin.zeroCells z.cells m).toList ++ (Builtin.zeroCells z.cells (gc - m)).toList).length = gc * kk := by
   simp only [List.length_append, Array.length_toList, size_zeroCells, hzs]
   rw [← Nat.add_mul]; congr 1; omega
  generalize (Builtin.zeroCells z.cells m).toList ++ (Builtin.zeroCells z.cells (gc - m)).toList = cs at hlen hw
  subst hw
  have hsizew : w.drew.heap.size = w.heap.size := rfl
  have hcells : (w.drew.alloc (.cells cs.toArray e)).heap[w.heap.size]? = some (.cells cs.toArray e (0, 0)) := by
   rw [KS, hsizew, if_pos rfl]
  have hm0 : 0 < gc := by omega
  refine ⟨_, H, .v (SL (some ⟨w.heap.size, 0, none⟩, 0, gc)), [(0, .row kk [] (SL (some ⟨w.heap.size, 0, none⟩, 0, gc)))], [], he', rep_v rfl, ?_, (some ⟨w.heap.size, 0, none⟩, 0, gc), rfl, rfl, rfl⟩
  refine ⟨fun a v e' => Kct _ (hA a v e'), Hp.le_refl H, fun _ _ x => .inl x, fun b hb _ => ?_, ?_, ?_, by simp, ?_, ?_, ⟨rfl, rfl, rfl, Nat.le_refl _⟩⟩
  ·rw [KS, hsizew, if_neg (by exact Nat.ne_of_lt hb)]; rfl
  ·rw [Kcs, hsizew]; exact Nat.le_succ _
  ·intro p hp
   simp only [List.mem_singleton] at hp; subst hp
   refine .inr ⟨w.heap.size, gc, [], cs, e, by simp [SL], by simp, hm0, by simpa using hcells, rfl, ?_, fun o => ?_⟩
   ·simp only [List.nil_append]; omega
   ·cases q : H ⟨w.heap.size, o, none⟩ with
    | none => rfl
    | some v => exact absurd (hA.lt q) (Nat.lt_irrefl _)
  ·simp [Kv, KF, Kau, hm0]
  ·intro x hx; simp [Kv, KF, Kau, hm0] at hx; subst hx; exact .inr (Nat.le_refl _)
end Go.Proofs.YtaclkgjnoaeihaaGreat.Ab
namespace Go.Proofs.YtaclkgjnoaeihaaGreat.Ab
open Go
set_option linter.all false
structure K9 where
 gName : ByteArray
 gPtr : Bool
def Ke (x : K9) : D := .agg [.v (.string x.gName), .v (.bool x.gPtr)]
structure Kq where
 gOp : Int
 gN : Int
 gName : ByteArray
 gKids : List Kq
 gAt : Int
mutual
def Kn : Kq → D
 | ⟨f0, f1, f2, f3, f4⟩ => .agg [.v (.int .i64 f0), .v (.int .i64 f1), .v (.string f2), .lst 5 (KcD f3) .no, .v (.int .i64 f4)]
def KcD : List Kq → List D
 | [] => []
 | x :: l => Kn x :: KcD l
end
theorem Ke1 : ∀ l, KcD l = l.map Kn
 | [] => by simp [KcD]
 | x :: l => by simp only [KcD, List.map_cons, Ke1 l]
theorem K0 (x : Kq) : Kn x = .agg [.v (.int .i64 x.gOp), .v (.int .i64 x.gN), .v (.string x.gName), .lst 5 (x.gKids.map Kn) .no, .v (.int .i64 x.gAt)] := by
 cases x
 simp only [Kn, Ke1]
def KaX (a0 : List Kq) : Option (List Kq) := app 64 a0 []
theorem KcE (a0 : List Kq) (r : List Kq) (h0 : KaX a0 = some r) : CallsD Tryz.prog 66 [.lst 5 (a0.map Kn) .no] [] [] (fun d h k => ∃ y0, d = .lst 5 (r.map Kn) (.cur y0) ∧ h = [] ∧ k = [(5, y0)]) := by
 obtain ⟨hr, hb⟩ := app_ok h0
 simp only [List.append_nil] at hr
 subst hr
 have q : app 64 ([] : List Kq) r = some r := app_of (by simp only [List.length_nil, Nat.zero_add]; simpa using hb)
 refine K5 htab Tryz.func66 rfl rfl rfl rfl rfl (fun C => ?_)
 refine Ko ?_
 refine Kr ?_
 refine Kck htab rfl rfl rfl rfl ?_
 refine Kt ?_
 refine Kd ?_
 refine Ko ?_
 refine Ko ?_
 refine Kr ?_
 refine Kck htab rfl rfl rfl rfl ?_
 refine p_isnil htab rfl rfl rfl rfl rfl rfl rfl (fun b hn => ?_)
 refine Kt ?_
 refine Kd ?_
 refine Kp rfl (fun hc => ?_) (fun hc => ?_)
 ·have hnil := hn hc
  simp only [List.map_eq_nil_iff] at hnil
  subst hnil
  refine Ko ?_
  refine Kr ?_
  refine Kck htab rfl rfl rfl rfl ?_
  refine Kt ?_
  refine Kd ?_
  refine KA ?_
  refine KB ?_
  refine retX.tokN (i := 2) 5 rfl (fun y => ?_)
  refine retX.of (s' := ⟨[(2, .lst 5 (([] : List Kq).map Kn) (.cur y))], [], [(5, y)]⟩) (WkS.perm (WkS.cons rfl (Wk.refl _) (WkS.nil)) (List.Perm.refl _) (List.Perm.refl _)) (Kek (hh := []) (.inl rfl) (KcY (Kc9 rfl) (KeK)) (List.nil_sublist _) (List.Sublist.refl _) ?_)
  exact ⟨y, rfl, rfl, rfl⟩
 ·refine Ks ?_
  refine Kd ?_
  refine Ko ?_
  refine Kr ?_
  refine p_lit0 htab rfl rfl rfl rfl rfl rfl rfl rfl ?_
  refine Kck htab rfl rfl rfl rfl ?_
  refine p_appF htab rfl rfl rfl rfl rfl rfl rfl rfl rfl rfl rfl rfl rfl rfl rfl (by simpa using hb) (fun v => ?_)
  refine Kck htab rfl rfl rfl rfl ?_
  refine Kt ?_
  refine Kd ?_
  refine KA ?_
  refine retX.of (s' := ⟨[(2, .lst 5 (r.map Kn) (.cur v))], [], [(5, v)]⟩) (WkS.perm (WkS.cons rfl (Wk.refl _) (WkS.nil)) (List.Perm.refl _) (List.Perm.refl _)) (Kek (hh := []) (.inl rfl) (KcY (Kc9 rfl) (KeK)) (List.nil_sublist _) (List.Sublist.refl _) ?_)
  exact ⟨v, rfl, rfl, rfl⟩
theorem Kcy (a0 : List Kq) (r : List Kq) (h0 : KaX a0 = some r) : CallsD Tryz.prog 66 [.lst 5 (a0.map Kn) .no] [] [] (fun d h k => d = .lst 5 (r.map Kn) .no ∧ h = [] ∧ k = []) :=
 (KcE a0 r h0).drop fun d h k ⟨y0, e, _, _⟩ => by subst e; exact Wk.no
def Kbn (a0 : List K9) : Option (List K9) := app 24 a0 []
theorem Kc2 (a0 : List K9) (r : List K9) (h0 : Kbn a0 = some r) : CallsD Tryz.prog 55 [.lst 2 (a0.map Ke) .no] [] [] (fun d h k => ∃ y0, d = .lst 2 (r.map Ke) (.cur y0) ∧ h = [] ∧ k = [(2, y0)]) := by
 obtain ⟨hr, hb⟩ := app_ok h0
 simp only [List.append_nil] at hr
 subst hr
 have q : app 24 ([] : List K9) r = some r := app_of (by simp only [List.length_nil, Nat.zero_add]; simpa using hb)
 refine K5 htab Tryz.func55 rfl rfl rfl rfl rfl (fun C => ?_)
 refine Ko ?_
 refine Kr ?_
 refine Kck htab rfl rfl rfl rfl ?_
 refine Kt ?_
 refine Kd ?_
 refine Ko ?_
 refine Ko ?_
 refine Kr ?_
 refine Kck htab rfl rfl rfl rfl ?_
 refine p_isnil htab rfl rfl rfl rfl rfl rfl rfl (fun b hn => ?_)
 refine Kt ?_
 refine Kd ?_
 refine Kp rfl (fun hc => ?_) (fun hc => ?_)
 ·have hnil := hn hc
  simp only [List.map_eq_nil_iff] at hnil
  subst hnil
  refine Ko ?_
  refine Kr ?_
  refine Kck htab rfl rfl rfl rfl ?_
  refine Kt ?_
  refine Kd ?_
  refine KA ?_
  refine KB ?_
  refine retX.tokN (i := 2) 2 rfl (fun y => ?_)
  refine retX.of (s' := ⟨[(2, .lst 2 (([] : List K9).map Ke) (.cur y))], [], [(2, y)]⟩) (WkS.perm (WkS.cons rfl (Wk.refl _) (WkS.nil)) (List.Perm.refl _) (List.Perm.refl _)) (Kek (hh := []) (.inl rfl) (KcY (Kc9 rfl) (KeK)) (List.nil_sublist _) (List.Sublist.refl _) ?_)
  exact ⟨y, rfl, rfl, rfl⟩
 ·refine Ks ?_
  refine Kd ?_
  refine Ko ?_
  refine Kr ?_
  refine p_lit0 htab rfl rfl rfl rfl rfl rfl rfl rfl ?_
  refine Kck htab rfl rfl rfl rfl ?_
  refine p_appF htab rfl rfl rfl rfl rfl rfl rfl rfl rfl rfl rfl rfl rfl rfl rfl (by simpa using hb) (fun v => ?_)
  refine Kck htab rfl rfl rfl rfl ?_
  refine Kt ?_
  refine Kd ?_
  refine KA ?_
  refine retX.of (s' := ⟨[(2, .lst 2 (r.map Ke) (.cur v))], [], [(2, v)]⟩) (WkS.perm (WkS.cons rfl (Wk.refl _) (WkS.nil)) (List.Perm.refl _) (List.Perm.refl _)) (Kek (hh := []) (.inl rfl) (KcY (Kc9 rfl) (KeK)) (List.nil_sublist _) (List.Sublist.refl _) ?_)
  exact ⟨v, rfl, rfl, rfl⟩
theorem mk66 : KeyOK Tryz.prog 9 (fun s : ByteArray => Value.string s) := str_key (by kernel_rfl)
theorem mz66 : (Tryz.prog.info? 3).bind (·.zero) = some (.int .i64 (0 : Int)) := by kernel_rfl
theorem mr66 (H : Hp) : Rep H (eI64 (0 : Int)) (.int .i64 (0 : Int)) := rep_v rfl
structure KK where
 gName : ByteArray
 gAt : Int
def KaZ (x : KK) : D := .agg [.v (.string x.gName), .v (.int .i64 x.gAt)]
structure Ky where
 gPtr : Bool
 gN : Int
 gTo : KK
def K4 (x : Ky) : D := .agg [.v (.bool x.gPtr), .v (.int .i64 x.gN), .v (.string x.gTo.gName), .v (.int .i64 x.gTo.gAt)]
instance : DecidableEq KK := fun a b => decidable_of_iff (a.gName = b.gName ∧ a.gAt = b.gAt) (by cases a; cases b; simp)
def Ka3 (x : KK) : List Value := [.string x.gName, .int .i64 x.gAt]
theorem keTApiCell (a b : KK) : (decide (a.gName = b.gName) && (a.gAt == b.gAt && true)) = decide (b = a) := by
 rw [Bool.eq_iff_iff, decide_eq_true_iff]
 obtain ⟨a0, a1⟩ := a
 obtain ⟨b0, b1⟩ := b
 simp only [Bool.and_eq_true, decide_eq_true_eq, beq_iff_eq, and_true, KK.mk.injEq]
 constructor <;> intro h <;> simp_all
theorem eqt23 : EqT Tryz.prog 23 := ⟨by kernel_rfl, by kernel_rfl, by kernel_rfl⟩
theorem mk67 : KeyOK Tryz.prog 23 (fun a => Value.agg (Ka3 a).toArray) := struct_key (g := Ka3) htab eqt23 rfl rfl (fun _ => rfl) (fun _ => rfl) (fun a b => (show eqL tab _ _ _ = some ((decide (a.gName = b.gName) && (a.gAt == b.gAt && true))) from rfl).trans (congrArg some (keTApiCell a b)))
def growF64 (n : Int) : List K9 := []
def Kd3 (n : Int) : Bool := decide (0 ≤ n) && decide (n * 24 ≤ 140737488355328)
open Go.RowKit Go.Shelf Go.Proofs.YtaclkgjnoaeihaaGreat in
theorem growOk64 (n : Int) {k0 : Nat} (h : Kd3 n = true) : CallsD Tryz.prog 64 [.lst k0 [] .full, .v (.int .i64 n)] [] [] (fun d h k => ∃ y0, d = .v (SL y0) ∧ h = [(0, .row 2 ((growF64 n).map Ke) (SL y0))] ∧ k = []) := by
 simp only [Kd3, Bool.and_eq_true, decide_eq_true_eq] at h
 exact grow_nil (e := 94) (bb := 24) ⟨_, Tryz.func64, rfl, rfl⟩ ⟨_, _, rfl, rfl, rfl, rfl, rfl⟩ (by decide)
  (fun a w => Any8.slices_Grow_room Tryz.grow64 a 0 0 0 w (by omega) (by omega) (by omega) (by omega))
  (fun i0 z hi0 hz0 hs0 a m w h0 hb h62 => by
   have := Any8.slices_Grow_grow Tryz.grow64 i0 z hi0 hz0 hs0 a 0 0 m [] w (by omega) (by omega) (by simpa using hb) (by omega) (by simp) (fun _ => rfl) (fun _ _ j v hj => by simp at hj)
   simpa [Tryz.grow64_ren] using this) n h.1 h.2 (by omega)
structure Kb where
 gOp : Int
 gName : ByteArray
 gFunc : ByteArray
 gExps : List Kq
 gKids : List Kb
 gElse : List Kb
 gAt : Int
mutual
def Kg : Kb → D
 | ⟨f0, f1, f2, f3, f4, f5, f6⟩ => .agg [.v (.int .i64 f0), .v (.string f1), .v (.string f2), .lst 5 (f3.map Kn) .no, .lst 7 (Kcd f4) .no, .lst 7 (Kcd f5) .no, .v (.int .i64 f6)]
def Kcd : List Kb → List D
 | [] => []
 | x :: l => Kg x :: Kcd l
end
theorem Ke2 : ∀ l, Kcd l = l.map Kg
 | [] => by simp [Kcd]
 | x :: l => by simp only [Kcd, List.map_cons, Ke2 l]
theorem Kw (x : Kb) : Kg x = .agg [.v (.int .i64 x.gOp), .v (.string x.gName), .v (.string x.gFunc), .lst 5 (x.gExps.map Kn) .no, .lst 7 (x.gKids.map Kg) .no, .lst 7 (x.gElse.map Kg) .no, .v (.int .i64 x.gAt)] := by
 cases x
 simp only [Kg, Ke2]
structure Kaj where
 gName : ByteArray
 gParams : List K9
 gLocals : List K9
 gBody : List Kb
 gAt : Int
def KH (x : Kaj) : D := .agg [.v (.string x.gName), .lst 2 (x.gParams.map Ke) .no, .lst 2 (x.gLocals.map Ke) .no, .lst 7 (x.gBody.map Kg) .no, .v (.int .i64 x.gAt)]
structure KeY where
 gName : ByteArray
 gPtr : Bool
 gSize : Int
 gAt : Int
def KE (x : KeY) : D := .agg [.v (.string x.gName), .v (.bool x.gPtr), .v (.int .i64 x.gSize), .v (.int .i64 x.gAt)]
structure Kad where
 gGlobals : List KeY
 gFuncs : List Kaj
def Ka8 (x : Kad) : D := .agg [.lst 4 (x.gGlobals.map KE) .no, .lst 5 (x.gFuncs.map KH) .no]
noncomputable def KcF (a0 : Kad) : Option (Int) :=
 (Option.bind (α := (List (ByteArray × Int)) ⊕ (Int)) (loopM (fun (s25 : Int × List (ByteArray × Int)) => (bif (decide (s25.1 < (a0.gGlobals.length : Int))) then ((idx a0.gGlobals s25.1).bind fun x42 => (bif (decide ((1 : Int) < (mgetD (mput s25.2 x42.gName (IntKind.i64.wrap ((mgetD s25.2 x42.gName (0 : Int)) + (1 : Int)))) x42.gName (0 : Int)))) then some (.done (.inr s25.1)) else some (.next ((IntKind.i64.wrap (s25.1 + (1 : Int))), (mput s25.2 x42.gName (IntKind.i64.wrap ((mgetD s25.2 x42.gName (0 : Int)) + (1 : Int)))))))) else some (.done (.inl s25.2)))) ((0 : Int), ([] : List (ByteArray × Int)))) (Sum.elim (fun y24 => (Option.bind (α := (List (ByteArray × Int)) ⊕ (Int)) (loopM (fun (s68 : Int × List (ByteArray × Int)) => (bif (decide (s68.1 < (a0.gFuncs.length : Int))) then ((idx a0.gFuncs s68.1).bind fun x85 => (bif (decide ((1 : Int) < (mgetD (mput s68.2 x85.gName (IntKind.i64.wrap ((mgetD s68.2 x85.gName (0 : Int)) + (1 : Int)))) x85.gName (0 : Int)))) then some (.done (.inr (IntKind.i64.wrap ((a0.gGlobals.length : Int) + s68.1)))) else some (.next ((IntKind.i64.wrap (s68.1 + (1 : Int))), (mput s68.2 x85.gName (IntKind.i64.wrap ((mgetD s68.2 x85.gName (0 : Int)) + (1 : Int)))))))) else some (.done (.inl s68.2)))) ((0 : Int), y24)) (Sum.elim (fun y67 => some (-1 : Int)) (fun r => some r)))) (fun r => some r)))
theorem Kgi (a0 : Kad) (r : Int) (h0 : KcF a0 = some r) : CallsD Tryz.prog 39 [Ka8 a0] [] [] (fun d h k => d = .v (.int .i64 r) ∧ h = [] ∧ k = []) := by
 have hm := Ku h0
 unfold KcF at hm
 clear h0
 refine K5 htab Tryz.func39 rfl rfl rfl rfl rfl (fun C => ?_)
 refine Kh ?_
 refine p_box rfl rfl rfl rfl rfl rfl rfl (fun b1 => ?_)
 refine pu ?_
 refine KL ?_
 refine Kd2 rfl rfl rfl rfl (fun b2 => ?_)
 refine pu ?_
 refine Kf ?_
 refine Ko ?_
 refine Kh ?_
 refine pu ?_
 refine pL 1 ?_
 refine Kao htab rfl rfl rfl rfl rfl rfl rfl (by first | exact Kae | rfl) ?_
 refine pu ?_
 refine Kf ?_
 obtain ⟨x24, q24, ho24⟩ := Kc hm
 refine Kbe (τ := List (ByteArray × Int)) (Y := Unit) (fun y24 z24 => (⟨[(1, .ptr b1 0), (3, .v (.map (some b2)))], [(b2, Blk.mp (y24.map fun p => ((fun s : ByteArray => Value.string s) p.1, eI64 p.2))), (b1, Blk.cells [.lst 4 (a0.gGlobals.map KE) .no, .lst 5 (a0.gFuncs.map KH) .no] 59)], []⟩ : S)) x24 ?_ ?_
 ·clear hm; have hm := Ku q24
  refine KC ?_
  obtain ⟨u25, hl25, hq25⟩ := yes_m hm
  refine KaW (Y := Unit) hl25 (fun s25 z25 => (⟨[(1, .ptr b1 0), (3, .v (.map (some b2))), (10, .lst 4 (a0.gGlobals.map KE) .no), (11, .v (.int .i64 (a0.gGlobals.length : Int))), (12, .v (.int .i64 s25.1))], [(b2, Blk.mp (s25.2.map fun p => ((fun s : ByteArray => Value.string s) p.1, eI64 p.2))), (b1, Blk.cells [.lst 4 (a0.gGlobals.map KE) .no, .lst 5 (a0.gFuncs.map KH) .no] 59)], []⟩ : S)) ?_ ?_
  ·skip
   exact WkX.of () (WkS.perm (WkS.cons rfl (Wk.refl _) (WkS.cons rfl (Wk.refl _) (WkS.cons rfl (Wk.refl _) (WkS.cons rfl (Wk.refl _) (WkS.cons rfl (Wk.refl _) (WkS.nil)))))) Pf Pf)
  ·intro G25 s25 z25 hm
   refine Kh ?_
   refine pu ?_
   refine Kf ?_
   refine Ko ?_
   refine Kp rfl (fun hc41 => ?_) (fun hc41 => ?_)
   ·replace hm := yes_t hc41 hm
    refine Ks ?_
    refine Kd ?_
    refine Ko ?_
    refine KC ?_
    refine Kh ?_
    refine pu ?_
    obtain ⟨x42, q42, hm⟩ := Kc hm
    refine KaB htab rfl rfl rfl rfl rfl rfl rfl rfl rfl rfl (KM q42) (K8 q42) ?_
    refine Kai (d := KE x42) htab rfl rfl rfl rfl rfl rfl rfl rfl ?_
    refine Kak htab rfl rfl rfl rfl rfl rfl rfl (fun b43 => ?_)
    refine pu ?_
    refine pS2 (ds' := [.v (.string x42.gName), .v (.bool x42.gPtr), .v (.int .i64 x42.gSize), .v (.int .i64 x42.gAt)]) ?_
    refine KL ?_
    refine pu ?_
    refine pu ?_
    refine pL 2 ?_
    refine KcO (l := s25.2) (f := (fun s : ByteArray => Value.string s)) (e := eI64) (kk := x42.gName) (z := (0 : Int)) (dr := .v (.int .i64 (mgetD s25.2 x42.gName (0 : Int)))) 0 htab rfl rfl rfl rfl rfl rfl rfl rfl rfl rfl mk66 (fun H v h => KO h) mz66 mr66 rfl ?_
    refine pu ?_
    refine KcC (l := s25.2) (f := (fun s : ByteArray => Value.string s)) (e := eI64) (kk := x42.gName) (vv := (IntKind.i64.wrap ((mgetD s25.2 x42.gName (0 : Int)) + (1 : Int)))) (h' := [(b2, Blk.mp ((mput s25.2 x42.gName (IntKind.i64.wrap ((mgetD s25.2 x42.gName (0 : Int)) + (1 : Int)))).map fun p => ((fun s : ByteArray => Value.string s) p.1, eI64 p.2))), (b1, Blk.cells [.lst 4 (a0.gGlobals.map KE) .no, .lst 5 (a0.gFuncs.map KH) .no] 59), (b43, Blk.cells [.v (.string x42.gName), .v (.bool x42.gPtr), .v (.int .i64 x42.gSize), .v (.int .i64 x42.gAt)] 109)]) 0 htab rfl rfl rfl rfl rfl rfl rfl rfl rfl rfl mk66 (fun H v h => KO h) (Wk.refl _) rfl ?_
    refine KL ?_
    refine pu ?_
    refine pu ?_
    refine pL 2 ?_
    refine KcO (l := (mput s25.2 x42.gName (IntKind.i64.wrap ((mgetD s25.2 x42.gName (0 : Int)) + (1 : Int))))) (f := (fun s : ByteArray => Value.string s)) (e := eI64) (kk := x42.gName) (z := (0 : Int)) (dr := .v (.int .i64 (mgetD (mput s25.2 x42.gName (IntKind.i64.wrap ((mgetD s25.2 x42.gName (0 : Int)) + (1 : Int)))) x42.gName (0 : Int)))) 0 htab rfl rfl rfl rfl rfl rfl rfl rfl rfl rfl mk66 (fun H v h => KO h) mz66 mr66 rfl ?_
    refine pu ?_
    refine Kf ?_
    refine Kp rfl (fun hc44 => ?_) (fun hc44 => ?_)
    ·replace hm := yes_t hc44 hm
     refine Kh ?_
     refine pu ?_
     refine pu ?_
     refine Kf ?_
     refine KA ?_
     refine KW ?_
     refine KB ?_
     have e25 := Kab hm; subst e25; clear hm; have hm := hq25
     refine KB ?_
     refine KW ?_
     have e24 := Ki hm; subst e24; refine KaD ?_; clear hm; have hm := ho24; simp only [Sum.elim_inr] at hm
     refine KB ?_
     have er45 := Ki hm; subst er45
     refine rP (t' := [(2, .v (.int .i64 s25.1))]) [] [] 0 (wC wN) (lT lN) ?_
     exact ⟨rfl, rfl, rfl⟩
    ·replace hm := yes_f hc44 hm
     refine Ks ?_
     refine Kz ?_
     refine Kd ?_
     refine Kr ?_
     refine pu ?_
     refine pu ?_
     refine Kt ?_
     refine Kd ⟨_, Kas hm, ?_⟩
     exact WkX.of () (WkS.perm (WkS.cons rfl (Wk.refl _) (WkS.cons rfl (Wk.refl _) (WkS.cons rfl (Wk.refl _) (WkS.cons rfl (Wk.refl _) (WkS.cons rfl (Wk.refl _) (WkS.nil)))))) Pf Pf)
   ·replace hm := yes_f hc41 hm
    refine Kal ?_
    refine KJ ?_
    have e25 := Kab hm; subst e25; clear hm; have hm := hq25
    refine KJ ?_
    refine Kaf ?_
    have e24 := Ki hm; subst e24
    refine Kbf ?_
    exact WkX.of () (WkS.perm (WkS.cons rfl (Wk.refl _) (WkS.cons rfl (Wk.refl _) (WkS.nil))) Pf Pf)
 ·intro y24 s24 hx24 hw24; subst hx24; clear hm; have hm := ho24; simp only [Sum.elim_inl] at hm; clear q24 ho24
  refine Kd ?_
  refine KY hw24 (fun z24 => ?_)
  refine Ko ?_
  refine Kh ?_
  refine pu ?_
  refine pL 1 ?_
  refine Kao htab rfl rfl rfl rfl rfl rfl rfl (by first | exact Kae | rfl) ?_
  refine pu ?_
  refine Kf ?_
  obtain ⟨x67, q67, ho67⟩ := Kc hm
  refine Kbe (τ := List (ByteArray × Int)) (Y := Unit) (fun y67 z67 => (⟨[], [], []⟩ : S)) x67 ?_ ?_
  ·clear hm; have hm := Ku q67
   refine KC ?_
   obtain ⟨u68, hl68, hq68⟩ := yes_m hm
   refine KaW (Y := Unit) hl68 (fun s68 z68 => (⟨[(1, .ptr b1 0), (3, .v (.map (some b2))), (30, .lst 5 (a0.gFuncs.map KH) .no), (31, .v (.int .i64 (a0.gFuncs.length : Int))), (32, .v (.int .i64 s68.1))], [(b2, Blk.mp (s68.2.map fun p => ((fun s : ByteArray => Value.string s) p.1, eI64 p.2))), (b1, Blk.cells [.lst 4 (a0.gGlobals.map KE) .no, .lst 5 (a0.gFuncs.map KH) .no] 59)], []⟩ : S)) ?_ ?_
   ·skip
    exact WkX.of () (WkS.perm (WkS.cons rfl (Wk.refl _) (WkS.cons rfl (Wk.refl _) (WkS.cons rfl (Wk.refl _) (WkS.cons rfl (Wk.refl _) (WkS.cons rfl (Wk.refl _) (WkS.nil)))))) Pf Pf)
   ·intro G68 s68 z68 hm
    refine Kh ?_
    refine pu ?_
    refine Kf ?_
    refine Ko ?_
    refine Kp rfl (fun hc84 => ?_) (fun hc84 => ?_)
    ·replace hm := yes_t hc84 hm
     refine Ks ?_
     refine Kd ?_
     refine Ko ?_
     refine KC ?_
     refine Kh ?_
     refine pu ?_
     obtain ⟨x85, q85, hm⟩ := Kc hm
     refine KaB htab rfl rfl rfl rfl rfl rfl rfl rfl rfl rfl (KM q85) (K8 q85) ?_
     refine Kai (d := KH x85) htab rfl rfl rfl rfl rfl rfl rfl rfl ?_
     refine Kak htab rfl rfl rfl rfl rfl rfl rfl (fun b86 => ?_)
     refine pu ?_
     refine pS2 (ds' := [.v (.string x85.gName), .lst 2 (x85.gParams.map Ke) .no, .lst 2 (x85.gLocals.map Ke) .no, .lst 7 (x85.gBody.map Kg) .no, .v (.int .i64 x85.gAt)]) ?_
     refine KL ?_
     refine pu ?_
     refine pu ?_
     refine pL 2 ?_
     refine KcO (l := s68.2) (f := (fun s : ByteArray => Value.string s)) (e := eI64) (kk := x85.gName) (z := (0 : Int)) (dr := .v (.int .i64 (mgetD s68.2 x85.gName (0 : Int)))) 0 htab rfl rfl rfl rfl rfl rfl rfl rfl rfl rfl mk66 (fun H v h => KO h) mz66 mr66 rfl ?_
     refine pu ?_
     refine KcC (l := s68.2) (f := (fun s : ByteArray => Value.string s)) (e := eI64) (kk := x85.gName) (vv := (IntKind.i64.wrap ((mgetD s68.2 x85.gName (0 : Int)) + (1 : Int)))) (h' := [(b2, Blk.mp ((mput s68.2 x85.gName (IntKind.i64.wrap ((mgetD s68.2 x85.gName (0 : Int)) + (1 : Int)))).map fun p => ((fun s : ByteArray => Value.string s) p.1, eI64 p.2))), (b1, Blk.cells [.lst 4 (a0.gGlobals.map KE) .no, .lst 5 (a0.gFuncs.map KH) .no] 59), (b86, Blk.cells [.v (.string x85.gName), .lst 2 (x85.gParams.map Ke) .no, .lst 2 (x85.gLocals.map Ke) .no, .lst 7 (x85.gBody.map Kg) .no, .v (.int .i64 x85.gAt)] 83)]) 0 htab rfl rfl rfl rfl rfl rfl rfl rfl rfl rfl mk66 (fun H v h => KO h) (Wk.refl _) rfl ?_
     refine KL ?_
     refine pu ?_
     refine pu ?_
     refine pL 2 ?_
     refine KcO (l := (mput s68.2 x85.gName (IntKind.i64.wrap ((mgetD s68.2 x85.gName (0 : Int)) + (1 : Int))))) (f := (fun s : ByteArray => Value.string s)) (e := eI64) (kk := x85.gName) (z := (0 : Int)) (dr := .v (.int .i64 (mgetD (mput s68.2 x85.gName (IntKind.i64.wrap ((mgetD s68.2 x85.gName (0 : Int)) + (1 : Int)))) x85.gName (0 : Int)))) 0 htab rfl rfl rfl rfl rfl rfl rfl rfl rfl rfl mk66 (fun H v h => KO h) mz66 mr66 rfl ?_
     refine pu ?_
     refine Kf ?_
     refine Kp rfl (fun hc87 => ?_) (fun hc87 => ?_)
     ·replace hm := yes_t hc87 hm
      refine Kh ?_
      refine pu ?_
      refine pL 1 ?_
      refine Kao htab rfl rfl rfl rfl rfl rfl rfl (by first | exact Kae | rfl) ?_
      iterate 3 refine pu ?_
      refine Kf ?_
      refine KA ?_
      refine KW ?_
      refine KB ?_
      have e68 := Kab hm; subst e68; clear hm; have hm := hq68
      refine KB ?_
      refine KW ?_
      have e67 := Ki hm; subst e67; refine KaD ?_; clear hm; have hm := ho67; simp only [Sum.elim_inr] at hm
      refine KB ?_
      have er88 := Ki hm; subst er88
      refine rP (t' := [(2, .v (.int .i64 (IntKind.i64.wrap ((a0.gGlobals.length : Int) + s68.1))))]) [] [] 0 (wC wN) (lT lN) ?_
      exact ⟨rfl, rfl, rfl⟩
     ·replace hm := yes_f hc87 hm
      refine Ks ?_
      refine Kz ?_
      refine Kd ?_
      refine Kr ?_
      refine pu ?_
      refine pu ?_
      refine Kt ?_
      refine Kd ⟨_, Kas hm, ?_⟩
      exact WkX.of () (WkS.perm (WkS.cons rfl (Wk.refl _) (WkS.cons rfl (Wk.refl _) (WkS.cons rfl (Wk.refl _) (WkS.cons rfl (Wk.refl _) (WkS.cons rfl (Wk.refl _) (WkS.nil)))))) Pf Pf)
    ·replace hm := yes_f hc84 hm
     refine Kal ?_
     refine KJ ?_
     have e68 := Kab hm; subst e68; clear hm; have hm := hq68
     refine KJ ?_
     refine Kaf ?_
     have e67 := Ki hm; subst e67
     refine Kbf ?_
     exact WkX.of () (WkS.perm (WkS.nil) Pf Pf)
  ·intro y67 s67 hx67 hw67; subst hx67; clear hm; have hm := ho67; simp only [Sum.elim_inl] at hm; clear q67 ho67
   refine Kd ?_
   refine KY hw67 (fun z67 => ?_)
   refine Kh ?_
   refine pu ?_
   refine Kf ?_
   refine KA ?_
   have er89 := Ki hm; subst er89
   refine rP (t' := [(2, .v (.int .i64 (-1 : Int)))]) [] [] 0 (wC wN) (lT lN) ?_
   exact ⟨rfl, rfl, rfl⟩
noncomputable def KbB (a0 : Bool) : Option (Int) :=
 (bif a0 then some (2 : Int) else some (1 : Int))
theorem Kdb (a0 : Bool) (r : Int) (h0 : KbB a0 = some r) : CallsD Tryz.prog 74 [.v (.bool a0)] [] [] (fun d h k => d = .v (.int .i64 r) ∧ h = [] ∧ k = []) := by
 have hm := Ku h0
 unfold KbB at hm
 clear h0
 refine K5 htab Tryz.func74 rfl rfl rfl rfl rfl (fun C => ?_)
 refine Kh ?_
 refine pu ?_
 refine Kf ?_
 refine Ko ?_
 refine Kh ?_
 refine pu ?_
 refine Kf ?_
 refine Kp rfl (fun hc1 => ?_) (fun hc1 => ?_)
 ·replace hm := yes_t hc1 hm
  refine Kh ?_
  refine pu ?_
  refine Kf ?_
  refine KA ?_
  refine KB ?_
  have er2 := Ki hm; subst er2
  refine rP (t' := [(2, .v (.int .i64 (2 : Int)))]) [] [] 0 (wC wN) (lT lN) ?_
  exact ⟨rfl, rfl, rfl⟩
 ·replace hm := yes_f hc1 hm
  refine Ks ?_
  refine Kd ?_
  refine Kh ?_
  refine pu ?_
  refine Kf ?_
  refine KA ?_
  have er3 := Ki hm; subst er3
  refine rP (t' := [(2, .v (.int .i64 (1 : Int)))]) [] [] 0 (wC wN) (lT lN) ?_
  exact ⟨rfl, rfl, rfl⟩
structure Kl where
 gP : Kad
 gF : Kaj
def Kx (x : Kl) : D := .agg [.lst 4 (x.gP.gGlobals.map KE) .no, .lst 5 (x.gP.gFuncs.map KH) .no, .v (.string x.gF.gName), .lst 2 (x.gF.gParams.map Ke) .no, .lst 2 (x.gF.gLocals.map Ke) .no, .lst 7 (x.gF.gBody.map Kg) .no, .v (.int .i64 x.gF.gAt)]
noncomputable def Ka0 (a0 : Kl) (a1 : ByteArray) : Option (Int) :=
 (Option.bind (α := (Unit) ⊕ (Int)) (loopM (fun (s35 : Int) => (bif (decide (s35 < (a0.gP.gGlobals.length : Int))) then ((idx a0.gP.gGlobals s35).bind fun x57 => (bif (decide (x57.gName = a1)) then (Option.bind (α := Bool) (bif (decide ((0 : Int) < x57.gSize)) then some (!x57.gPtr) else some false) fun y61 => (bif y61 then some (.done (.inr (3 : Int))) else ((KbB x57.gPtr).bind fun x65 => some (.done (.inr x65))))) else some (.next (IntKind.i64.wrap (s35 + (1 : Int)))))) else some (.done (.inl ())))) (0 : Int)) (Sum.elim (fun y34 => some (0 : Int)) (fun r => some r)))
theorem KbS (a0 : Kl) (a1 : ByteArray) (r : Int) (h0 : Ka0 a0 a1 = some r) : CallsD Tryz.prog 61 [Kx a0, .v (.string a1)] [] [] (fun d h k => d = .v (.int .i64 r) ∧ h = [] ∧ k = []) := by
 have hm := Ku h0
 unfold Ka0 at hm
 clear h0
 refine K5 htab Tryz.func61 rfl rfl rfl rfl rfl (fun C => ?_)
 refine Kh ?_
 refine p_box rfl rfl rfl rfl rfl rfl rfl (fun b1 => ?_)
 refine pu ?_
 refine Kf ?_
 refine Ko ?_
 refine Kh ?_
 refine pu ?_
 refine pu ?_
 refine pL 0 ?_
 refine Kao htab rfl rfl rfl rfl rfl rfl rfl (by first | exact Kae | rfl) ?_
 refine pu ?_
 refine Kf ?_
 obtain ⟨x34, q34, ho34⟩ := Kc hm
 refine Kbe (τ := Unit) (Y := Unit) (fun y34 z34 => (⟨[], [], []⟩ : S)) x34 ?_ ?_
 ·clear hm; have hm := Ku q34
  refine KC ?_
  obtain ⟨u35, hl35, hq35⟩ := yes_m hm
  refine KaW (Y := Unit) hl35 (fun s35 z35 => (⟨[(1, .v (.string a1)), (9, .lst 4 (a0.gP.gGlobals.map KE) .no), (10, .v (.int .i64 (a0.gP.gGlobals.length : Int))), (11, .v (.int .i64 s35))], [], []⟩ : S)) ?_ ?_
  ·skip
   exact WkX.of () (WkS.perm (WkS.cons rfl (Wk.refl _) (WkS.cons rfl (Wk.refl _) (WkS.cons rfl (Wk.refl _) (WkS.cons rfl (Wk.refl _) (WkS.nil))))) Pf Pf)
  ·intro G35 s35 z35 hm
   refine Kh ?_
   refine pu ?_
   refine Kf ?_
   refine Ko ?_
   refine Kp rfl (fun hc56 => ?_) (fun hc56 => ?_)
   ·replace hm := yes_t hc56 hm
    refine Ks ?_
    refine Kd ?_
    refine Ko ?_
    refine KC ?_
    refine Kh ?_
    obtain ⟨x57, q57, hm⟩ := Kc hm
    refine KaB htab rfl rfl rfl rfl rfl rfl rfl rfl rfl rfl (KM q57) (K8 q57) ?_
    refine Kai (d := KE x57) htab rfl rfl rfl rfl rfl rfl rfl rfl ?_
    refine Kak htab rfl rfl rfl rfl rfl rfl rfl (fun b58 => ?_)
    refine pS0 (ds' := [.v (.string x57.gName), .v (.bool x57.gPtr), .v (.int .i64 x57.gSize), .v (.int .i64 x57.gAt)]) ?_
    refine KL ?_
    refine pu ?_
    refine pL 0 ?_
    refine pu ?_
    refine pu ?_
    refine Kf ?_
    refine Kp rfl (fun hc59 => ?_) (fun hc59 => ?_)
    ·replace hm := yes_t hc59 hm
     refine Ko ?_
     refine Ko ?_
     obtain ⟨y61, q61, ho61⟩ := Kc hm
     refine KP (Y := Unit) (fun z61 => (⟨[(6, .ptr b58 0), (26, .v (.bool y61))], [(b58, Blk.cells [.v (.string x57.gName), .v (.bool x57.gPtr), .v (.int .i64 x57.gSize), .v (.int .i64 x57.gAt)] 109)], []⟩ : S)) ?_ ?_
     ·clear hm; have hm := Ku q61
      refine Kr ?_
      refine pu ?_
      refine pL 0 ?_
      refine pu ?_
      refine pu ?_
      refine KbR (i := 22) rfl (fun hg62 => ?_) (fun hg62 => ?_)
      ·replace hm := yes_t hg62 hm
       refine pu ?_
       refine pL 0 ?_
       refine pu ?_
       refine KbP rfl rfl rfl rfl rfl rfl ?_
       refine Kt ?_
       have e61 := Ki hm; subst e61
       refine ⟨rfl, ?_⟩
       exact WkX.of () (WkS.perm (WkS.cons rfl (Wk.refl _) (WkS.cons rfl (Wk.refl _) (WkS.nil))) Pf Pf)
      ·replace hm := yes_f hg62 hm
       iterate 3 refine pK ?_
       refine KbQ rfl rfl rfl rfl rfl rfl ?_
       refine Kt ?_
       have e61 := Ki hm; subst e61
       refine ⟨rfl, ?_⟩
       exact WkX.of () (WkS.perm (WkS.cons rfl (Wk.refl _) (WkS.cons rfl (Wk.refl _) (WkS.nil))) Pf Pf)
     ·intro s61 hw61; clear hm; have hm := ho61; clear q61 ho61
      refine Kd ?_
      refine KY hw61 (fun z61 => ?_)
      refine Kp rfl (fun hc63 => ?_) (fun hc63 => ?_)
      ·replace hm := yes_t hc63 hm
       refine Kh ?_
       refine pu ?_
       refine Kf ?_
       refine KA ?_
       refine KB ?_
       refine KW ?_
       refine KB ?_
       have e35 := Kab hm; subst e35; clear hm; have hm := hq35
       refine KB ?_
       refine KW ?_
       have e34 := Ki hm; subst e34; refine KaD ?_; clear hm; have hm := ho34; simp only [Sum.elim_inr] at hm
       refine KB ?_
       have er64 := Ki hm; subst er64
       refine rP (t' := [(4, .v (.int .i64 (3 : Int)))]) [] [] 0 (wC wN) (lT lN) ?_
       exact ⟨rfl, rfl, rfl⟩
      ·replace hm := yes_f hc63 hm
       refine Ks ?_
       refine Kd ?_
       refine Kh ?_
       refine pu ?_
       refine pL 0 ?_
       obtain ⟨x65, q65, hm⟩ := Kc hm
       refine KT (Kdb x57.gPtr x65 q65) rfl rfl rfl rfl rfl Wl ?_
       rintro _ rfl
       refine pu ?_
       refine Kf ?_
       refine KA ?_
       refine KW ?_
       refine KB ?_
       have e35 := Kab hm; subst e35; clear hm; have hm := hq35
       refine KB ?_
       refine KW ?_
       have e34 := Ki hm; subst e34; refine KaD ?_; clear hm; have hm := ho34; simp only [Sum.elim_inr] at hm
       refine KB ?_
       have er66 := Ki hm; subst er66
       refine rP (t' := [(4, .v (.int .i64 x65))]) [] [] 0 (wC wN) (lT lN) ?_
       exact ⟨rfl, rfl, rfl⟩
    ·replace hm := yes_f hc59 hm
     refine Ks ?_
     refine Kz ?_
     refine Kd ?_
     refine Kr ?_
     refine pu ?_
     refine pu ?_
     refine Kt ?_
     refine Kd ⟨_, Kas hm, ?_⟩
     exact WkX.of () (WkS.perm (WkS.cons rfl (Wk.refl _) (WkS.cons rfl (Wk.refl _) (WkS.cons rfl (Wk.refl _) (WkS.cons rfl (Wk.refl _) (WkS.nil))))) Pf Pf)
   ·replace hm := yes_f hc56 hm
    refine Kal ?_
    refine KJ ?_
    have e35 := Kab hm; subst e35; clear hm; have hm := hq35
    refine KJ ?_
    refine Kaf ?_
    have e34 := Ki hm; subst e34
    refine Kbf ?_
    exact WkX.of () (WkS.perm (WkS.nil) Pf Pf)
 ·intro y34 s34 hx34 hw34; subst hx34; clear hm; have hm := ho34; simp only [Sum.elim_inl] at hm; clear q34 ho34
  refine Kd ?_
  refine KY hw34 (fun z34 => ?_)
  refine Kh ?_
  refine pu ?_
  refine Kf ?_
  refine KA ?_
  have er67 := Ki hm; subst er67
  refine rP (t' := [(4, .v (.int .i64 (0 : Int)))]) [] [] 0 (wC wN) (lT lN) ?_
  exact ⟨rfl, rfl, rfl⟩
noncomputable def KaO (a0 : Int) (a1 : Int) : Option (Unit) :=
 none
theorem KaQ (a0 : Int) (a1 : Int) (r : Unit) (h0 : KaO a0 a1 = some r) : CallsD Tryz.prog 62 [.v (.int .i64 a0), .v (.int .i64 a1)] [] [] (fun d h k => d = .tup [] ∧ h = [] ∧ k = []) := by
 have hm := Ku h0
 unfold KaO at hm
 clear h0
 refine K5 htab Tryz.func62 rfl rfl rfl rfl rfl (fun C => ?_)
 exact (Kbt hm).elim
structure Kcr where
 g0 : List K9
 g1 : List K9
def Kcm (x : Kcr) : D := .agg [.lst 2 (x.g0.map Ke) .no, .lst 2 (x.g1.map Ke) .no]
noncomputable def Kbj (a0 : Kl) : Option (Unit) :=
 (Option.bind (α := List (ByteArray × Int)) (loopM (fun (s374 : Int × List (ByteArray × Int)) => (bif (decide (s374.1 < (2 : Int))) then ((idx ([a0.gF.gParams, a0.gF.gLocals] : List (List K9)) s374.1).bind fun x652 => (Option.bind (α := List (ByteArray × Int)) (loopM (fun (s698 : Int × List (ByteArray × Int)) => (bif (decide (s698.1 < (x652.length : Int))) then ((idx x652 s698.1).bind fun x733 => (Option.bind (α := Bool) (bif (decide ((1 : Int) < (mgetD (mput s698.2 x733.gName (IntKind.i64.wrap ((mgetD s698.2 x733.gName (0 : Int)) + (1 : Int)))) x733.gName (0 : Int)))) then some true else ((Ka0 a0 x733.gName).bind fun x739 => some (x739 != (0 : Int)))) fun y737 => (bif y737 then ((KaO a0.gF.gAt (8 : Int)).bind fun x741 => some (.next ((IntKind.i64.wrap (s698.1 + (1 : Int))), (mput s698.2 x733.gName (IntKind.i64.wrap ((mgetD s698.2 x733.gName (0 : Int)) + (1 : Int))))))) else some (.next ((IntKind.i64.wrap (s698.1 + (1 : Int))), (mput s698.2 x733.gName (IntKind.i64.wrap ((mgetD s698.2 x733.gName (0 : Int)) + (1 : Int))))))))) else some (.done s698.2))) ((0 : Int), s374.2)) fun y697 => some (.next ((IntKind.i64.wrap (s374.1 + (1 : Int))), y697)))) else some (.done s374.2))) ((0 : Int), ([] : List (ByteArray × Int)))) fun y373 => some ())
theorem KeN (a0 : Kl) (r : Unit) (h0 : Kbj a0 = some r) : CallsD Tryz.prog 50 [Kx a0] [] [] (fun d h k => d = .tup [] ∧ h = [] ∧ k = []) := by
 have hm := Ku h0
 unfold Kbj at hm
 clear h0
 refine K5 htab Tryz.func50 rfl rfl rfl rfl rfl (fun C => ?_)
 refine Kh ?_
 refine p_box rfl rfl rfl rfl rfl rfl rfl (fun b1 => ?_)
 refine KL ?_
 refine Kd2 rfl rfl rfl rfl (fun b2 => ?_)
 refine pu ?_
 refine KL ?_
 refine pu ?_
 refine pu ?_
 refine pL 1 ?_
 refine pu ?_
 refine pu ?_
 refine pL 1 ?_
 refine p_buildA (r := [.lst 2 (a0.gF.gParams.map Ke) .no, .lst 2 (a0.gF.gLocals.map Ke) .no]) htab rfl rfl rfl rfl rfl rfl rfl rfl rfl ?_
 refine pu ?_
 refine Kf ?_
 obtain ⟨y373, q373, ho373⟩ := Kc hm
 refine KP (Y := Unit) (fun z373 => (⟨[], [], []⟩ : S)) ?_ ?_
 ·clear hm; have hm := Ku q373
  refine KC ?_
  obtain ⟨u374, hl374, hq374⟩ := yes_m hm
  refine KaW (Y := Unit) hl374 (fun s374 z374 => (⟨[(1, .ptr b1 0), (2, .v (.map (some b2))), (14, Kcm (⟨a0.gF.gParams, a0.gF.gLocals⟩ : Kcr)), (15, .v (.int .i64 s374.1))], [(b2, Blk.mp (s374.2.map fun p => ((fun s : ByteArray => Value.string s) p.1, eI64 p.2))), (b1, Blk.cells [.lst 4 (a0.gP.gGlobals.map KE) .no, .lst 5 (a0.gP.gFuncs.map KH) .no, .v (.string a0.gF.gName), .lst 2 (a0.gF.gParams.map Ke) .no, .lst 2 (a0.gF.gLocals.map Ke) .no, .lst 7 (a0.gF.gBody.map Kg) .no, .v (.int .i64 a0.gF.gAt)] 126)], []⟩ : S)) ?_ ?_
  ·skip
   exact WkX.of () (WkS.perm (WkS.cons rfl (Wk.refl _) (WkS.cons rfl (Wk.refl _) (WkS.cons rfl (Wk.refl _) (WkS.cons rfl (Wk.refl _) (WkS.nil))))) Pf Pf)
  ·intro G374 s374 z374 hm
   refine Kh ?_
   refine pu ?_
   refine Kf ?_
   refine Ko ?_
   refine Kp rfl (fun hc651 => ?_) (fun hc651 => ?_)
   ·replace hm := yes_t hc651 hm
    refine Ks ?_
    refine Kd ?_
    refine Ko ?_
    refine KC ?_
    refine Kh ?_
    obtain ⟨x652, q652, hm⟩ := Kc hm
    refine p_idxA (d := .lst 2 (x652.map Ke) .no) htab rfl rfl rfl rfl rfl rfl rfl rfl rfl (KM q652) (idx_lt' q652 rfl) (part_at0 (e := (eList 2 Ke)) (xs := ([a0.gF.gParams, a0.gF.gLocals] : List (List K9))) rfl q652) ?_
    refine pu ?_
    refine KL ?_
    refine pu ?_
    refine Kao htab rfl rfl rfl rfl rfl rfl rfl (by first | exact Kae | rfl) ?_
    refine pu ?_
    refine Kf ?_
    obtain ⟨y697, q697, ho697⟩ := Kc hm
    refine KP (Y := Unit) (fun z697 => (⟨[(1, .ptr b1 0), (2, .v (.map (some b2))), (14, Kcm (⟨a0.gF.gParams, a0.gF.gLocals⟩ : Kcr)), (15, .v (.int .i64 s374.1))], [(b2, Blk.mp (y697.map fun p => ((fun s : ByteArray => Value.string s) p.1, eI64 p.2))), (b1, Blk.cells [.lst 4 (a0.gP.gGlobals.map KE) .no, .lst 5 (a0.gP.gFuncs.map KH) .no, .v (.string a0.gF.gName), .lst 2 (a0.gF.gParams.map Ke) .no, .lst 2 (a0.gF.gLocals.map Ke) .no, .lst 7 (a0.gF.gBody.map Kg) .no, .v (.int .i64 a0.gF.gAt)] 126)], []⟩ : S)) ?_ ?_
    ·clear hm; have hm := Ku q697
     refine KC ?_
     obtain ⟨u698, hl698, hq698⟩ := yes_m hm
     refine KaW (Y := Unit) hl698 (fun s698 z698 => (⟨[(1, .ptr b1 0), (2, .v (.map (some b2))), (14, Kcm (⟨a0.gF.gParams, a0.gF.gLocals⟩ : Kcr)), (15, .v (.int .i64 s374.1)), (18, .lst 2 (x652.map Ke) .no), (19, .v (.int .i64 (x652.length : Int))), (20, .v (.int .i64 s698.1))], [(b2, Blk.mp (s698.2.map fun p => ((fun s : ByteArray => Value.string s) p.1, eI64 p.2))), (b1, Blk.cells [.lst 4 (a0.gP.gGlobals.map KE) .no, .lst 5 (a0.gP.gFuncs.map KH) .no, .v (.string a0.gF.gName), .lst 2 (a0.gF.gParams.map Ke) .no, .lst 2 (a0.gF.gLocals.map Ke) .no, .lst 7 (a0.gF.gBody.map Kg) .no, .v (.int .i64 a0.gF.gAt)] 126)], []⟩ : S)) ?_ ?_
     ·skip
      exact WkX.of () (WkS.perm (WkS.cons rfl (Wk.refl _) (WkS.cons rfl (Wk.refl _) (WkS.cons rfl (Wk.refl _) (WkS.cons rfl (Wk.refl _) (WkS.cons rfl (Wk.refl _) (WkS.cons rfl (Wk.refl _) (WkS.cons rfl (Wk.refl _) (WkS.nil)))))))) Pf Pf)
     ·intro G698 s698 z698 hm
      refine Kh ?_
      refine pu ?_
      refine Kf ?_
      refine Ko ?_
      refine Kp rfl (fun hc732 => ?_) (fun hc732 => ?_)
      ·replace hm := yes_t hc732 hm
       refine Ks ?_
       refine Kd ?_
       refine Ko ?_
       refine KC ?_
       refine Kh ?_
       obtain ⟨x733, q733, hm⟩ := Kc hm
       refine KaB htab rfl rfl rfl rfl rfl rfl rfl rfl rfl rfl (KM q733) (K8 q733) ?_
       refine Kai (d := Ke x733) htab rfl rfl rfl rfl rfl rfl rfl rfl ?_
       refine Kak htab rfl rfl rfl rfl rfl rfl rfl (fun b734 => ?_)
       refine pS2 (ds' := [.v (.string x733.gName), .v (.bool x733.gPtr)]) ?_
       refine KL ?_
       refine pu ?_
       refine pu ?_
       refine pL 2 ?_
       refine KcO (l := s698.2) (f := (fun s : ByteArray => Value.string s)) (e := eI64) (kk := x733.gName) (z := (0 : Int)) (dr := .v (.int .i64 (mgetD s698.2 x733.gName (0 : Int)))) 0 htab rfl rfl rfl rfl rfl rfl rfl rfl rfl rfl mk66 (fun H v h => KO h) mz66 mr66 rfl ?_
       refine pu ?_
       refine KcC (l := s698.2) (f := (fun s : ByteArray => Value.string s)) (e := eI64) (kk := x733.gName) (vv := (IntKind.i64.wrap ((mgetD s698.2 x733.gName (0 : Int)) + (1 : Int)))) (h' := [(b2, Blk.mp ((mput s698.2 x733.gName (IntKind.i64.wrap ((mgetD s698.2 x733.gName (0 : Int)) + (1 : Int)))).map fun p => ((fun s : ByteArray => Value.string s) p.1, eI64 p.2))), (b1, Blk.cells [.lst 4 (a0.gP.gGlobals.map KE) .no, .lst 5 (a0.gP.gFuncs.map KH) .no, .v (.string a0.gF.gName), .lst 2 (a0.gF.gParams.map Ke) .no, .lst 2 (a0.gF.gLocals.map Ke) .no, .lst 7 (a0.gF.gBody.map Kg) .no, .v (.int .i64 a0.gF.gAt)] 126), (b734, Blk.cells [.v (.string x733.gName), .v (.bool x733.gPtr)] 94)]) 0 htab rfl rfl rfl rfl rfl rfl rfl rfl rfl rfl mk66 (fun H v h => KO h) (Wk.refl _) rfl ?_
       refine Kf ?_
       refine Ko ?_
       obtain ⟨y737, q737, ho737⟩ := Kc hm
       refine KP (Y := Unit) (fun z737 => (⟨[(1, .ptr b1 0), (2, .v (.map (some b2))), (14, Kcm (⟨a0.gF.gParams, a0.gF.gLocals⟩ : Kcr)), (15, .v (.int .i64 s374.1)), (18, .lst 2 (x652.map Ke) .no), (19, .v (.int .i64 (x652.length : Int))), (20, .v (.int .i64 s698.1)), (40, .v (.bool y737))], [(b2, Blk.mp ((mput s698.2 x733.gName (IntKind.i64.wrap ((mgetD s698.2 x733.gName (0 : Int)) + (1 : Int)))).map fun p => ((fun s : ByteArray => Value.string s) p.1, eI64 p.2))), (b1, Blk.cells [.lst 4 (a0.gP.gGlobals.map KE) .no, .lst 5 (a0.gP.gFuncs.map KH) .no, .v (.string a0.gF.gName), .lst 2 (a0.gF.gParams.map Ke) .no, .lst 2 (a0.gF.gLocals.map Ke) .no, .lst 7 (a0.gF.gBody.map Kg) .no, .v (.int .i64 a0.gF.gAt)] 126)], []⟩ : S)) ?_ ?_
       ·clear hm; have hm := Ku q737
        refine Kr ?_
        refine pu ?_
        refine pu ?_
        refine pL 2 ?_
        refine KcO (l := (mput s698.2 x733.gName (IntKind.i64.wrap ((mgetD s698.2 x733.gName (0 : Int)) + (1 : Int))))) (f := (fun s : ByteArray => Value.string s)) (e := eI64) (kk := x733.gName) (z := (0 : Int)) (dr := .v (.int .i64 (mgetD (mput s698.2 x733.gName (IntKind.i64.wrap ((mgetD s698.2 x733.gName (0 : Int)) + (1 : Int)))) x733.gName (0 : Int)))) 0 htab rfl rfl rfl rfl rfl rfl rfl rfl rfl rfl mk66 (fun H v h => KO h) mz66 mr66 rfl ?_
        refine pu ?_
        refine pu ?_
        refine KbR (i := 34) rfl (fun hg738 => ?_) (fun hg738 => ?_)
        ·replace hm := yes_t hg738 hm
         iterate 5 refine pK ?_
         refine KbP rfl rfl rfl rfl rfl rfl ?_
         refine Kt ?_
         have e737 := Ki hm; subst e737
         refine ⟨rfl, ?_⟩
         exact WkX.of () (WkS.perm (WkS.cons rfl (Wk.refl _) (WkS.cons rfl (Wk.refl _) (WkS.cons rfl (Wk.refl _) (WkS.cons rfl (Wk.refl _) (WkS.cons rfl (Wk.refl _) (WkS.cons rfl (Wk.refl _) (WkS.cons rfl (Wk.refl _) (WkS.cons rfl (Wk.refl _) (WkS.nil))))))))) Pf Pf)
        ·replace hm := yes_f hg738 hm
         refine K3 (d := Kx a0) 1 htab rfl rfl rfl rfl rfl rfl rfl rfl ?_
         refine pu ?_
         refine pL 2 ?_
         obtain ⟨x739, q739, hm⟩ := Kc hm
         refine KT (KbS a0 x733.gName x739 q739) rfl rfl rfl rfl rfl Wl ?_
         rintro _ rfl
         refine pu ?_
         refine KbQ rfl rfl rfl rfl rfl rfl ?_
         refine Kt ?_
         have e737 := Ki hm; subst e737
         refine ⟨rfl, ?_⟩
         exact WkX.of () (WkS.perm (WkS.cons rfl (Wk.refl _) (WkS.cons rfl (Wk.refl _) (WkS.cons rfl (Wk.refl _) (WkS.cons rfl (Wk.refl _) (WkS.cons rfl (Wk.refl _) (WkS.cons rfl (Wk.refl _) (WkS.cons rfl (Wk.refl _) (WkS.cons rfl (Wk.refl _) (WkS.nil))))))))) Pf Pf)
       ·intro s737 hw737; clear hm; have hm := ho737; clear q737 ho737
        refine Kd ?_
        refine KY hw737 (fun z737 => ?_)
        refine Kp rfl (fun hc740 => ?_) (fun hc740 => ?_)
        ·replace hm := yes_t hc740 hm
         refine Kr ?_
         refine pu ?_
         refine pu ?_
         refine pL 1 ?_
         obtain ⟨x741, q741, hm⟩ := Kc hm
         refine KT (KaQ a0.gF.gAt (8 : Int) x741 q741) rfl rfl rfl rfl rfl Wl ?_
         rintro _ rfl
         refine Kt ?_
         refine Kz ?_
         refine Kd ?_
         refine Kr ?_
         refine pu ?_
         refine pu ?_
         refine Kt ?_
         refine Kd ⟨_, Kas hm, ?_⟩
         exact WkX.of () (WkS.perm (WkS.cons rfl (Wk.refl _) (WkS.cons rfl (Wk.refl _) (WkS.cons rfl (Wk.refl _) (WkS.cons rfl (Wk.refl _) (WkS.cons rfl (Wk.refl _) (WkS.cons rfl (Wk.refl _) (WkS.cons rfl (Wk.refl _) (WkS.nil)))))))) Pf Pf)
        ·replace hm := yes_f hc740 hm
         refine Ks ?_
         refine Kz ?_
         refine Kd ?_
         refine Kr ?_
         refine pu ?_
         refine pu ?_
         refine Kt ?_
         refine Kd ⟨_, Kas hm, ?_⟩
         exact WkX.of () (WkS.perm (WkS.cons rfl (Wk.refl _) (WkS.cons rfl (Wk.refl _) (WkS.cons rfl (Wk.refl _) (WkS.cons rfl (Wk.refl _) (WkS.cons rfl (Wk.refl _) (WkS.cons rfl (Wk.refl _) (WkS.cons rfl (Wk.refl _) (WkS.nil)))))))) Pf Pf)
      ·replace hm := yes_f hc732 hm
       refine Kal ?_
       refine KJ ?_
       have e698 := Kab hm; subst e698; clear hm; have hm := hq698
       refine KJ ?_
       refine Kaf ?_
       have e697 := Ki hm; subst e697
       refine ⟨rfl, ?_⟩
       exact WkX.of () (WkS.perm (WkS.cons rfl (Wk.refl _) (WkS.cons rfl (Wk.refl _) (WkS.cons rfl (Wk.refl _) (WkS.cons rfl (Wk.refl _) (WkS.nil))))) Pf Pf)
    ·intro s697 hw697; clear hm; have hm := ho697; clear q697 ho697
     refine Kz ?_
     refine Kd ?_
     refine KY hw697 (fun z697 => ?_)
     refine Kr ?_
     refine pu ?_
     refine pu ?_
     refine Kt ?_
     refine Kd ⟨_, Kas hm, ?_⟩
     exact WkX.of () (WkS.perm (WkS.cons rfl (Wk.refl _) (WkS.cons rfl (Wk.refl _) (WkS.cons rfl (Wk.refl _) (WkS.cons rfl (Wk.refl _) (WkS.nil))))) Pf Pf)
   ·replace hm := yes_f hc651 hm
    refine Kal ?_
    refine KJ ?_
    have e374 := Kab hm; subst e374; clear hm; have hm := hq374
    refine KJ ?_
    refine Kaf ?_
    have e373 := Ki hm; subst e373
    refine ⟨rfl, ?_⟩
    exact WkX.of () (WkS.perm (WkS.nil) Pf Pf)
 ·intro s373 hw373; clear hm; have hm := ho373; clear q373 ho373
  refine retX.wkX hw373 (fun z373 => ?_)
  first | (have er742 := Ki hm; subst er742) | skip
  refine rP (t' := []) [] [] 0 wN lN ?_
  exact ⟨rfl, rfl, rfl⟩
noncomputable def Kdc (a0 : Kb) : Option (Int) :=
 (Option.bind (α := Bool) (bif (a0.gOp == (1 : Int)) then some (a0.gOp == (1 : Int)) else (Option.bind (α := Bool) (bif (a0.gOp == (3 : Int)) then some (a0.gOp == (3 : Int)) else (Option.bind (α := Bool) (bif (a0.gOp == (6 : Int)) then some (a0.gOp == (6 : Int)) else (Option.bind (α := Bool) (bif (a0.gOp == (7 : Int)) then some (a0.gOp == (7 : Int)) else (Option.bind (α := Bool) (bif (a0.gOp == (8 : Int)) then some (a0.gOp == (8 : Int)) else some (a0.gOp == (9 : Int))) fun y25 => some y25)) fun y22 => some y22)) fun y18 => some y18)) fun y13 => some y13)) fun y7 => (bif y7 then some (1 : Int) else (bif (a0.gOp == (2 : Int)) then some (2 : Int) else (bif (a0.gOp == (4 : Int)) then some (a0.gExps.length : Int) else (bif (a0.gOp == (5 : Int)) then some (0 : Int) else some (-1 : Int))))))
theorem KgP (a0 : Kb) (r : Int) (h0 : Kdc a0 = some r) : CallsD Tryz.prog 75 [Kg a0] [] [] (fun d h k => d = .v (.int .i64 r) ∧ h = [] ∧ k = []) := by
 have hm := Ku h0
 unfold Kdc at hm
 clear h0
 refine K5 htab Tryz.func75 rfl rfl rfl rfl rfl (fun C => ?_)
 refine w_eq (i := 0) rfl (Wk.of_eq (Kw a0)) ?_
 refine Kh ?_
 refine p_box rfl rfl rfl rfl rfl rfl rfl (fun b1 => ?_)
 refine pu ?_
 refine Kf ?_
 refine Ko ?_
 refine Kh ?_
 refine pu ?_
 refine pL 0 ?_
 refine Kf ?_
 refine KC ?_
 refine Ko ?_
 refine Kh ?_
 refine pu ?_
 refine pu ?_
 refine Kf ?_
 obtain ⟨y7, q7, ho7⟩ := Kc hm
 refine KP (Y := Unit) (fun z7 => (⟨[(1, .ptr b1 0), (4, .v (.int .i64 a0.gOp)), (5, .v (.bool y7))], [(b1, Blk.cells [.v (.int .i64 a0.gOp), .v (.string a0.gName), .v (.string a0.gFunc), .lst 5 (a0.gExps.map Kn) .no, .lst 7 (a0.gKids.map Kg) .no, .lst 7 (a0.gElse.map Kg) .no, .v (.int .i64 a0.gAt)] 91)], []⟩ : S)) ?_ ?_
 ·clear hm; have hm := Ku q7
  refine Kp rfl (fun hc8 => ?_) (fun hc8 => ?_)
  ·replace hm := yes_t hc8 hm
   refine Ks ?_
   have e7 := Ki hm; subst e7
   refine ⟨rfl, ?_⟩
   exact WkX.of () (WkS.perm (WkS.cons rfl (Wk.refl _) (WkS.cons rfl (Wk.refl _) (WkS.cons rfl (Wk.refl _) (WkS.nil)))) Pf Pf)
  ·replace hm := yes_f hc8 hm
   refine Kh ?_
   refine pu ?_
   refine pu ?_
   refine Kf ?_
   obtain ⟨y13, q13, ho13⟩ := Kc hm
   refine KP (Y := Unit) (fun z13 => (⟨[(1, .ptr b1 0), (4, .v (.int .i64 a0.gOp)), (5, .v (.bool y13))], [(b1, Blk.cells [.v (.int .i64 a0.gOp), .v (.string a0.gName), .v (.string a0.gFunc), .lst 5 (a0.gExps.map Kn) .no, .lst 7 (a0.gKids.map Kg) .no, .lst 7 (a0.gElse.map Kg) .no, .v (.int .i64 a0.gAt)] 91)], []⟩ : S)) ?_ ?_
   ·clear hm; have hm := Ku q13
    refine Kp rfl (fun hc14 => ?_) (fun hc14 => ?_)
    ·replace hm := yes_t hc14 hm
     refine Ks ?_
     have e13 := Ki hm; subst e13
     refine ⟨rfl, ?_⟩
     exact WkX.of () (WkS.perm (WkS.cons rfl (Wk.refl _) (WkS.cons rfl (Wk.refl _) (WkS.cons rfl (Wk.refl _) (WkS.nil)))) Pf Pf)
    ·replace hm := yes_f hc14 hm
     refine Kh ?_
     refine pu ?_
     refine pu ?_
     refine Kf ?_
     obtain ⟨y18, q18, ho18⟩ := Kc hm
     refine KP (Y := Unit) (fun z18 => (⟨[(1, .ptr b1 0), (4, .v (.int .i64 a0.gOp)), (5, .v (.bool y18))], [(b1, Blk.cells [.v (.int .i64 a0.gOp), .v (.string a0.gName), .v (.string a0.gFunc), .lst 5 (a0.gExps.map Kn) .no, .lst 7 (a0.gKids.map Kg) .no, .lst 7 (a0.gElse.map Kg) .no, .v (.int .i64 a0.gAt)] 91)], []⟩ : S)) ?_ ?_
     ·clear hm; have hm := Ku q18
      refine Kp rfl (fun hc19 => ?_) (fun hc19 => ?_)
      ·replace hm := yes_t hc19 hm
       refine Ks ?_
       have e18 := Ki hm; subst e18
       refine ⟨rfl, ?_⟩
       exact WkX.of () (WkS.perm (WkS.cons rfl (Wk.refl _) (WkS.cons rfl (Wk.refl _) (WkS.cons rfl (Wk.refl _) (WkS.nil)))) Pf Pf)
      ·replace hm := yes_f hc19 hm
       refine Kh ?_
       refine pu ?_
       refine pu ?_
       refine Kf ?_
       obtain ⟨y22, q22, ho22⟩ := Kc hm
       refine KP (Y := Unit) (fun z22 => (⟨[(1, .ptr b1 0), (4, .v (.int .i64 a0.gOp)), (5, .v (.bool y22))], [(b1, Blk.cells [.v (.int .i64 a0.gOp), .v (.string a0.gName), .v (.string a0.gFunc), .lst 5 (a0.gExps.map Kn) .no, .lst 7 (a0.gKids.map Kg) .no, .lst 7 (a0.gElse.map Kg) .no, .v (.int .i64 a0.gAt)] 91)], []⟩ : S)) ?_ ?_
       ·clear hm; have hm := Ku q22
        refine Kp rfl (fun hc23 => ?_) (fun hc23 => ?_)
        ·replace hm := yes_t hc23 hm
         refine Ks ?_
         have e22 := Ki hm; subst e22
         refine ⟨rfl, ?_⟩
         exact WkX.of () (WkS.perm (WkS.cons rfl (Wk.refl _) (WkS.cons rfl (Wk.refl _) (WkS.cons rfl (Wk.refl _) (WkS.nil)))) Pf Pf)
        ·replace hm := yes_f hc23 hm
         refine Kh ?_
         refine pu ?_
         refine pu ?_
         refine Kf ?_
         obtain ⟨y25, q25, ho25⟩ := Kc hm
         refine KP (Y := Unit) (fun z25 => (⟨[(1, .ptr b1 0), (4, .v (.int .i64 a0.gOp)), (5, .v (.bool y25))], [(b1, Blk.cells [.v (.int .i64 a0.gOp), .v (.string a0.gName), .v (.string a0.gFunc), .lst 5 (a0.gExps.map Kn) .no, .lst 7 (a0.gKids.map Kg) .no, .lst 7 (a0.gElse.map Kg) .no, .v (.int .i64 a0.gAt)] 91)], []⟩ : S)) ?_ ?_
         ·clear hm; have hm := Ku q25
          refine Kp rfl (fun hc26 => ?_) (fun hc26 => ?_)
          ·replace hm := yes_t hc26 hm
           refine Ks ?_
           have e25 := Ki hm; subst e25
           refine ⟨rfl, ?_⟩
           exact WkX.of () (WkS.perm (WkS.cons rfl (Wk.refl _) (WkS.cons rfl (Wk.refl _) (WkS.cons rfl (Wk.refl _) (WkS.nil)))) Pf Pf)
          ·replace hm := yes_f hc26 hm
           refine Kr ?_
           refine pu ?_
           refine pu ?_
           refine Kt ?_
           have e25 := Ki hm; subst e25
           refine ⟨rfl, ?_⟩
           exact WkX.of () (WkS.perm (WkS.cons rfl (Wk.refl _) (WkS.cons rfl (Wk.refl _) (WkS.cons rfl (Wk.refl _) (WkS.nil)))) Pf Pf)
         ·intro s25 hw25; clear hm; have hm := ho25; clear q25 ho25
          have e22 := Ki hm; subst e22
          refine ⟨rfl, ?_⟩
          refine WkX.trans hw25 (fun z25 => ?_)
          exact WkX.of () (WkS.perm (WkS.cons rfl (Wk.refl _) (WkS.cons rfl (Wk.refl _) (WkS.cons rfl (Wk.refl _) (WkS.nil)))) Pf Pf)
       ·intro s22 hw22; clear hm; have hm := ho22; clear q22 ho22
        have e18 := Ki hm; subst e18
        refine ⟨rfl, ?_⟩
        refine WkX.trans hw22 (fun z22 => ?_)
        exact WkX.of () (WkS.perm (WkS.cons rfl (Wk.refl _) (WkS.cons rfl (Wk.refl _) (WkS.cons rfl (Wk.refl _) (WkS.nil)))) Pf Pf)
     ·intro s18 hw18; clear hm; have hm := ho18; clear q18 ho18
      have e13 := Ki hm; subst e13
      refine ⟨rfl, ?_⟩
      refine WkX.trans hw18 (fun z18 => ?_)
      exact WkX.of () (WkS.perm (WkS.cons rfl (Wk.refl _) (WkS.cons rfl (Wk.refl _) (WkS.cons rfl (Wk.refl _) (WkS.nil)))) Pf Pf)
   ·intro s13 hw13; clear hm; have hm := ho13; clear q13 ho13
    have e7 := Ki hm; subst e7
    refine ⟨rfl, ?_⟩
    refine WkX.trans hw13 (fun z13 => ?_)
    exact WkX.of () (WkS.perm (WkS.cons rfl (Wk.refl _) (WkS.cons rfl (Wk.refl _) (WkS.cons rfl (Wk.refl _) (WkS.nil)))) Pf Pf)
 ·intro s7 hw7; clear hm; have hm := ho7; clear q7 ho7
  refine Kd ?_
  refine KY hw7 (fun z7 => ?_)
  refine Kp rfl (fun hc27 => ?_) (fun hc27 => ?_)
  ·replace hm := yes_t hc27 hm
   refine Kh ?_
   refine pu ?_
   refine Kf ?_
   refine KA ?_
   refine KW ?_
   refine KB ?_
   have er28 := Ki hm; subst er28
   refine rP (t' := [(2, .v (.int .i64 (1 : Int)))]) [] [] 0 (wC wN) (lT lN) ?_
   exact ⟨rfl, rfl, rfl⟩
  ·replace hm := yes_f hc27 hm
   refine Kh ?_
   refine pu ?_
   refine pu ?_
   refine Kf ?_
   refine Kp rfl (fun hc29 => ?_) (fun hc29 => ?_)
   ·replace hm := yes_t hc29 hm
    refine Kh ?_
    refine pu ?_
    refine Kf ?_
    refine KA ?_
    refine KW ?_
    refine KB ?_
    have er30 := Ki hm; subst er30
    refine rP (t' := [(2, .v (.int .i64 (2 : Int)))]) [] [] 0 (wC wN) (lT lN) ?_
    exact ⟨rfl, rfl, rfl⟩
   ·replace hm := yes_f hc29 hm
    refine Kh ?_
    refine pu ?_
    refine pu ?_
    refine Kf ?_
    refine Kp rfl (fun hc31 => ?_) (fun hc31 => ?_)
    ·replace hm := yes_t hc31 hm
     refine Kh ?_
     refine pu ?_
     refine pL 0 ?_
     refine Kao htab rfl rfl rfl rfl rfl rfl rfl (by first | exact Kae | rfl) ?_
     refine pu ?_
     refine Kf ?_
     refine KA ?_
     refine KW ?_
     refine KB ?_
     have er32 := Ki hm; subst er32
     refine rP (t' := [(2, .v (.int .i64 (a0.gExps.length : Int)))]) [] [] 0 (wC wN) (lT lN) ?_
     exact ⟨rfl, rfl, rfl⟩
    ·replace hm := yes_f hc31 hm
     refine Kh ?_
     refine pu ?_
     refine pu ?_
     refine Kf ?_
     refine Kp rfl (fun hc33 => ?_) (fun hc33 => ?_)
     ·replace hm := yes_t hc33 hm
      refine Kh ?_
      refine pu ?_
      refine Kf ?_
      refine KA ?_
      refine KW ?_
      refine KB ?_
      have er34 := Ki hm; subst er34
      refine rP (t' := [(2, .v (.int .i64 (0 : Int)))]) [] [] 0 (wC wN) (lT lN) ?_
      exact ⟨rfl, rfl, rfl⟩
     ·replace hm := yes_f hc33 hm
      refine Ks ?_
      refine Kz ?_
      refine Kd ?_
      refine Kh ?_
      refine pu ?_
      refine Kf ?_
      refine KA ?_
      have er35 := Ki hm; subst er35
      refine rP (t' := [(2, .v (.int .i64 (-1 : Int)))]) [] [] 0 (wC wN) (lT lN) ?_
      exact ⟨rfl, rfl, rfl⟩
noncomputable def Kdd (a0 : Int) : Option (Int) :=
 (Option.bind (α := (Unit) ⊕ (Int)) (Option.bind (α := Bool) (bif (a0 == (1 : Int)) then some (a0 == (1 : Int)) else (Option.bind (α := Bool) (bif (a0 == (2 : Int)) then some (a0 == (2 : Int)) else (Option.bind (α := Bool) (bif (a0 == (4 : Int)) then some (a0 == (4 : Int)) else (Option.bind (α := Bool) (bif (a0 == (18 : Int)) then some (a0 == (18 : Int)) else some (a0 == (19 : Int))) fun y44 => some y44)) fun y41 => some y41)) fun y37 => some y37)) fun y32 => (Option.bind (α := (Unit) ⊕ (Int)) (bif y32 then some (.inr (0 : Int)) else (Option.bind (α := Bool) (bif (a0 == (3 : Int)) then some (a0 == (3 : Int)) else (Option.bind (α := Bool) (bif (a0 == (20 : Int)) then some (a0 == (20 : Int)) else (Option.bind (α := Bool) (bif (a0 == (5 : Int)) then some (a0 == (5 : Int)) else some (a0 == (6 : Int))) fun y67 => some y67)) fun y64 => some y64)) fun y60 => (bif y60 then some (.inr (1 : Int)) else some (.inl ())))) (Sum.elim (fun y54 => some (.inl ())) (fun r => some (.inr r))))) (Sum.elim (fun y27 => (bif (decide ((7 : Int) ≤ a0)) then (bif (decide (a0 ≤ (17 : Int))) then some (2 : Int) else some (-1 : Int)) else some (-1 : Int))) (fun r => some r)))
theorem KgQ (a0 : Int) (r : Int) (h0 : Kdd a0 = some r) : CallsD Tryz.prog 99 [.v (.int .i64 a0)] [] [] (fun d h k => d = .v (.int .i64 r) ∧ h = [] ∧ k = []) := by
 have hm := Ku h0
 unfold Kdd at hm
 clear h0
 refine K5 htab Tryz.func99 rfl rfl rfl rfl rfl (fun C => ?_)
 refine Kh ?_
 refine pu ?_
 refine Kf ?_
 refine Ko ?_
 refine Kh ?_
 refine pu ?_
 refine Kf ?_
 obtain ⟨x27, q27, ho27⟩ := Kc hm
 refine Kbe (τ := Unit) (Y := Unit) (fun y27 z27 => (⟨[(0, .v (.int .i64 a0))], [], []⟩ : S)) x27 ?_ ?_
 ·clear hm; have hm := Ku q27
  refine KC ?_
  refine Ko ?_
  refine Kh ?_
  refine pu ?_
  refine pu ?_
  refine Kf ?_
  obtain ⟨y32, q32, ho32⟩ := Kc hm
  refine KP (Y := Unit) (fun z32 => (⟨[(0, .v (.int .i64 a0)), (3, .v (.int .i64 a0)), (4, .v (.bool y32))], [], []⟩ : S)) ?_ ?_
  ·clear hm; have hm := Ku q32
   refine Kp rfl (fun hc33 => ?_) (fun hc33 => ?_)
   ·replace hm := yes_t hc33 hm
    refine Ks ?_
    have e32 := Ki hm; subst e32
    refine ⟨rfl, ?_⟩
    exact WkX.of () (WkS.perm (WkS.cons rfl (Wk.refl _) (WkS.cons rfl (Wk.refl _) (WkS.cons rfl (Wk.refl _) (WkS.nil)))) Pf Pf)
   ·replace hm := yes_f hc33 hm
    refine Kh ?_
    refine pu ?_
    refine pu ?_
    refine Kf ?_
    obtain ⟨y37, q37, ho37⟩ := Kc hm
    refine KP (Y := Unit) (fun z37 => (⟨[(0, .v (.int .i64 a0)), (3, .v (.int .i64 a0)), (4, .v (.bool y37))], [], []⟩ : S)) ?_ ?_
    ·clear hm; have hm := Ku q37
     refine Kp rfl (fun hc38 => ?_) (fun hc38 => ?_)
     ·replace hm := yes_t hc38 hm
      refine Ks ?_
      have e37 := Ki hm; subst e37
      refine ⟨rfl, ?_⟩
      exact WkX.of () (WkS.perm (WkS.cons rfl (Wk.refl _) (WkS.cons rfl (Wk.refl _) (WkS.cons rfl (Wk.refl _) (WkS.nil)))) Pf Pf)
     ·replace hm := yes_f hc38 hm
      refine Kh ?_
      refine pu ?_
      refine pu ?_
      refine Kf ?_
      obtain ⟨y41, q41, ho41⟩ := Kc hm
      refine KP (Y := Unit) (fun z41 => (⟨[(0, .v (.int .i64 a0)), (3, .v (.int .i64 a0)), (4, .v (.bool y41))], [], []⟩ : S)) ?_ ?_
      ·clear hm; have hm := Ku q41
       refine Kp rfl (fun hc42 => ?_) (fun hc42 => ?_)
       ·replace hm := yes_t hc42 hm
        refine Ks ?_
        have e41 := Ki hm; subst e41
        refine ⟨rfl, ?_⟩
        exact WkX.of () (WkS.perm (WkS.cons rfl (Wk.refl _) (WkS.cons rfl (Wk.refl _) (WkS.cons rfl (Wk.refl _) (WkS.nil)))) Pf Pf)
       ·replace hm := yes_f hc42 hm
        refine Kh ?_
        refine pu ?_
        refine pu ?_
        refine Kf ?_
        obtain ⟨y44, q44, ho44⟩ := Kc hm
        refine KP (Y := Unit) (fun z44 => (⟨[(0, .v (.int .i64 a0)), (3, .v (.int .i64 a0)), (4, .v (.bool y44))], [], []⟩ : S)) ?_ ?_
        ·clear hm; have hm := Ku q44
         refine Kp rfl (fun hc45 => ?_) (fun hc45 => ?_)
         ·replace hm := yes_t hc45 hm
          refine Ks ?_
          have e44 := Ki hm; subst e44
          refine ⟨rfl, ?_⟩
          exact WkX.of () (WkS.perm (WkS.cons rfl (Wk.refl _) (WkS.cons rfl (Wk.refl _) (WkS.cons rfl (Wk.refl _) (WkS.nil)))) Pf Pf)
         ·replace hm := yes_f hc45 hm
          refine Kr ?_
          refine pu ?_
          refine pu ?_
          refine Kt ?_
          have e44 := Ki hm; subst e44
          refine ⟨rfl, ?_⟩
          exact WkX.of () (WkS.perm (WkS.cons rfl (Wk.refl _) (WkS.cons rfl (Wk.refl _) (WkS.cons rfl (Wk.refl _) (WkS.nil)))) Pf Pf)
        ·intro s44 hw44; clear hm; have hm := ho44; clear q44 ho44
         have e41 := Ki hm; subst e41
         refine ⟨rfl, ?_⟩
         refine WkX.trans hw44 (fun z44 => ?_)
         exact WkX.of () (WkS.perm (WkS.cons rfl (Wk.refl _) (WkS.cons rfl (Wk.refl _) (WkS.cons rfl (Wk.refl _) (WkS.nil)))) Pf Pf)
      ·intro s41 hw41; clear hm; have hm := ho41; clear q41 ho41
       have e37 := Ki hm; subst e37
       refine ⟨rfl, ?_⟩
       refine WkX.trans hw41 (fun z41 => ?_)
       exact WkX.of () (WkS.perm (WkS.cons rfl (Wk.refl _) (WkS.cons rfl (Wk.refl _) (WkS.cons rfl (Wk.refl _) (WkS.nil)))) Pf Pf)
    ·intro s37 hw37; clear hm; have hm := ho37; clear q37 ho37
     have e32 := Ki hm; subst e32
     refine ⟨rfl, ?_⟩
     refine WkX.trans hw37 (fun z37 => ?_)
     exact WkX.of () (WkS.perm (WkS.cons rfl (Wk.refl _) (WkS.cons rfl (Wk.refl _) (WkS.cons rfl (Wk.refl _) (WkS.nil)))) Pf Pf)
  ·intro s32 hw32; clear hm; have hm := ho32; clear q32 ho32
   refine Kd ?_
   refine KY hw32 (fun z32 => ?_)
   obtain ⟨x54, q54, ho54⟩ := Kc hm
   refine Kbe (τ := Unit) (Y := Unit) (fun y54 z54 => (⟨[(0, .v (.int .i64 a0))], [], []⟩ : S)) x54 ?_ ?_
   ·clear hm; have hm := Ku q54
    refine Kp rfl (fun hc55 => ?_) (fun hc55 => ?_)
    ·replace hm := yes_t hc55 hm
     refine Kh ?_
     refine pu ?_
     refine Kf ?_
     refine KA ?_
     have e54 := Ki hm; subst e54; refine KaD ?_; clear hm; have hm := ho54; simp only [Sum.elim_inr] at hm
     refine KW ?_
     have e27 := Ki hm; subst e27; refine KaD ?_; clear hm; have hm := ho27; simp only [Sum.elim_inr] at hm
     refine KB ?_
     have er56 := Ki hm; subst er56
     refine rP (t' := [(2, .v (.int .i64 (0 : Int)))]) [] [] 0 (wC wN) (lT lN) ?_
     exact ⟨rfl, rfl, rfl⟩
    ·replace hm := yes_f hc55 hm
     refine Ko ?_
     refine Kh ?_
     refine pu ?_
     refine pu ?_
     refine Kf ?_
     obtain ⟨y60, q60, ho60⟩ := Kc hm
     refine KP (Y := Unit) (fun z60 => (⟨[(0, .v (.int .i64 a0)), (10, .v (.bool y60))], [], []⟩ : S)) ?_ ?_
     ·clear hm; have hm := Ku q60
      refine Kp rfl (fun hc61 => ?_) (fun hc61 => ?_)
      ·replace hm := yes_t hc61 hm
       refine Ks ?_
       have e60 := Ki hm; subst e60
       refine ⟨rfl, ?_⟩
       exact WkX.of () (WkS.perm (WkS.cons rfl (Wk.refl _) (WkS.cons rfl (Wk.refl _) (WkS.nil))) Pf Pf)
      ·replace hm := yes_f hc61 hm
       refine Kh ?_
       refine pu ?_
       refine pu ?_
       refine Kf ?_
       obtain ⟨y64, q64, ho64⟩ := Kc hm
       refine KP (Y := Unit) (fun z64 => (⟨[(0, .v (.int .i64 a0)), (10, .v (.bool y64))], [], []⟩ : S)) ?_ ?_
       ·clear hm; have hm := Ku q64
        refine Kp rfl (fun hc65 => ?_) (fun hc65 => ?_)
        ·replace hm := yes_t hc65 hm
         refine Ks ?_
         have e64 := Ki hm; subst e64
         refine ⟨rfl, ?_⟩
         exact WkX.of () (WkS.perm (WkS.cons rfl (Wk.refl _) (WkS.cons rfl (Wk.refl _) (WkS.nil))) Pf Pf)
        ·replace hm := yes_f hc65 hm
         refine Kh ?_
         refine pu ?_
         refine pu ?_
         refine Kf ?_
         obtain ⟨y67, q67, ho67⟩ := Kc hm
         refine KP (Y := Unit) (fun z67 => (⟨[(0, .v (.int .i64 a0)), (10, .v (.bool y67))], [], []⟩ : S)) ?_ ?_
         ·clear hm; have hm := Ku q67
          refine Kp rfl (fun hc68 => ?_) (fun hc68 => ?_)
          ·replace hm := yes_t hc68 hm
           refine Ks ?_
           have e67 := Ki hm; subst e67
           refine ⟨rfl, ?_⟩
           exact WkX.of () (WkS.perm (WkS.cons rfl (Wk.refl _) (WkS.cons rfl (Wk.refl _) (WkS.nil))) Pf Pf)
          ·replace hm := yes_f hc68 hm
           refine Kr ?_
           refine pu ?_
           refine pu ?_
           refine Kt ?_
           have e67 := Ki hm; subst e67
           refine ⟨rfl, ?_⟩
           exact WkX.of () (WkS.perm (WkS.cons rfl (Wk.refl _) (WkS.cons rfl (Wk.refl _) (WkS.nil))) Pf Pf)
         ·intro s67 hw67; clear hm; have hm := ho67; clear q67 ho67
          have e64 := Ki hm; subst e64
          refine ⟨rfl, ?_⟩
          refine WkX.trans hw67 (fun z67 => ?_)
          exact WkX.of () (WkS.perm (WkS.cons rfl (Wk.refl _) (WkS.cons rfl (Wk.refl _) (WkS.nil))) Pf Pf)
       ·intro s64 hw64; clear hm; have hm := ho64; clear q64 ho64
        have e60 := Ki hm; subst e60
        refine ⟨rfl, ?_⟩
        refine WkX.trans hw64 (fun z64 => ?_)
        exact WkX.of () (WkS.perm (WkS.cons rfl (Wk.refl _) (WkS.cons rfl (Wk.refl _) (WkS.nil))) Pf Pf)
     ·intro s60 hw60; clear hm; have hm := ho60; clear q60 ho60
      refine Kd ?_
      refine KY hw60 (fun z60 => ?_)
      refine Kp rfl (fun hc70 => ?_) (fun hc70 => ?_)
      ·replace hm := yes_t hc70 hm
       refine Kh ?_
       refine pu ?_
       refine Kf ?_
       refine KA ?_
       have e54 := Ki hm; subst e54; refine KaD ?_; clear hm; have hm := ho54; simp only [Sum.elim_inr] at hm
       refine KW ?_
       have e27 := Ki hm; subst e27; refine KaD ?_; clear hm; have hm := ho27; simp only [Sum.elim_inr] at hm
       refine KB ?_
       have er71 := Ki hm; subst er71
       refine rP (t' := [(2, .v (.int .i64 (1 : Int)))]) [] [] 0 (wC wN) (lT lN) ?_
       exact ⟨rfl, rfl, rfl⟩
      ·replace hm := yes_f hc70 hm
       refine Ks ?_
       have e54 := Ki hm; subst e54
       refine Kbf ?_
       exact WkX.of () (WkS.perm (WkS.cons rfl (Wk.refl _) (WkS.nil)) Pf Pf)
   ·intro y54 s54 hx54 hw54; subst hx54; clear hm; have hm := ho54; simp only [Sum.elim_inl] at hm; clear q54 ho54
    refine Kz ?_
    have e27 := Ki hm; subst e27
    refine Kbf ?_
    refine WkX.trans hw54 (fun z54 => ?_)
    exact WkX.of () (WkS.perm (WkS.cons rfl (Wk.refl _) (WkS.nil)) Pf Pf)
 ·intro y27 s27 hx27 hw27; subst hx27; clear hm; have hm := ho27; simp only [Sum.elim_inl] at hm; clear q27 ho27
  refine Kd ?_
  refine KY hw27 (fun z27 => ?_)
  refine Ko ?_
  refine Kh ?_
  iterate 3 refine pu ?_
  refine KbR (i := 17) rfl (fun hg72 => ?_) (fun hg72 => ?_)
  ·replace hm := yes_t hg72 hm
   refine pu ?_
   refine pu ?_
   refine KbP rfl rfl rfl rfl rfl rfl ?_
   refine Kf ?_
   refine Kp rfl (fun hc73 => ?_) (fun hc73 => ?_)
   ·replace hm := yes_t hc73 hm
    refine Kh ?_
    refine pu ?_
    refine Kf ?_
    refine KA ?_
    refine KB ?_
    have er74 := Ki hm; subst er74
    refine rP (t' := [(2, .v (.int .i64 (2 : Int)))]) [] [] 0 (wC wN) (lT lN) ?_
    exact ⟨rfl, rfl, rfl⟩
   ·replace hm := yes_f hc73 hm
    refine Ks ?_
    refine Kd ?_
    refine Kh ?_
    refine pu ?_
    refine Kf ?_
    refine KA ?_
    have er75 := Ki hm; subst er75
    refine rP (t' := [(2, .v (.int .i64 (-1 : Int)))]) [] [] 0 (wC wN) (lT lN) ?_
    exact ⟨rfl, rfl, rfl⟩
  ·replace hm := yes_f hg72 hm
   refine pK ?_
   refine pK ?_
   refine KbQ rfl rfl rfl rfl rfl rfl ?_
   refine Kf ?_
   refine Kgw rfl ?_
   refine Ks ?_
   refine Kd ?_
   refine Kh ?_
   refine pu ?_
   refine Kf ?_
   refine KA ?_
   have er76 := Ki hm; subst er76
   refine rP (t' := [(2, .v (.int .i64 (-1 : Int)))]) [] [] 0 (wC wN) (lT lN) ?_
   exact ⟨rfl, rfl, rfl⟩
noncomputable def Ka9 (a0 : Kq) (a1 : Int) : Option (Unit) :=
 (bif (a1 != (1 : Int)) then ((KaO a0.gAt (9 : Int)).bind fun x3 => some ()) else some ())
theorem KbC (a0 : Kq) (a1 : Int) (r : Unit) (h0 : Ka9 a0 a1 = some r) : CallsD Tryz.prog 78 [Kn a0, .v (.int .i64 a1)] [] [] (fun d h k => d = .tup [] ∧ h = [] ∧ k = []) := by
 have hm := Ku h0
 unfold Ka9 at hm
 clear h0
 refine K5 htab Tryz.func78 rfl rfl rfl rfl rfl (fun C => ?_)
 refine w_eq (i := 0) rfl (Wk.of_eq (K0 a0)) ?_
 refine Kh ?_
 refine p_box rfl rfl rfl rfl rfl rfl rfl (fun b1 => ?_)
 refine KL ?_
 refine pu ?_
 refine pu ?_
 refine Kf ?_
 refine Kp rfl (fun hc2 => ?_) (fun hc2 => ?_)
 ·replace hm := yes_t hc2 hm
  refine Kr ?_
  refine pu ?_
  refine pL 0 ?_
  obtain ⟨x3, q3, hm⟩ := Kc hm
  refine KT (KaQ a0.gAt (9 : Int) x3 q3) rfl rfl rfl rfl rfl Wl ?_
  rintro _ rfl
  refine Kt ?_
  first | (have er4 := Ki hm; subst er4) | skip
  refine rP (t' := []) [] [] 0 wN lN ?_
  exact ⟨rfl, rfl, rfl⟩
 ·replace hm := yes_f hc2 hm
  refine Ks ?_
  first | (have er5 := Ki hm; subst er5) | skip
  refine rP (t' := []) [] [] 0 wN lN ?_
  exact ⟨rfl, rfl, rfl⟩
noncomputable def Kbk (a0 : Kl) (a1 : ByteArray) : Option (Int) :=
 (Option.bind (α := (Unit) ⊕ (Int)) (loopM (fun (s125 : Int) => (bif (decide (s125 < (2 : Int))) then ((idx ([a0.gF.gParams, a0.gF.gLocals] : List (List K9)) s125).bind fun x207 => (Option.bind (α := (Unit) ⊕ (Int)) (loopM (fun (s227 : Int) => (bif (decide (s227 < (x207.length : Int))) then ((idx x207 s227).bind fun x241 => (bif (decide (x241.gName = a1)) then ((KbB x241.gPtr).bind fun x244 => some (.done (.inr x244))) else some (.next (IntKind.i64.wrap (s227 + (1 : Int)))))) else some (.done (.inl ())))) (0 : Int)) (Sum.elim (fun y226 => some (.next (IntKind.i64.wrap (s125 + (1 : Int))))) (fun r => some (.done (.inr r)))))) else some (.done (.inl ())))) (0 : Int)) (Sum.elim (fun y124 => some (0 : Int)) (fun r => some r)))
theorem Kde (a0 : Kl) (a1 : ByteArray) (r : Int) (h0 : Kbk a0 a1 = some r) : CallsD Tryz.prog 92 [Kx a0, .v (.string a1)] [] [] (fun d h k => d = .v (.int .i64 r) ∧ h = [] ∧ k = []) := by
 have hm := Ku h0
 unfold Kbk at hm
 clear h0
 refine K5 htab Tryz.func92 rfl rfl rfl rfl rfl (fun C => ?_)
 refine Kh ?_
 refine p_box rfl rfl rfl rfl rfl rfl rfl (fun b1 => ?_)
 refine pu ?_
 refine Kf ?_
 refine Ko ?_
 refine Kh ?_
 refine pu ?_
 refine pu ?_
 refine pL 0 ?_
 refine pu ?_
 refine pu ?_
 refine pL 0 ?_
 refine p_buildA (r := [.lst 2 (a0.gF.gParams.map Ke) .no, .lst 2 (a0.gF.gLocals.map Ke) .no]) htab rfl rfl rfl rfl rfl rfl rfl rfl rfl ?_
 refine pu ?_
 refine Kf ?_
 obtain ⟨x124, q124, ho124⟩ := Kc hm
 refine Kbe (τ := Unit) (Y := Unit) (fun y124 z124 => (⟨[], [], []⟩ : S)) x124 ?_ ?_
 ·clear hm; have hm := Ku q124
  refine KC ?_
  obtain ⟨u125, hl125, hq125⟩ := yes_m hm
  refine KaW (Y := Unit) hl125 (fun s125 z125 => (⟨[(1, .v (.string a1)), (15, Kcm (⟨a0.gF.gParams, a0.gF.gLocals⟩ : Kcr)), (16, .v (.int .i64 s125))], [], []⟩ : S)) ?_ ?_
  ·skip
   exact WkX.of () (WkS.perm (WkS.cons rfl (Wk.refl _) (WkS.cons rfl (Wk.refl _) (WkS.cons rfl (Wk.refl _) (WkS.nil)))) Pf Pf)
  ·intro G125 s125 z125 hm
   refine Kh ?_
   refine pu ?_
   refine Kf ?_
   refine Ko ?_
   refine Kp rfl (fun hc206 => ?_) (fun hc206 => ?_)
   ·replace hm := yes_t hc206 hm
    refine Ks ?_
    refine Kd ?_
    refine Ko ?_
    refine KC ?_
    refine Kh ?_
    obtain ⟨x207, q207, hm⟩ := Kc hm
    refine p_idxA (d := .lst 2 (x207.map Ke) .no) htab rfl rfl rfl rfl rfl rfl rfl rfl rfl (KM q207) (idx_lt' q207 rfl) (part_at0 (e := (eList 2 Ke)) (xs := ([a0.gF.gParams, a0.gF.gLocals] : List (List K9))) rfl q207) ?_
    refine pu ?_
    refine KL ?_
    refine pu ?_
    refine Kao htab rfl rfl rfl rfl rfl rfl rfl (by first | exact Kae | rfl) ?_
    refine pu ?_
    refine Kf ?_
    obtain ⟨x226, q226, ho226⟩ := Kc hm
    refine Kbe (τ := Unit) (Y := Unit) (fun y226 z226 => (⟨[(1, .v (.string a1)), (15, Kcm (⟨a0.gF.gParams, a0.gF.gLocals⟩ : Kcr)), (16, .v (.int .i64 s125))], [], []⟩ : S)) x226 ?_ ?_
    ·clear hm; have hm := Ku q226
     refine KC ?_
     obtain ⟨u227, hl227, hq227⟩ := yes_m hm
     refine KaW (Y := Unit) hl227 (fun s227 z227 => (⟨[(1, .v (.string a1)), (15, Kcm (⟨a0.gF.gParams, a0.gF.gLocals⟩ : Kcr)), (16, .v (.int .i64 s125)), (19, .lst 2 (x207.map Ke) .no), (20, .v (.int .i64 (x207.length : Int))), (21, .v (.int .i64 s227))], [], []⟩ : S)) ?_ ?_
     ·skip
      exact WkX.of () (WkS.perm (WkS.cons rfl (Wk.refl _) (WkS.cons rfl (Wk.refl _) (WkS.cons rfl (Wk.refl _) (WkS.cons rfl (Wk.refl _) (WkS.cons rfl (Wk.refl _) (WkS.cons rfl (Wk.refl _) (WkS.nil))))))) Pf Pf)
     ·intro G227 s227 z227 hm
      refine Kh ?_
      refine pu ?_
      refine Kf ?_
      refine Ko ?_
      refine Kp rfl (fun hc240 => ?_) (fun hc240 => ?_)
      ·replace hm := yes_t hc240 hm
       refine Ks ?_
       refine Kd ?_
       refine Ko ?_
       refine KC ?_
       refine Kh ?_
       obtain ⟨x241, q241, hm⟩ := Kc hm
       refine KaB htab rfl rfl rfl rfl rfl rfl rfl rfl rfl rfl (KM q241) (K8 q241) ?_
       refine Kai (d := Ke x241) htab rfl rfl rfl rfl rfl rfl rfl rfl ?_
       refine Kak htab rfl rfl rfl rfl rfl rfl rfl (fun b242 => ?_)
       refine pS0 (ds' := [.v (.string x241.gName), .v (.bool x241.gPtr)]) ?_
       refine KL ?_
       refine pu ?_
       refine pL 0 ?_
       refine pu ?_
       refine pu ?_
       refine Kf ?_
       refine Kp rfl (fun hc243 => ?_) (fun hc243 => ?_)
       ·replace hm := yes_t hc243 hm
        refine Kh ?_
        refine pu ?_
        refine pL 0 ?_
        obtain ⟨x244, q244, hm⟩ := Kc hm
        refine KT (Kdb x241.gPtr x244 q244) rfl rfl rfl rfl rfl Wl ?_
        rintro _ rfl
        refine pu ?_
        refine Kf ?_
        refine KA ?_
        refine KW ?_
        refine KB ?_
        have e227 := Kab hm; subst e227; clear hm; have hm := hq227
        refine KB ?_
        refine KW ?_
        have e226 := Ki hm; subst e226; refine KaD ?_; clear hm; have hm := ho226; simp only [Sum.elim_inr] at hm
        refine KW ?_
        refine KB ?_
        have e125 := Kab hm; subst e125; clear hm; have hm := hq125
        refine KB ?_
        refine KW ?_
        have e124 := Ki hm; subst e124; refine KaD ?_; clear hm; have hm := ho124; simp only [Sum.elim_inr] at hm
        refine KB ?_
        have er245 := Ki hm; subst er245
        refine rP (t' := [(4, .v (.int .i64 x244))]) [] [] 0 (wC wN) (lT lN) ?_
        exact ⟨rfl, rfl, rfl⟩
       ·replace hm := yes_f hc243 hm
        refine Ks ?_
        refine Kz ?_
        refine Kd ?_
        refine Kr ?_
        refine pu ?_
        refine pu ?_
        refine Kt ?_
        refine Kd ⟨_, Kas hm, ?_⟩
        exact WkX.of () (WkS.perm (WkS.cons rfl (Wk.refl _) (WkS.cons rfl (Wk.refl _) (WkS.cons rfl (Wk.refl _) (WkS.cons rfl (Wk.refl _) (WkS.cons rfl (Wk.refl _) (WkS.cons rfl (Wk.refl _) (WkS.nil))))))) Pf Pf)
      ·replace hm := yes_f hc240 hm
       refine Kal ?_
       refine KJ ?_
       have e227 := Kab hm; subst e227; clear hm; have hm := hq227
       refine KJ ?_
       refine Kaf ?_
       have e226 := Ki hm; subst e226
       refine Kbf ?_
       exact WkX.of () (WkS.perm (WkS.cons rfl (Wk.refl _) (WkS.cons rfl (Wk.refl _) (WkS.cons rfl (Wk.refl _) (WkS.nil)))) Pf Pf)
    ·intro y226 s226 hx226 hw226; subst hx226; clear hm; have hm := ho226; simp only [Sum.elim_inl] at hm; clear q226 ho226
     refine Kz ?_
     refine Kd ?_
     refine KY hw226 (fun z226 => ?_)
     refine Kr ?_
     refine pu ?_
     refine pu ?_
     refine Kt ?_
     refine Kd ⟨_, Kas hm, ?_⟩
     exact WkX.of () (WkS.perm (WkS.cons rfl (Wk.refl _) (WkS.cons rfl (Wk.refl _) (WkS.cons rfl (Wk.refl _) (WkS.nil)))) Pf Pf)
   ·replace hm := yes_f hc206 hm
    refine Kal ?_
    refine KJ ?_
    have e125 := Kab hm; subst e125; clear hm; have hm := hq125
    refine KJ ?_
    refine Kaf ?_
    have e124 := Ki hm; subst e124
    refine Kbf ?_
    exact WkX.of () (WkS.perm (WkS.nil) Pf Pf)
 ·intro y124 s124 hx124 hw124; subst hx124; clear hm; have hm := ho124; simp only [Sum.elim_inl] at hm; clear q124 ho124
  refine Kd ?_
  refine KY hw124 (fun z124 => ?_)
  refine Kh ?_
  refine pu ?_
  refine Kf ?_
  refine KA ?_
  have er246 := Ki hm; subst er246
  refine rP (t' := [(4, .v (.int .i64 (0 : Int)))]) [] [] 0 (wC wN) (lT lN) ?_
  exact ⟨rfl, rfl, rfl⟩
noncomputable def Kcu (a0 : Int) (a1 : Int) (a2 : List Int) : Option (Int) :=
 (Option.bind (α := Unit) (bif (a0 == (0 : Int)) then ((KaO a1 (7 : Int)).bind fun x5 => some ()) else some ()) fun y3 => (Option.bind (α := (Unit) ⊕ (Int)) (loopM (fun (s20 : Int) => (bif (decide (s20 < (a2.length : Int))) then ((idx a2 s20).bind fun x30 => (bif (x30 == a0) then some (.done (.inr a0)) else some (.next (IntKind.i64.wrap (s20 + (1 : Int)))))) else some (.done (.inl ())))) (0 : Int)) (Sum.elim (fun y19 => ((KaO a1 (9 : Int)).bind fun x33 => some (0 : Int))) (fun r => some r))))
theorem Ke3 (a0 : Int) (a1 : Int) (a2 : List Int) (r : Int) (h0 : Kcu a0 a1 a2 = some r) : CallsD Tryz.prog 93 [.v (.int .i64 a0), .v (.int .i64 a1), .lst 1 (a2.map eI64) .no] [] [] (fun d h k => d = .v (.int .i64 r) ∧ h = [] ∧ k = []) := by
 have hm := Ku h0
 unfold Kcu at hm
 clear h0
 refine K5 htab Tryz.func93 rfl rfl rfl rfl rfl (fun C => ?_)
 refine Kh ?_
 refine pu ?_
 refine Kf ?_
 refine Ko ?_
 refine Kh ?_
 refine pu ?_
 refine pu ?_
 refine Kf ?_
 obtain ⟨y3, q3, ho3⟩ := Kc hm
 refine KP (Y := Unit) (fun z3 => (⟨[(0, .v (.int .i64 a0)), (1, .v (.int .i64 a1)), (2, .lst 1 (a2.map eI64) .no)], [], []⟩ : S)) ?_ ?_
 ·clear hm; have hm := Ku q3
  refine Kp rfl (fun hc4 => ?_) (fun hc4 => ?_)
  ·replace hm := yes_t hc4 hm
   refine Kr ?_
   refine pu ?_
   obtain ⟨x5, q5, hm⟩ := Kc hm
   refine KT (KaQ a1 (7 : Int) x5 q5) rfl rfl rfl rfl rfl Wl ?_
   rintro _ rfl
   refine Kt ?_
   have e3 := Ki hm; subst e3
   refine ⟨rfl, ?_⟩
   exact WkX.of () (WkS.perm (WkS.cons rfl (Wk.refl _) (WkS.cons rfl (Wk.refl _) (WkS.cons rfl (Wk.refl _) (WkS.nil)))) Pf Pf)
  ·replace hm := yes_f hc4 hm
   refine Ks ?_
   have e3 := Ki hm; subst e3
   refine ⟨rfl, ?_⟩
   exact WkX.of () (WkS.perm (WkS.cons rfl (Wk.refl _) (WkS.cons rfl (Wk.refl _) (WkS.cons rfl (Wk.refl _) (WkS.nil)))) Pf Pf)
 ·intro s3 hw3; clear hm; have hm := ho3; clear q3 ho3
  refine Kd ?_
  refine KY hw3 (fun z3 => ?_)
  refine Ko ?_
  refine Kh ?_
  refine pu ?_
  refine Kao htab rfl rfl rfl rfl rfl rfl rfl (by first | exact Kae | rfl) ?_
  refine pu ?_
  refine Kf ?_
  obtain ⟨x19, q19, ho19⟩ := Kc hm
  refine Kbe (τ := Unit) (Y := Unit) (fun y19 z19 => (⟨[(1, .v (.int .i64 a1))], [], []⟩ : S)) x19 ?_ ?_
  ·clear hm; have hm := Ku q19
   refine KC ?_
   obtain ⟨u20, hl20, hq20⟩ := yes_m hm
   refine KaW (Y := Unit) hl20 (fun s20 z20 => (⟨[(0, .v (.int .i64 a0)), (1, .v (.int .i64 a1)), (13, .lst 1 (a2.map eI64) .no), (14, .v (.int .i64 (a2.length : Int))), (15, .v (.int .i64 s20))], [], []⟩ : S)) ?_ ?_
   ·skip
    exact WkX.of () (WkS.perm (WkS.cons rfl (Wk.refl _) (WkS.cons rfl (Wk.refl _) (WkS.cons rfl (Wk.refl _) (WkS.cons rfl (Wk.refl _) (WkS.cons rfl (Wk.refl _) (WkS.nil)))))) Pf Pf)
   ·intro G20 s20 z20 hm
    refine Kh ?_
    refine pu ?_
    refine Kf ?_
    refine Ko ?_
    refine Kp rfl (fun hc29 => ?_) (fun hc29 => ?_)
    ·replace hm := yes_t hc29 hm
     refine Ks ?_
     refine Kd ?_
     refine Ko ?_
     refine KC ?_
     refine Kh ?_
     obtain ⟨x30, q30, hm⟩ := Kc hm
     refine KaB htab rfl rfl rfl rfl rfl rfl rfl rfl rfl rfl (KM q30) (K8 q30) ?_
     refine Kai htab rfl rfl rfl rfl rfl rfl rfl rfl ?_
     refine pu ?_
     refine KL ?_
     iterate 3 refine pu ?_
     refine Kf ?_
     refine Kp rfl (fun hc31 => ?_) (fun hc31 => ?_)
     ·replace hm := yes_t hc31 hm
      refine Kh ?_
      refine pu ?_
      refine pu ?_
      refine Kf ?_
      refine KA ?_
      refine KW ?_
      refine KB ?_
      have e20 := Kab hm; subst e20; clear hm; have hm := hq20
      refine KB ?_
      refine KW ?_
      have e19 := Ki hm; subst e19; refine KaD ?_; clear hm; have hm := ho19; simp only [Sum.elim_inr] at hm
      refine KB ?_
      have er32 := Ki hm; subst er32
      refine rP (t' := [(6, .v (.int .i64 a0))]) [] [] 0 (wC wN) (lT lN) ?_
      exact ⟨rfl, rfl, rfl⟩
     ·replace hm := yes_f hc31 hm
      refine Ks ?_
      refine Kz ?_
      refine Kd ?_
      refine Kr ?_
      refine pu ?_
      refine pu ?_
      refine Kt ?_
      refine Kd ⟨_, Kas hm, ?_⟩
      exact WkX.of () (WkS.perm (WkS.cons rfl (Wk.refl _) (WkS.cons rfl (Wk.refl _) (WkS.cons rfl (Wk.refl _) (WkS.cons rfl (Wk.refl _) (WkS.cons rfl (Wk.refl _) (WkS.nil)))))) Pf Pf)
    ·replace hm := yes_f hc29 hm
     refine Kal ?_
     refine KJ ?_
     have e20 := Kab hm; subst e20; clear hm; have hm := hq20
     refine KJ ?_
     refine Kaf ?_
     have e19 := Ki hm; subst e19
     refine Kbf ?_
     exact WkX.of () (WkS.perm (WkS.cons rfl (Wk.refl _) (WkS.nil)) Pf Pf)
  ·intro y19 s19 hx19 hw19; subst hx19; clear hm; have hm := ho19; simp only [Sum.elim_inl] at hm; clear q19 ho19
   refine Kd ?_
   refine KY hw19 (fun z19 => ?_)
   refine Kh ?_
   refine pu ?_
   obtain ⟨x33, q33, hm⟩ := Kc hm
   refine KT (KaQ a1 (9 : Int) x33 q33) rfl rfl rfl rfl rfl Wl ?_
   rintro _ rfl
   refine KL ?_
   refine pu ?_
   refine Kf ?_
   refine KA ?_
   have er34 := Ki hm; subst er34
   refine rP (t' := [(6, .v (.int .i64 (0 : Int)))]) [] [] 0 (wC wN) (lT lN) ?_
   exact ⟨rfl, rfl, rfl⟩
noncomputable def Kap (a0 : Kl) (a1 : ByteArray) (a2 : Int) (a3 : List Int) : Option (Int) :=
 ((Kbk a0 a1).bind fun x2 => (Option.bind (α := Int) (bif (x2 == (0 : Int)) then ((Ka0 a0 a1).bind fun x7 => some x7) else some x2) fun y5 => ((Kcu y5 a2 a3).bind fun x8 => some x8)))
theorem Kay (a0 : Kl) (a1 : ByteArray) (a2 : Int) (a3 : List Int) (r : Int) (h0 : Kap a0 a1 a2 a3 = some r) : CallsD Tryz.prog 77 [Kx a0, .v (.string a1), .v (.int .i64 a2), .lst 1 (a3.map eI64) .no] [] [] (fun d h k => d = .v (.int .i64 r) ∧ h = [] ∧ k = []) := by
 have hm := Ku h0
 unfold Kap at hm
 clear h0
 refine K5 htab Tryz.func77 rfl rfl rfl rfl rfl (fun C => ?_)
 refine Kh ?_
 refine p_box rfl rfl rfl rfl rfl rfl rfl (fun b1 => ?_)
 refine pu ?_
 refine KL ?_
 refine K3 (d := Kx a0) 0 htab rfl rfl rfl rfl rfl rfl rfl rfl ?_
 refine pu ?_
 obtain ⟨x2, q2, hm⟩ := Kc hm
 refine KT (Kde a0 a1 x2 q2) rfl rfl rfl rfl rfl Wl ?_
 rintro _ rfl
 refine pu ?_
 refine Kf ?_
 refine Ko ?_
 refine Kh ?_
 refine pu ?_
 refine pu ?_
 refine Kf ?_
 obtain ⟨y5, q5, ho5⟩ := Kc hm
 refine KP (Y := Unit) (fun z5 => (⟨[(2, .v (.int .i64 a2)), (3, .lst 1 (a3.map eI64) .no), (9, .v (.int .i64 y5))], [], []⟩ : S)) ?_ ?_
 ·clear hm; have hm := Ku q5
  refine Kp rfl (fun hc6 => ?_) (fun hc6 => ?_)
  ·replace hm := yes_t hc6 hm
   refine Kr ?_
   refine K3 (d := Kx a0) 0 htab rfl rfl rfl rfl rfl rfl rfl rfl ?_
   refine pu ?_
   obtain ⟨x7, q7, hm⟩ := Kc hm
   refine KT (KbS a0 a1 x7 q7) rfl rfl rfl rfl rfl Wl ?_
   rintro _ rfl
   refine pu ?_
   refine Kt ?_
   have e5 := Ki hm; subst e5
   refine ⟨rfl, ?_⟩
   exact WkX.of () (WkS.perm (WkS.cons rfl (Wk.refl _) (WkS.cons rfl (Wk.refl _) (WkS.cons rfl (Wk.refl _) (WkS.nil)))) Pf Pf)
  ·replace hm := yes_f hc6 hm
   refine Ks ?_
   have e5 := Ki hm; subst e5
   refine ⟨rfl, ?_⟩
   exact WkX.of () (WkS.perm (WkS.cons rfl (Wk.refl _) (WkS.cons rfl (Wk.refl _) (WkS.cons rfl (Wk.refl _) (WkS.nil)))) Pf Pf)
 ·intro s5 hw5; clear hm; have hm := ho5; clear q5 ho5
  refine Kd ?_
  refine KY hw5 (fun z5 => ?_)
  refine Kh ?_
  iterate 3 refine pu ?_
  obtain ⟨x8, q8, hm⟩ := Kc hm
  refine KT (Ke3 y5 a2 a3 x8 q8) rfl rfl rfl rfl rfl Wl ?_
  rintro _ rfl
  refine pu ?_
  refine Kf ?_
  refine KA ?_
  have er9 := Ki hm; subst er9
  refine rP (t' := [(8, .v (.int .i64 x8))]) [] [] 0 (wC wN) (lT lN) ?_
  exact ⟨rfl, rfl, rfl⟩
noncomputable def Ka7 (a0 : Kl) (a1 : Kq) (a2 : Int) : Option (Int) :=
 ((Ka0 a0 a1.gName).bind fun x3 => ((Kbk a0 a1.gName).bind fun x4 => (Option.bind (α := Int) (bif (x4 != (0 : Int)) then some (2 : Int) else some x3) fun y6 => ((Kcu y6 a1.gAt ([a2] : List Int)).bind fun x8 => some (2 : Int)))))
theorem KcG (a0 : Kl) (a1 : Kq) (a2 : Int) (r : Int) (h0 : Ka7 a0 a1 a2 = some r) : CallsD Tryz.prog 100 [Kx a0, Kn a1, .v (.int .i64 a2)] [] [] (fun d h k => d = .v (.int .i64 r) ∧ h = [] ∧ k = []) := by
 have hm := Ku h0
 unfold Ka7 at hm
 clear h0
 refine K5 htab Tryz.func100 rfl rfl rfl rfl rfl (fun C => ?_)
 refine w_eq (i := 1) rfl (Wk.of_eq (K0 a1)) ?_
 refine Kh ?_
 refine p_box rfl rfl rfl rfl rfl rfl rfl (fun b1 => ?_)
 refine p_box rfl rfl rfl rfl rfl rfl rfl (fun b2 => ?_)
 refine pu ?_
 refine KL ?_
 refine K3 (d := Kx a0) 0 htab rfl rfl rfl rfl rfl rfl rfl rfl ?_
 refine pu ?_
 refine pL 1 ?_
 obtain ⟨x3, q3, hm⟩ := Kc hm
 refine KT (KbS a0 a1.gName x3 q3) rfl rfl rfl rfl rfl Wl ?_
 rintro _ rfl
 refine pu ?_
 refine Kf ?_
 refine Ko ?_
 refine Kh ?_
 refine K3 (d := Kx a0) 0 htab rfl rfl rfl rfl rfl rfl rfl rfl ?_
 refine pu ?_
 refine pL 1 ?_
 obtain ⟨x4, q4, hm⟩ := Kc hm
 refine KT (Kde a0 a1.gName x4 q4) rfl rfl rfl rfl rfl Wl ?_
 rintro _ rfl
 refine pu ?_
 refine Kf ?_
 obtain ⟨y6, q6, ho6⟩ := Kc hm
 refine KP (Y := Unit) (fun z6 => (⟨[(2, .v (.int .i64 a2)), (4, .ptr b2 0), (7, .v (.int .i64 y6))], [(b2, Blk.cells [.v (.int .i64 a1.gOp), .v (.int .i64 a1.gN), .v (.string a1.gName), .lst 5 (a1.gKids.map Kn) .no, .v (.int .i64 a1.gAt)] 89)], []⟩ : S)) ?_ ?_
 ·clear hm; have hm := Ku q6
  refine Kp rfl (fun hc7 => ?_) (fun hc7 => ?_)
  ·replace hm := yes_t hc7 hm
   refine Kr ?_
   refine pu ?_
   refine Kt ?_
   have e6 := Ki hm; subst e6
   refine ⟨rfl, ?_⟩
   exact WkX.of () (WkS.perm (WkS.cons rfl (Wk.refl _) (WkS.cons rfl (Wk.refl _) (WkS.cons rfl (Wk.refl _) (WkS.nil)))) ((K2 (j := 1) rfl).trans (List.Perm.cons _ Pf)) Pf)
  ·replace hm := yes_f hc7 hm
   refine Ks ?_
   have e6 := Ki hm; subst e6
   refine ⟨rfl, ?_⟩
   exact WkX.of () (WkS.perm (WkS.cons rfl (Wk.refl _) (WkS.cons rfl (Wk.refl _) (WkS.cons rfl (Wk.refl _) (WkS.nil)))) ((K2 (j := 1) rfl).trans (List.Perm.cons _ Pf)) Pf)
 ·intro s6 hw6; clear hm; have hm := ho6; clear q6 ho6
  refine Kd ?_
  refine KY hw6 (fun z6 => ?_)
  refine Kh ?_
  refine pu ?_
  refine pu ?_
  refine pL 0 ?_
  refine pu ?_
  refine p_lit htab rfl rfl rfl rfl rfl rfl rfl rfl rfl rfl rfl rfl rfl rfl ?_
  refine p_eq (i := 21) (d' := .lst 1 (([a2] : List Int).map eI64) .full) rfl (Wk.lst0 (.cons (WkC.refl _) (.nil))) ?_
  obtain ⟨x8, q8, hm⟩ := Kc hm
  refine KT (Ke3 y6 a1.gAt ([a2] : List Int) x8 q8) rfl rfl rfl rfl rfl (WkL.cons (Wk.refl _) (WkL.cons (Wk.refl _) (WkL.cons (Wk.no) Wl))) ?_
  rintro _ rfl
  refine KL ?_
  refine pu ?_
  refine Kf ?_
  refine KA ?_
  have er9 := Ki hm; subst er9
  refine rP (t' := [(6, .v (.int .i64 (2 : Int)))]) [] [] 0 (wC wN) (lT lN) ?_
  exact ⟨rfl, rfl, rfl⟩
noncomputable def KaI (g0 : (Kl) → (List Kq) → Option (List Int)) (g1 : (Kl) → (Kq) → Option (Int)) (a0 : Kl) (a1 : List Kq) : Option (List Int) :=
 (Option.bind (α := List Int) (loopM (fun (s23 : List Int × Int) => (bif (decide (s23.2 < (a1.length : Int))) then ((idx a1 s23.2).bind fun x38 => ((g1 a0 x38).bind fun x40 => ((app 8 s23.1 ([x40] : List Int)).bind fun x41 => some (.next (x41, (IntKind.i64.wrap (s23.2 + (1 : Int)))))))) else some (.done s23.1))) (([] : List Int), (0 : Int))) fun y22 => some y22)
theorem Kel (g0 : (Kl) → (List Kq) → Option (List Int)) (g1 : (Kl) → (Kq) → Option (Int)) (hg0 : ∀ (a0 : Kl) (a1 : List Kq) (r : List Int) (h0 : g0 a0 a1 = some r), CallsD Tryz.prog 76 [Kx a0, .lst 5 (a1.map Kn) .no] [] [] (fun d h k => ∃ y0, d = .lst 1 (r.map eI64) (.cur y0) ∧ h = [] ∧ k = [(1, y0)])) (hg1 : ∀ (a0 : Kl) (a1 : Kq) (r : Int) (h0 : g1 a0 a1 = some r), CallsD Tryz.prog 91 [Kx a0, Kn a1] [] [] (fun d h k => d = .v (.int .i64 r) ∧ h = [] ∧ k = [])) (a0 : Kl) (a1 : List Kq) (r : List Int) (h0 : KaI g0 g1 a0 a1 = some r) : CallsD Tryz.prog 76 [Kx a0, .lst 5 (a1.map Kn) .no] [] [] (fun d h k => ∃ y0, d = .lst 1 (r.map eI64) (.cur y0) ∧ h = [] ∧ k = [(1, y0)]) := by
 have hm := Ku h0
 unfold KaI at hm
 clear h0
 refine K5 htab Tryz.func76 rfl rfl rfl rfl rfl (fun C => ?_)
 refine Kh ?_
 refine p_box rfl rfl rfl rfl rfl rfl rfl (fun b1 => ?_)
 refine pu ?_
 refine KL ?_
 refine pu ?_
 refine Kf ?_
 refine Ko ?_
 refine Kh ?_
 refine pu ?_
 refine Kao htab rfl rfl rfl rfl rfl rfl rfl (by first | exact Kae | rfl) ?_
 refine pu ?_
 refine Kf ?_
 obtain ⟨y22, q22, ho22⟩ := Kc hm
 refine KP (Y := Value) (fun z22 => (⟨[(5, .lst 1 (y22.map eI64) (.cur z22))], [], [(1, z22)]⟩ : S)) ?_ ?_
 ·clear hm; have hm := Ku q22
  refine KC ?_
  obtain ⟨u23, hl23, hq23⟩ := yes_m hm
  refine KaW (Y := Value) hl23 (fun s23 z23 => (⟨[(2, .ptr b1 0), (5, .lst 1 (s23.1.map eI64) (.cur z23)), (8, .lst 5 (a1.map Kn) .no), (9, .v (.int .i64 (a1.length : Int))), (10, .v (.int .i64 s23.2))], [(b1, Blk.cells [.lst 4 (a0.gP.gGlobals.map KE) .no, .lst 5 (a0.gP.gFuncs.map KH) .no, .v (.string a0.gF.gName), .lst 2 (a0.gF.gParams.map Ke) .no, .lst 2 (a0.gF.gLocals.map Ke) .no, .lst 7 (a0.gF.gBody.map Kg) .no, .v (.int .i64 a0.gF.gAt)] 126)], [(1, z23)]⟩ : S)) ?_ ?_
  ·skip
   refine WkX.tokN (i := 5) 1 rfl (fun w36 => ?_)
   exact WkX.of w36 (WkS.perm (WkS.cons rfl (Wk.refl _) (WkS.cons rfl (Wk.refl _) (WkS.cons rfl (Wk.refl _) (WkS.cons rfl (Wk.refl _) (WkS.cons rfl (Wk.refl _) (WkS.nil)))))) Pf Pf)
  ·intro G23 s23 z23 hm
   refine Kh ?_
   refine pu ?_
   refine Kf ?_
   refine Ko ?_
   refine Kp rfl (fun hc37 => ?_) (fun hc37 => ?_)
   ·replace hm := yes_t hc37 hm
    refine Ks ?_
    refine Kd ?_
    refine Ko ?_
    refine KC ?_
    refine Kh ?_
    obtain ⟨x38, q38, hm⟩ := Kc hm
    refine KaB htab rfl rfl rfl rfl rfl rfl rfl rfl rfl rfl (KM q38) (K8 q38) ?_
    refine p_eq (i := 12) rfl (Wk.of_eq (congrArg D.el (K0 x38))) ?_
    refine Kai (d := .agg [.v (.int .i64 x38.gOp), .v (.int .i64 x38.gN), .v (.string x38.gName), .lst 5 (x38.gKids.map Kn) .no, .v (.int .i64 x38.gAt)]) htab rfl rfl rfl rfl rfl rfl rfl rfl ?_
    refine Kak htab rfl rfl rfl rfl rfl rfl rfl (fun b39 => ?_)
    refine pS1 (ds' := [.v (.int .i64 x38.gOp), .v (.int .i64 x38.gN), .v (.string x38.gName), .lst 5 (x38.gKids.map Kn) .no, .v (.int .i64 x38.gAt)]) ?_
    refine Kf ?_
    refine Kr ?_
    refine pu ?_
    refine K3 (d := Kx a0) 0 htab rfl rfl rfl rfl rfl rfl rfl rfl ?_
    refine K3 (d := .agg [.v (.int .i64 x38.gOp), .v (.int .i64 x38.gN), .v (.string x38.gName), .lst 5 (x38.gKids.map Kn) .no, .v (.int .i64 x38.gAt)]) 1 htab rfl rfl rfl rfl rfl rfl rfl rfl ?_
    obtain ⟨x40, q40, hm⟩ := Kc hm
    refine KT (hg1 a0 x38 x40 q40) rfl rfl rfl rfl rfl (WkL.cons (Wk.refl _) (WkL.cons (Wk.trans (Wk.agg (WkR.refl _)) (Wk.of_eq (K0 x38).symm)) Wl)) ?_
    rintro _ rfl
    refine p_lit htab rfl rfl rfl rfl rfl rfl rfl rfl rfl rfl rfl rfl rfl rfl ?_
    refine p_eq (i := 18) (d' := .lst 1 (([x40] : List Int).map eI64) .full) rfl (Wk.lst0 (.cons (WkC.refl _) (.nil))) ?_
    obtain ⟨x41, q41, hm⟩ := Kc hm
    refine p_appC 0 htab rfl rfl rfl rfl rfl rfl rfl rfl rfl rfl rfl rfl rfl rfl rfl rfl rfl (KbZ q41) (fun v41 => ?_)
    refine p_mapD (i := 19) q41 rfl ?_
    refine pu ?_
    refine Kt ?_
    refine Kz ?_
    refine Kd ?_
    refine Kr ?_
    refine pu ?_
    refine pu ?_
    refine Kt ?_
    refine Kd ⟨_, Kas hm, ?_⟩
    exact WkX.of v41 (WkS.perm (WkS.cons rfl (Wk.refl _) (WkS.cons rfl (Wk.refl _) (WkS.cons rfl (Wk.refl _) (WkS.cons rfl (Wk.refl _) (WkS.cons rfl (Wk.refl _) (WkS.nil)))))) Pf Pf)
   ·replace hm := yes_f hc37 hm
    refine Kal ?_
    refine KJ ?_
    have e23 := Kab hm; subst e23; clear hm; have hm := hq23
    refine KJ ?_
    refine Kaf ?_
    have e22 := Ki hm; subst e22
    refine ⟨rfl, ?_⟩
    exact WkX.of z23 (WkS.perm (WkS.cons rfl (Wk.refl _) (WkS.nil)) Pf Pf)
 ·intro s22 hw22; clear hm; have hm := ho22; clear q22 ho22
  refine Kd ?_
  refine KY hw22 (fun z22 => ?_)
  refine Kh ?_
  refine pu ?_
  refine pu ?_
  refine Kf ?_
  refine KA ?_
  have er42 := Ki hm; subst er42
  refine rP (t' := [(4, .lst 1 (y22.map eI64) (.cur z22))]) [] [0] 0 (wC wN) (lT lN) ?_
  exact ⟨z22, rfl, rfl, rfl⟩
noncomputable def KaJ (g0 : (Kl) → (List Kq) → Option (List Int)) (g1 : (Kl) → (Kq) → Option (Int)) (a0 : Kl) (a1 : Kq) : Option (Int) :=
 ((Kdd a1.gOp).bind fun x3 => (Option.bind (α := Bool) (bif (decide (x3 < (0 : Int))) then some true else some ((a1.gKids.length : Int) != x3)) fun y5 => (Option.bind (α := Unit) (bif y5 then ((KaO a1.gAt (2 : Int)).bind fun x11 => some ()) else some ()) fun y9 => ((g0 a0 a1.gKids).bind fun x13 => (Option.bind (α := Bool) (bif (a1.gOp == (14 : Int)) then some true else some (a1.gOp == (15 : Int))) fun y15 => (bif y15 then ((idx x13 (0 : Int)).bind fun x24 => ((idx x13 (1 : Int)).bind fun x25 => (Option.bind (α := Unit) (bif (x24 != x25) then ((idx a1.gKids (1 : Int)).bind fun x31 => ((KaO x31.gAt (9 : Int)).bind fun x32 => some ())) else some ()) fun y29 => some (1 : Int)))) else (Option.bind (α := Unit) (loopM (fun (s54 : Int) => (bif (decide (s54 < (a1.gKids.length : Int))) then ((idx a1.gKids s54).bind fun x68 => ((idx x13 s54).bind fun x70 => ((Ka9 x68 x70).bind fun x71 => some (.next (IntKind.i64.wrap (s54 + (1 : Int))))))) else some (.done ()))) (0 : Int)) fun y53 => (bif (a1.gOp == (2 : Int)) then ((Kap a0 a1.gName a1.gAt ([(1 : Int), (2 : Int)] : List Int)).bind fun x73 => some x73) else (bif (a1.gOp == (3 : Int)) then ((Kap a0 a1.gName a1.gAt ([(3 : Int)] : List Int)).bind fun x76 => some (1 : Int)) else (bif (a1.gOp == (4 : Int)) then ((Kap a0 a1.gName a1.gAt ([(2 : Int)] : List Int)).bind fun x79 => some (1 : Int)) else (bif (a1.gOp == (18 : Int)) then some (2 : Int) else (bif (a1.gOp == (19 : Int)) then ((Ka7 a0 a1 (1 : Int)).bind fun x84 => some x84) else (bif (a1.gOp == (20 : Int)) then ((Ka7 a0 a1 (3 : Int)).bind fun x87 => some x87) else some (1 : Int))))))))))))))
theorem Kem (g0 : (Kl) → (List Kq) → Option (List Int)) (g1 : (Kl) → (Kq) → Option (Int)) (hg0 : ∀ (a0 : Kl) (a1 : List Kq) (r : List Int) (h0 : g0 a0 a1 = some r), CallsD Tryz.prog 76 [Kx a0, .lst 5 (a1.map Kn) .no] [] [] (fun d h k => ∃ y0, d = .lst 1 (r.map eI64) (.cur y0) ∧ h = [] ∧ k = [(1, y0)])) (hg1 : ∀ (a0 : Kl) (a1 : Kq) (r : Int) (h0 : g1 a0 a1 = some r), CallsD Tryz.prog 91 [Kx a0, Kn a1] [] [] (fun d h k => d = .v (.int .i64 r) ∧ h = [] ∧ k = [])) (a0 : Kl) (a1 : Kq) (r : Int) (h0 : KaJ g0 g1 a0 a1 = some r) : CallsD Tryz.prog 91 [Kx a0, Kn a1] [] [] (fun d h k => d = .v (.int .i64 r) ∧ h = [] ∧ k = []) := by
 have hm := Ku h0
 unfold KaJ at hm
 clear h0
 refine K5 htab Tryz.func91 rfl rfl rfl rfl rfl (fun C => ?_)
 refine w_eq (i := 1) rfl (Wk.of_eq (K0 a1)) ?_
 refine Kh ?_
 refine p_box rfl rfl rfl rfl rfl rfl rfl (fun b1 => ?_)
 refine p_box rfl rfl rfl rfl rfl rfl rfl (fun b2 => ?_)
 refine pu ?_
 refine Kf ?_
 refine Ko ?_
 refine Kh ?_
 refine pu ?_
 refine pL 1 ?_
 obtain ⟨x3, q3, hm⟩ := Kc hm
 refine KT (KgQ a1.gOp x3 q3) rfl rfl rfl rfl rfl Wl ?_
 rintro _ rfl
 refine pu ?_
 refine Kf ?_
 refine Ko ?_
 obtain ⟨y5, q5, ho5⟩ := Kc hm
 refine KP (Y := Unit) (fun z5 => (⟨[(2, .ptr b1 0), (3, .ptr b2 0), (20, .v (.bool y5))], [(b1, Blk.cells [.lst 4 (a0.gP.gGlobals.map KE) .no, .lst 5 (a0.gP.gFuncs.map KH) .no, .v (.string a0.gF.gName), .lst 2 (a0.gF.gParams.map Ke) .no, .lst 2 (a0.gF.gLocals.map Ke) .no, .lst 7 (a0.gF.gBody.map Kg) .no, .v (.int .i64 a0.gF.gAt)] 126), (b2, Blk.cells [.v (.int .i64 a1.gOp), .v (.int .i64 a1.gN), .v (.string a1.gName), .lst 5 (a1.gKids.map Kn) .no, .v (.int .i64 a1.gAt)] 89)], []⟩ : S)) ?_ ?_
 ·clear hm; have hm := Ku q5
  refine Kr ?_
  iterate 3 refine pu ?_
  refine KbR (i := 14) rfl (fun hg6 => ?_) (fun hg6 => ?_)
  ·replace hm := yes_t hg6 hm
   iterate 5 refine pK ?_
   refine KbP rfl rfl rfl rfl rfl rfl ?_
   refine Kt ?_
   have e5 := Ki hm; subst e5
   refine ⟨rfl, ?_⟩
   exact WkX.of () (WkS.perm (WkS.cons rfl (Wk.refl _) (WkS.cons rfl (Wk.refl _) (WkS.cons rfl (Wk.refl _) (WkS.nil)))) Pf Pf)
  ·replace hm := yes_f hg6 hm
   refine pu ?_
   refine pL 1 ?_
   refine Kao htab rfl rfl rfl rfl rfl rfl rfl (by first | exact Kae | rfl) ?_
   refine pu ?_
   refine pu ?_
   refine KbQ rfl rfl rfl rfl rfl rfl ?_
   refine Kt ?_
   have e5 := Ki hm; subst e5
   refine ⟨rfl, ?_⟩
   exact WkX.of () (WkS.perm (WkS.cons rfl (Wk.refl _) (WkS.cons rfl (Wk.refl _) (WkS.cons rfl (Wk.refl _) (WkS.nil)))) Pf Pf)
 ·intro s5 hw5; clear hm; have hm := ho5; clear q5 ho5
  refine Kd ?_
  refine KY hw5 (fun z5 => ?_)
  obtain ⟨y9, q9, ho9⟩ := Kc hm
  refine KP (Y := Unit) (fun z9 => (⟨[(2, .ptr b1 0), (3, .ptr b2 0)], [(b1, Blk.cells [.lst 4 (a0.gP.gGlobals.map KE) .no, .lst 5 (a0.gP.gFuncs.map KH) .no, .v (.string a0.gF.gName), .lst 2 (a0.gF.gParams.map Ke) .no, .lst 2 (a0.gF.gLocals.map Ke) .no, .lst 7 (a0.gF.gBody.map Kg) .no, .v (.int .i64 a0.gF.gAt)] 126), (b2, Blk.cells [.v (.int .i64 a1.gOp), .v (.int .i64 a1.gN), .v (.string a1.gName), .lst 5 (a1.gKids.map Kn) .no, .v (.int .i64 a1.gAt)] 89)], []⟩ : S)) ?_ ?_
  ·clear hm; have hm := Ku q9
   refine Kp rfl (fun hc10 => ?_) (fun hc10 => ?_)
   ·replace hm := yes_t hc10 hm
    refine Kr ?_
    refine pu ?_
    refine pL 1 ?_
    obtain ⟨x11, q11, hm⟩ := Kc hm
    refine KT (KaQ a1.gAt (2 : Int) x11 q11) rfl rfl rfl rfl rfl Wl ?_
    rintro _ rfl
    refine Kt ?_
    have e9 := Ki hm; subst e9
    refine ⟨rfl, ?_⟩
    exact WkX.of () (WkS.perm (WkS.cons rfl (Wk.refl _) (WkS.cons rfl (Wk.refl _) (WkS.nil))) Pf Pf)
   ·replace hm := yes_f hc10 hm
    refine Ks ?_
    have e9 := Ki hm; subst e9
    refine ⟨rfl, ?_⟩
    exact WkX.of () (WkS.perm (WkS.cons rfl (Wk.refl _) (WkS.cons rfl (Wk.refl _) (WkS.nil))) Pf Pf)
  ·intro s9 hw9; clear hm; have hm := ho9; clear q9 ho9
   refine Kd ?_
   refine KY hw9 (fun z9 => ?_)
   refine Kh ?_
   refine K3 (d := Kx a0) 0 htab rfl rfl rfl rfl rfl rfl rfl rfl ?_
   refine pu ?_
   refine pL 1 ?_
   obtain ⟨x13, q13, hm⟩ := Kc hm
   refine pG (hg0 a0 a1.gKids x13 q13) Wl Pf Pf ?_
   rintro _ _ _ ⟨w12, rfl, rfl, rfl⟩
   refine pu ?_
   refine Kf ?_
   refine Ko ?_
   refine Ko ?_
   obtain ⟨y15, q15, ho15⟩ := Kc hm
   refine KP (Y := Unit) (fun z15 => (⟨[(2, .ptr b1 0), (3, .ptr b2 0), (6, .lst 1 (x13.map eI64) (.cur w12)), (35, .v (.bool y15))], [(b1, Blk.cells [.lst 4 (a0.gP.gGlobals.map KE) .no, .lst 5 (a0.gP.gFuncs.map KH) .no, .v (.string a0.gF.gName), .lst 2 (a0.gF.gParams.map Ke) .no, .lst 2 (a0.gF.gLocals.map Ke) .no, .lst 7 (a0.gF.gBody.map Kg) .no, .v (.int .i64 a0.gF.gAt)] 126), (b2, Blk.cells [.v (.int .i64 a1.gOp), .v (.int .i64 a1.gN), .v (.string a1.gName), .lst 5 (a1.gKids.map Kn) .no, .v (.int .i64 a1.gAt)] 89)], [(1, w12)]⟩ : S)) ?_ ?_
   ·clear hm; have hm := Ku q15
    refine Kr ?_
    refine pu ?_
    refine pL 1 ?_
    refine pu ?_
    refine pu ?_
    refine KbR (i := 31) rfl (fun hg16 => ?_) (fun hg16 => ?_)
    ·replace hm := yes_t hg16 hm
     iterate 3 refine pK ?_
     refine KbP rfl rfl rfl rfl rfl rfl ?_
     refine Kt ?_
     have e15 := Ki hm; subst e15
     refine ⟨rfl, ?_⟩
     exact WkX.of () (WkS.perm (WkS.cons rfl (Wk.refl _) (WkS.cons rfl (Wk.refl _) (WkS.cons rfl (Wk.refl _) (WkS.cons rfl (Wk.refl _) (WkS.nil))))) Pf Pf)
    ·replace hm := yes_f hg16 hm
     refine pu ?_
     refine pL 1 ?_
     refine pu ?_
     refine KbQ rfl rfl rfl rfl rfl rfl ?_
     refine Kt ?_
     have e15 := Ki hm; subst e15
     refine ⟨rfl, ?_⟩
     exact WkX.of () (WkS.perm (WkS.cons rfl (Wk.refl _) (WkS.cons rfl (Wk.refl _) (WkS.cons rfl (Wk.refl _) (WkS.cons rfl (Wk.refl _) (WkS.nil))))) Pf Pf)
   ·intro s15 hw15; clear hm; have hm := ho15; clear q15 ho15
    refine Kd ?_
    refine KY hw15 (fun z15 => ?_)
    refine Kp rfl (fun hc23 => ?_) (fun hc23 => ?_)
    ·replace hm := yes_t hc23 hm
     refine Ko ?_
     refine Ko ?_
     obtain ⟨x24, q24, hm⟩ := Kc hm
     obtain ⟨x25, q25, hm⟩ := Kc hm
     refine Kax 6 [] [[],[0],[0,1],[],[3],[3,4]] [0,1,3,4] [[],[0],[0,1],[],[3],[3,4],[0,1,2,3,4,5]] (by kernel_rfl) (by kernel_rfl) (by kernel_rfl) (by rfl) (by rfl) (by kernel_rfl) ?_
     iterate 4 apply Exists.intro
     intro bs
     refine zep ?_
     refine z_e rfl rfl (KbK htab rfl rfl rfl rfl rfl rfl rfl (KM q24) (K8 q24)) rfl rfl rfl rfl rfl rfl ?_
     refine z_qM rfl rfl (Kba htab rfl rfl rfl rfl rfl) rfl rfl rfl rfl rfl rfl ?_
     refine zep ?_
     refine z_e rfl rfl (KbK htab rfl rfl rfl rfl rfl rfl rfl (KM q25) (K8 q25)) rfl rfl rfl rfl rfl rfl ?_
     refine z_qM rfl rfl (Kba htab rfl rfl rfl rfl rfl) rfl rfl rfl rfl rfl rfl ?_
     refine z_nil rfl rfl (fun e he => by simp [isAl] at he) ?_
     refine pu ?_
     refine Kf ?_
     obtain ⟨y29, q29, ho29⟩ := Kc hm
     refine KP (Y := Unit) (fun z29 => (⟨[], [], []⟩ : S)) ?_ ?_
     ·clear hm; have hm := Ku q29
      refine Kp rfl (fun hc30 => ?_) (fun hc30 => ?_)
      ·replace hm := yes_t hc30 hm
       refine Kr ?_
       refine pu ?_
       refine pL 1 ?_
       obtain ⟨x31, q31, hm⟩ := Kc hm
       refine KaB htab rfl rfl rfl rfl rfl rfl rfl rfl rfl rfl (KM q31) (K8 q31) ?_
       refine p_eq (i := 45) rfl (Wk.of_eq (congrArg D.el (K0 x31))) ?_
       refine pu ?_
       refine Kai htab rfl rfl rfl rfl rfl rfl rfl rfl ?_
       obtain ⟨x32, q32, hm⟩ := Kc hm
       refine KT (KaQ x31.gAt (9 : Int) x32 q32) rfl rfl rfl rfl rfl Wl ?_
       rintro _ rfl
       refine Kt ?_
       have e29 := Ki hm; subst e29
       refine ⟨rfl, ?_⟩
       exact WkX.of () (WkS.perm (WkS.nil) Pf Pf)
      ·replace hm := yes_f hc30 hm
       refine Ks ?_
       have e29 := Ki hm; subst e29
       refine ⟨rfl, ?_⟩
       exact WkX.of () (WkS.perm (WkS.nil) Pf Pf)
     ·intro s29 hw29; clear hm; have hm := ho29; clear q29 ho29
      refine Kd ?_
      refine KY hw29 (fun z29 => ?_)
      refine Kh ?_
      refine pu ?_
      refine Kf ?_
      refine KA ?_
      refine KB ?_
      have er33 := Ki hm; subst er33
      refine rP (t' := [(4, .v (.int .i64 (1 : Int)))]) [] [] 0 (wC wN) (lT lN) ?_
      exact ⟨rfl, rfl, rfl⟩
    ·replace hm := yes_f hc23 hm
     refine Ks ?_
     refine Kd ?_
     refine Ko ?_
     refine Kh ?_
     refine pu ?_
     refine pL 1 ?_
     refine Kao htab rfl rfl rfl rfl rfl rfl rfl (by first | exact Kae | rfl) ?_
     refine pu ?_
     refine Kf ?_
     obtain ⟨y53, q53, ho53⟩ := Kc hm
     refine KP (Y := Unit) (fun z53 => (⟨[(2, .ptr b1 0), (3, .ptr b2 0)], [(b1, Blk.cells [.lst 4 (a0.gP.gGlobals.map KE) .no, .lst 5 (a0.gP.gFuncs.map KH) .no, .v (.string a0.gF.gName), .lst 2 (a0.gF.gParams.map Ke) .no, .lst 2 (a0.gF.gLocals.map Ke) .no, .lst 7 (a0.gF.gBody.map Kg) .no, .v (.int .i64 a0.gF.gAt)] 126), (b2, Blk.cells [.v (.int .i64 a1.gOp), .v (.int .i64 a1.gN), .v (.string a1.gName), .lst 5 (a1.gKids.map Kn) .no, .v (.int .i64 a1.gAt)] 89)], []⟩ : S)) ?_ ?_
     ·clear hm; have hm := Ku q53
      refine KC ?_
      obtain ⟨u54, hl54, hq54⟩ := yes_m hm
      refine KaW (Y := Unit) hl54 (fun s54 z54 => (⟨[(2, .ptr b1 0), (3, .ptr b2 0), (6, .lst 1 (x13.map eI64) (.cur w12)), (50, .lst 5 (a1.gKids.map Kn) .no), (51, .v (.int .i64 (a1.gKids.length : Int))), (52, .v (.int .i64 s54))], [(b1, Blk.cells [.lst 4 (a0.gP.gGlobals.map KE) .no, .lst 5 (a0.gP.gFuncs.map KH) .no, .v (.string a0.gF.gName), .lst 2 (a0.gF.gParams.map Ke) .no, .lst 2 (a0.gF.gLocals.map Ke) .no, .lst 7 (a0.gF.gBody.map Kg) .no, .v (.int .i64 a0.gF.gAt)] 126), (b2, Blk.cells [.v (.int .i64 a1.gOp), .v (.int .i64 a1.gN), .v (.string a1.gName), .lst 5 (a1.gKids.map Kn) .no, .v (.int .i64 a1.gAt)] 89)], [(1, w12)]⟩ : S)) ?_ ?_
      ·skip
       exact WkX.of () (WkS.perm (WkS.cons rfl (Wk.refl _) (WkS.cons rfl (Wk.refl _) (WkS.cons rfl (Wk.refl _) (WkS.cons rfl (Wk.refl _) (WkS.cons rfl (Wk.refl _) (WkS.cons rfl (Wk.refl _) (WkS.nil))))))) Pf Pf)
      ·intro G54 s54 z54 hm
       refine Kh ?_
       refine pu ?_
       refine Kf ?_
       refine Ko ?_
       refine Kp rfl (fun hc67 => ?_) (fun hc67 => ?_)
       ·replace hm := yes_t hc67 hm
        refine Ks ?_
        refine Kd ?_
        refine Ko ?_
        refine KC ?_
        refine Kh ?_
        refine pu ?_
        obtain ⟨x68, q68, hm⟩ := Kc hm
        refine KaB htab rfl rfl rfl rfl rfl rfl rfl rfl rfl rfl (KM q68) (K8 q68) ?_
        refine p_eq (i := 55) rfl (Wk.of_eq (congrArg D.el (K0 x68))) ?_
        refine Kai (d := .agg [.v (.int .i64 x68.gOp), .v (.int .i64 x68.gN), .v (.string x68.gName), .lst 5 (x68.gKids.map Kn) .no, .v (.int .i64 x68.gAt)]) htab rfl rfl rfl rfl rfl rfl rfl rfl ?_
        refine Kak htab rfl rfl rfl rfl rfl rfl rfl (fun b69 => ?_)
        refine pu ?_
        refine pS2 (ds' := [.v (.int .i64 x68.gOp), .v (.int .i64 x68.gN), .v (.string x68.gName), .lst 5 (x68.gKids.map Kn) .no, .v (.int .i64 x68.gAt)]) ?_
        refine Kf ?_
        obtain ⟨x70, q70, hm⟩ := Kc hm
        refine Kax 5 [] [[],[],[],[1],[1,3]] [0,1,3] [[],[],[],[1,2],[1,2,3],[0,1,2,3,4]] (by kernel_rfl) (by kernel_rfl) (by kernel_rfl) (by rfl) (by rfl) (by kernel_rfl) ?_
        iterate 3 apply Exists.intro
        intro bs
        refine z_eM rfl rfl (KX (d := .agg [.v (.int .i64 x68.gOp), .v (.int .i64 x68.gN), .v (.string x68.gName), .lst 5 (x68.gKids.map Kn) .no, .v (.int .i64 x68.gAt)]) 2 htab rfl rfl rfl rfl rfl) rfl rfl rfl rfl rfl rfl ?_
        refine zep ?_
        refine zqp ?_
        refine z_e rfl rfl (KbK htab rfl rfl rfl rfl rfl rfl rfl (KM q70) (K8 q70)) rfl rfl rfl rfl rfl rfl ?_
        refine z_qM rfl rfl (Kba htab rfl rfl rfl rfl rfl) rfl rfl rfl rfl rfl rfl ?_
        refine z_nil rfl rfl (fun e he => by simp [isAl] at he) ?_
        obtain ⟨x71, q71, hm⟩ := Kc hm
        refine KT (KbC x68 x70 x71 q71) rfl rfl rfl rfl rfl (WkL.cons (Wk.trans (Wk.agg (WkR.refl _)) (Wk.of_eq (K0 x68).symm)) (WkL.cons (Wk.refl _) Wl)) ?_
        rintro _ rfl
        refine Kt ?_
        refine Kz ?_
        refine Kd ?_
        refine Kr ?_
        refine pu ?_
        refine pu ?_
        refine Kt ?_
        refine Kd ⟨_, Kas hm, ?_⟩
        exact WkX.of () (WkS.perm (WkS.cons rfl (Wk.refl _) (WkS.cons rfl (Wk.refl _) (WkS.cons rfl (Wk.refl _) (WkS.cons rfl (Wk.refl _) (WkS.cons rfl (Wk.refl _) (WkS.cons rfl (Wk.refl _) (WkS.nil))))))) Pf Pf)
       ·replace hm := yes_f hc67 hm
        refine Kal ?_
        refine KJ ?_
        have e54 := Kab hm; subst e54; clear hm; have hm := hq54
        refine KJ ?_
        refine Kaf ?_
        have e53 := Ki hm; subst e53
        refine ⟨rfl, ?_⟩
        exact WkX.of () (WkS.perm (WkS.cons rfl (Wk.refl _) (WkS.cons rfl (Wk.refl _) (WkS.nil))) Pf Pf)
     ·intro s53 hw53; clear hm; have hm := ho53; clear q53 ho53
      refine Kd ?_
      refine KY hw53 (fun z53 => ?_)
      refine Ko ?_
      refine Kh ?_
      refine pu ?_
      refine pL 1 ?_
      refine Kf ?_
      refine KC ?_
      refine Kh ?_
      refine pu ?_
      refine pu ?_
      refine Kf ?_
      refine Kp rfl (fun hc72 => ?_) (fun hc72 => ?_)
      ·replace hm := yes_t hc72 hm
       refine Kh ?_
       refine K3 (d := Kx a0) 0 htab rfl rfl rfl rfl rfl rfl rfl rfl ?_
       refine pu ?_
       refine pL 1 ?_
       refine pu ?_
       refine pL 1 ?_
       refine p_lit htab rfl rfl rfl rfl rfl rfl rfl rfl rfl rfl rfl rfl rfl rfl ?_
       refine p_eq (i := 73) (d' := .lst 1 (([(1 : Int), (2 : Int)] : List Int).map eI64) .full) rfl (Wk.lst0 (.cons (WkC.refl _) (.cons (WkC.refl _) (.nil)))) ?_
       obtain ⟨x73, q73, hm⟩ := Kc hm
       refine KT (Kay a0 a1.gName a1.gAt ([(1 : Int), (2 : Int)] : List Int) x73 q73) rfl rfl rfl rfl rfl (WkL.cons (Wk.refl _) (WkL.cons (Wk.refl _) (WkL.cons (Wk.refl _) (WkL.cons (Wk.no) Wl)))) ?_
       rintro _ rfl
       refine pu ?_
       refine Kf ?_
       refine KA ?_
       refine KW ?_
       refine KB ?_
       have er74 := Ki hm; subst er74
       refine rP (t' := [(4, .v (.int .i64 x73))]) [] [] 0 (wC wN) (lT lN) ?_
       exact ⟨rfl, rfl, rfl⟩
      ·replace hm := yes_f hc72 hm
       refine Kh ?_
       refine pu ?_
       refine pu ?_
       refine Kf ?_
       refine Kp rfl (fun hc75 => ?_) (fun hc75 => ?_)
       ·replace hm := yes_t hc75 hm
        refine Kr ?_
        refine K3 (d := Kx a0) 0 htab rfl rfl rfl rfl rfl rfl rfl rfl ?_
        refine pu ?_
        refine pL 1 ?_
        refine pu ?_
        refine pL 1 ?_
        refine p_lit htab rfl rfl rfl rfl rfl rfl rfl rfl rfl rfl rfl rfl rfl rfl ?_
        refine p_eq (i := 82) (d' := .lst 1 (([(3 : Int)] : List Int).map eI64) .full) rfl (Wk.lst0 (.cons (WkC.refl _) (.nil))) ?_
        obtain ⟨x76, q76, hm⟩ := Kc hm
        refine KT (Kay a0 a1.gName a1.gAt ([(3 : Int)] : List Int) x76 q76) rfl rfl rfl rfl rfl (WkL.cons (Wk.refl _) (WkL.cons (Wk.refl _) (WkL.cons (Wk.refl _) (WkL.cons (Wk.no) Wl)))) ?_
        rintro _ rfl
        refine Kt ?_
        refine Kz ?_
        refine Kd ?_
        refine Kh ?_
        refine pu ?_
        refine Kf ?_
        refine KA ?_
        have er77 := Ki hm; subst er77
        refine rP (t' := [(4, .v (.int .i64 (1 : Int)))]) [] [] 0 (wC wN) (lT lN) ?_
        exact ⟨rfl, rfl, rfl⟩
       ·replace hm := yes_f hc75 hm
        refine Kh ?_
        refine pu ?_
        refine pu ?_
        refine Kf ?_
        refine Kp rfl (fun hc78 => ?_) (fun hc78 => ?_)
        ·replace hm := yes_t hc78 hm
         refine Kr ?_
         refine K3 (d := Kx a0) 0 htab rfl rfl rfl rfl rfl rfl rfl rfl ?_
         refine pu ?_
         refine pL 1 ?_
         refine pu ?_
         refine pL 1 ?_
         refine p_lit htab rfl rfl rfl rfl rfl rfl rfl rfl rfl rfl rfl rfl rfl rfl ?_
         refine p_eq (i := 91) (d' := .lst 1 (([(2 : Int)] : List Int).map eI64) .full) rfl (Wk.lst0 (.cons (WkC.refl _) (.nil))) ?_
         obtain ⟨x79, q79, hm⟩ := Kc hm
         refine KT (Kay a0 a1.gName a1.gAt ([(2 : Int)] : List Int) x79 q79) rfl rfl rfl rfl rfl (WkL.cons (Wk.refl _) (WkL.cons (Wk.refl _) (WkL.cons (Wk.refl _) (WkL.cons (Wk.no) Wl)))) ?_
         rintro _ rfl
         refine Kt ?_
         refine Kz ?_
         refine Kd ?_
         refine Kh ?_
         refine pu ?_
         refine Kf ?_
         refine KA ?_
         have er80 := Ki hm; subst er80
         refine rP (t' := [(4, .v (.int .i64 (1 : Int)))]) [] [] 0 (wC wN) (lT lN) ?_
         exact ⟨rfl, rfl, rfl⟩
        ·replace hm := yes_f hc78 hm
         refine Kh ?_
         refine pu ?_
         refine pu ?_
         refine Kf ?_
         refine Kp rfl (fun hc81 => ?_) (fun hc81 => ?_)
         ·replace hm := yes_t hc81 hm
          refine Kh ?_
          refine pu ?_
          refine Kf ?_
          refine KA ?_
          refine KW ?_
          refine KB ?_
          have er82 := Ki hm; subst er82
          refine rP (t' := [(4, .v (.int .i64 (2 : Int)))]) [] [] 0 (wC wN) (lT lN) ?_
          exact ⟨rfl, rfl, rfl⟩
         ·replace hm := yes_f hc81 hm
          refine Kh ?_
          refine pu ?_
          refine pu ?_
          refine Kf ?_
          refine Kp rfl (fun hc83 => ?_) (fun hc83 => ?_)
          ·replace hm := yes_t hc83 hm
           refine Kh ?_
           refine K3 (d := Kx a0) 0 htab rfl rfl rfl rfl rfl rfl rfl rfl ?_
           refine K3 (d := .agg [.v (.int .i64 a1.gOp), .v (.int .i64 a1.gN), .v (.string a1.gName), .lst 5 (a1.gKids.map Kn) .no, .v (.int .i64 a1.gAt)]) 1 htab rfl rfl rfl rfl rfl rfl rfl rfl ?_
           obtain ⟨x84, q84, hm⟩ := Kc hm
           refine KT (KcG a0 a1 (1 : Int) x84 q84) rfl rfl rfl rfl rfl (WkL.cons (Wk.refl _) (WkL.cons (Wk.trans (Wk.agg (WkR.refl _)) (Wk.of_eq (K0 a1).symm)) (WkL.cons (Wk.refl _) Wl))) ?_
           rintro _ rfl
           refine pu ?_
           refine Kf ?_
           refine KA ?_
           refine KW ?_
           refine KB ?_
           have er85 := Ki hm; subst er85
           refine rP (t' := [(4, .v (.int .i64 x84))]) [] [] 0 (wC wN) (lT lN) ?_
           exact ⟨rfl, rfl, rfl⟩
          ·replace hm := yes_f hc83 hm
           refine Kh ?_
           refine pu ?_
           refine pu ?_
           refine Kf ?_
           refine Kp rfl (fun hc86 => ?_) (fun hc86 => ?_)
           ·replace hm := yes_t hc86 hm
            refine Kh ?_
            refine K3 (d := Kx a0) 0 htab rfl rfl rfl rfl rfl rfl rfl rfl ?_
            refine K3 (d := .agg [.v (.int .i64 a1.gOp), .v (.int .i64 a1.gN), .v (.string a1.gName), .lst 5 (a1.gKids.map Kn) .no, .v (.int .i64 a1.gAt)]) 1 htab rfl rfl rfl rfl rfl rfl rfl rfl ?_
            obtain ⟨x87, q87, hm⟩ := Kc hm
            refine KT (KcG a0 a1 (3 : Int) x87 q87) rfl rfl rfl rfl rfl (WkL.cons (Wk.refl _) (WkL.cons (Wk.trans (Wk.agg (WkR.refl _)) (Wk.of_eq (K0 a1).symm)) (WkL.cons (Wk.refl _) Wl))) ?_
            rintro _ rfl
            refine pu ?_
            refine Kf ?_
            refine KA ?_
            refine KW ?_
            refine KB ?_
            have er88 := Ki hm; subst er88
            refine rP (t' := [(4, .v (.int .i64 x87))]) [] [] 0 (wC wN) (lT lN) ?_
            exact ⟨rfl, rfl, rfl⟩
           ·replace hm := yes_f hc86 hm
            refine Ks ?_
            refine Kz ?_
            refine Kd ?_
            refine Kh ?_
            refine pu ?_
            refine Kf ?_
            refine KA ?_
            have er89 := Ki hm; subst er89
            refine rP (t' := [(4, .v (.int .i64 (1 : Int)))]) [] [] 0 (wC wN) (lT lN) ?_
            exact ⟨rfl, rfl, rfl⟩
noncomputable def KI : Nat → ((Kl) → (List Kq) → Option (List Int)) × ((Kl) → (Kq) → Option (Int))
 | 0 => (fun _ _ => none, fun _ _ => none)
 | n + 1 => (KaI ((KI n).1) ((KI n).2), KaJ ((KI n).1) ((KI n).2))
theorem KcZ : ∀ n, (∀ (a0 : Kl) (a1 : List Kq) (r : List Int) (h0 : (KI n).1 a0 a1 = some r), CallsD Tryz.prog 76 [Kx a0, .lst 5 (a1.map Kn) .no] [] [] (fun d h k => ∃ y0, d = .lst 1 (r.map eI64) (.cur y0) ∧ h = [] ∧ k = [(1, y0)])) ∧ (∀ (a0 : Kl) (a1 : Kq) (r : Int) (h0 : (KI n).2 a0 a1 = some r), CallsD Tryz.prog 91 [Kx a0, Kn a1] [] [] (fun d h k => d = .v (.int .i64 r) ∧ h = [] ∧ k = []))
  | 0 => ⟨(fun _ _ _ h0 => by cases h0), (fun _ _ _ h0 => by cases h0)⟩
  | n + 1 => by
    have ih := KcZ n
    exact ⟨Kel ((KI n).1) ((KI n).2) (ih.1) (ih.2), Kem ((KI n).1) ((KI n).2) (ih.1) (ih.2)⟩
theorem Kc0 : ∀ n, (∀ (a0 : Kl) (a1 : List Kq), Le ((KI n).1 a0 a1) ((KI (n + 1)).1 a0 a1)) ∧ (∀ (a0 : Kl) (a1 : Kq), Le ((KI n).2 a0 a1) ((KI (n + 1)).2 a0 a1))
  | 0 => ⟨fun _ _ => Le.none _, fun _ _ => Le.none _⟩
  | n + 1 => by
    have ih := Kc0 n
    exact ⟨fun a0 a1 => by show Le (KaI ((KI n).1) ((KI n).2) a0 a1) (KaI ((KI (n + 1)).1) ((KI (n + 1)).2) a0 a1); unfold KaI; repeat (first | exact Le.refl _ | exact ih.1 _ _ | exact ih.2 _ _ | assumption | (refine Le.bind ?_ (fun _ => ?_)) | (refine Le.cond ?_ ?_) | (refine Le.loop (fun _ => ?_)) | (refine Le.elim (fun _ => ?_) (fun _ => ?_))), fun a0 a1 => by show Le (KaJ ((KI n).1) ((KI n).2) a0 a1) (KaJ ((KI (n + 1)).1) ((KI (n + 1)).2) a0 a1); unfold KaJ; repeat (first | exact Le.refl _ | exact ih.1 _ _ | exact ih.2 _ _ | assumption | (refine Le.bind ?_ (fun _ => ?_)) | (refine Le.cond ?_ ?_) | (refine Le.loop (fun _ => ?_)) | (refine Le.elim (fun _ => ?_) (fun _ => ?_)))⟩
noncomputable def Kb2 (a0 : Kl) (a1 : List Kq) : Option (List Int) := anyN fun n => (KI n).1 a0 a1
theorem Ke6 (a0 : Kl) (a1 : List Kq) {r : List Int} (n : Nat) (h : (KI n).1 a0 a1 = some r) : Kb2 a0 a1 = some r := anyN_of (fun m => (Kc0 m).1 a0 a1) h
theorem Ke7 (a0 : Kl) (a1 : List Kq) (r : List Int) (h0 : Kb2 a0 a1 = some r) : CallsD Tryz.prog 76 [Kx a0, .lst 5 (a1.map Kn) .no] [] [] (fun d h k => ∃ y0, d = .lst 1 (r.map eI64) (.cur y0) ∧ h = [] ∧ k = [(1, y0)]) :=
 let ⟨n, hn⟩ := KfU h0; (KcZ n).1 a0 a1  r hn
noncomputable def KbD (a0 : Kl) (a1 : Kb) (a2 : List Int) : Option (Unit) :=
 (Option.bind (α := (Unit) ⊕ (Unit)) (loopM (fun (s208 : Int) => (bif (decide (s208 < (a0.gP.gFuncs.length : Int))) then ((idx a0.gP.gFuncs s208).bind fun x344 => (bif (!decide (x344.gName = a1.gFunc)) then some (.next (IntKind.i64.wrap (s208 + (1 : Int)))) else (Option.bind (α := Unit) (bif ((x344.gParams.length : Int) != (a2.length : Int)) then ((KaO a1.gAt (2 : Int)).bind fun x351 => some ()) else some ()) fun y349 => (Option.bind (α := Unit) (loopM (fun (s380 : Int) => (bif (decide (s380 < (x344.gParams.length : Int))) then ((idx x344.gParams s380).bind fun x400 => ((KbB x400.gPtr).bind fun x402 => ((idx a2 s380).bind fun x403 => (bif (x402 != x403) then ((idx a1.gExps s380).bind fun x405 => ((KaO x405.gAt (9 : Int)).bind fun x406 => some (.next (IntKind.i64.wrap (s380 + (1 : Int)))))) else some (.next (IntKind.i64.wrap (s380 + (1 : Int)))))))) else some (.done ()))) (0 : Int)) fun y379 => (bif (!decide (a1.gName = (ByteArray.mk #[]))) then ((Kap a0 a1.gName a1.gAt ([(1 : Int)] : List Int)).bind fun x408 => some (.done (.inr ()))) else some (.done (.inr ()))))))) else some (.done (.inl ())))) (0 : Int)) (Sum.elim (fun y207 => ((KaO a1.gAt (7 : Int)).bind fun x411 => some ())) (fun r => some r)))
theorem Ke8 (a0 : Kl) (a1 : Kb) (a2 : List Int) (r : Unit) (h0 : KbD a0 a1 a2 = some r) : CallsD Tryz.prog 79 [Kx a0, Kg a1, .lst 1 (a2.map eI64) .no] [] [] (fun d h k => d = .tup [] ∧ h = [] ∧ k = []) := by
 have hm := Ku h0
 unfold KbD at hm
 clear h0
 refine K5 htab Tryz.func79 rfl rfl rfl rfl rfl (fun C => ?_)
 refine w_eq (i := 1) rfl (Wk.of_eq (Kw a1)) ?_
 refine Kh ?_
 refine p_box rfl rfl rfl rfl rfl rfl rfl (fun b1 => ?_)
 refine p_box rfl rfl rfl rfl rfl rfl rfl (fun b2 => ?_)
 refine Kf ?_
 refine Ko ?_
 refine Kh ?_
 refine pu ?_
 refine pu ?_
 refine pL 0 ?_
 refine Kao htab rfl rfl rfl rfl rfl rfl rfl (by first | exact Kae | rfl) ?_
 refine pu ?_
 refine Kf ?_
 obtain ⟨x207, q207, ho207⟩ := Kc hm
 refine Kbe (τ := Unit) (Y := Unit) (fun y207 z207 => (⟨[(4, .ptr b2 0)], [(b2, Blk.cells [.v (.int .i64 a1.gOp), .v (.string a1.gName), .v (.string a1.gFunc), .lst 5 (a1.gExps.map Kn) .no, .lst 7 (a1.gKids.map Kg) .no, .lst 7 (a1.gElse.map Kg) .no, .v (.int .i64 a1.gAt)] 91)], []⟩ : S)) x207 ?_ ?_
 ·clear hm; have hm := Ku q207
  refine KC ?_
  obtain ⟨u208, hl208, hq208⟩ := yes_m hm
  refine KaW (Y := Unit) hl208 (fun s208 z208 => (⟨[(2, .lst 1 (a2.map eI64) .no), (3, .ptr b1 0), (4, .ptr b2 0), (12, .lst 5 (a0.gP.gFuncs.map KH) .no), (13, .v (.int .i64 (a0.gP.gFuncs.length : Int))), (14, .v (.int .i64 s208))], [(b1, Blk.cells [.lst 4 (a0.gP.gGlobals.map KE) .no, .lst 5 (a0.gP.gFuncs.map KH) .no, .v (.string a0.gF.gName), .lst 2 (a0.gF.gParams.map Ke) .no, .lst 2 (a0.gF.gLocals.map Ke) .no, .lst 7 (a0.gF.gBody.map Kg) .no, .v (.int .i64 a0.gF.gAt)] 126), (b2, Blk.cells [.v (.int .i64 a1.gOp), .v (.string a1.gName), .v (.string a1.gFunc), .lst 5 (a1.gExps.map Kn) .no, .lst 7 (a1.gKids.map Kg) .no, .lst 7 (a1.gElse.map Kg) .no, .v (.int .i64 a1.gAt)] 91)], []⟩ : S)) ?_ ?_
  ·skip
   exact WkX.of () (WkS.perm (WkS.cons rfl (Wk.refl _) (WkS.cons rfl (Wk.refl _) (WkS.cons rfl (Wk.refl _) (WkS.cons rfl (Wk.refl _) (WkS.cons rfl (Wk.refl _) (WkS.cons rfl (Wk.refl _) (WkS.nil))))))) Pf Pf)
  ·intro G208 s208 z208 hm
   refine Kh ?_
   refine pu ?_
   refine Kf ?_
   refine Ko ?_
   refine Kp rfl (fun hc343 => ?_) (fun hc343 => ?_)
   ·replace hm := yes_t hc343 hm
    refine Ks ?_
    refine Kd ?_
    refine Ko ?_
    refine KC ?_
    refine Kh ?_
    obtain ⟨x344, q344, hm⟩ := Kc hm
    refine KaB htab rfl rfl rfl rfl rfl rfl rfl rfl rfl rfl (KM q344) (K8 q344) ?_
    refine Kai (d := KH x344) htab rfl rfl rfl rfl rfl rfl rfl rfl ?_
    refine Kak htab rfl rfl rfl rfl rfl rfl rfl (fun b345 => ?_)
    refine pS2 (ds' := [.v (.string x344.gName), .lst 2 (x344.gParams.map Ke) .no, .lst 2 (x344.gLocals.map Ke) .no, .lst 7 (x344.gBody.map Kg) .no, .v (.int .i64 x344.gAt)]) ?_
    refine Kf ?_
    refine Ko ?_
    refine Kh ?_
    refine pu ?_
    refine pL 2 ?_
    refine pu ?_
    refine pL 1 ?_
    refine pu ?_
    refine Kf ?_
    refine Kp rfl (fun hc346 => ?_) (fun hc346 => ?_)
    ·replace hm := yes_t hc346 hm
     refine Kal ?_
     refine KJ ?_
     refine Kaf ?_
     refine Kd ?_
     refine Kr ?_
     refine pu ?_
     refine pu ?_
     refine Kt ?_
     refine Kd ⟨_, Kas hm, ?_⟩
     exact WkX.of () (WkS.perm (WkS.cons rfl (Wk.refl _) (WkS.cons rfl (Wk.refl _) (WkS.cons rfl (Wk.refl _) (WkS.cons rfl (Wk.refl _) (WkS.cons rfl (Wk.refl _) (WkS.cons rfl (Wk.refl _) (WkS.nil))))))) Pf Pf)
    ·replace hm := yes_f hc346 hm
     refine Ks ?_
     refine Kd ?_
     refine Ko ?_
     refine Kh ?_
     refine pu ?_
     refine pL 2 ?_
     refine Kao htab rfl rfl rfl rfl rfl rfl rfl (by first | exact Kae | rfl) ?_
     refine pu ?_
     refine Kao htab rfl rfl rfl rfl rfl rfl rfl (by first | exact Kae | rfl) ?_
     refine pu ?_
     refine Kf ?_
     obtain ⟨y349, q349, ho349⟩ := Kc hm
     refine KP (Y := Unit) (fun z349 => (⟨[(2, .lst 1 (a2.map eI64) .no), (3, .ptr b1 0), (4, .ptr b2 0), (7, .ptr b345 0)], [(b1, Blk.cells [.lst 4 (a0.gP.gGlobals.map KE) .no, .lst 5 (a0.gP.gFuncs.map KH) .no, .v (.string a0.gF.gName), .lst 2 (a0.gF.gParams.map Ke) .no, .lst 2 (a0.gF.gLocals.map Ke) .no, .lst 7 (a0.gF.gBody.map Kg) .no, .v (.int .i64 a0.gF.gAt)] 126), (b2, Blk.cells [.v (.int .i64 a1.gOp), .v (.string a1.gName), .v (.string a1.gFunc), .lst 5 (a1.gExps.map Kn) .no, .lst 7 (a1.gKids.map Kg) .no, .lst 7 (a1.gElse.map Kg) .no, .v (.int .i64 a1.gAt)] 91), (b345, Blk.cells [.v (.string x344.gName), .lst 2 (x344.gParams.map Ke) .no, .lst 2 (x344.gLocals.map Ke) .no, .lst 7 (x344.gBody.map Kg) .no, .v (.int .i64 x344.gAt)] 83)], []⟩ : S)) ?_ ?_
     ·clear hm; have hm := Ku q349
      refine Kp rfl (fun hc350 => ?_) (fun hc350 => ?_)
      ·replace hm := yes_t hc350 hm
       refine Kr ?_
       refine pu ?_
       refine pL 1 ?_
       obtain ⟨x351, q351, hm⟩ := Kc hm
       refine KT (KaQ a1.gAt (2 : Int) x351 q351) rfl rfl rfl rfl rfl Wl ?_
       rintro _ rfl
       refine Kt ?_
       have e349 := Ki hm; subst e349
       refine ⟨rfl, ?_⟩
       exact WkX.of () (WkS.perm (WkS.cons rfl (Wk.refl _) (WkS.cons rfl (Wk.refl _) (WkS.cons rfl (Wk.refl _) (WkS.cons rfl (Wk.refl _) (WkS.nil))))) Pf Pf)
      ·replace hm := yes_f hc350 hm
       refine Ks ?_
       have e349 := Ki hm; subst e349
       refine ⟨rfl, ?_⟩
       exact WkX.of () (WkS.perm (WkS.cons rfl (Wk.refl _) (WkS.cons rfl (Wk.refl _) (WkS.cons rfl (Wk.refl _) (WkS.cons rfl (Wk.refl _) (WkS.nil))))) Pf Pf)
     ·intro s349 hw349; clear hm; have hm := ho349; clear q349 ho349
      refine Kd ?_
      refine KY hw349 (fun z349 => ?_)
      refine Ko ?_
      refine Kh ?_
      refine pu ?_
      refine pL 2 ?_
      refine Kao htab rfl rfl rfl rfl rfl rfl rfl (by first | exact Kae | rfl) ?_
      refine pu ?_
      refine Kf ?_
      obtain ⟨y379, q379, ho379⟩ := Kc hm
      refine KP (Y := Unit) (fun z379 => (⟨[(3, .ptr b1 0), (4, .ptr b2 0)], [(b1, Blk.cells [.lst 4 (a0.gP.gGlobals.map KE) .no, .lst 5 (a0.gP.gFuncs.map KH) .no, .v (.string a0.gF.gName), .lst 2 (a0.gF.gParams.map Ke) .no, .lst 2 (a0.gF.gLocals.map Ke) .no, .lst 7 (a0.gF.gBody.map Kg) .no, .v (.int .i64 a0.gF.gAt)] 126), (b2, Blk.cells [.v (.int .i64 a1.gOp), .v (.string a1.gName), .v (.string a1.gFunc), .lst 5 (a1.gExps.map Kn) .no, .lst 7 (a1.gKids.map Kg) .no, .lst 7 (a1.gElse.map Kg) .no, .v (.int .i64 a1.gAt)] 91)], []⟩ : S)) ?_ ?_
      ·clear hm; have hm := Ku q379
       refine KC ?_
       obtain ⟨u380, hl380, hq380⟩ := yes_m hm
       refine KaW (Y := Unit) hl380 (fun s380 z380 => (⟨[(2, .lst 1 (a2.map eI64) .no), (3, .ptr b1 0), (4, .ptr b2 0), (33, .lst 2 (x344.gParams.map Ke) .no), (34, .v (.int .i64 (x344.gParams.length : Int))), (35, .v (.int .i64 s380))], [(b1, Blk.cells [.lst 4 (a0.gP.gGlobals.map KE) .no, .lst 5 (a0.gP.gFuncs.map KH) .no, .v (.string a0.gF.gName), .lst 2 (a0.gF.gParams.map Ke) .no, .lst 2 (a0.gF.gLocals.map Ke) .no, .lst 7 (a0.gF.gBody.map Kg) .no, .v (.int .i64 a0.gF.gAt)] 126), (b2, Blk.cells [.v (.int .i64 a1.gOp), .v (.string a1.gName), .v (.string a1.gFunc), .lst 5 (a1.gExps.map Kn) .no, .lst 7 (a1.gKids.map Kg) .no, .lst 7 (a1.gElse.map Kg) .no, .v (.int .i64 a1.gAt)] 91)], []⟩ : S)) ?_ ?_
       ·skip
        exact WkX.of () (WkS.perm (WkS.cons rfl (Wk.refl _) (WkS.cons rfl (Wk.refl _) (WkS.cons rfl (Wk.refl _) (WkS.cons rfl (Wk.refl _) (WkS.cons rfl (Wk.refl _) (WkS.cons rfl (Wk.refl _) (WkS.nil))))))) Pf Pf)
       ·intro G380 s380 z380 hm
        refine Kh ?_
        refine pu ?_
        refine Kf ?_
        refine Ko ?_
        refine Kp rfl (fun hc399 => ?_) (fun hc399 => ?_)
        ·replace hm := yes_t hc399 hm
         refine Ks ?_
         refine Kd ?_
         refine Ko ?_
         refine KC ?_
         refine Kh ?_
         refine pu ?_
         obtain ⟨x400, q400, hm⟩ := Kc hm
         refine KaB htab rfl rfl rfl rfl rfl rfl rfl rfl rfl rfl (KM q400) (K8 q400) ?_
         refine Kai (d := Ke x400) htab rfl rfl rfl rfl rfl rfl rfl rfl ?_
         refine Kak htab rfl rfl rfl rfl rfl rfl rfl (fun b401 => ?_)
         refine pu ?_
         refine pS2 (ds' := [.v (.string x400.gName), .v (.bool x400.gPtr)]) ?_
         refine Kf ?_
         refine Ko ?_
         obtain ⟨x402, q402, hm⟩ := Kc hm
         obtain ⟨x403, q403, hm⟩ := Kc hm
         refine Kax 7 [] [[],[0],[0],[],[],[3],[3,5]] [0,2,3,5] [[],[0],[0,1],[],[],[3,4],[3,4,5],[0,1,2,3,4,5,6]] (by kernel_rfl) (by kernel_rfl) (by kernel_rfl) (by rfl) (by rfl) (by kernel_rfl) ?_
         iterate 4 apply Exists.intro
         intro bs
         refine zep ?_
         refine z_qM rfl rfl (KX 2 htab rfl rfl rfl rfl rfl) rfl rfl rfl rfl rfl rfl ?_
         refine z_call rfl rfl (Kdb x400.gPtr x402 q402) rfl rfl Wl rfl rfl rfl rfl rfl rfl ?_
         refine zep ?_
         refine zqp ?_
         refine z_e rfl rfl (KbK htab rfl rfl rfl rfl rfl rfl rfl (KM q403) (K8 q403)) rfl rfl rfl rfl rfl rfl ?_
         refine z_qM rfl rfl (Kba htab rfl rfl rfl rfl rfl) rfl rfl rfl rfl rfl rfl ?_
         refine z_nil rfl rfl (fun e he => by simp [isAl] at he) ?_
         refine pu ?_
         refine Kf ?_
         refine Kp rfl (fun hc404 => ?_) (fun hc404 => ?_)
         ·replace hm := yes_t hc404 hm
          refine Kr ?_
          refine pu ?_
          refine pL 1 ?_
          refine pu ?_
          obtain ⟨x405, q405, hm⟩ := Kc hm
          refine KaB htab rfl rfl rfl rfl rfl rfl rfl rfl rfl rfl (KM q405) (K8 q405) ?_
          refine p_eq (i := 51) rfl (Wk.of_eq (congrArg D.el (K0 x405))) ?_
          refine pu ?_
          refine Kai htab rfl rfl rfl rfl rfl rfl rfl rfl ?_
          obtain ⟨x406, q406, hm⟩ := Kc hm
          refine KT (KaQ x405.gAt (9 : Int) x406 q406) rfl rfl rfl rfl rfl Wl ?_
          rintro _ rfl
          refine Kt ?_
          refine Kz ?_
          refine Kd ?_
          refine Kr ?_
          refine pu ?_
          refine pu ?_
          refine Kt ?_
          refine Kd ⟨_, Kas hm, ?_⟩
          exact WkX.of () (WkS.perm (WkS.cons rfl (Wk.refl _) (WkS.cons rfl (Wk.refl _) (WkS.cons rfl (Wk.refl _) (WkS.cons rfl (Wk.refl _) (WkS.cons rfl (Wk.refl _) (WkS.cons rfl (Wk.refl _) (WkS.nil))))))) Pf Pf)
         ·replace hm := yes_f hc404 hm
          refine Ks ?_
          refine Kz ?_
          refine Kd ?_
          refine Kr ?_
          refine pu ?_
          refine pu ?_
          refine Kt ?_
          refine Kd ⟨_, Kas hm, ?_⟩
          exact WkX.of () (WkS.perm (WkS.cons rfl (Wk.refl _) (WkS.cons rfl (Wk.refl _) (WkS.cons rfl (Wk.refl _) (WkS.cons rfl (Wk.refl _) (WkS.cons rfl (Wk.refl _) (WkS.cons rfl (Wk.refl _) (WkS.nil))))))) Pf Pf)
        ·replace hm := yes_f hc399 hm
         refine Kal ?_
         refine KJ ?_
         have e380 := Kab hm; subst e380; clear hm; have hm := hq380
         refine KJ ?_
         refine Kaf ?_
         have e379 := Ki hm; subst e379
         refine ⟨rfl, ?_⟩
         exact WkX.of () (WkS.perm (WkS.cons rfl (Wk.refl _) (WkS.cons rfl (Wk.refl _) (WkS.nil))) Pf Pf)
      ·intro s379 hw379; clear hm; have hm := ho379; clear q379 ho379
       refine Kd ?_
       refine KY hw379 (fun z379 => ?_)
       refine Ko ?_
       refine Kh ?_
       refine pu ?_
       refine pL 1 ?_
       refine pu ?_
       refine Kf ?_
       refine Kp rfl (fun hc407 => ?_) (fun hc407 => ?_)
       ·replace hm := yes_t hc407 hm
        refine Kr ?_
        refine K3 (d := Kx a0) 0 htab rfl rfl rfl rfl rfl rfl rfl rfl ?_
        refine pu ?_
        refine pL 1 ?_
        refine pu ?_
        refine pL 1 ?_
        refine p_lit htab rfl rfl rfl rfl rfl rfl rfl rfl rfl rfl rfl rfl rfl rfl ?_
        refine p_eq (i := 64) (d' := .lst 1 (([(1 : Int)] : List Int).map eI64) .full) rfl (Wk.lst0 (.cons (WkC.refl _) (.nil))) ?_
        obtain ⟨x408, q408, hm⟩ := Kc hm
        refine KT (Kay a0 a1.gName a1.gAt ([(1 : Int)] : List Int) x408 q408) rfl rfl rfl rfl rfl (WkL.cons (Wk.refl _) (WkL.cons (Wk.refl _) (WkL.cons (Wk.refl _) (WkL.cons (Wk.no) Wl)))) ?_
        rintro _ rfl
        refine Kf ?_
        refine KA ?_
        refine KW ?_
        refine KB ?_
        have e208 := Kab hm; subst e208; clear hm; have hm := hq208
        refine KB ?_
        refine KW ?_
        have e207 := Ki hm; subst e207; refine KaD ?_; clear hm; have hm := ho207; simp only [Sum.elim_inr] at hm
        refine KB ?_
        first | (have er409 := Ki hm; subst er409) | skip
        refine rP (t' := []) [] [] 0 wN lN ?_
        exact ⟨rfl, rfl, rfl⟩
       ·replace hm := yes_f hc407 hm
        refine Ks ?_
        refine Kd ?_
        refine KA ?_
        refine KW ?_
        refine KB ?_
        have e208 := Kab hm; subst e208; clear hm; have hm := hq208
        refine KB ?_
        refine KW ?_
        have e207 := Ki hm; subst e207; refine KaD ?_; clear hm; have hm := ho207; simp only [Sum.elim_inr] at hm
        refine KB ?_
        first | (have er410 := Ki hm; subst er410) | skip
        refine rP (t' := []) [] [] 0 wN lN ?_
        exact ⟨rfl, rfl, rfl⟩
   ·replace hm := yes_f hc343 hm
    refine Kal ?_
    refine KJ ?_
    have e208 := Kab hm; subst e208; clear hm; have hm := hq208
    refine KJ ?_
    refine Kaf ?_
    have e207 := Ki hm; subst e207
    refine Kbf ?_
    exact WkX.of () (WkS.perm (WkS.cons rfl (Wk.refl _) (WkS.nil)) ((K2 (j := 1) rfl).trans (List.Perm.cons _ Pf)) Pf)
 ·intro y207 s207 hx207 hw207; subst hx207; clear hm; have hm := ho207; simp only [Sum.elim_inl] at hm; clear q207 ho207
  refine Kd ?_
  refine KY hw207 (fun z207 => ?_)
  refine Kr ?_
  refine pu ?_
  refine pL 0 ?_
  obtain ⟨x411, q411, hm⟩ := Kc hm
  refine KT (KaQ a1.gAt (7 : Int) x411 q411) rfl rfl rfl rfl rfl Wl ?_
  rintro _ rfl
  refine Kt ?_
  first | (have er412 := Ki hm; subst er412) | skip
  refine rP (t' := []) [] [] 0 wN lN ?_
  exact ⟨rfl, rfl, rfl⟩
end Go.Proofs.YtaclkgjnoaeihaaGreat.Ab
