/- The texts that grammarTokens_holds leans on, part 6. -/
import Derived.Test.YtmgklehakmdiiaaGh5
set_option maxRecDepth 100000
set_option maxHeartbeats 2000000
namespace Go.Proofs.Ytmgklehakmdiiaa.Ab
open Go
set_option linter.all false
def Kgt (tab : List (Option TI)) (ts : List Nat) : Nat → List (Nat × Nat) → Option Nat
  | off, [] => some off
  | off, (ty, o) :: fs => match ti tab ty with
    | some i => bif Nat.beq o off && ts.contains ty then Kgt tab ts (off + i.size) fs else none
    | none => none
def typeOK (tab : List (Option TI)) (ts : List Nat) (t : Nat) : Bool :=
  match ti tab t with
  | some i => match i.d with
    | .bool => Nat.beq i.size 1
    | .int _ => Nat.beq i.size 1
    | .str => Nat.beq i.size 1
    | .slice e => ts.contains e && Nat.beq i.size 1 && (match ti tab e with | some ie => Nat.ble 1 ie.size | none => false)
    | .struct fs => match Kgt tab ts 0 fs with
      | some n => Nat.beq n i.size
      | none => false
    | .array n e => ts.contains e && (match ti tab e with | some ie => Nat.beq i.size (n * ie.size) | none => false)
    | _ => false
  | none => false
def closedT (tab : List (Option TI)) (ts : List Nat) : Bool := ts.all (typeOK tab ts)
def GoodT (tab : List (Option TI)) : Nat → Nat → D → Prop
  | 0, _, _ => False
  | n + 1, t, d => ∃ i, ti tab t = some i ∧ match i.d with
    | .bool => ∃ b, d = .v (.bool b)
    | .int k => ∃ m, d = .v (.int k m) ∧ (Lit.int k m).wf = true
    | .str => ∃ s : ByteArray, d = .v (.string s) ∧ s.size ≤ maxLen
    | .slice e => ∃ ie xs, ti tab e = some ie ∧ d = .lst ie.size xs .no ∧ xs.length ≤ maxLen ∧ ∀ x ∈ xs, GoodT tab n e x
    | .struct fs => ∃ ds : List D, d = .agg (ds.flatMap K2) ∧ ds.length = fs.length ∧ ∀ (j : Nat) (f : Nat × Nat) (d0 : D), fs[j]? = some f → ds[j]? = some d0 → GoodT tab n f.1 d0
    | .array m e => ∃ ds : List D, d = .agg (ds.flatMap K2) ∧ ds.length = m ∧ ∀ x ∈ ds, GoodT tab n e x
    | _ => False
section
variable {H : Type} {enc : TypeId × Value → H} {P : Program} {w : World} {base : Nat} {spare : Nat → Bool} {held : Bool} {tab : List (Option TI)} {ts : List Nat}
theorem Ke8 (hT : TabOK P tab) {t : TypeId} {i : TI} (h : ti tab t = some i) : P.cellsOf t = i.size := by
 obtain ⟨tf, z, dd, h1, _, _, h2, _⟩ := KeH (ti_ok hT h)
 simp [Program.cellsOf, h1, h2]
def allOf (w : World) : Hp := fun a => w.cell? a
theorem ag_all (w : World) : Ag (allOf w) w := fun _ _ h => h
def Rd (tab : List (Option TI)) (w : World) (n t : Nat) (cs : List Value) (d : D) : Prop :=
 ∃ i, ti tab t = some i ∧ RepC (allOf w) d cs ∧ Reps (allOf w) (K2 d) cs ∧ cs.length = i.size ∧ (K2 d).length = i.size ∧ GoodT tab n t d
theorem KjV (hT : TabOK P tab) {n : Nat} {cs : List Value} (ih : ∀ t cs x, ts.contains t = true → DataW.trod enc P w base spare held n t cs = some x → ∃ d, Rd tab w n t cs d) :
    ∀ (gs : List Field) (off total : Nat), Kgt tab ts off (gs.map fun f => (f.type, f.offset)) = some total → total ≤ cs.length → (∀ f ∈ gs, ∃ y, DataW.trod enc P w base spare held n f.type ((cs.drop f.offset).take (P.cellsOf f.type)) = some y) →
      off ≤ total ∧ ∃ ds : List D, ds.length = gs.length ∧ Reps (allOf w) (ds.flatMap K2) ((cs.drop off).take (total - off)) ∧ (ds.flatMap K2).length = total - off ∧ ∀ (j : Nat) (f : Nat × Nat) (d0 : D), (gs.map fun f => (f.type, f.offset))[j]? = some f → ds[j]? = some d0 → GoodT tab n f.1 d0
  | [], off, total, h, _, _ => by
    simp [Kgt] at h; subst h
    exact ⟨Nat.le_refl _, [], rfl, by simp [Reps], by simp, fun j f d0 e => by simp at e⟩
  | g :: gs, off, total, h, hl, hy => by
    simp only [List.map_cons, Kgt] at h
    split at h
    · rename_i i hi
      cases hb : (Nat.beq g.offset off && ts.contains g.type) with
      | false => rw [hb] at h; cases h
      | true =>
        rw [hb] at h
        simp only [cond_true] at h
        simp only [Bool.and_eq_true] at hb
        have ho := Nat.eq_of_beq_eq_true hb.1
        obtain ⟨y, hy0⟩ := hy g (by simp)
        obtain ⟨d, i', hi', h1, h2, h3, h4, h5⟩ := ih _ _ y hb.2 hy0
        rw [hi] at hi'; cases hi'
        obtain ⟨hle, ds, e1, e2, e3, e4⟩ := KjV hT ih gs (off + i.size) total h hl fun f hf => hy f (by simp [hf])
        rw [Ke8 hT hi, ho] at h2
        refine ⟨by omega, d :: ds, by simp [e1], ?_, by simp [h4, e3]; omega, ?_⟩
        · simp only [List.flatMap_cons]
          have := Key h2 e2
          have e : (cs.drop off).take i.size ++ (cs.drop (off + i.size)).take (total - (off + i.size)) = (cs.drop off).take (total - off) := by
            rw [show total - off = i.size + (total - (off + i.size)) by omega, List.take_add, List.drop_drop]
          rwa [e] at this
        · intro j f d0 hf hd
          cases j with
          | zero => simp at hf hd; subst hf; subst hd; exact h5
          | succ j => exact e4 j f d0 (by simpa using hf) (by simpa using hd)
    · cases h
theorem rd_elems {n e sz b off : Nat} {ie : TI} (hie : ti tab e = some ie) (hsz : ie.size = sz) (he : ts.contains e = true) (ih : ∀ t cs x, ts.contains t = true → DataW.trod enc P w base spare held n t cs = some x → ∃ d, Rd tab w n t cs d) :
    ∀ (m i0 : Nat), (∀ i, i0 ≤ i → i < i0 + m → ∃ cs y, w.cells? base ((⟨b, off, none⟩ : Addr).add (i * sz)) sz = some cs ∧ DataW.trod enc P w base spare held n e cs = some y) →
      ∃ xs : List D, xs.length = m ∧ Els (allOf w) sz b (off + i0 * sz) xs ∧ ∀ x ∈ xs, GoodT tab n e x
  | 0, i0, _ => ⟨[], rfl, by simp [Els], by simp⟩
  | m + 1, i0, h => by
    obtain ⟨cs, y, h1, h2⟩ := h i0 (Nat.le_refl _) (by omega)
    obtain ⟨d, i', hi', g1, g2, g3, g4, g5⟩ := ih e cs y he h2
    rw [hie] at hi'; cases hi'
    obtain ⟨xs, f1, f2, f3⟩ := rd_elems hie hsz he ih m (i0 + 1) fun i hi hi' => h i (by omega) (by omega)
    refine ⟨d :: xs, by simp [f1], ?_, ?_⟩
    · simp only [Els]
      refine ⟨⟨cs, by rw [g3, hsz], g1, fun j u hj => ?_, KeG g2⟩, ?_⟩
      · obtain ⟨_, hlen, hc⟩ := World.cells?_some h1
        have hjl : j < sz := by rw [← hlen]; exact (List.getElem?_eq_some_iff.1 hj).1
        have := hc j hjl
        rw [Kdo, Kdo] at this
        show w.cell? _ = _
        rw [this]; exact hj
      · rw [show off + i0 * sz + sz = off + (i0 + 1) * sz by rw [Nat.add_mul]; omega]; exact f2
    · intro x hx
      rcases List.mem_cons.1 hx with rfl | hx
      · exact g5
      · exact f3 x hx
theorem rd_arr {n e sz : Nat} {ie : TI} {cs : List Value} (hie : ti tab e = some ie) (hsz : ie.size = sz) (he : ts.contains e = true) (ih : ∀ t cs x, ts.contains t = true → DataW.trod enc P w base spare held n t cs = some x → ∃ d, Rd tab w n t cs d) :
    ∀ (m i0 : Nat), (∀ i, i0 ≤ i → i < i0 + m → ∃ y, DataW.trod enc P w base spare held n e ((cs.drop (i * sz)).take sz) = some y) →
      ∃ ds : List D, ds.length = m ∧ Reps (allOf w) (ds.flatMap K2) ((cs.drop (i0 * sz)).take (m * sz)) ∧ (ds.flatMap K2).length = m * sz ∧ ∀ x ∈ ds, GoodT tab n e x
  | 0, i0, _ => ⟨[], rfl, by simp [Reps], by simp, by simp⟩
  | m + 1, i0, h => by
    obtain ⟨y, h2⟩ := h i0 (Nat.le_refl _) (by omega)
    obtain ⟨d, i', hi', g1, g2, g3, g4, g5⟩ := ih e _ y he h2
    rw [hie] at hi'; cases hi'
    obtain ⟨ds, f1, f2, f3, f4⟩ := rd_arr hie hsz he ih m (i0 + 1) fun i hi hi' => h i (by omega) (by omega)
    refine ⟨d :: ds, by simp [f1], ?_, ?_, ?_⟩
    · simp only [List.flatMap_cons]
      have := Key g2 f2
      have e2 : (cs.drop (i0 * sz)).take sz ++ (cs.drop ((i0 + 1) * sz)).take (m * sz) = (cs.drop (i0 * sz)).take ((m + 1) * sz) := by
        rw [show (m + 1) * sz = sz + m * sz by rw [Nat.add_mul]; omega, List.take_add, List.drop_drop, show i0 * sz + sz = (i0 + 1) * sz by rw [Nat.add_mul]; omega]
      rwa [e2] at this
    · simp only [List.flatMap_cons, List.length_append, f3, g4, hsz]
      rw [Nat.add_mul]; omega
    · intro x hx
      rcases List.mem_cons.1 hx with rfl | hx
      · exact g5
      · exact f4 x hx
theorem rd (hT : TabOK P tab) (hc : closedT tab ts = true) : ∀ (n : Nat) (t : TypeId) (cs : List Value) (x : DataW H × List MemPlace), ts.contains t = true → DataW.trod enc P w base spare held n t cs = some x → ∃ d, Rd tab w n t cs d := by
  intro n
  induction n with
  | zero => intro t cs x _ h; simp [DataW.trod] at h
  | succ n ih =>
    intro t cs x ht h
    have hok : typeOK tab ts t = true := by
      unfold closedT at hc
      rw [List.all_eq_true] at hc
      exact hc t (by simpa using ht)
    unfold typeOK at hok
    split at hok
    · rename_i i hi
      obtain ⟨tf, z, dd, h1, h2, h3, h4, _⟩ := KeH (ti_ok hT hi)
      split at hok
      · rename_i hd
        have hs := Nat.eq_of_beq_eq_true hok
        obtain ⟨b, rfl, _⟩ := DataW.trod_bool (by rw [h2, Kiq (h3.trans hd)]) h
        refine ⟨.v (.bool b), i, hi, by simp [RepC], ?_, by simp [hs], by simp [K2, hs], ?_⟩
        · simp only [K2, Reps]; exact ⟨_, _, rfl, ⟨by simp [RepC], rfl, rfl⟩, rfl⟩
        · unfold GoodT; exact ⟨i, hi, by rw [hd]; exact ⟨b, rfl⟩⟩
      · rename_i k hd
        have hs := Nat.eq_of_beq_eq_true hok
        obtain ⟨m, rfl, _, hwf⟩ := DataW.trod_int (by rw [h2, Kgb (h3.trans hd)]) h
        refine ⟨.v (.int k m), i, hi, by simp [RepC], ?_, by simp [hs], by simp [K2, hs], ?_⟩
        · simp only [K2, Reps]; exact ⟨_, _, rfl, ⟨by simp [RepC], rfl, rfl⟩, rfl⟩
        · unfold GoodT; exact ⟨i, hi, by rw [hd]; exact ⟨m, rfl, hwf⟩⟩
      · rename_i hd
        have hs := Nat.eq_of_beq_eq_true hok
        obtain ⟨s, rfl, _, hwf⟩ := DataW.trod_string (by rw [h2, Kg5 (h3.trans hd)]) h
        refine ⟨.v (.string s), i, hi, by simp [RepC], ?_, by simp [hs], by simp [K2, hs], ?_⟩
        · simp only [K2, Reps]; exact ⟨_, _, rfl, ⟨by simp [RepC], rfl, rfl⟩, rfl⟩
        · unfold GoodT; exact ⟨i, hi, by rw [hd]; exact ⟨s, rfl, hwf⟩⟩
      · rename_i e hd
        simp only [Bool.and_eq_true] at hok
        obtain ⟨⟨he, hs⟩, hsz⟩ := hok
        have hs := Nat.eq_of_beq_eq_true hs
        split at hsz
        · rename_i ie hie
          have hsz := Nat.le_of_ble_eq_true hsz
          rcases DataW.trod_slice (by rw [h2, Kdn (h3.trans hd)]) h with ⟨rfl, _⟩ | ⟨a, len, cap, elems, rest, n', hf, rfl, _, hb, hlc, hcm, hel, hcells, _, _⟩
          · have hr : RepC (allOf w) (.lst ie.size [] .no) [.slice none 0 0] := by
              simp only [RepC, CapOK]; exact ⟨_, rfl, trivial, .inl ⟨by trivial, none, 0, rfl, fun _ => rfl⟩⟩
            refine ⟨.lst ie.size [] .no, i, hi, hr, ?_, by simp [hs], by simp [K2, hs], ?_⟩
            · simp only [K2, Reps]; exact ⟨_, _, rfl, ⟨hr, rfl, rfl⟩, rfl⟩
            · unfold GoodT; exact ⟨i, hi, by rw [hd]; exact ⟨ie, [], hie, rfl, by simp, by simp⟩⟩
          · have : n' = n := by omega
            subst this
            rw [Ke8 hT hie] at hcells
            rcases Nat.eq_zero_or_pos len with hz | hpos
            · subst hz
              have hr : RepC (allOf w) (.lst ie.size [] .no) [.slice (some a) 0 cap] := by
                simp only [RepC, CapOK]; exact ⟨_, rfl, trivial, .inl ⟨by trivial, some a, cap, rfl, fun q => by cases q⟩⟩
              refine ⟨.lst ie.size [] .no, i, hi, hr, ?_, by simp [hs], by simp [K2, hs], ?_⟩
              · simp only [K2, Reps]; exact ⟨_, _, rfl, ⟨hr, rfl, rfl⟩, rfl⟩
              · unfold GoodT; exact ⟨i, hi, by rw [hd]; exact ⟨ie, [], hie, rfl, by simp, by simp⟩⟩
            · have hsome : ∀ j, j < len → ∃ cs y, w.cells? base (a.add (j * ie.size)) ie.size = some cs ∧ DataW.trod enc P w base spare held n' e cs = some y := by
                intro j hj
                have hj2 := hcells j hj
                rw [List.getElem?_eq_getElem (by omega)] at hj2
                rw [Option.bind_eq_some_iff] at hj2
                obtain ⟨cs, q1, q2⟩ := hj2
                exact ⟨cs, _, q1, q2⟩
              have hspot : a.spot = none := by
                obtain ⟨cs, y, q1, _⟩ := hsome 0 hpos
                obtain ⟨_, hlen, hcc⟩ := World.cells?_some q1
                have q2 := hcc 0 (by omega)
                rw [List.getElem?_eq_getElem (by omega)] at q2
                have q3 : (a.add (0 * ie.size)).add 0 = a := by simp [Addr.add]
                rw [q3] at q2
                cases hsp : a.spot with
                | none => rfl
                | some s =>
                  unfold World.cell? at q2
                  split at q2
                  · simp [hsp] at q2
                  · cases q2
              obtain ⟨b, off, sp⟩ := a
              simp only at hspot; subst hspot
              obtain ⟨xs, f1, f2, f3⟩ := rd_elems (spare := spare) (held := held) (enc := enc) (P := P) (base := base) hie rfl he ih len 0 fun j _ hj => hsome j (by omega)
              have hr : RepC (allOf w) (.lst ie.size xs .no) [.slice (some ⟨b, off, none⟩) len cap] := by
                simp only [RepC, CapOK]
                refine ⟨_, rfl, trivial, .inr ⟨b, off, cap, by rw [f1], by rw [f1]; exact hlc, by simpa using f2⟩⟩
              refine ⟨.lst ie.size xs .no, i, hi, hr, ?_, by simp [hs], by simp [K2, hs], ?_⟩
              · simp only [K2, Reps]; exact ⟨_, _, rfl, ⟨hr, rfl, rfl⟩, rfl⟩
              · unfold GoodT; exact ⟨i, hi, by rw [hd]; exact ⟨ie, xs, hie, rfl, by rw [f1]; omega, f3⟩⟩
        · cases hsz
      · rename_i fs hd
        split at hok
        · rename_i tot hfo
          have hs := Nat.eq_of_beq_eq_true hok
          obtain ⟨gs, e1, e2⟩ := KfA (h3.trans hd)
          obtain ⟨xs, n', hf, _, hl, hxl, hx⟩ := DataW.trod_struct (by rw [h2, e1]) h
          have : n' = n := by omega
          subst this
          rw [Ke8 hT hi] at hl
          obtain ⟨_, ds, f1, f2, f3, f4⟩ := KjV hT (cs := cs) ih gs.toList 0 tot (by rw [e2]; exact hfo) (by omega) fun f hfm => by
            obtain ⟨j, hj⟩ := List.getElem?_of_mem hfm
            have hj' : gs[j]? = some f := by simpa using hj
            have q := hx j f hj'
            have hjl : j < xs.length := by rw [hxl]; exact (Array.getElem?_eq_some_iff.1 hj').1
            rw [List.getElem?_eq_getElem hjl] at q
            exact ⟨_, q⟩
          simp only [List.drop_zero, Nat.sub_zero] at f2 f3
          rw [List.take_of_length_le (by omega)] at f2
          refine ⟨.agg (ds.flatMap K2), i, hi, by simp only [RepC]; exact f2, f2, hl, by simp only [K2]; omega, ?_⟩
          unfold GoodT
          exact ⟨i, hi, by rw [hd]; exact ⟨ds, rfl, by rw [f1, ← e2]; simp, fun j f d0 q1 q2 => f4 j f d0 (by rw [e2]; exact q1) q2⟩⟩
        · cases hok
      · rename_i m e hd
        simp only [Bool.and_eq_true] at hok
        obtain ⟨he, hsz⟩ := hok
        split at hsz
        · rename_i ie hie
          have hsz := Nat.eq_of_beq_eq_true hsz
          obtain ⟨xs, n', hf, _, hl, hxl, hx⟩ := DataW.trod_array (by rw [h2, td_array (h3.trans hd)]) h
          have : n' = n := by omega
          subst this
          rw [Ke8 hT hi] at hl
          rw [Ke8 hT hie] at hx
          obtain ⟨ds, f1, f2, f3, f4⟩ := rd_arr (cs := cs) hie rfl he ih m 0 fun j _ hj => by
            have q := hx j (by omega)
            rw [List.getElem?_eq_getElem (by omega)] at q
            exact ⟨_, q⟩
          simp only [Nat.zero_mul, List.drop_zero] at f2
          rw [List.take_of_length_le (by omega)] at f2
          refine ⟨.agg (ds.flatMap K2), i, hi, by simp only [RepC]; exact f2, f2, hl, by simp only [K2]; omega, ?_⟩
          unfold GoodT
          exact ⟨i, hi, by rw [hd]; exact ⟨ds, rfl, f1, f4⟩⟩
        · cases hsz
      · cases hok
    · cases hok
end
end Go.Proofs.Ytmgklehakmdiiaa.Ab
namespace Go.Proofs.Ytmgklehakmdiiaa.Ab
open Go
set_option linter.all false
section
variable {P : Program} {tab : List (Option TI)} {n t : Nat} {i : TI} {d : D}
theorem good_int {k : IntKind} (hi : ti tab t = some i) (hd : i.d = .int k) (g : GoodT tab n t d) : ∃ m, d = .v (.int k m) ∧ (Lit.int k m).wf = true := by
  cases n with
  | zero => simp [GoodT] at g
  | succ n =>
    unfold GoodT at g
    obtain ⟨i', h1, h2⟩ := g
    rw [hi] at h1; cases h1
    rw [hd] at h2; exact h2
theorem good_str (hi : ti tab t = some i) (hd : i.d = .str) (g : GoodT tab n t d) : ∃ s : ByteArray, d = .v (.string s) ∧ s.size ≤ maxLen := by
  cases n with
  | zero => simp [GoodT] at g
  | succ n =>
    unfold GoodT at g
    obtain ⟨i', h1, h2⟩ := g
    rw [hi] at h1; cases h1
    rw [hd] at h2; exact h2
theorem good_slice {e : Nat} {ie : TI} (hi : ti tab t = some i) (hd : i.d = .slice e) (he : ti tab e = some ie) (g : GoodT tab n t d) : ∃ (n' : Nat) (xs : List D), n = n' + 1 ∧ d = .lst ie.size xs .no ∧ xs.length ≤ maxLen ∧ ∀ x ∈ xs, GoodT tab n' e x := by
  cases n with
  | zero => simp [GoodT] at g
  | succ n =>
    unfold GoodT at g
    obtain ⟨i', h1, h2⟩ := g
    rw [hi] at h1; cases h1
    rw [hd] at h2
    obtain ⟨ie', xs, h3, h4, h5, h6⟩ := h2
    rw [he] at h3; cases h3
    exact ⟨n, xs, rfl, h4, h5, h6⟩
theorem KkF {fs : List (Nat × Nat)} (hi : ti tab t = some i) (hd : i.d = .struct fs) (g : GoodT tab n t d) : ∃ (n' : Nat) (ds : List D), n = n' + 1 ∧ d = .agg (ds.flatMap K2) ∧ ds.length = fs.length ∧ ∀ (j : Nat) (f : Nat × Nat) (d0 : D), fs[j]? = some f → ds[j]? = some d0 → GoodT tab n' f.1 d0 := by
  cases n with
  | zero => simp [GoodT] at g
  | succ n =>
    unfold GoodT at g
    obtain ⟨i', h1, h2⟩ := g
    rw [hi] at h1; cases h1
    rw [hd] at h2
    obtain ⟨ds, h4, h5, h6⟩ := h2
    exact ⟨n, ds, rfl, h4, h5, h6⟩
theorem KjW {α : Type} {f : α → D} {K : α → Prop} {p : D → Prop} (h : ∀ x, p x → ∃ y, x = f y ∧ K y) : ∀ (xs : List D), (∀ x ∈ xs, p x) → ∃ ys : List α, xs = ys.map f ∧ ∀ y ∈ ys, K y
  | [], _ => ⟨[], rfl, by simp⟩
  | x :: xs, hx => by
    obtain ⟨y, rfl, hy⟩ := h x (hx x (by simp))
    obtain ⟨ys, rfl, hys⟩ := KjW h xs fun z hz => hx z (by simp [hz])
    refine ⟨y :: ys, rfl, fun z hz => ?_⟩
    rcases List.mem_cons.1 hz with rfl | hz
    · exact hy
    · exact hys z hz
theorem shape_of {w : World} {r : Reach} {base : Nat} {v : Value} (hT : TabOK P tab) (hv : Value.okWide P w r base t v) (g : GoodT tab n t d) : d.shape v = true := by
  cases n with
  | zero => simp [GoodT] at g
  | succ n =>
    unfold GoodT at g
    obtain ⟨i, hi, g⟩ := g
    obtain ⟨tf, z, dd, h1, h2, h3, _⟩ := KeH (ti_ok hT hi)
    unfold Value.okWide at hv
    rw [h2] at hv
    split at g
    · rename_i hd
      have := Kiq (h3.trans hd); subst this
      obtain ⟨b, rfl⟩ := g
      cases v <;> first | rfl | (simp [Cell.okWide, Cell.ok, h2] at hv)
    · rename_i k hd
      have := Kgb (h3.trans hd); subst this
      obtain ⟨b, rfl, _⟩ := g
      cases v <;> first | rfl | (simp [Cell.okWide, Cell.ok, h2] at hv)
    · rename_i hd
      have := Kg5 (h3.trans hd); subst this
      obtain ⟨b, rfl, _⟩ := g
      cases v <;> first | rfl | (simp [Cell.okWide, Cell.ok, h2] at hv)
    · rename_i e hd
      have := Kdn (h3.trans hd); subst this
      obtain ⟨ie, xs, _, rfl, _⟩ := g
      cases v <;> first | rfl | (simp [Cell.okWide, Cell.ok, h2] at hv)
    · rename_i fs hd
      obtain ⟨gs, rfl, _⟩ := KfA (h3.trans hd)
      obtain ⟨ds, rfl, _⟩ := g
      simp only at hv
      obtain ⟨cs, rfl, _⟩ := hv
      rfl
    · rename_i m e hd
      have := td_array (h3.trans hd); subst this
      obtain ⟨ds, rfl, _⟩ := g
      simp only at hv
      obtain ⟨cs, rfl, _⟩ := hv
      rfl
    · exact g.elim
theorem rd_arg {H : Type} {enc : TypeId × Value → H} {w : World} {base : Nat} {spare : Nat → Bool} {held : Bool} {v : Value} {x : DataW H} {ps : List MemPlace} {r : Reach} {b0 : Nat} (hT : TabOK P tab) (ts : List Nat) (hc : closedT tab ts = true) (ht : ts.contains t = true)
  (hv : Value.okWide P w r b0 t v) (h : DataW.Trod enc P w base spare held t v x ps) : ∃ n d, GoodT tab n t d ∧ Rep (allOf w) d v := by
 obtain ⟨n, hn⟩ := h
 obtain ⟨d, i, h1, h2, h3, h4, h5, h6⟩ := rd hT hc n t _ _ ht hn
 exact ⟨n, d, h6, h2, shape_of hT hv h6⟩
end
end Go.Proofs.Ytmgklehakmdiiaa.Ab
namespace Go.Proofs.Ytmgklehakmdiiaa
open Go.ChangeShapes Go.WideShapes Go.ChangeAt Go.RowKit Go.Joins
set_option linter.all false
theorem own : ownKnob Try.prog.godebug = none := by kernel_rfl
theorem laidOut' : laidOutB Try.prog = true := by kernel_rfl
theorem KjX {H : Type} {enc : TypeId × Value → H} {P : Program} {W : World} (hl : laidOutB P = true) : ∀ {ts : List TypeId} {vs : List Value} {ds : List (DataW H)} {ps : List MemPlace},
    (ts.all fun t => P.readableRec t && decide (t < P.types.size)) = true → DataW.TrodAll enc P W 0 (fun _ => true) true ts vs ds ps → (∀ x ∈ ps, x.block < W.heap.size) → ∀ W', Below W.heap.size W W' →
    ∀ sp : Nat → Bool, (∀ x ∈ ps, sp x.block = true) → DataW.TrodAll enc P W' 0 sp true ts vs ds ps
  | [], vs, ds, ps, _, h, _, W', hb, sp, hsp => by
    obtain ⟨rfl, rfl, rfl⟩ := trodAll_nil h
    exact trodAll_mk0
  | t :: ts, vs, ds, ps, hr, h, hlt, W', hb, sp, hsp => by
    obtain ⟨v, vs', d, ds', p, q, rfl, rfl, rfl, h0, h1⟩ := trodAll_cons h
    simp only [List.all_cons, Bool.and_eq_true, decide_eq_true_eq] at hr
    exact trodAll_cons_mk (WideElems.Trod_stays hl hr.1.1 hr.1.2 h0 (fun x hx => hb.same (hlt x (by simp [hx]))) (fun x hx => hsp x (by simp [hx])))
      (KjX hl hr.2 h1 (fun x hx => hlt x (by simp [hx])) W' hb sp (fun x hx => hsp x (by simp [hx])))
end Go.Proofs.Ytmgklehakmdiiaa
namespace Go.Proofs.Ytmgklehakmdiiaa.Ab
open Go
set_option linter.all false
section
variable {H : Type} {enc : TypeId × Value → H} {P : Program} {w : World} {base : Nat} {spare : Nat → Bool} {held : Bool} {tab : List (Option TI)} {ts : List Nat}
end
end Go.Proofs.Ytmgklehakmdiiaa.Ab
namespace Go.Proofs.Ytmgklehakmdiiaa.Ab
open Go
set_option linter.all false
mutual
def szE : Ka → Nat
 | ⟨_, _, _, ks, _⟩ => 1 + szEs ks
def szEs : List Ka → Nat
 | [] => 0
 | e :: l => szE e + szEs l
end
mutual
def dpE : Ka → Nat
 | ⟨_, _, _, ks, _⟩ => 1 + dpEs ks
def dpEs : List Ka → Nat
 | [] => 0
 | e :: l => max (dpE e) (dpEs l)
end
theorem KcX (e : Ka) : szE e = 1 + szEs e.gKids := by cases e; simp only [szE]
theorem KeC (e : Ka) : dpE e = 1 + dpEs e.gKids := by cases e; simp only [dpE]
theorem KeD : ∀ l m, szEs (l ++ m) = szEs l + szEs m
 | [], m => by simp [szEs]
 | e :: l, m => by simp only [List.cons_append, szEs, KeD l m]; omega
theorem Kg1 : ∀ l m, dpEs (l ++ m) = max (dpEs l) (dpEs m)
 | [], m => by simp [dpEs]
 | e :: l, m => by simp only [List.cons_append, dpEs, Kg1 l m]; omega
theorem dpE_mem : ∀ {l : List Ka} {e : Ka}, e ∈ l → dpE e ≤ dpEs l
  | x :: l, e, h => by
    simp only [dpEs]
    rcases List.mem_cons.1 h with rfl | h
    · omega
    · have := dpE_mem h; omega
theorem szE_mem : ∀ {l : List Ka} {e : Ka}, e ∈ l → szE e ≤ szEs l
  | x :: l, e, h => by
    simp only [szEs]
    rcases List.mem_cons.1 h with rfl | h
    · omega
    · have := szE_mem h; omega
mutual
theorem dpE_le : ∀ e, dpE e ≤ szE e
  | ⟨a, b, c, ks, d⟩ => by
    have := dpEs_le ks
    simp only [szE, dpE]; omega
theorem dpEs_le : ∀ l, dpEs l ≤ szEs l
  | [] => by simp [szEs, dpEs]
  | e :: l => by
    have h1 := dpE_le e
    have h2 := dpEs_le l
    simp only [szEs, dpEs]; omega
end
theorem Kdt : ∀ l, l.length ≤ szEs l
  | [] => by simp
  | e :: l => by
    have := Kdt l
    have h := KcX e
    simp only [szEs, List.length_cons]; omega
theorem KhL {e k : Ka} (h : k ∈ e.gKids) : dpE k < dpE e ∧ szE k < szE e := by
 have h1 := dpE_mem h
 have h2 := szE_mem h
 rw [KeC e, KcX e]; omega
theorem KhM {l pre : List Ka} {x : Ka} {post : List Ka} (h : l = pre ++ x :: post) : szEs pre + szE x ≤ szEs l := by
 subst h; rw [KeD]; simp only [szEs]; omega
mutual
def eqE (p : Bool) : Ka → Ka → Bool
  | ⟨a, b, c, ks, d⟩, f => a == f.gOp && (b == f.gN && (decide (c = f.gName) && ((!p || d == f.gAt) && eqEs p ks f.gKids)))
def eqEs (p : Bool) : List Ka → List Ka → Bool
  | [], m => m.isEmpty
  | e :: l, m => match m with
    | [] => false
    | f :: m => eqE p e f && eqEs p l m
end
theorem eqE_eq (p : Bool) (e f : Ka) : eqE p e f = (e.gOp == f.gOp && (e.gN == f.gN && (decide (e.gName = f.gName) && ((!p || e.gAt == f.gAt) && eqEs p e.gKids f.gKids)))) := by cases e; simp only [eqE]
theorem eqEs_eq (p : Bool) : ∀ l m, eqEs p l m = all2 (eqE p) l m
 | [], [] => by simp [eqEs, all2]
 | [], _ :: _ => by simp [eqEs, all2]
 | _ :: _, [] => by simp [eqEs, all2]
 | x :: l, y :: m => by simp only [eqEs, all2, eqEs_eq p l m]
mutual
theorem eqE_refl (p : Bool) : ∀ e, eqE p e e = true
  | ⟨a, b, c, ks, d⟩ => by
    rw [eqE_eq]
    simp [Kio p ks]
theorem Kio (p : Bool) : ∀ l, eqEs p l l = true
  | [] => by simp [eqEs]
  | e :: l => by simp only [eqEs, eqE_refl p e, Kio p l, Bool.and_self]
end
end Go.Proofs.Ytmgklehakmdiiaa.Ab
namespace Go.Proofs.Ytmgklehakmdiiaa.Ab
open Go
set_option linter.all false
theorem rexps_g (p : Bool) : ∀ (n : Nat) (l m : List Ka), dpEs l + 1 ≤ n → szEs l ≤ 1048576 → Kck n l m p = some (eqEs p l m)
  | 0, l, m, h, _ => by omega
  | n + 1, l, m, h, hb => by
    show Kdi (Kck n) l m p = _
    unfold Kdi
    have hl := Kdt l
    rw [eqEs_eq]
    refine pairs _ l m (fun a x q a' y q' e e' hp => ?_) ?_
    · have hx := Kep e
      have hd := dpE_mem hx
      have hz := szE_mem hx
      have hdx := KeC x
      have hsx := KcX x
      rw [Kdd e, cond_true]
      simp only [KdO e rfl, KdO e' hp, Option.bind_some]
      rw [Kcv e (by omega), rexps_g p n _ _ (by omega) (by omega), eqE_eq]
      simp only [Option.bind_some, bne]
      cases x.gOp == y.gOp <;> cases x.gN == y.gN <;> cases decide (x.gName = y.gName) <;> cases p <;> cases x.gAt == y.gAt <;> cases eqEs _ x.gKids y.gKids <;> rfl
    · rw [Kde, cond_false]
theorem rexps_eq {l m : List Ka} {p : Bool} (hb : szEs l ≤ 1048576) : Kgp l m p = some (eqEs p l m) := KkE l m p (dpEs l + 1) (rexps_g p _ l m (Nat.le_refl _) hb)
end Go.Proofs.Ytmgklehakmdiiaa.Ab
namespace Go.Proofs.Ytmgklehakmdiiaa.Ab
open Go
set_option linter.all false
theorem deep_g : ∀ (n : Nat) (e : Ka), dpE e ≤ n → szE e ≤ 1048576 → KbG n e = some (dpE e : Int)
  | 0, e, h, _ => by rw [KeC] at h; omega
  | n + 1, e, h, hb => by
    show Kb5 (KbG n) e = _
    unfold Kb5
    have hs := KcX e
    have hd := KeC e
    have hde := dpE_le e
    have hl := Kdt e.gKids
    refine Kdc e.gKids (fun pre => dpEs pre) (fun a n => ((a : Nat), (n : Nat))) (fun a => (a : Int)) (by simp [szEs, dpEs]) (fun pre x post hp => ?_) ?_ ?_
    · have hk := KhL (Kep hp)
      simp only [Kdd hp, cond_true]
      rw [Kcv hp (by omega)]
      rw [show idx e.gKids (pre.length : Int) = some x by rw [hp]; exact Kd0 _ _ _, Option.bind_some, deep_g n x (by omega) (by omega), Option.bind_some]
      rw [Kg1]
      simp only [dpEs]
      congr 3; omega
    · simp only [Kde, cond_false]
    · rw [hd, KcQ (by omega) (by omega)]; congr 1; omega
theorem deep_eq {e : Ka} (hb : szE e ≤ 1048576) : KfC e = some (dpE e : Int) := Kif e (dpE e) (deep_g _ e (Nat.le_refl _) hb)
theorem rdeep_g : ∀ (n : Nat) (e : Ka), dpE e ≤ n → szE e ≤ 1048576 → Kcj n e = some (dpE e : Int)
  | 0, e, h, _ => by rw [KeC] at h; omega
  | n + 1, e, h, hb => by
    show Kdg (Kcj n) e = _
    unfold Kdg
    have hs := KcX e
    have hd := KeC e
    have hde := dpE_le e
    have hl := Kdt e.gKids
    refine Kdc e.gKids (fun pre => dpEs pre) (fun a n => ((a : Nat), (n : Nat))) (fun a => (a : Int)) (by simp [szEs, dpEs]) (fun pre x post hp => ?_) ?_ ?_
    · have hk := KhL (Kep hp)
      simp only [Kdd hp, cond_true]
      rw [Kcv hp (by omega)]
      rw [show idx e.gKids (pre.length : Int) = some x by rw [hp]; exact Kd0 _ _ _, Option.bind_some, rdeep_g n x (by omega) (by omega), Option.bind_some]
      rw [Kg1]
      simp only [dpEs]
      congr 3; omega
    · simp only [Kde, cond_false]
    · rw [hd, KcQ (by omega) (by omega)]; congr 1
theorem rdeep_eq {e : Ka} (hb : szE e ≤ 1048576) : KhK e = some (dpE e : Int) := KkA e (dpE e) (rdeep_g _ e (Nat.le_refl _) hb)
end Go.Proofs.Ytmgklehakmdiiaa.Ab
namespace Go.Proofs.Ytmgklehakmdiiaa.Ab.Pq
open Go
set_option linter.all false
abbrev Tok := Kt
abbrev Xp := Ka
abbrev Rdr := Kb
def z0 : Tok := ⟨0, ByteArray.empty, 0, 0⟩
def ex0 : Xp := ⟨0, 0, ByteArray.empty, [], 0⟩
def lk (L : List Tok) (i : Nat) : Tok := L.getD i z0
def mk (L : List Tok) (i : Nat) (e : Int) : Rdr := ⟨L, (i : Int), e⟩
theorem Ke9 {L : List Tok} {i : Nat} (h : L.length ≤ i) : lk L i = z0 := by unfold lk; rw [List.getD_eq_getElem?_getD, List.getElem?_eq_none h]; rfl
theorem lk_lt {L : List Tok} {i : Nat} (h : (lk L i).gKind ≠ 0) : i < L.length := by
 rcases Nat.lt_or_ge i L.length with q | q
 ·exact q
 ·rw [Ke9 q] at h; exact absurd rfl h
theorem Kiv (L : List Tok) (i : Nat) (e : Int) : KaQ (mk L i e) = some (lk L i) := by
 unfold KaQ mk
 simp only []
 by_cases h : L.length ≤ i
 ·rw [decide_eq_true (by omega), cond_true, Ke9 h]; rfl
 ·rw [decide_eq_false (by omega), cond_false, Kf5]
  unfold lk
  rw [List.getD_eq_getElem?_getD, List.getElem?_eq_getElem (by omega)]; rfl
def isS (L : List Tok) (i : Nat) (s : ByteArray) : Bool := (lk L i).gKind == 3 && decide ((lk L i).gText = s)
theorem is_eq (L : List Tok) (i : Nat) (e : Int) (s : ByteArray) : KbQ (mk L i e) s = some (isS L i s) := by
 unfold KbQ isS
 rw [Kiv, Option.bind_some]
 cases (lk L i).gKind == 3 <;> rfl
theorem Kei {L : List Tok} {i : Nat} {s : ByteArray} (h : isS L i s = true) : i < L.length ∧ (lk L i).gKind = 3 ∧ (lk L i).gText = s := by
 unfold isS at h
 simp only [Bool.and_eq_true, beq_iff_eq, decide_eq_true_eq] at h
 exact ⟨lk_lt (by rw [h.1]; decide), h⟩
theorem Khl (L : List Tok) (i a : Nat) (e k : Int) : KaC (mk L i e) (a : Int) k = some (bif e == 0 then mk L a k else mk L i e) := by
 unfold KaC mk
 cases h : e == 0 <;> simp only [h, cond_true, cond_false]
theorem winc {i : Nat} (h : i ≤ 4000000) : IntKind.i64.wrap ((i : Int) + 1) = ((i + 1 : Nat) : Int) := by rw [KcQ (by omega) (by omega)]; omega
theorem eat_eq {L : List Tok} {i : Nat} (s : ByteArray) (h : i ≤ 4000000) : KaY (mk L i 0) s = some (bif isS L i s then mk L (i + 1) 0 else mk L i 3) := by
 unfold KaY
 rw [is_eq, Option.bind_some]
 cases isS L i s
 ·simp only [Bool.not_false, cond_true, cond_false]
  show Option.bind (KaC (mk L i 0) (i : Int) 3) _ = _
  rw [Khl, Option.bind_some]; rfl
 ·simp only [Bool.not_true, cond_true, cond_false]
  show some (⟨L, IntKind.i64.wrap ((i : Int) + 1), 0⟩ : Rdr) = _
  rw [winc h]; rfl
theorem Kf7 {L : List Tok} {i : Nat} (h : i ≤ 4000000) : Kbb (mk L i 0) = some (bif (lk L i).gKind == 1 then ((lk L i).gText, mk L (i + 1) 0) else (ByteArray.empty, mk L i 3)) := by
 unfold Kbb
 rw [Kiv, Option.bind_some]
 cases hk : (lk L i).gKind == 1
 ·simp only [bne, hk, Bool.not_false, cond_true, cond_false]
  show Option.bind (KaC (mk L i 0) (i : Int) 3) _ = _
  rw [Khl, Option.bind_some]; rfl
 ·simp only [bne, hk, Bool.not_true, cond_true, cond_false]
  show some (_, (⟨L, IntKind.i64.wrap ((i : Int) + 1), 0⟩ : Rdr)) = _
  rw [winc h]; rfl
theorem KcY {L : List Tok} {i a : Nat} {e : Int} {x : Xp} (hx : e = 0 → szE x ≤ 1048576) : Kag (mk L i e) x (a : Int) = some (bif e == 0 then bif decide (24 < dpE x) then (ex0, mk L a 5) else (x, mk L i 0) else (ex0, mk L i e)) := by
 unfold Kag
 show (bif e != 0 then _ else _) = _
 cases he : e == 0
 ·simp only [bne, he, Bool.not_false, cond_true, cond_false]; rfl
 ·have h0 : e = 0 := by simpa using he
  subst h0
  simp only [bne, he, Bool.not_true, cond_true, cond_false]
  rw [deep_eq (hx rfl), Option.bind_some]
  by_cases hd : 24 < dpE x
  ·rw [decide_eq_true (by omega), cond_true, decide_eq_true hd, cond_true, Khl, Option.bind_some]; rfl
  ·rw [decide_eq_false (by omega), cond_false, decide_eq_false hd, cond_false]
noncomputable def bt (k : Int) (s : ByteArray) : Int := (Kbl k s).getD 0
theorem Kiw (s a : ByteArray) (x : Int) (b : ByteArray) (y : Int) : Kcg s a x b y = some (bif decide (s = a) then x else bif decide (s = b) then y else 0) := by
 unfold Kcg
 cases decide (s = a) <;> cases decide (s = b) <;> rfl
theorem between_eq (k : Int) (s : ByteArray) : Kbl k s = some (bt k s) := by
 have h : ∃ r, Kbl k s = some r := by
  unfold Kbl
  simp only [Kiw, Option.bind_some]
  cases k == 0
  ·cases k == 1
   ·cases k == 2
    ·cases k == 3
     ·cases k == 4
      ·cases k == 5
       ·exact ⟨_, rfl⟩
       ·cases decide (s = ByteArray.mk #[37]) <;> exact ⟨_, rfl⟩
      ·exact ⟨_, rfl⟩
     ·exact ⟨_, rfl⟩
    ·exact ⟨_, rfl⟩
   ·cases decide (s = ByteArray.mk #[38, 38]) <;> exact ⟨_, rfl⟩
  ·cases decide (s = ByteArray.mk #[124, 124]) <;> exact ⟨_, rfl⟩
 obtain ⟨r, h⟩ := h
 unfold bt; rw [h]; rfl
theorem bt_stop (k : Int) : bt k (ByteArray.mk #[41]) = 0 := by
 unfold bt Kbl
 simp only [Kiw, Option.bind_some]
 rw [decide_eq_false (p := ByteArray.mk #[41] = ByteArray.mk #[124, 124]) (by decide), decide_eq_false (p := ByteArray.mk #[41] = ByteArray.mk #[38, 38]) (by decide), decide_eq_false (p := ByteArray.mk #[41] = ByteArray.mk #[61, 61]) (by decide), decide_eq_false (p := ByteArray.mk #[41] = ByteArray.mk #[33, 61]) (by decide), decide_eq_false (p := ByteArray.mk #[41] = ByteArray.mk #[60]) (by decide), decide_eq_false (p := ByteArray.mk #[41] = ByteArray.mk #[60, 61]) (by decide), decide_eq_false (p := ByteArray.mk #[41] = ByteArray.mk #[43]) (by decide), decide_eq_false (p := ByteArray.mk #[41] = ByteArray.mk #[45]) (by decide), decide_eq_false (p := ByteArray.mk #[41] = ByteArray.mk #[37]) (by decide), decide_eq_false (p := ByteArray.mk #[41] = ByteArray.mk #[42]) (by decide), decide_eq_false (p := ByteArray.mk #[41] = ByteArray.mk #[47]) (by decide)]
 cases k == 0 <;> cases k == 1 <;> cases k == 2 <;> cases k == 3 <;> cases k == 4 <;> cases k == 5 <;> rfl
mutual
def shE (p : Int) : Xp → Xp
 | ⟨a, b, c, ks, d⟩ => ⟨a, b, c, shEs p ks, d + p⟩
def shEs (p : Int) : List Xp → List Xp
 | [] => []
 | e :: l => shE p e :: shEs p l
end
theorem shE_eq (p : Int) (e : Xp) : shE p e = ⟨e.gOp, e.gN, e.gName, shEs p e.gKids, e.gAt + p⟩ := by cases e; simp only [shE]
def shT (p : Int) (t : Tok) : Tok := ⟨t.gKind, t.gText, t.gN, t.gAt + p⟩
mutual
theorem dpE_sh (p : Int) : ∀ e, dpE (shE p e) = dpE e
 | ⟨a, b, c, ks, d⟩ => by simp only [shE, dpE, dpEs_sh p ks]
theorem dpEs_sh (p : Int) : ∀ l, dpEs (shEs p l) = dpEs l
 | [] => by simp [shEs]
 | e :: l => by simp only [shEs, dpEs, dpE_sh p e, dpEs_sh p l]
end
mutual
theorem szE_sh (p : Int) : ∀ e, szE (shE p e) = szE e
 | ⟨a, b, c, ks, d⟩ => by simp only [shE, szE, szEs_sh p ks]
theorem szEs_sh (p : Int) : ∀ l, szEs (shEs p l) = szEs l
 | [] => by simp [shEs]
 | e :: l => by simp only [shEs, szEs, szE_sh p e, szEs_sh p l]
end
structure Mt (L L2 : List Tok) (d : Nat) (p : Int) (m : Nat) : Prop where
 tok : ∀ i, i < m → lk L2 (i + d) = shT p (lk L i)
 fin : (lk L m).gKind = 0
 stp : (lk L2 (m + d)).gKind = 3 ∧ (lk L2 (m + d)).gText = ByteArray.mk #[41]
 len : m + d ≤ 1000000
theorem Mt.lt {L L2 : List Tok} {d : Nat} {p : Int} {m i : Nat} (h : Mt L L2 d p m) (hi : i ≤ m) (hk : (lk L i).gKind ≠ 0) : i < m := by
 rcases Nat.lt_or_ge i m with q | q
 ·exact q
 ·have : i = m := by omega
  subst this; exact absurd h.fin hk
def AB (L : List Tok) (i c s : Nat) (r : Option (Xp × Rdr)) (r2 : List Tok → Nat → Int → Option (Xp × Rdr)) : Prop :=
 ∃ x i' e', r = some (x, mk L i' e') ∧ (e' = 0 → i + c ≤ i' ∧ i' ≤ L.length ∧ dpE x ≤ 24 ∧ szE x + i ≤ i' + s ∧ ∀ L2 d p m, Mt L L2 d p m → i ≤ m → i' ≤ m ∧ r2 L2 d p = some (shE p x, mk L2 (i' + d) 0))
theorem AB.bad {L : List Tok} {i c s : Nat} {r : Option (Xp × Rdr)} {r2 : List Tok → Nat → Int → Option (Xp × Rdr)} (x : Xp) (i' : Nat) (e' : Int) (he : e' ≠ 0) (h : r = some (x, mk L i' e')) : AB L i c s r r2 := ⟨x, i', e', h, fun q => absurd q he⟩
theorem wIdx {k : Nat} (h : k ≤ 5) : IntKind.i64.wrap ((k : Int) + 1) = ((k + 1 : Nat) : Int) := winc (by omega)
abbrev S8 := List Tok × Int × Int × Int × Int × ByteArray × List Xp × Int
def st8 (L : List Tok) (j : Nat) (e : Int) (x : Xp) : S8 := (L, (j : Int), e, x.gOp, x.gN, x.gName, x.gKids, x.gAt)
noncomputable def rowF (g0 : Rdr → Int → Option (Xp × Rdr)) (a1 : Int) (s51 : S8) : Option (Step S8 S8) :=
 (bif (s51.2.2.1 == (0 : Int)) then ((KaQ (⟨s51.1, s51.2.1, s51.2.2.1⟩ : Kb)).bind fun x79 => (Option.bind (α := Int) (bif (x79.gKind == (3 : Int)) then ((Kbl a1 x79.gText).bind fun x85 => some x85) else some (0 : Int)) fun y83 => (bif (y83 == (0 : Int)) then some (.done (s51.1, s51.2.1, s51.2.2.1, s51.2.2.2.1, s51.2.2.2.2.1, s51.2.2.2.2.2.1, s51.2.2.2.2.2.2.1, s51.2.2.2.2.2.2.2)) else ((g0 (⟨s51.1, (IntKind.i64.wrap (s51.2.1 + (1 : Int))), s51.2.2.1⟩ : Kb) (IntKind.i64.wrap (a1 + (1 : Int)))).bind fun x87 => ((Kag x87.2 (⟨y83, (0 : Int), ByteArray.empty, ([(⟨s51.2.2.2.1, s51.2.2.2.2.1, s51.2.2.2.2.2.1, s51.2.2.2.2.2.2.1, s51.2.2.2.2.2.2.2⟩ : Ka), x87.1] : List Ka), x79.gAt⟩ : Ka) s51.2.1).bind fun x89 => some (.next (x89.2.gL, x89.2.gAt, x89.2.gE, x89.1.gOp, x89.1.gN, x89.1.gName, x89.1.gKids, x89.1.gAt))))))) else some (.done (s51.1, s51.2.1, s51.2.2.1, s51.2.2.2.1, s51.2.2.2.2.1, s51.2.2.2.2.2.1, s51.2.2.2.2.2.2.1, s51.2.2.2.2.2.2.2)))
noncomputable def opAt (k : Int) (t : Tok) : Int := bif t.gKind == 3 then bt k t.gText else 0
theorem opAt_sh {k p : Int} {t : Tok} : opAt k (shT p t) = opAt k t := rfl
theorem KjY {k : Int} {t : Tok} (h : opAt k t ≠ 0) : t.gKind ≠ 0 := by
 unfold opAt at h
 cases hk : t.gKind == 3
 ·rw [hk] at h; exact absurd rfl h
 ·have : t.gKind = 3 := by simpa using hk
  rw [this]; decide
theorem Kfo {g0 : Rdr → Int → Option (Xp × Rdr)} {k : Int} {L : List Tok} {j : Nat} {e : Int} {x : Xp} (he : e ≠ 0) : rowF g0 k (st8 L j e x) = some (.done (st8 L j e x)) := by
 unfold rowF st8
 rw [show (e == 0) = false by simp [he], cond_false]
theorem Keu {g0 : Rdr → Int → Option (Xp × Rdr)} {k : Int} {L : List Tok} {j : Nat} {x : Xp} (hj : j ≤ 4000000) : rowF g0 k (st8 L j 0 x) = (bif opAt k (lk L j) == 0 then some (.done (st8 L j 0 x)) else
  (g0 (mk L (j + 1) 0) (IntKind.i64.wrap (k + 1))).bind fun y => (Kag y.2 ⟨opAt k (lk L j), 0, ByteArray.empty, [x, y.1], (lk L j).gAt⟩ (j : Int)).bind fun q => some (.next (q.2.gL, q.2.gAt, q.2.gE, q.1.gOp, q.1.gN, q.1.gName, q.1.gKids, q.1.gAt))) := by
 cases x
 unfold rowF st8
 simp only [beq_self_eq_true, cond_true]
 change Option.bind (KaQ (mk L j 0)) _ = _
 rw [Kiv, Option.bind_some, winc hj]
 unfold opAt
 cases hk : (lk L j).gKind == 3
 ·simp only [cond_false, Option.bind_some]; rfl
 ·simp only [cond_true, between_eq, Option.bind_some]; rfl
theorem row_loop (g0 : Rdr → Int → Option (Xp × Rdr)) (L : List Tok) (i0 : Nat) (k : Int) (hL : L.length ≤ 100000)
    (ih : ∀ j, i0 < j → j ≤ L.length → AB L j 1 0 (g0 (mk L j 0) (IntKind.i64.wrap (k + 1))) (fun L2 d p => g0 (mk L2 (j + d) 0) (IntKind.i64.wrap (k + 1)))) :
    ∀ (q j : Nat) (x : Xp), L.length - j ≤ q → i0 ≤ j → j ≤ L.length → dpE x ≤ 24 → szE x + i0 ≤ j →
      ∃ x' j' e', loopM (rowF g0 k) (st8 L j 0 x) = some (st8 L j' e' x') ∧ (e' = 0 → j ≤ j' ∧ j' ≤ L.length ∧ dpE x' ≤ 24 ∧ szE x' + i0 ≤ j' ∧ ∀ L2 d p m, Mt L L2 d p m → j ≤ m → j' ≤ m ∧ loopM (rowF g0 k) (st8 L2 (j + d) 0 (shE p x)) = some (st8 L2 (j' + d) 0 (shE p x'))) := by
  intro q
  induction q with
  | zero =>
    intro j x hq h0 h1 hd hs
    have hz : lk L j = z0 := Ke9 (by omega)
    refine ⟨x, j, 0, KV (by rw [Keu (by omega), hz]; rfl), fun _ => ⟨Nat.le_refl _, h1, hd, hs, fun L2 d p m hm hjm => ⟨hjm, ?_⟩⟩⟩
    refine KV ?_
    rw [Keu (by have := hm.len; omega)]
    rcases Nat.lt_or_ge j m with q | q
    · rw [hm.tok j q, opAt_sh, hz]; rfl
    · have : j = m := by omega
      subst this
      unfold opAt
      rw [hm.stp.1, hm.stp.2, bt_stop]; rfl
  | succ q ihq =>
    intro j x hq h0 h1 hd hs
    by_cases hop : opAt k (lk L j) = 0
    · refine ⟨x, j, 0, KV (by rw [Keu (by omega), hop]; rfl), fun _ => ⟨Nat.le_refl _, h1, hd, hs, fun L2 d p m hm hjm => ⟨hjm, ?_⟩⟩⟩
      refine KV ?_
      rw [Keu (by have := hm.len; omega)]
      rcases Nat.lt_or_ge j m with q | q
      · rw [hm.tok j q, opAt_sh, hop]; rfl
      · have : j = m := by omega
        subst this
        unfold opAt
        rw [hm.stp.1, hm.stp.2, bt_stop]; rfl
    · have hk := KjY hop
      have hlt := lk_lt hk
      have hopb : (opAt k (lk L j) == 0) = false := by simp [hop]
      obtain ⟨y, j1, e1, hr, hg⟩ := ih (j + 1) (by omega) (by omega)
      have hf := Keu (g0 := g0) (k := k) (L := L) (j := j) (x := x) (by omega)
      rw [hopb, cond_false, hr, Option.bind_some] at hf
      by_cases he : e1 = 0
      · subst he
        obtain ⟨g1, g2, g3, g4, g5⟩ := hg rfl
        have hsz : szE (⟨opAt k (lk L j), 0, ByteArray.empty, [x, y], (lk L j).gAt⟩ : Xp) = 1 + (szE x + szE y) := by simp [KcX, szEs]
        rw [KcY (fun _ => by rw [hsz]; omega), Option.bind_some] at hf
        simp only [beq_self_eq_true, cond_true] at hf
        by_cases hdd : 24 < dpE (⟨opAt k (lk L j), 0, ByteArray.empty, [x, y], (lk L j).gAt⟩ : Xp)
        · rw [decide_eq_true hdd, cond_true] at hf
          refine ⟨ex0, j, 5, ?_, fun h => by cases h⟩
          rw [KaG hf]
          exact KV (Kfo (e := 5) (by decide))
        · rw [decide_eq_false hdd, cond_false] at hf
          obtain ⟨x', j', e', h5, h6⟩ := ihq j1 ⟨opAt k (lk L j), 0, ByteArray.empty, [x, y], (lk L j).gAt⟩ (by omega) (by omega) g2 (by omega) (by rw [hsz]; omega)
          refine ⟨x', j', e', by rw [KaG hf]; exact h5, fun h => ?_⟩
          obtain ⟨k1, k2, k3, k4, k5⟩ := h6 h
          refine ⟨by omega, k2, k3, k4, fun L2 d p m hm hjm => ?_⟩
          have hjlt := hm.lt hjm hk
          obtain ⟨m1, m2⟩ := g5 L2 d p m hm (by omega)
          simp only [] at m2
          obtain ⟨m3, m4⟩ := k5 L2 d p m hm m1
          refine ⟨m3, ?_⟩
          have hf2 := Keu (g0 := g0) (k := k) (L := L2) (j := j + d) (x := shE p x) (by have := hm.len; omega)
          rw [hm.tok j hjlt, opAt_sh, hopb, cond_false, show j + d + 1 = j + 1 + d by omega, m2, Option.bind_some] at hf2
          have hsh : (⟨opAt k (lk L j), 0, ByteArray.empty, [shE p x, shE p y], (shT p (lk L j)).gAt⟩ : Xp) = shE p ⟨opAt k (lk L j), 0, ByteArray.empty, [x, y], (lk L j).gAt⟩ := by simp only [shE, shEs, shT]
          rw [hsh, KcY (fun _ => by rw [szE_sh, hsz]; omega), Option.bind_some, dpE_sh, decide_eq_false hdd] at hf2
          simp only [beq_self_eq_true, cond_true, cond_false] at hf2
          rw [KaG hf2]
          exact m4
      · rw [KcY (fun h => absurd h he), Option.bind_some, show (e1 == 0) = false by simp [he], cond_false] at hf
        refine ⟨ex0, j1, e1, ?_, fun h => absurd h he⟩
        rw [KaG hf]
        exact KV (Kfo he)
end Go.Proofs.Ytmgklehakmdiiaa.Ab.Pq
namespace Go.Proofs.Ytmgklehakmdiiaa.Ab.Pq
open Go
set_option linter.all false
theorem KbE {α β : Type} (o : Option (α × β)) : (o.bind fun x => some (x.1, x.2)) = o := by cases o <;> rfl
noncomputable abbrev pg := Ko
theorem xp_eta (x : Xp) : (⟨x.gOp, x.gN, x.gName, x.gKids, x.gAt⟩ : Xp) = x := by cases x; rfl
theorem row6 (n : Nat) (m : Rdr) : (pg (n + 1)).1 m 6 = (pg n).2.1 m := by
 show KaK (pg n).1 (pg n).2.1 (pg n).2.2.1 (pg n).2.2.2.1 (pg n).2.2.2.2 m 6 = _
 unfold KaK
 rw [show ((6 : Int) == 6) = true from rfl, cond_true, KbE]
theorem rowK {n k : Nat} (m : Rdr) (hk : k ≤ 5) : (pg (n + 1)).1 m k = ((pg n).1 m (IntKind.i64.wrap ((k : Int) + 1))).bind fun y => (loopM (rowF (pg n).1 (k : Int)) (y.2.gL, y.2.gAt, y.2.gE, y.1.gOp, y.1.gN, y.1.gName, y.1.gKids, y.1.gAt)).bind fun z => some ((⟨z.2.2.2.1, z.2.2.2.2.1, z.2.2.2.2.2.1, z.2.2.2.2.2.2.1, z.2.2.2.2.2.2.2⟩ : Xp), (⟨z.1, z.2.1, z.2.2.1⟩ : Rdr)) := by
 show KaK (pg n).1 (pg n).2.1 (pg n).2.2.1 (pg n).2.2.2.1 (pg n).2.2.2.2 m k = _
 unfold KaK
 rw [show ((k : Int) == 6) = false by simp; omega, cond_false]
 rfl
theorem unit_eq {n i : Nat} {L : List Tok} (hi : i ≤ 4000000) : (pg (n + 1)).2.1 (mk L i 0) =
  (bif (lk L i).gKind == 2 then some (⟨1, (lk L i).gN, ByteArray.empty, [], (lk L i).gAt⟩, mk L (i + 1) 0)
  else bif (lk L i).gKind == 1 then (pg n).2.2.1 (mk L (i + 1) 0) ⟨2, 0, (lk L i).gText, [], (lk L i).gAt⟩ 3 (i : Int)
  else bif (lk L i).gKind == 3 then (pg n).2.2.2.2 (mk L (i + 1) 0) (lk L i) (i : Int)
  else some (ex0, mk L i 3)) := by
 show KaV (pg n).1 (pg n).2.1 (pg n).2.2.1 (pg n).2.2.2.1 (pg n).2.2.2.2 (mk L i 0) = _
 unfold KaV
 rw [Kiv, Option.bind_some]
 have hw := winc hi
 change (bif false then some _ else _) = _
 rw [cond_false]
 change (bif (lk L i).gKind == 2 then some (_, (⟨L, IntKind.i64.wrap ((i : Int) + 1), 0⟩ : Rdr)) else bif (lk L i).gKind == 1 then Option.bind ((pg n).2.2.1 ⟨L, IntKind.i64.wrap ((i : Int) + 1), 0⟩ _ _ _) _ else bif (lk L i).gKind == 3 then Option.bind ((pg n).2.2.2.2 ⟨L, IntKind.i64.wrap ((i : Int) + 1), 0⟩ _ _) _ else Option.bind (KaC ⟨L, IntKind.i64.wrap ((i : Int) + 1), 0⟩ _ _) _) = _
 rw [hw, KbE, KbE]
 change (bif (lk L i).gKind == 2 then some (_, _) else bif (lk L i).gKind == 1 then _ else bif (lk L i).gKind == 3 then _ else Option.bind (KaC (mk L (i + 1) 0) _ _) _) = _
 simp only [show (mk L i 0).gAt = (i : Int) from rfl, Khl]
 rfl
theorem Ki0 {n i : Nat} {L : List Tok} {t : Tok} (hi : i ≤ 4000000) (ht : lk L i = t) : (pg (n + 1)).2.1 (mk L i 0) =
 (bif t.gKind == 2 then some (⟨1, t.gN, ByteArray.empty, [], t.gAt⟩, mk L (i + 1) 0)
 else bif t.gKind == 1 then (pg n).2.2.1 (mk L (i + 1) 0) ⟨2, 0, t.gText, [], t.gAt⟩ 3 (i : Int)
 else bif t.gKind == 3 then (pg n).2.2.2.2 (mk L (i + 1) 0) t (i : Int)
 else some (ex0, mk L i 3)) := by subst ht; exact unit_eq hi
theorem KfX {n i : Nat} {L : List Tok} {x : Xp} {op a : Int} (hi : i ≤ 4000000) : (pg (n + 1)).2.2.1 (mk L i 0) x op a =
  (bif isS L i (ByteArray.mk #[91]) then ((pg n).2.2.2.1 (mk L (i + 1) 0) (ByteArray.mk #[93])).bind fun y => Kag y.2 ⟨op, x.gN, x.gName, [y.1], x.gAt⟩ a else some (x, mk L i 0)) := by
 show Kau (pg n).1 (pg n).2.1 (pg n).2.2.1 (pg n).2.2.2.1 (pg n).2.2.2.2 (mk L i 0) x op a = _
 unfold Kau
 show Option.bind (bif false then some true else _) _ = _
 rw [cond_false, is_eq]
 simp only [Option.bind_some]
 have hw := winc hi
 cases isS L i (ByteArray.mk #[91])
 ·rfl
 ·simp only [Bool.not_true, cond_true, cond_false]
  change Option.bind ((pg n).2.2.2.1 ⟨L, IntKind.i64.wrap ((i : Int) + 1), 0⟩ _) _ = _
  rw [hw]
  simp only [KbE]
  rfl
theorem KiK {n i : Nat} {L : List Tok} {x : Xp} {op a e : Int} (he : e ≠ 0) : (pg (n + 1)).2.2.1 (mk L i e) x op a = some (x, mk L i e) := by
 show Kau (pg n).1 (pg n).2.1 (pg n).2.2.1 (pg n).2.2.2.1 (pg n).2.2.2.2 (mk L i e) x op a = _
 unfold Kau
 show Option.bind (bif e != 0 then some true else _) _ = _
 rw [show (e != 0) = true by simp [he]]; rfl
theorem all_eq {n : Nat} {m : Rdr} {s : ByteArray} : (pg (n + 1)).2.2.2.1 m s = ((pg n).1 m 0).bind fun x => bif x.2.gE == 0 then (KaY x.2 s).bind fun y => some (x.1, y) else some x := by
 show Ka5 (pg n).1 (pg n).2.1 (pg n).2.2.1 (pg n).2.2.2.1 (pg n).2.2.2.2 m s = _
 unfold Ka5
 rfl
def tm (s t : ByteArray) : Bool := decide (s = t)
theorem sign_eq {n i a : Nat} {L : List Tok} {t : Tok} : (pg (n + 1)).2.2.2.2 (mk L i 0) t (a : Int) =
  (bif tm t.gText (ByteArray.mk #[45]) then ((pg n).2.1 (mk L i 0)).bind fun y => Kag y.2 ⟨5, 0, ByteArray.empty, [y.1], t.gAt⟩ (a : Int)
  else bif tm t.gText (ByteArray.mk #[33]) then ((pg n).2.1 (mk L i 0)).bind fun y => Kag y.2 ⟨6, 0, ByteArray.empty, [y.1], t.gAt⟩ (a : Int)
  else bif tm t.gText (ByteArray.mk #[42]) then (Kbb (mk L i 0)).bind fun y => some (⟨4, 0, y.1, [], t.gAt⟩, y.2)
  else bif tm t.gText (ByteArray.mk #[38]) then (Kbb (mk L i 0)).bind fun y => (pg n).2.2.1 y.2 ⟨19, 0, y.1, [], t.gAt⟩ 20 (a : Int)
  else bif tm t.gText (ByteArray.mk #[110, 117, 108, 108]) then some (⟨18, 0, ByteArray.empty, [], t.gAt⟩, mk L i 0)
  else bif tm t.gText (ByteArray.mk #[40]) then (pg n).2.2.2.1 (mk L i 0) (ByteArray.mk #[41])
  else some (ex0, mk L a 3)) := by
 show KaW (pg n).1 (pg n).2.1 (pg n).2.2.1 (pg n).2.2.2.1 (pg n).2.2.2.2 (mk L i 0) t (a : Int) = _
 unfold KaW tm
 simp only [Kiw, Option.bind_some, Khl, KbE]
 cases h1 : decide (t.gText = ByteArray.mk #[45])
 ·cases h2 : decide (t.gText = ByteArray.mk #[33])
  ·rfl
  ·rfl
 ·rfl
theorem Mt.isS {L L2 : List Tok} {d : Nat} {p : Int} {m i : Nat} (h : Mt L L2 d p m) {s : ByteArray} (hi : i ≤ m) (hs : s ≠ ByteArray.mk #[41]) : isS L2 (i + d) s = isS L i s := by
 unfold Pq.isS
 rcases Nat.lt_or_ge i m with q | q
 ·rw [h.tok i q]; rfl
 ·have : i = m := by omega
  subst this
  rw [h.fin, h.stp.1, h.stp.2, decide_eq_false (Ne.symm hs)]; rfl
theorem AB.sound {L : List Tok} {i j a s : Nat} {op nn : Int} {nm : ByteArray} {at_ : Int} {r : Option (Xp × Rdr)} {r2 : List Tok → Nat → Int → Option (Xp × Rdr)} (y : Xp) (hs : 1 ≤ s) (hL : L.length ≤ 100000) (hij : i ≤ j) (hj : j ≤ L.length) (hy : szE y + i ≤ j)
  (hr : r = Kag (mk L j 0) ⟨op, nn, nm, [y], at_⟩ (a : Int)) (h2 : ∀ L2 d p m, Mt L L2 d p m → i ≤ m → j ≤ m ∧ r2 L2 d p = Kag (mk L2 (j + d) 0) ⟨op, nn, nm, [shE p y], at_ + p⟩ ((a + d : Nat) : Int)) : AB L i 0 s r r2 := by
 have hsz : szE (⟨op, nn, nm, [y], at_⟩ : Xp) = 1 + szE y := by simp [KcX, szEs]
 rw [KcY (fun _ => by rw [hsz]; omega)] at hr
 simp only [beq_self_eq_true, cond_true] at hr
 by_cases hd : 24 < dpE (⟨op, nn, nm, [y], at_⟩ : Xp)
 ·rw [decide_eq_true hd, cond_true] at hr
  exact AB.bad ex0 a 5 (by decide) hr
 ·rw [decide_eq_false hd, cond_false] at hr
  refine ⟨_, j, 0, hr, fun _ => ⟨by omega, hj, by omega, by rw [hsz]; omega, fun L2 d p m hm him => ?_⟩⟩
  obtain ⟨g1, g2⟩ := h2 L2 d p m hm him
  refine ⟨g1, ?_⟩
  have hsh : (⟨op, nn, nm, [shE p y], at_ + p⟩ : Xp) = shE p ⟨op, nn, nm, [y], at_⟩ := by simp only [shE, shEs]
  rw [g2, hsh, KcY (fun _ => by rw [szE_sh, hsz]; omega), dpE_sh, decide_eq_false hd]
  rfl
theorem AB.more {L : List Tok} {i c s c' s' : Nat} {r : Option (Xp × Rdr)} {r2 : List Tok → Nat → Int → Option (Xp × Rdr)} (h : AB L (i + 1) c s r r2) (hc : c' ≤ c + 1) (hs : s ≤ s' + 1) {r2' : List Tok → Nat → Int → Option (Xp × Rdr)} (h2 : ∀ L2 d p m, Mt L L2 d p m → i ≤ m → i + 1 ≤ m ∧ r2' L2 d p = r2 L2 d p) : AB L i c' s' r r2' := by
 obtain ⟨x, i', e', h1, h3⟩ := h
 refine ⟨x, i', e', h1, fun he => ?_⟩
 obtain ⟨g1, g2, g3, g4, g5⟩ := h3 he
 refine ⟨by omega, g2, g3, by omega, fun L2 d p m hm him => ?_⟩
 obtain ⟨k1, k2⟩ := h2 L2 d p m hm him
 obtain ⟨k3, k4⟩ := g5 L2 d p m hm k1
 exact ⟨k3, k2.trans k4⟩
theorem ab : ∀ n : Nat, (∀ (L : List Tok) (i k : Nat), L.length ≤ 100000 → i ≤ L.length → k ≤ 6 → 10 * (L.length - i) + 8 ≤ n + k → AB L i 1 0 ((pg n).1 (mk L i 0) (k : Int)) (fun L2 d p => (pg n).1 (mk L2 (i + d) 0) (k : Int))) ∧
    (∀ (L : List Tok) (i : Nat), L.length ≤ 100000 → i ≤ L.length → 10 * (L.length - i) + 1 ≤ n → AB L i 1 0 ((pg n).2.1 (mk L i 0)) (fun L2 d p => (pg n).2.1 (mk L2 (i + d) 0))) ∧
    (∀ (L : List Tok) (i a : Nat) (x : Xp) (op : Int), L.length ≤ 100000 → i ≤ L.length → x.gKids = [] → 10 * (L.length - i) + 1 ≤ n → AB L i 0 1 ((pg n).2.2.1 (mk L i 0) x op (a : Int)) (fun L2 d p => (pg n).2.2.1 (mk L2 (i + d) 0) (shE p x) op ((a + d : Nat) : Int))) ∧
    (∀ (L : List Tok) (i : Nat) (s : ByteArray), L.length ≤ 100000 → i ≤ L.length → 10 * (L.length - i) + 9 ≤ n → AB L i 1 0 ((pg n).2.2.2.1 (mk L i 0) s) (fun L2 d p => (pg n).2.2.2.1 (mk L2 (i + d) 0) s)) ∧
    (∀ (L : List Tok) (i a : Nat) (t : Tok), L.length ≤ 100000 → i ≤ L.length → 10 * (L.length - i) + 10 ≤ n → AB L i 0 1 ((pg n).2.2.2.2 (mk L i 0) t (a : Int)) (fun L2 d p => (pg n).2.2.2.2 (mk L2 (i + d) 0) (shT p t) ((a + d : Nat) : Int)))
  | 0 => ⟨fun L i k _ _ _ h => by omega, fun L i _ _ h => by omega, fun L i a x op _ _ _ h => by omega, fun L i s _ _ h => by omega, fun L i a t _ _ h => by omega⟩
  | n + 1 => by
    obtain ⟨ihR, ihU, ihI, ihA, ihS⟩ := ab n
    refine ⟨fun L i k hL hi hk hn => ?_, fun L i hL hi hn => ?_, fun L i a x op hL hi hx hn => ?_, fun L i s hL hi hn => ?_, fun L i a t hL hi hn => ?_⟩
    · -- a row
      by_cases h6 : k = 6
      · subst h6
        have h := ihU L i hL hi (by omega)
        obtain ⟨x, i', e', h1, h2⟩ := h
        refine ⟨x, i', e', (row6 n _).trans h1, fun he => ?_⟩
        obtain ⟨g1, g2, g3, g4, g5⟩ := h2 he
        exact ⟨g1, g2, g3, g4, fun L2 d p m hm him => ⟨(g5 L2 d p m hm him).1, (row6 n _).trans (g5 L2 d p m hm him).2⟩⟩
      · obtain ⟨x, i1, e1, h1, h2⟩ := ihR L i (k + 1) hL hi (by omega) (by omega)
        have hrow := rowK (n := n) (k := k) (mk L i 0) (by omega)
        rw [wIdx (by omega), h1, Option.bind_some] at hrow
        by_cases he : e1 = 0
        · subst he
          obtain ⟨g1, g2, g3, g4, g5⟩ := h2 rfl
          obtain ⟨x', j', e', h3, h4⟩ := row_loop (pg n).1 L i (k : Int) hL (fun j hj hjl => by
            have := ihR L j (k + 1) hL hjl (by omega) (by omega)
            rw [wIdx (by omega)]; exact this) (L.length - i1) i1 x (Nat.le_refl _) (by omega) g2 g3 (by omega)
          change _ = Option.bind (loopM (rowF (pg n).1 (k : Int)) (st8 L i1 0 x)) _ at hrow
          rw [h3, Option.bind_some] at hrow
          simp only [st8, xp_eta] at hrow
          refine ⟨x', j', e', hrow, fun he => ?_⟩
          obtain ⟨k1, k2, k3, k4, k5⟩ := h4 he
          refine ⟨by omega, k2, k3, by omega, fun L2 d p m hm him => ?_⟩
          obtain ⟨m1, m2⟩ := g5 L2 d p m hm him
          obtain ⟨m3, m4⟩ := k5 L2 d p m hm m1
          refine ⟨m3, ?_⟩
          simp only [] at m2 ⊢
          rw [rowK _ (by omega), wIdx (by omega), m2, Option.bind_some]
          change Option.bind (loopM (rowF (pg n).1 (k : Int)) (st8 L2 (i1 + d) 0 (shE p x))) _ = _
          rw [m4, Option.bind_some]
          simp only [st8, xp_eta]; rfl
        · change _ = Option.bind (loopM (rowF (pg n).1 (k : Int)) (st8 L i1 e1 x)) _ at hrow
          rw [KV (Kfo he), Option.bind_some] at hrow
          simp only [st8, xp_eta] at hrow
          exact AB.bad x i1 e1 he hrow
    · -- a unit
      have hu := unit_eq (n := n) (i := i) (L := L) (by omega)
      by_cases h2 : (lk L i).gKind = 2
      · have hlt := lk_lt (L := L) (i := i) (by rw [h2]; decide)
        rw [h2] at hu
        refine ⟨_, i + 1, 0, hu, fun _ => ⟨Nat.le_refl _, hlt, by simp [dpE, dpEs], by simp [szE, szEs]; omega, fun L2 d p m hm him => ?_⟩⟩
        have hl := hm.lt him (by rw [h2]; decide)
        refine ⟨hl, ?_⟩
        have := Ki0 (n := n) (i := i + d) (L := L2) (by have := hm.len; omega) (hm.tok i hl)
        rw [show (shT p (lk L i)).gKind = 2 from h2] at this
        try simp only []
        rw [this, show i + d + 1 = i + 1 + d by omega]; simp only [shE, shEs, shT]; rfl
      · rw [show ((lk L i).gKind == 2) = false by simp [h2], cond_false] at hu
        by_cases h1 : (lk L i).gKind = 1
        · have hlt := lk_lt (L := L) (i := i) (by rw [h1]; decide)
          rw [h1] at hu
          simp only [beq_self_eq_true, cond_true] at hu
          have h := ihI L (i + 1) i ⟨2, 0, (lk L i).gText, [], (lk L i).gAt⟩ 3 hL hlt rfl (by omega)
          rw [hu]
          refine h.more (by omega) (by omega) fun L2 d p m hm him => ?_
          have hl := hm.lt him (by rw [h1]; decide)
          refine ⟨hl, ?_⟩
          have := Ki0 (n := n) (i := i + d) (L := L2) (by have := hm.len; omega) (hm.tok i hl)
          rw [show (shT p (lk L i)).gKind = 1 from h1] at this
          try simp only []
          rw [this, show i + d + 1 = i + 1 + d by omega]; simp only [shE, shEs, shT]; rfl
        · rw [show ((lk L i).gKind == 1) = false by simp [h1], cond_false] at hu
          by_cases h3 : (lk L i).gKind = 3
          · have hlt := lk_lt (L := L) (i := i) (by rw [h3]; decide)
            have h := ihS L (i + 1) i (lk L i) hL hlt (by omega)
            rw [show ((lk L i).gKind == 3) = true by simp [h3], cond_true] at hu
            rw [hu]
            refine h.more (by omega) (by omega) fun L2 d p m hm him => ?_
            have hl := hm.lt him (by rw [h3]; decide)
            refine ⟨hl, ?_⟩
            have := Ki0 (n := n) (i := i + d) (L := L2) (by have := hm.len; omega) (hm.tok i hl)
            rw [show (shT p (lk L i)).gKind = 3 from h3] at this
            try simp only []
            rw [this, show i + d + 1 = i + 1 + d by omega]; rfl
          · rw [show ((lk L i).gKind == 3) = false by simp [h3], cond_false] at hu
            exact AB.bad ex0 i 3 (by decide) hu
    · -- an index
      have hx1 : dpE x = 1 := by rw [KeC, hx]; rfl
      have hx2 : szE x = 1 := by rw [KcX, hx]; rfl
      have hu := KfX (n := n) (i := i) (L := L) (x := x) (op := op) (a := (a : Int)) (by omega)
      cases hb : isS L i (ByteArray.mk #[91])
      · rw [hb, cond_false] at hu
        refine ⟨x, i, 0, hu, fun _ => ⟨Nat.le_refl _, hi, by omega, by omega, fun L2 d p m hm him => ⟨him, ?_⟩⟩⟩
        have := KfX (n := n) (i := i + d) (L := L2) (x := shE p x) (op := op) (a := ((a + d : Nat) : Int)) (by have := hm.len; omega)
        rw [hm.isS him (by decide)] at this
        rw [hb, cond_false] at this
        exact this
      · rw [hb, cond_true] at hu
        obtain ⟨hlt, hk3, _⟩ := Kei hb
        obtain ⟨y, j, e1, h1, h2⟩ := ihA L (i + 1) (ByteArray.mk #[93]) hL hlt (by omega)
        rw [h1, Option.bind_some] at hu
        by_cases he : e1 = 0
        · subst he
          obtain ⟨g1, g2, g3, g4, g5⟩ := h2 rfl
          refine AB.sound y (Nat.le_refl _) hL (by omega) g2 (by omega) hu fun L2 d p m hm him => ?_
          have hl := hm.lt him (by rw [hk3]; decide)
          obtain ⟨m1, m2⟩ := g5 L2 d p m hm hl
          refine ⟨m1, ?_⟩
          have := KfX (n := n) (i := i + d) (L := L2) (x := shE p x) (op := op) (a := ((a + d : Nat) : Int)) (by have := hm.len; omega)
          rw [hm.isS him (by decide)] at this
          simp only [] at m2 ⊢
          rw [hb, cond_true, show i + d + 1 = i + 1 + d by omega, m2, Option.bind_some] at this
          rw [this, shE_eq p x]
        · rw [KcY (fun h => absurd h he), show (e1 == 0) = false by simp [he], cond_false] at hu
          exact AB.bad ex0 j e1 he hu
    · -- all
      obtain ⟨x, j, e1, h1, h2⟩ := ihR L i 0 hL hi (by omega) (by omega)
      have hu := all_eq (n := n) (m := mk L i 0) (s := s)
      rw [show ((pg n).1 (mk L i 0) 0) = _ from h1, Option.bind_some] at hu
      by_cases he : e1 = 0
      · subst he
        obtain ⟨g1, g2, g3, g4, g5⟩ := h2 rfl
        change _ = Option.bind (KaY (mk L j 0) s) _ at hu
        rw [eat_eq s (by omega), Option.bind_some] at hu
        cases hb : isS L j s
        · rw [hb, cond_false] at hu
          exact AB.bad x j 3 (by decide) hu
        · rw [hb, cond_true] at hu
          obtain ⟨hlt, hk3, ht⟩ := Kei hb
          refine ⟨x, j + 1, 0, hu, fun _ => ⟨by omega, hlt, g3, by omega, fun L2 d p m hm him => ?_⟩⟩
          obtain ⟨m1, m2⟩ := g5 L2 d p m hm him
          have hl := hm.lt m1 (by rw [hk3]; decide)
          refine ⟨hl, ?_⟩
          simp only [] at m2 ⊢
          have hb2 : isS L2 (j + d) s = true := by
            rw [← hb]; unfold isS; rw [hm.tok j hl]; rfl
          rw [all_eq, show ((pg n).1 (mk L2 (i + d) 0) 0) = _ from m2, Option.bind_some]
          change Option.bind (KaY (mk L2 (j + d) 0) s) _ = _
          rw [eat_eq s (by have := hm.len; omega), Option.bind_some, hb2, cond_true, show j + d + 1 = j + 1 + d by omega]
      · rw [show ((x, mk L j e1).2.gE == 0) = false by simp [mk, he], cond_false] at hu
        exact AB.bad x j e1 he hu
    · -- a sign
      have hu := sign_eq (n := n) (i := i) (a := a) (L := L) (t := t)
      have hu2 := fun (L2 : List Tok) (d : Nat) (p : Int) => sign_eq (n := n) (i := i + d) (a := a + d) (L := L2) (t := shT p t)
      have htx : ∀ p, (shT p t).gText = t.gText := fun _ => rfl
      have hta : ∀ p, (shT p t).gAt = t.gAt + p := fun _ => rfl
      simp only [htx, hta] at hu2
      have un : ∀ op : Int, (∀ {r}, r = (((pg n).2.1 (mk L i 0)).bind fun y => Kag y.2 ⟨op, 0, ByteArray.empty, [y.1], t.gAt⟩ (a : Int)) → (∀ {r2 : List Tok → Nat → Int → Option (Xp × Rdr)}, (∀ L2 d p, r2 L2 d p = (((pg n).2.1 (mk L2 (i + d) 0)).bind fun y => Kag y.2 ⟨op, 0, ByteArray.empty, [y.1], t.gAt + p⟩ ((a + d : Nat) : Int))) → AB L i 0 1 r r2)) := by
        intro op r hr r2 hr2
        obtain ⟨y, j, e1, h1, h2⟩ := ihU L i hL hi (by omega)
        rw [h1, Option.bind_some] at hr
        by_cases he : e1 = 0
        · subst he
          obtain ⟨g1, g2, g3, g4, g5⟩ := h2 rfl
          refine AB.sound y (Nat.le_refl _) hL (by omega) g2 (by omega) hr fun L2 d p m hm him => ?_
          obtain ⟨m1, m2⟩ := g5 L2 d p m hm him
          refine ⟨m1, ?_⟩
          simp only [] at m2
          rw [hr2, m2, Option.bind_some]
        · rw [KcY (fun h => absurd h he), show (e1 == 0) = false by simp [he], cond_false] at hr
          exact AB.bad ex0 j e1 he hr
      cases c1 : tm t.gText (ByteArray.mk #[45])
      rotate_left
      · rw [c1, cond_true] at hu
        simp only [c1, cond_true] at hu2
        exact un 5 hu hu2
      cases c2 : tm t.gText (ByteArray.mk #[33])
      rotate_left
      · rw [c1, c2, cond_false, cond_true] at hu
        simp only [c1, c2, cond_true, cond_false] at hu2
        exact un 6 hu hu2
      cases c3 : tm t.gText (ByteArray.mk #[42])
      rotate_left
      · rw [c1, c2, c3, cond_false, cond_false, cond_true, Kf7 (by omega), Option.bind_some] at hu
        simp only [c1, c2, c3, cond_true, cond_false] at hu2
        cases hk : (lk L i).gKind == 1
        · rw [hk, cond_false] at hu
          exact AB.bad _ i 3 (by decide) hu
        · have hk1 : (lk L i).gKind = 1 := by simpa using hk
          have hlt := lk_lt (L := L) (i := i) (by rw [hk1]; decide)
          rw [hk, cond_true] at hu
          refine ⟨_, i + 1, 0, hu, fun _ => ⟨by omega, hlt, by simp [dpE, dpEs], by simp [szE, szEs]; omega, fun L2 d p m hm him => ?_⟩⟩
          have hl := hm.lt him (by rw [hk1]; decide)
          refine ⟨hl, ?_⟩
          try simp only []
          rw [hu2 L2 d p, Kf7 (by have := hm.len; omega), Option.bind_some, hm.tok i hl, show (shT p (lk L i)).gKind = 1 from hk1, show i + d + 1 = i + 1 + d by omega]
          simp only [shE, shEs, shT]; rfl
      cases c4 : tm t.gText (ByteArray.mk #[38])
      rotate_left
      · rw [c1, c2, c3, c4, cond_false, cond_false, cond_false, cond_true, Kf7 (by omega), Option.bind_some] at hu
        simp only [c1, c2, c3, c4, cond_true, cond_false] at hu2
        cases hk : (lk L i).gKind == 1
        · rw [hk, cond_false] at hu
          simp only [] at hu
          have hn0 : ∃ n', n = n' + 1 := ⟨n - 1, by omega⟩
          obtain ⟨n', rfl⟩ := hn0
          rw [KiK (by decide)] at hu
          exact AB.bad _ i 3 (by decide) hu
        · have hk1 : (lk L i).gKind = 1 := by simpa using hk
          have hlt := lk_lt (L := L) (i := i) (by rw [hk1]; decide)
          rw [hk, cond_true] at hu
          simp only [] at hu
          have h := ihI L (i + 1) a ⟨19, 0, (lk L i).gText, [], t.gAt⟩ 20 hL hlt rfl (by omega)
          rw [hu]
          refine h.more (by omega) (by omega) fun L2 d p m hm him => ?_
          have hl := hm.lt him (by rw [hk1]; decide)
          refine ⟨hl, ?_⟩
          try simp only []
          rw [hu2 L2 d p, Kf7 (by have := hm.len; omega), Option.bind_some, hm.tok i hl, show (shT p (lk L i)).gKind = 1 from hk1, show i + d + 1 = i + 1 + d by omega]
          simp only [shE, shEs, shT]; rfl
      cases c5 : tm t.gText (ByteArray.mk #[110, 117, 108, 108])
      rotate_left
      · rw [c1, c2, c3, c4, c5, cond_false, cond_false, cond_false, cond_false, cond_true] at hu
        simp only [c1, c2, c3, c4, c5, cond_true, cond_false] at hu2
        refine ⟨_, i, 0, hu, fun _ => ⟨by omega, hi, by simp [dpE, dpEs], by simp [szE, szEs]; omega, fun L2 d p m hm him => ⟨him, ?_⟩⟩⟩
        try simp only []
        rw [hu2 L2 d p]; simp only [shE, shEs]
      cases c6 : tm t.gText (ByteArray.mk #[40])
      rotate_left
      · rw [c1, c2, c3, c4, c5, c6, cond_false, cond_false, cond_false, cond_false, cond_false, cond_true] at hu
        simp only [c1, c2, c3, c4, c5, c6, cond_true, cond_false] at hu2
        obtain ⟨x, j, e1, h1, h2⟩ := ihA L i (ByteArray.mk #[41]) hL hi (by omega)
        refine ⟨x, j, e1, hu.trans h1, fun he => ?_⟩
        obtain ⟨g1, g2, g3, g4, g5⟩ := h2 he
        refine ⟨by omega, g2, g3, by omega, fun L2 d p m hm him => ⟨(g5 L2 d p m hm him).1, ?_⟩⟩
        try simp only []
        rw [hu2 L2 d p]
        exact (g5 L2 d p m hm him).2
      · rw [c1, c2, c3, c4, c5, c6, cond_false, cond_false, cond_false, cond_false, cond_false, cond_false] at hu
        exact AB.bad ex0 a 3 (by decide) hu
end Go.Proofs.Ytmgklehakmdiiaa.Ab.Pq
namespace Go.Proofs.Ytmgklehakmdiiaa.Ab.Pq
open Go
set_option linter.all false
def Tot {α : Type} (m : Option α) : Prop := ∃ r, m = some r
theorem Tot.some {α : Type} (a : α) : Tot (Option.some a) := ⟨a, rfl⟩
theorem Tot.bind {α β : Type} {m : Option α} {f : α → Option β} (h : Tot m) (k : ∀ a, Tot (f a)) : Tot (m.bind f) := by
 obtain ⟨a, rfl⟩ := h
 exact k a
theorem Tot.cond {α : Type} {c : Bool} {m n : Option α} (h : Tot m) (k : Tot n) : Tot (bif c then m else n) := by
 cases c
 ·exact k
 ·exact h
def txt (r : List UInt8) (n : Nat) : ByteArray := ByteArray.mk (r.take n).toArray
end Go.Proofs.Ytmgklehakmdiiaa.Ab.Pq
namespace Go.Proofs.Ytmgklehakmdiiaa.Ab.Pq
open Go
set_option linter.all false
def dig (c : UInt8) : Nat := c.toNat - 48
theorem w8 {c : UInt8} (h : 48 ≤ c.toNat ∧ c.toNat ≤ 57) : IntKind.u64.wrap (IntKind.u8.wrap ((c.toNat : Int) - 48)) = (dig c : Int) := by
 unfold dig
 rw [IntKind.wrap_u64]
 have : IntKind.u8.wrap ((c.toNat : Int) - 48) = (c.toNat : Int) - 48 := by
  have h8 : ∀ x : Int, 0 ≤ x → x < 256 → IntKind.u8.wrap x = x := by
   intro x h0 h1
   show x % _ = x
   exact Int.emod_eq_of_lt h0 h1
  exact h8 _ (by omega) (by omega)
 rw [this]; omega
end Go.Proofs.Ytmgklehakmdiiaa.Ab.Pq
namespace Go.Proofs.Ytmgklehakmdiiaa.Ab.Pq
open Go
set_option linter.all false
def preB (r : List UInt8) (x : ByteArray) : Bool := decide (x.size ≤ r.length) && decide (txt r x.size = x)
end Go.Proofs.Ytmgklehakmdiiaa.Ab.Pq
namespace Go.Proofs.Ytmgklehakmdiiaa.Ab.Pq
open Go
set_option linter.all false
abbrev Pos (L : List Tok) : Type := {i : Nat // i ≤ L.length}
abbrev gm (L : List Tok) (p : Pos L) (e v o : Int) : Ke := ⟨L, ((p.1 : Nat) : Int), e, v, o⟩
abbrev rm (L : List Tok) (p : Pos L) (e : Int) : Kd := ⟨L, ((p.1 : Nat) : Int), e⟩
def eatP (L : List Tok) (p : Pos L) (e : Int) (s : ByteArray) : Pos L × Int :=
 if e = 0 then if h2 : isS L p.1 s = true then (⟨p.1 + 1, (Kei h2).1⟩, 0) else (p, 3) else (p, e)
def mayP (L : List Tok) (p : Pos L) (e : Int) (s : ByteArray) : Bool × Pos L :=
 if e = 0 then if h2 : isS L p.1 s = true then (true, ⟨p.1 + 1, (Kei h2).1⟩) else (false, p) else (false, p)
def nameP (L : List Tok) (p : Pos L) (e : Int) : ByteArray × Pos L × Int :=
 if e = 0 then if h2 : (lk L p.1).gKind = 1 then ((lk L p.1).gText, ⟨p.1 + 1, lk_lt (by rw [h2]; decide)⟩, 0) else (ByteArray.empty, p, 3) else (ByteArray.empty, p, e)
def failP (L : List Tok) (p : Pos L) (e : Int) (a : Pos L) (k : Int) : Pos L × Int := if e = 0 then (a, k) else (p, e)
section
variable {L : List Tok} (hL : L.length ≤ 100000)
include hL
theorem glookN (p : Pos L) (e v o : Int) (k : Nat) (hk : k ≤ 100) : Kar (gm L p e v o) (k : Int) = some (lk L (p.1 + k)) := by
 have hp := p.2
 unfold Kar
 simp only []
 rw [KcQ (by omega) (by omega)]
 by_cases h : L.length ≤ p.1 + k
 ·rw [decide_eq_true (by omega), cond_true, Ke9 h]; rfl
 ·rw [decide_eq_false (by omega), cond_false, show ((p.1 : Nat) : Int) + (k : Int) = ((p.1 + k : Nat) : Int) by omega, Kf5]
  unfold lk
  rw [List.getD_eq_getElem?_getD, List.getElem?_eq_getElem (by omega)]; rfl
theorem Kfa (p : Pos L) (e v o : Int) : Kar (gm L p e v o) 0 = some (lk L p.1) := glookN hL p e v o 0 (by omega)
theorem glook1 (p : Pos L) (e v o : Int) : Kar (gm L p e v o) 1 = some (lk L (p.1 + 1)) := glookN hL p e v o 1 (by omega)
theorem gis0 (p : Pos L) (e v o : Int) (s : ByteArray) : KaB (gm L p e v o) 0 s = some (isS L p.1 s) := by
 unfold KaB isS
 rw [Kfa hL, Option.bind_some]
 cases (lk L p.1).gKind == 3 <;> rfl
theorem gis1 (p : Pos L) (e v o : Int) (s : ByteArray) : KaB (gm L p e v o) 1 s = some (isS L (p.1 + 1) s) := by
 unfold KaB isS
 rw [glook1 hL, Option.bind_some]
 cases (lk L (p.1 + 1)).gKind == 3 <;> rfl
omit hL in
theorem gfail (p a : Pos L) (e v o k : Int) : Kab (gm L p e v o) ((a.1 : Nat) : Int) k = some (gm L (failP L p e a k).1 (failP L p e a k).2 v o) := by
 unfold Kab failP
 simp only []
 by_cases h : e = 0
 ·subst h; rfl
 ·rw [show (e == 0) = false by simp [h], if_neg h]; rfl
theorem rlook (p : Pos L) (e : Int) : Kbc (rm L p e) = some (lk L p.1) := by
 have hp := p.2
 unfold Kbc
 simp only []
 by_cases h : L.length ≤ p.1
 ·rw [decide_eq_false (by omega), cond_false, Ke9 h]; rfl
 ·rw [decide_eq_true (by omega), cond_true, Kf5]
  unfold lk
  rw [List.getD_eq_getElem?_getD, List.getElem?_eq_getElem (by omega)]; rfl
theorem rahead1 (p : Pos L) (e : Int) : Ked (rm L p e) 1 = some (lk L (p.1 + 1)) := by
 have hp := p.2
 unfold Ked
 simp only []
 rw [winc (by omega)]
 by_cases h : L.length ≤ p.1 + 1
 ·rw [decide_eq_false (by omega), cond_false, Ke9 h]; rfl
 ·rw [decide_eq_true (by omega), cond_true, Kf5]
  unfold lk
  rw [List.getD_eq_getElem?_getD, List.getElem?_eq_getElem (by omega)]; rfl
theorem ris (p : Pos L) (e : Int) (s : ByteArray) : Kec (rm L p e) s = some (isS L p.1 s) := by
 unfold Kec isS
 rw [rlook hL, Option.bind_some, Option.bind_some]
 cases (lk L p.1).gKind == 3 <;> rfl
omit hL in
theorem rfail (p a : Pos L) (e k : Int) : Kbn (rm L p e) ((a.1 : Nat) : Int) k = some (rm L (failP L p e a k).1 (failP L p e a k).2) := by
 unfold Kbn failP
 simp only []
 by_cases h : e = 0
 ·subst h; rfl
 ·rw [show (e == 0) = false by simp [h], if_neg h]; rfl
theorem reat (p : Pos L) (e : Int) (s : ByteArray) : Kae (rm L p e) s = some (rm L (eatP L p e s).1 (eatP L p e s).2) := by
 have hp := p.2
 unfold Kae eatP
 by_cases h : e = 0
 ·subst h
  simp only [bne, beq_self_eq_true, Bool.not_true, cond_false, if_true]
  rw [ris hL, Option.bind_some, winc (by omega)]
  by_cases h2 : isS L p.1 s = true
  ·rw [dif_pos h2, h2]; rfl
  ·rw [dif_neg h2, show isS L p.1 s = false by simpa using h2, cond_false, rfail p p, Option.bind_some]; rfl
 ·simp only [bne, show (e == 0) = false by simp [h], Bool.not_false, cond_true, if_neg h]
theorem rname (p : Pos L) (e : Int) : Kbo (rm L p e) = some ((nameP L p e).1, rm L (nameP L p e).2.1 (nameP L p e).2.2) := by
 have hp := p.2
 unfold Kbo nameP
 by_cases h : e = 0
 ·subst h
  simp only [bne, beq_self_eq_true, Bool.not_true, cond_false, if_true]
  rw [rlook hL, Option.bind_some, winc (by omega)]
  by_cases h2 : (lk L p.1).gKind = 1
  ·rw [dif_pos h2, show ((lk L p.1).gKind == 1) = true by simp [h2]]; rfl
  ·rw [dif_neg h2, show ((lk L p.1).gKind == 1) = false by simp [h2], Bool.not_false, cond_true, rfail p p, Option.bind_some]; rfl
 ·simp only [bne, show (e == 0) = false by simp [h], Bool.not_false, cond_true, if_neg h]; rfl
theorem rmay (p : Pos L) (e : Int) (s : ByteArray) : Kbr (rm L p e) s = some ((mayP L p e s).1, rm L (mayP L p e s).2 e) := by
 have hp := p.2
 unfold Kbr mayP
 by_cases h : e = 0
 ·subst h
  simp only [beq_self_eq_true, cond_true, if_true]
  rw [ris hL, Option.bind_some, Option.bind_some, winc (by omega)]
  by_cases h2 : isS L p.1 s = true
  ·rw [dif_pos h2, h2]; rfl
  ·rw [dif_neg h2, show isS L p.1 s = false by simpa using h2, cond_false]
 ·simp only [show (e == 0) = false by simp [h], cond_false, if_neg h]; rfl
theorem gmay (p : Pos L) (e v o : Int) (s : ByteArray) : KX (gm L p e v o) s = some ((mayP L p e s).1, gm L (mayP L p e s).2 e v o) := by
 have hp := p.2
 unfold KX mayP
 by_cases h : e = 0
 ·subst h
  simp only [bne, beq_self_eq_true, Bool.not_true, cond_false, if_true]
  rw [gis0 hL, Option.bind_some, Option.bind_some, winc (by omega)]
  by_cases h2 : isS L p.1 s = true
  ·rw [dif_pos h2, h2]; rfl
  ·rw [dif_neg h2, show isS L p.1 s = false by simpa using h2]; rfl
 ·simp only [bne, show (e == 0) = false by simp [h], Bool.not_false, cond_true, if_neg h]; rfl
theorem gname (p : Pos L) (e v o : Int) : Kaw (gm L p e v o) = some ((nameP L p e).1, gm L (nameP L p e).2.1 (nameP L p e).2.2 v o) := by
 have hp := p.2
 unfold Kaw nameP
 by_cases h : e = 0
 ·subst h
  simp only [bne, beq_self_eq_true, Bool.not_true, cond_false, if_true]
  rw [Kfa hL, Option.bind_some, winc (by omega)]
  by_cases h2 : (lk L p.1).gKind = 1
  ·rw [dif_pos h2, show ((lk L p.1).gKind == 1) = true by simp [h2]]; rfl
  ·rw [dif_neg h2, show ((lk L p.1).gKind == 1) = false by simp [h2], Bool.not_false, cond_true, gfail p p, Option.bind_some]; rfl
 ·simp only [bne, show (e == 0) = false by simp [h], Bool.not_false, cond_true, if_neg h]; rfl
omit hL in
theorem Kbz {p : Pos L} {e : Int} (h : e ≠ 0) (s : ByteArray) : eatP L p e s = (p, e) := by unfold eatP; rw [if_neg h]
omit hL in
theorem Kej {p : Pos L} {e : Int} (h : e ≠ 0) (s : ByteArray) : mayP L p e s = (false, p) := by unfold mayP; rw [if_neg h]
omit hL in
theorem KgQ {p : Pos L} {e : Int} (h : e ≠ 0) : nameP L p e = (ByteArray.empty, p, e) := by unfold nameP; rw [if_neg h]
omit hL in
theorem KfE {p a : Pos L} {e k : Int} (h : e ≠ 0) : failP L p e a k = (p, e) := by unfold failP; rw [if_neg h]
omit hL in
theorem KcZ {p a : Pos L} {k : Int} : failP L p 0 a k = (a, k) := by unfold failP; rw [if_pos rfl]
def eatsP (L : List Tok) (p : Pos L) (e : Int) (l : List ByteArray) : Pos L × Int := l.foldl (fun q s => eatP L q.1 q.2 s) (p, e)
omit hL in
theorem KgR {p : Pos L} {e : Int} (h : e ≠ 0) : ∀ l, eatsP L p e l = (p, e)
  | [] => rfl
  | s :: l => by
    unfold eatsP
    rw [List.foldl_cons]
    simp only []
    rw [Kbz h]
    exact KgR h l
noncomputable def eatF (a1 : List ByteArray) (m0 : Ke) (s34 : Int × Int) : Option (Step (Int × Int) (Int ⊕ Ke)) := (bif (decide (s34.1 < (a1.length : Int))) then ((idx a1 s34.1).bind fun x50 => (bif (m0.gE != (0 : Int)) then some (.done (.inr (⟨m0.gL, s34.2, m0.gE, m0.gVars, m0.gOpen⟩ : Ke))) else ((KaB (⟨m0.gL, s34.2, m0.gE, m0.gVars, m0.gOpen⟩ : Ke) (0 : Int) x50).bind fun x53 => (bif (!x53) then ((Kab (⟨m0.gL, s34.2, m0.gE, m0.gVars, m0.gOpen⟩ : Ke) s34.2 (3 : Int)).bind fun x55 => some (.done (.inr x55))) else some (.next ((IntKind.i64.wrap (s34.1 + (1 : Int))), (IntKind.i64.wrap (s34.2 + (1 : Int))))))))) else some (.done (.inl s34.2)))
theorem geats (p : Pos L) (e v o : Int) (l : List ByteArray) (hl : l.length ≤ 1000) : KJ (gm L p e v o) l = some (gm L (eatsP L p e l).1 (eatsP L p e l).2 v o) := by
  unfold KJ
  change Option.bind (loopM (eatF l (gm L p e v o)) ((0 : Int), ((p.1 : Nat) : Int))) _ = _
  by_cases h : e = 0
  · subst h
    have key : ∀ (post pre : List ByteArray) (q : Pos L), l = pre ++ post → (loopM (eatF l (gm L p 0 v o)) (((pre.length : Nat) : Int), ((q.1 : Nat) : Int))).bind (Sum.elim (fun y33 => some (⟨(gm L p 0 v o).gL, y33, (gm L p 0 v o).gE, (gm L p 0 v o).gVars, (gm L p 0 v o).gOpen⟩ : Ke)) (fun r => some r)) = some (gm L (eatsP L q 0 post).1 (eatsP L q 0 post).2 v o) := by
      intro post
      induction post with
      | nil =>
        intro pre q h
        rw [List.append_nil] at h; subst h
        rw [KV (t := .inl ((q.1 : Nat) : Int)) (by unfold eatF; simp only []; rw [Kde, cond_false])]
        rfl
      | cons s post ih =>
        intro pre q h
        have hq := q.2
        have hf : eatF l (gm L p 0 v o) (((pre.length : Nat) : Int), ((q.1 : Nat) : Int)) = (bif isS L q.1 s then some (.next (((pre.length + 1 : Nat) : Int), ((q.1 + 1 : Nat) : Int))) else some (.done (.inr (gm L q 3 v o)))) := by
          unfold eatF
          simp only []
          rw [Kdd h, cond_true, KdO h rfl, Option.bind_some]
          simp only [bne, beq_self_eq_true, Bool.not_true, cond_false]
          rw [gis0 hL q, Option.bind_some, Kcv h (by omega), winc (by omega), gfail q q, Option.bind_some]
          cases isS L q.1 s <;> rfl
        have he : eatsP L q 0 (s :: post) = eatsP L (eatP L q 0 s).1 (eatP L q 0 s).2 post := rfl
        rw [he]
        unfold eatP
        rw [if_pos rfl]
        by_cases h2 : isS L q.1 s = true
        · rw [h2, cond_true] at hf
          rw [KaG hf, dif_pos h2]
          have := ih (pre ++ [s]) ⟨q.1 + 1, (Kei h2).1⟩ (by simp [h])
          rw [List.length_append, List.length_singleton] at this
          exact this
        · rw [show isS L q.1 s = false by simpa using h2, cond_false] at hf
          rw [KV hf, dif_neg h2]
          simp only []
          rw [KgR (by decide)]; rfl
    exact key l [] p rfl
  · rw [KgR h]
    cases l with
    | nil => rw [KV (t := .inl ((p.1 : Nat) : Int)) rfl]; rfl
    | cons s l =>
      rw [KV (t := .inr (gm L p e v o)) ?_]
      · rfl
      · unfold eatF
        simp only []
        rw [decide_eq_true (show (0 : Int) < (((s :: l).length : Nat) : Int) by simp), cond_true, show idx (s :: l) 0 = some s from rfl, Option.bind_some]
        simp only [bne, show (e == 0) = false by simp [h], Bool.not_false, cond_true]
theorem geat (p : Pos L) (e v o : Int) (s : ByteArray) : KJ (gm L p e v o) [s] = some (gm L (eatP L p e s).1 (eatP L p e s).2 v o) := geats hL p e v o [s] (by simp)
end
end Go.Proofs.Ytmgklehakmdiiaa.Ab.Pq
namespace Go.Proofs.Ytmgklehakmdiiaa.Ab.Pq
open Go
set_option linter.all false
abbrev RR := Kd
def rn (L : List Tok) (i : Nat) (e : Int) : RR := ⟨L, (i : Int), e⟩
theorem rlk (L : List Tok) (i : Nat) (e : Int) : Kbc (rn L i e) = some (lk L i) := by
 unfold Kbc rn
 simp only []
 by_cases h : L.length ≤ i
 ·rw [decide_eq_false (by omega), cond_false, Ke9 h]; rfl
 ·rw [decide_eq_true (by omega), cond_true, Kf5]
  unfold lk
  rw [List.getD_eq_getElem?_getD, List.getElem?_eq_getElem (by omega)]; rfl
theorem risn (L : List Tok) (i : Nat) (e : Int) (s : ByteArray) : Kec (rn L i e) s = some (isS L i s) := by
 unfold Kec isS
 rw [rlk, Option.bind_some, Option.bind_some]
 cases (lk L i).gKind == 3 <;> rfl
theorem rfln (L : List Tok) (i a : Nat) (e k : Int) : Kbn (rn L i e) (a : Int) k = some (bif e == 0 then rn L a k else rn L i e) := by
 unfold Kbn rn
 cases h : e == 0 <;> simp only [h, cond_true, cond_false]
theorem reatn {L : List Tok} {i : Nat} (s : ByteArray) (h : i ≤ 4000000) : Kae (rn L i 0) s = some (bif isS L i s then rn L (i + 1) 0 else rn L i 3) := by
 unfold Kae
 change (bif false then _ else _) = _
 rw [cond_false, risn, Option.bind_some]
 cases isS L i s
 ·simp only [cond_false]
  show Option.bind (Kbn (rn L i 0) (i : Int) 3) _ = _
  rw [rfln, Option.bind_some]; rfl
 ·simp only [cond_true]
  show some (⟨L, IntKind.i64.wrap ((i : Int) + 1), 0⟩ : RR) = _
  rw [winc h]; rfl
theorem reatb {L : List Tok} {i : Nat} {e : Int} (s : ByteArray) (he : e ≠ 0) : Kae (rn L i e) s = some (rn L i e) := by
 unfold Kae
 change (bif e != 0 then _ else _) = _
 rw [show (e != 0) = true by simp [he], cond_true]
theorem rnamen {L : List Tok} {i : Nat} (h : i ≤ 4000000) : Kbo (rn L i 0) = some (bif (lk L i).gKind == 1 then ((lk L i).gText, rn L (i + 1) 0) else (ByteArray.empty, rn L i 3)) := by
 unfold Kbo
 change (bif false then _ else _) = _
 rw [cond_false, rlk, Option.bind_some]
 cases hk : (lk L i).gKind == 1
 ·simp only [bne, hk, Bool.not_false, cond_true, cond_false]
  show Option.bind (Kbn (rn L i 0) (i : Int) 3) _ = _
  rw [rfln, Option.bind_some]; rfl
 ·simp only [bne, hk, Bool.not_true, cond_true, cond_false]
  show some (_, (⟨L, IntKind.i64.wrap ((i : Int) + 1), 0⟩ : RR)) = _
  rw [winc h]; rfl
theorem rdeepn {L : List Tok} {i a : Nat} {e : Int} {x : Xp} (hx : e = 0 → szE x ≤ 1048576) : KbP (rn L i e) x (a : Int) = some (x, bif e == 0 && decide (24 < dpE x) then rn L a 5 else rn L i e) := by
 unfold KbP
 show Option.bind (bif e == 0 then _ else _) _ = _
 cases he : e == 0
 ·simp only [cond_false, Option.bind_some, Bool.false_and]
 ·have h0 : e = 0 := by simpa using he
  subst h0
  simp only [cond_true, Bool.true_and]
  rw [rdeep_eq (hx rfl), Option.bind_some, Option.bind_some, show decide ((24 : Int) < (dpE x : Int)) = decide (24 < dpE x) from decide_eq_decide.2 (by omega)]
  cases decide (24 < dpE x)
  ·rfl
  ·rw [cond_true, rfln, Option.bind_some]; rfl
def SS : List (List ByteArray) := [([(ByteArray.mk #[124, 124])] : List ByteArray), ([(ByteArray.mk #[38, 38])] : List ByteArray), ([(ByteArray.mk #[61, 61]), (ByteArray.mk #[33, 61])] : List ByteArray), ([(ByteArray.mk #[60]), (ByteArray.mk #[60, 61])] : List ByteArray), ([(ByteArray.mk #[43]), (ByteArray.mk #[45])] : List ByteArray), ([(ByteArray.mk #[42]), (ByteArray.mk #[47]), (ByteArray.mk #[37])] : List ByteArray)]
def KK : List (List Int) := [([(17 : Int)] : List Int), ([(16 : Int)] : List Int), ([(14 : Int), (15 : Int)] : List Int), ([(12 : Int), (13 : Int)] : List Int), ([(10 : Int), (11 : Int)] : List Int), ([(7 : Int), (8 : Int), (9 : Int)] : List Int)]
def lkp (s : ByteArray) : List ByteArray → List Int → Int
 | a :: A, b :: B => bif decide (a = s) then b else lkp s A B
 | _, _ => 0
noncomputable def opF (a0 : Int) (a1 : ByteArray) (s27 : Int) : Option (Step Int (Unit ⊕ Int)) := ((idx SS a0).bind fun x44 => (bif (decide (s27 < (x44.length : Int))) then ((idx SS a0).bind fun x46 => ((idx x46 s27).bind fun x47 => (bif (decide (x47 = a1)) then ((idx KK a0).bind fun x49 => ((idx x49 s27).bind fun x50 => some (.done (.inr x50)))) else some (.next (IntKind.i64.wrap (s27 + (1 : Int))))))) else some (.done (.inl ()))))
theorem Khm {k : Int} {A : List ByteArray} {B : List Int} {s : ByteArray} (hA : idx SS k = some A) (hB : idx KK k = some B) (hl : A.length = B.length) (hn : A.length ≤ 10) : Ke7 k s = some (lkp s A B) := by
  unfold Ke7
  change Option.bind (loopM (opF k s) 0) _ = _
  have key : ∀ (qa pa : List ByteArray) (qb pb : List Int), A = pa ++ qa → B = pb ++ qb → pa.length = pb.length → qa.length = qb.length → (loopM (opF k s) ((pa.length : Nat) : Int)).bind (Sum.elim (fun y26 => some (0 : Int)) (fun r => some r)) = some (lkp s qa qb) := by
    intro qa
    induction qa with
    | nil =>
      intro pa qb pb h1 h2 h3 h4
      have : qb = [] := by cases qb with
        | nil => rfl
        | cons b qb => simp at h4
      subst this
      rw [List.append_nil] at h1
      rw [KV (t := .inl ()) (by unfold opF; rw [hA, Option.bind_some, h1, Kde, cond_false])]; rfl
    | cons a qa ih =>
      intro pa qb pb h1 h2 h3 h4
      cases qb with
      | nil => simp at h4
      | cons b qb =>
        have hf : opF k s ((pa.length : Nat) : Int) = (bif decide (a = s) then some (.done (.inr b)) else some (.next ((pa.length + 1 : Nat) : Int))) := by
          unfold opF
          rw [hA, Option.bind_some, Kdd h1, cond_true, Option.bind_some, KdO h1 rfl, Option.bind_some, hB, Option.bind_some, KdO h2 h3, Option.bind_some, Kcv h1 (by omega)]
        cases hc : decide (a = s)
        · rw [hc, cond_false] at hf
          rw [KaG hf]
          have := ih (pa ++ [a]) qb (pb ++ [b]) (by simp [h1]) (by simp [h2]) (by simp [h3]) (by simpa using h4)
          rw [List.length_append, List.length_singleton] at this
          rw [this]
          simp only [lkp, hc, cond_false]
        · rw [hc, cond_true] at hf
          rw [KV hf]
          simp only [lkp, hc, cond_true]; rfl
  exact key A [] B [] rfl rfl rfl hl
theorem dsym (a s : ByteArray) : decide (a = s) = decide (s = a) := decide_eq_decide.2 eq_comm
theorem op_eq {k : Nat} (hk : k ≤ 5) (s : ByteArray) : Ke7 (k : Int) s = some (bt (k : Int) s) := by
 have hk' : k = 0 ∨ k = 1 ∨ k = 2 ∨ k = 3 ∨ k = 4 ∨ k = 5 := by omega
 unfold bt Kbl
 simp only [Kiw, Option.bind_some]
 rcases hk' with h | h | h | h | h | h <;> subst h
 ·rw [Khm (A := [ByteArray.mk #[124, 124]]) (B := [17]) rfl rfl rfl (by decide)]
  simp only [lkp, dsym _ s]
  cases decide (s = ByteArray.mk #[124, 124]) <;> rfl
 ·rw [Khm (A := [ByteArray.mk #[38, 38]]) (B := [16]) rfl rfl rfl (by decide)]
  simp only [lkp, dsym _ s]
  cases decide (s = ByteArray.mk #[38, 38]) <;> rfl
 ·rw [Khm (A := [ByteArray.mk #[61, 61], ByteArray.mk #[33, 61]]) (B := [14, 15]) rfl rfl rfl (by decide)]
  simp only [lkp, dsym _ s]; rfl
 ·rw [Khm (A := [ByteArray.mk #[60], ByteArray.mk #[60, 61]]) (B := [12, 13]) rfl rfl rfl (by decide)]
  simp only [lkp, dsym _ s]; rfl
 ·rw [Khm (A := [ByteArray.mk #[43], ByteArray.mk #[45]]) (B := [10, 11]) rfl rfl rfl (by decide)]
  simp only [lkp, dsym _ s]; rfl
 ·rw [Khm (A := [ByteArray.mk #[42], ByteArray.mk #[47], ByteArray.mk #[37]]) (B := [7, 8, 9]) rfl rfl rfl (by decide)]
  simp only [lkp, dsym _ s]
  by_cases q : s = ByteArray.mk #[37]
  ·subst q; rfl
  ·rw [decide_eq_false q]; rfl
noncomputable def rowG (g0 : RR → Int → Option (Xp × RR)) (a1 : Int) (s68 : S8) : Option (Step S8 S8) := (Option.bind (α := Bool) (bif (s68.2.2.1 == (0 : Int)) then ((Kbc (⟨s68.1, s68.2.1, s68.2.2.1⟩ : Kd)).bind fun x114 => (bif (x114.gKind == (3 : Int)) then ((Kbc (⟨s68.1, s68.2.1, s68.2.2.1⟩ : Kd)).bind fun x116 => ((Ke7 a1 x116.gText).bind fun x117 => some (x117 != (0 : Int)))) else some false)) else some false) fun y112 => (bif y112 then ((Kbc (⟨s68.1, s68.2.1, s68.2.2.1⟩ : Kd)).bind fun x119 => ((g0 (⟨s68.1, (IntKind.i64.wrap (s68.2.1 + (1 : Int))), s68.2.2.1⟩ : Kd) (IntKind.i64.wrap (a1 + (1 : Int)))).bind fun x121 => ((Ke7 a1 x119.gText).bind fun x123 => ((KbP x121.2 (⟨x123, (0 : Int), ByteArray.empty, ([(⟨s68.2.2.2.1, s68.2.2.2.2.1, s68.2.2.2.2.2.1, s68.2.2.2.2.2.2.1, s68.2.2.2.2.2.2.2⟩ : Ka), x121.1] : List Ka), x119.gAt⟩ : Ka) s68.2.1).bind fun x124 => some (.next (x124.2.gL, x124.2.gAt, x124.2.gE, x124.1.gOp, x124.1.gN, x124.1.gName, x124.1.gKids, x124.1.gAt)))))) else some (.done (s68.1, s68.2.1, s68.2.2.1, s68.2.2.2.1, s68.2.2.2.2.1, s68.2.2.2.2.2.1, s68.2.2.2.2.2.2.1, s68.2.2.2.2.2.2.2))))
theorem Ki1 {g0 : RR → Int → Option (Xp × RR)} {k : Int} {L : List Tok} {j : Nat} {e : Int} {x : Xp} (he : e ≠ 0) : rowG g0 k (st8 L j e x) = some (.done (st8 L j e x)) := by
 unfold rowG st8
 rw [show (e == 0) = false by simp [he], cond_false]; rfl
theorem rowG_eq {g0 : RR → Int → Option (Xp × RR)} {k : Nat} (hk : k ≤ 5) {L : List Tok} {j : Nat} {x : Xp} (hj : j ≤ 4000000) : rowG g0 (k : Int) (st8 L j 0 x) = (bif opAt (k : Int) (lk L j) == 0 then some (.done (st8 L j 0 x)) else
  (g0 (rn L (j + 1) 0) (IntKind.i64.wrap ((k : Int) + 1))).bind fun y => (KbP y.2 ⟨opAt (k : Int) (lk L j), 0, ByteArray.empty, [x, y.1], (lk L j).gAt⟩ (j : Int)).bind fun q => some (.next (q.2.gL, q.2.gAt, q.2.gE, q.1.gOp, q.1.gN, q.1.gName, q.1.gKids, q.1.gAt))) := by
 cases x
 unfold rowG st8
 simp only [beq_self_eq_true, cond_true]
 rw [show (⟨L, (j : Int), 0⟩ : Kd) = rn L j 0 from rfl, rlk, Option.bind_some, Option.bind_some, Option.bind_some, winc hj, op_eq hk]
 unfold opAt
 cases hk3 : (lk L j).gKind == 3
 ·simp only [cond_false, Option.bind_some]; rfl
 ·simp only [cond_true, Option.bind_some]
  cases hb : bt (k : Int) (lk L j).gText == 0
  ·simp only [bne, hb, Bool.not_false, cond_true, cond_false]; rfl
  ·simp only [bne, hb, Bool.not_true, cond_true, cond_false]
def SM (L : List Tok) (i c s : Nat) (r : Option (Xp × Rdr)) (r2 : Option (Xp × RR)) : Prop :=
 ∃ x y i' e', r = some (x, mk L i' e') ∧ r2 = some (y, rn L i' e') ∧ i' ≤ L.length ∧ (e' = 0 → x = y ∧ i + c ≤ i' ∧ dpE x ≤ 24 ∧ szE x + i ≤ i' + s)
theorem SM.bad {L : List Tok} {i c s : Nat} {r : Option (Xp × Rdr)} {r2 : Option (Xp × RR)} (x y : Xp) (i' : Nat) (e' : Int) (he : e' ≠ 0) (hi : i' ≤ L.length) (h : r = some (x, mk L i' e')) (h2 : r2 = some (y, rn L i' e')) : SM L i c s r r2 := ⟨x, y, i', e', h, h2, hi, fun q => absurd q he⟩
theorem sm_loop (g0 : Rdr → Int → Option (Xp × Rdr)) (h0 : RR → Int → Option (Xp × RR)) (L : List Tok) (i0 k : Nat) (hk : k ≤ 5) (hL : L.length ≤ 100000)
    (ih : ∀ j, i0 < j → j ≤ L.length → SM L j 1 0 (g0 (mk L j 0) (IntKind.i64.wrap ((k : Int) + 1))) (h0 (rn L j 0) (IntKind.i64.wrap ((k : Int) + 1)))) :
    ∀ (q j : Nat) (x : Xp), L.length - j ≤ q → i0 ≤ j → j ≤ L.length → dpE x ≤ 24 → szE x + i0 ≤ j →
      ∃ x' y' j' e', loopM (rowF g0 (k : Int)) (st8 L j 0 x) = some (st8 L j' e' x') ∧ loopM (rowG h0 (k : Int)) (st8 L j 0 x) = some (st8 L j' e' y') ∧ j' ≤ L.length ∧ (e' = 0 → x' = y' ∧ j ≤ j' ∧ dpE x' ≤ 24 ∧ szE x' + i0 ≤ j') := by
  intro q
  induction q with
  | zero =>
    intro j x hq h0' h1 hd hs
    have hz : lk L j = z0 := Ke9 (by omega)
    exact ⟨x, x, j, 0, KV (by rw [Keu (by omega), hz]; rfl), KV (by rw [rowG_eq hk (by omega), hz]; rfl), h1, fun _ => ⟨rfl, Nat.le_refl _, hd, hs⟩⟩
  | succ q ihq =>
    intro j x hq h0' h1 hd hs
    by_cases hop : opAt (k : Int) (lk L j) = 0
    · exact ⟨x, x, j, 0, KV (by rw [Keu (by omega), hop]; rfl), KV (by rw [rowG_eq hk (by omega), hop]; rfl), h1, fun _ => ⟨rfl, Nat.le_refl _, hd, hs⟩⟩
    · have hlt := lk_lt (KjY hop)
      have hopb : (opAt (k : Int) (lk L j) == 0) = false := by simp [hop]
      obtain ⟨y, y2, j1, e1, hr, hr2, hj1, hg⟩ := ih (j + 1) (by omega) (by omega)
      have hf := Keu (g0 := g0) (k := (k : Int)) (L := L) (j := j) (x := x) (by omega)
      have hf2 := rowG_eq (g0 := h0) (k := k) hk (L := L) (j := j) (x := x) (by omega)
      rw [hopb, cond_false, hr, Option.bind_some] at hf
      rw [hopb, cond_false, hr2, Option.bind_some] at hf2
      by_cases he : e1 = 0
      · subst he
        obtain ⟨hxy, g1, g3, g4⟩ := hg rfl
        subst hxy
        generalize hX : (⟨opAt (k : Int) (lk L j), 0, ByteArray.empty, [x, y], (lk L j).gAt⟩ : Xp) = X at hf hf2
        have hsz : szE X = 1 + (szE x + szE y) := by rw [← hX]; simp [KcX, szEs]
        rw [KcY (fun _ => by rw [hsz]; omega), Option.bind_some] at hf
        rw [rdeepn (fun _ => by rw [hsz]; omega), Option.bind_some] at hf2
        simp only [beq_self_eq_true, cond_true, Bool.true_and] at hf hf2
        by_cases hdd : 24 < dpE X
        · rw [decide_eq_true hdd, cond_true] at hf hf2
          refine ⟨ex0, X, j, 5, ?_, ?_, h1, fun h => by cases h⟩
          · rw [KaG hf]
            exact KV (Kfo (L := L) (j := j) (e := 5) (x := ex0) (by decide))
          · rw [KaG hf2]
            exact KV (Ki1 (L := L) (j := j) (e := 5) (x := X) (by decide))
        · rw [decide_eq_false hdd, cond_false] at hf hf2
          rw [KaG (s' := st8 L j1 0 X) hf, KaG (s' := st8 L j1 0 X) hf2]
          obtain ⟨x', y', j', e', k1, k2, k3, k4⟩ := ihq j1 X (by omega) (by omega) hj1 (by omega) (by rw [hsz]; omega)
          exact ⟨x', y', j', e', k1, k2, k3, fun h => by obtain ⟨a, b, c, d⟩ := k4 h; exact ⟨a, by omega, c, d⟩⟩
      · generalize hX : (⟨opAt (k : Int) (lk L j), 0, ByteArray.empty, [x, y], (lk L j).gAt⟩ : Xp) = X at hf
        generalize hX2 : (⟨opAt (k : Int) (lk L j), 0, ByteArray.empty, [x, y2], (lk L j).gAt⟩ : Xp) = X2 at hf2
        rw [KcY (fun h => absurd h he), show (e1 == 0) = false by simp [he], cond_false, Option.bind_some] at hf
        rw [rdeepn (fun h => absurd h he), show (e1 == 0) = false by simp [he], Bool.false_and, cond_false, Option.bind_some] at hf2
        refine ⟨ex0, X2, j1, e1, ?_, ?_, hj1, fun h => absurd h he⟩
        · rw [KaG hf]
          exact KV (Kfo (L := L) (j := j1) (x := ex0) he)
        · rw [KaG hf2]
          exact KV (Ki1 (L := L) (j := j1) (x := X2) he)
end Go.Proofs.Ytmgklehakmdiiaa.Ab.Pq
namespace Go.Proofs.Ytmgklehakmdiiaa.Ab.Pq
open Go
set_option linter.all false
noncomputable abbrev rg := KY
theorem rlev6 (n : Nat) (m : RR) : (rg (n + 1)).1 m 6 = (rg n).2.1 m := by
 show Kb8 (rg n).1 (rg n).2.1 (rg n).2.2 m 6 = _
 unfold Kb8
 rw [show ((6 : Int) == 6) = true from rfl, cond_true, KbE]
theorem rlevK {n k : Nat} (m : RR) (hk : k ≤ 5) : (rg (n + 1)).1 m k = ((rg n).1 m (IntKind.i64.wrap ((k : Int) + 1))).bind fun y => (loopM (rowG (rg n).1 (k : Int)) (y.2.gL, y.2.gAt, y.2.gE, y.1.gOp, y.1.gN, y.1.gName, y.1.gKids, y.1.gAt)).bind fun z => some ((⟨z.2.2.2.1, z.2.2.2.2.1, z.2.2.2.2.2.1, z.2.2.2.2.2.2.1, z.2.2.2.2.2.2.2⟩ : Xp), (⟨z.1, z.2.1, z.2.2.1⟩ : RR)) := by
 show Kb8 (rg n).1 (rg n).2.1 (rg n).2.2 m k = _
 unfold Kb8
 rw [show ((k : Int) == 6) = false by simp; omega, cond_false]
 rfl
theorem rindex_eq {n i : Nat} {L : List Tok} {x : Xp} {op a : Int} (hi : i ≤ 4000000) : (rg (n + 1)).2.2 (rn L i 0) x op a =
  (bif isS L i (ByteArray.mk #[91]) then ((rg n).1 (rn L (i + 1) 0) 0).bind fun y => (Kae y.2 (ByteArray.mk #[93])).bind fun z => KbP z ⟨op, 0, x.gName, [y.1], x.gAt⟩ a else some (x, rn L i 0)) := by
 show Kb9 (rg n).1 (rg n).2.1 (rg n).2.2 (rn L i 0) x op a = _
 unfold Kb9
 show Option.bind (bif false then some true else _) _ = _
 rw [cond_false, risn]
 simp only [Option.bind_some]
 have hw := winc hi
 cases isS L i (ByteArray.mk #[91])
 ·rfl
 ·simp only [Bool.not_true, cond_true, cond_false]
  change Option.bind ((rg n).1 ⟨L, IntKind.i64.wrap ((i : Int) + 1), 0⟩ _) _ = _
  rw [hw]
  simp only [KbE]
  rfl
theorem rindex_bad {n i : Nat} {L : List Tok} {x : Xp} {op a e : Int} (he : e ≠ 0) : (rg (n + 1)).2.2 (rn L i e) x op a = some (x, rn L i e) := by
 show Kb9 (rg n).1 (rg n).2.1 (rg n).2.2 (rn L i e) x op a = _
 unfold Kb9
 show Option.bind (bif e != 0 then some true else _) _ = _
 rw [show (e != 0) = true by simp [he]]; rfl
theorem elimb {X : Type} (c : Bool) (o p : Option (Unit ⊕ X)) (f : Unit → Option X) : (Option.bind (bif c then o else p) (Sum.elim f (fun r => some r))) = bif c then Option.bind o (Sum.elim f (fun r => some r)) else Option.bind p (Sum.elim f (fun r => some r)) := by cases c <;> rfl
theorem runit_eq {n i : Nat} {L : List Tok} (hi : i ≤ 4000000) : (rg (n + 1)).2.1 (rn L i 0) =
    (bif (lk L i).gKind == 2 then some (⟨1, (lk L i).gN, ByteArray.empty, [], (lk L i).gAt⟩, rn L (i + 1) 0)
    else bif (lk L i).gKind == 1 then (rg n).2.2 (rn L (i + 1) 0) ⟨2, 0, (lk L i).gText, [], (lk L i).gAt⟩ 3 (i : Int)
    else bif (lk L i).gKind == 3 then (
      bif tm (lk L i).gText (ByteArray.mk #[45]) then ((rg n).2.1 (rn L (i + 1) 0)).bind fun y => KbP y.2 ⟨5, 0, ByteArray.empty, [y.1], (lk L i).gAt⟩ (i : Int)
      else bif tm (lk L i).gText (ByteArray.mk #[33]) then ((rg n).2.1 (rn L (i + 1) 0)).bind fun y => KbP y.2 ⟨6, 0, ByteArray.empty, [y.1], (lk L i).gAt⟩ (i : Int)
      else bif tm (lk L i).gText (ByteArray.mk #[42]) then (Kbo (rn L (i + 1) 0)).bind fun y => some (⟨4, 0, y.1, [], (lk L i).gAt⟩, y.2)
      else bif tm (lk L i).gText (ByteArray.mk #[38]) then (Kbo (rn L (i + 1) 0)).bind fun y => (rg n).2.2 y.2 ⟨19, 0, y.1, [], (lk L i).gAt⟩ 20 (i : Int)
      else bif tm (lk L i).gText (ByteArray.mk #[110, 117, 108, 108]) then some (⟨18, 0, ByteArray.empty, [], (lk L i).gAt⟩, rn L (i + 1) 0)
      else bif tm (lk L i).gText (ByteArray.mk #[40]) then ((rg n).1 (rn L (i + 1) 0) 0).bind fun y => (Kae y.2 (ByteArray.mk #[41])).bind fun z => some (y.1, z)
      else some (ex0, rn L i 3))
    else some (ex0, rn L i 3)) := by
  show Kdh (rg n).1 (rg n).2.1 (rg n).2.2 (rn L i 0) = _
  unfold Kdh tm
  change (bif false then some _ else _) = _
  rw [cond_false, rlk, Option.bind_some]
  have hw := winc hi
  have hs : (⟨(rn L i 0).gL, IntKind.i64.wrap ((rn L i 0).gAt + 1), (rn L i 0).gE⟩ : RR) = rn L (i + 1) 0 := by
    show (⟨L, IntKind.i64.wrap ((i : Int) + 1), 0⟩ : RR) = _
    rw [hw]; rfl
  rw [hs]
  have hf : Kbn (rn L (i + 1) 0) (rn L i 0).gAt 3 = some (rn L i 3) := by
    show Kbn (rn L (i + 1) 0) (i : Int) 3 = _
    rw [rfln]; rfl
  rw [hf]
  simp only [show (rn L i 0).gAt = (i : Int) from rfl]
  cases (lk L i).gKind == 2
  · cases (lk L i).gKind == 1
    · simp only [cond_false]
      cases (lk L i).gKind == 3
      · rfl
      · simp only [cond_true]
        rw [elimb, elimb, elimb, elimb, elimb, elimb]
        cases decide ((lk L i).gText = ByteArray.mk #[45])
        · cases decide ((lk L i).gText = ByteArray.mk #[33])
          · cases decide ((lk L i).gText = ByteArray.mk #[42])
            · cases decide ((lk L i).gText = ByteArray.mk #[38])
              · cases decide ((lk L i).gText = ByteArray.mk #[110, 117, 108, 108])
                · cases decide ((lk L i).gText = ByteArray.mk #[40])
                  · rfl
                  · simp only [cond_true, cond_false]
                    cases ((rg n).1 (rn L (i + 1) 0) 0) with
                    | none => rfl
                    | some y =>
                      simp only [Option.bind_some]
                      cases Kae y.2 (ByteArray.mk #[41]) <;> rfl
                · rfl
              · simp only [cond_true, cond_false]
                cases Kbo (rn L (i + 1) 0) with
                | none => rfl
                | some y =>
                  simp only [Option.bind_some]
                  cases (rg n).2.2 y.2 ⟨19, 0, y.1, [], (lk L i).gAt⟩ 20 (i : Int) with
                  | none => rfl
                  | some z => rfl
            · simp only [cond_true, cond_false]
              cases Kbo (rn L (i + 1) 0) <;> rfl
          · simp only [cond_true, cond_false]
            cases (rg n).2.1 (rn L (i + 1) 0) with
            | none => rfl
            | some y =>
              simp only [Option.bind_some]
              cases KbP y.2 ⟨6, 0, ByteArray.empty, [y.1], (lk L i).gAt⟩ (i : Int) with
              | none => rfl
              | some z => rfl
        · simp only [cond_true, cond_false]
          cases (rg n).2.1 (rn L (i + 1) 0) with
          | none => rfl
          | some y =>
            simp only [Option.bind_some]
            cases KbP y.2 ⟨5, 0, ByteArray.empty, [y.1], (lk L i).gAt⟩ (i : Int) with
            | none => rfl
            | some z => rfl
    · simp only [cond_true, cond_false]
      rw [KbE]
  · rfl
theorem SM.sound {L : List Tok} {i j a s : Nat} {op : Int} {nm : ByteArray} {at_ e : Int} {r : Option (Xp × Rdr)} {r2 : Option (Xp × RR)} (y y2 : Xp) (hs : 1 ≤ s) (hL : L.length ≤ 100000) (hj : j ≤ L.length) (ha : a ≤ L.length) (hy : e = 0 → y = y2 ∧ i ≤ j ∧ szE y + i ≤ j)
  (hr : r = Kag (mk L j e) ⟨op, 0, nm, [y], at_⟩ (a : Int)) (hr2 : r2 = KbP (rn L j e) ⟨op, 0, nm, [y2], at_⟩ (a : Int)) : SM L i 0 s r r2 := by
 by_cases he : e = 0
 ·subst he
  obtain ⟨hyy, hij, hsy⟩ := hy rfl
  subst hyy
  generalize hX : (⟨op, 0, nm, [y], at_⟩ : Xp) = X at hr hr2
  have hsz : szE X = 1 + szE y := by rw [← hX]; simp [KcX, szEs]
  rw [KcY (fun _ => by rw [hsz]; omega)] at hr
  rw [rdeepn (fun _ => by rw [hsz]; omega)] at hr2
  simp only [beq_self_eq_true, cond_true, Bool.true_and] at hr hr2
  by_cases hd : 24 < dpE X
  ·rw [decide_eq_true hd, cond_true] at hr hr2
   exact SM.bad ex0 X a 5 (by decide) ha hr hr2
  ·rw [decide_eq_false hd, cond_false] at hr hr2
   exact ⟨X, X, j, 0, hr, hr2, hj, fun _ => ⟨rfl, by omega, by omega, by rw [hsz]; omega⟩⟩
 ·generalize hX : (⟨op, 0, nm, [y], at_⟩ : Xp) = X at hr
  generalize hX2 : (⟨op, 0, nm, [y2], at_⟩ : Xp) = X2 at hr2
  rw [KcY (fun h => absurd h he), show (e == 0) = false by simp [he], cond_false] at hr
  rw [rdeepn (fun h => absurd h he), show (e == 0) = false by simp [he], Bool.false_and, cond_false] at hr2
  exact SM.bad ex0 X2 j e he hj hr hr2
theorem SM.more {L : List Tok} {i c s c' s' : Nat} {r : Option (Xp × Rdr)} {r2 : Option (Xp × RR)} (h : SM L (i + 1) c s r r2) (hc : c' ≤ c + 1) (hs : s ≤ s' + 1) : SM L i c' s' r r2 := by
 obtain ⟨x, y, i', e', h1, h2, h3, h4⟩ := h
 exact ⟨x, y, i', e', h1, h2, h3, fun he => by obtain ⟨a, b, c, d⟩ := h4 he; exact ⟨a, by omega, c, by omega⟩⟩
theorem sm : ∀ n2 : Nat, (∀ (L : List Tok) (i k n1 : Nat), L.length ≤ 100000 → i ≤ L.length → k ≤ 6 → 10 * (L.length - i) + 8 ≤ n2 + k → 10 * (L.length - i) + 8 ≤ n1 + k → SM L i 1 0 ((pg n1).1 (mk L i 0) (k : Int)) ((rg n2).1 (rn L i 0) (k : Int))) ∧
    (∀ (L : List Tok) (i n1 : Nat), L.length ≤ 100000 → i ≤ L.length → 10 * (L.length - i) + 1 ≤ n2 → 10 * (L.length - i) + 1 ≤ n1 → SM L i 1 0 ((pg n1).2.1 (mk L i 0)) ((rg n2).2.1 (rn L i 0))) ∧
    (∀ (L : List Tok) (i a n1 : Nat) (x : Xp) (op : Int), L.length ≤ 100000 → i ≤ L.length → a ≤ L.length → x.gKids = [] → x.gN = 0 → 10 * (L.length - i) + 1 ≤ n2 → 10 * (L.length - i) + 1 ≤ n1 → SM L i 0 1 ((pg n1).2.2.1 (mk L i 0) x op (a : Int)) ((rg n2).2.2 (rn L i 0) x op (a : Int)))
  | 0 => ⟨fun L i k n1 _ _ _ h => by omega, fun L i n1 _ _ h => by omega, fun L i a n1 x op _ _ _ _ _ h => by omega⟩
  | n + 1 => by
    obtain ⟨ihR, ihU, ihI⟩ := sm n
    refine ⟨fun L i k n1 hL hi hk hn hn1 => ?_, fun L i n1 hL hi hn hn1 => ?_, fun L i a n1 x op hL hi ha hx hxn hn hn1 => ?_⟩
    · -- a row
      obtain ⟨n1, rfl⟩ : ∃ m, n1 = m + 1 := ⟨n1 - 1, by omega⟩
      by_cases h6 : k = 6
      · subst h6
        have h := ihU L i n1 hL hi (by omega) (by omega)
        rw [show ((6 : Nat) : Int) = 6 from rfl, row6, rlev6]; exact h
      · obtain ⟨x, y, i1, e1, h1, h2, h3, h4⟩ := ihR L i (k + 1) n1 hL hi (by omega) (by omega) (by omega)
        have hrow := rowK (n := n1) (k := k) (mk L i 0) (by omega)
        have hrow2 := rlevK (n := n) (k := k) (rn L i 0) (by omega)
        rw [wIdx (by omega), h1, Option.bind_some] at hrow
        rw [wIdx (by omega), h2, Option.bind_some] at hrow2
        change _ = Option.bind (loopM (rowF (pg n1).1 (k : Int)) (st8 L i1 e1 x)) _ at hrow
        change _ = Option.bind (loopM (rowG (rg n).1 (k : Int)) (st8 L i1 e1 y)) _ at hrow2
        by_cases he : e1 = 0
        · subst he
          obtain ⟨hxy, g1, g3, g4⟩ := h4 rfl
          subst hxy
          obtain ⟨x', y', j', e', k1, k2, k3, k4⟩ := sm_loop (pg n1).1 (rg n).1 L i k (by omega) hL (fun j hj hjl => by
            have := ihR L j (k + 1) n1 hL hjl (by omega) (by omega) (by omega)
            rw [wIdx (by omega)]; exact this) (L.length - i1) i1 x (Nat.le_refl _) (by omega) h3 g3 (by omega)
          rw [k1, Option.bind_some] at hrow
          rw [k2, Option.bind_some] at hrow2
          simp only [st8, xp_eta] at hrow hrow2
          exact ⟨x', y', j', e', hrow, hrow2, k3, fun he => by obtain ⟨a, b, c, d⟩ := k4 he; exact ⟨a, by omega, c, by omega⟩⟩
        · rw [KV (Kfo he), Option.bind_some] at hrow
          rw [KV (Ki1 he), Option.bind_some] at hrow2
          simp only [st8, xp_eta] at hrow hrow2
          exact SM.bad x y i1 e1 he h3 hrow hrow2
    · -- a unit
      obtain ⟨n1, rfl⟩ : ∃ m, n1 = m + 1 := ⟨n1 - 1, by omega⟩
      have hu := unit_eq (n := n1) (i := i) (L := L) (by omega)
      have hv := runit_eq (n := n) (i := i) (L := L) (by omega)
      by_cases h2 : (lk L i).gKind = 2
      · have hlt := lk_lt (L := L) (i := i) (by rw [h2]; decide)
        rw [h2] at hu hv
        exact ⟨_, _, i + 1, 0, hu, hv, hlt, fun _ => ⟨rfl, Nat.le_refl _, by simp [dpE, dpEs], by simp [szE, szEs]; omega⟩⟩
      · rw [show ((lk L i).gKind == 2) = false by simp [h2], cond_false] at hu hv
        by_cases h1 : (lk L i).gKind = 1
        · have hlt := lk_lt (L := L) (i := i) (by rw [h1]; decide)
          rw [h1] at hu hv
          simp only [beq_self_eq_true, cond_true] at hu hv
          have h := ihI L (i + 1) i n1 ⟨2, 0, (lk L i).gText, [], (lk L i).gAt⟩ 3 hL hlt hi rfl rfl (by omega) (by omega)
          rw [hu, hv]
          exact h.more (by omega) (by omega)
        · rw [show ((lk L i).gKind == 1) = false by simp [h1], cond_false] at hu hv
          by_cases h3 : (lk L i).gKind = 3
          · have hlt := lk_lt (L := L) (i := i) (by rw [h3]; decide)
            rw [show ((lk L i).gKind == 3) = true by simp [h3], cond_true] at hu hv
            obtain ⟨n1, rfl⟩ : ∃ m, n1 = m + 2 := ⟨n1 - 2, by omega⟩
            have hs := sign_eq (n := n1 + 1) (i := i + 1) (a := i) (L := L) (t := lk L i)
            rw [hs] at hu
            have goal : ∀ {r r2}, r = (pg (n1 + 2 + 1)).2.1 (mk L i 0) → r2 = (rg (n + 1)).2.1 (rn L i 0) → SM L (i + 1) 0 1 r r2 := by
              rintro r r2 rfl rfl
              cases c1 : tm (lk L i).gText (ByteArray.mk #[45])
              rotate_left
              · rw [c1, cond_true] at hu hv
                obtain ⟨y, y2, j, e1, q1, q2, q3, q4⟩ := ihU L (i + 1) (n1 + 1) hL hlt (by omega) (by omega)
                rw [q1, Option.bind_some] at hu
                rw [q2, Option.bind_some] at hv
                exact SM.sound y y2 (Nat.le_refl _) hL q3 hi (fun he => by obtain ⟨a, b, c, d⟩ := q4 he; exact ⟨a, by omega, by omega⟩) hu hv
              cases c2 : tm (lk L i).gText (ByteArray.mk #[33])
              rotate_left
              · rw [c1, c2, cond_false, cond_true] at hu hv
                obtain ⟨y, y2, j, e1, q1, q2, q3, q4⟩ := ihU L (i + 1) (n1 + 1) hL hlt (by omega) (by omega)
                rw [q1, Option.bind_some] at hu
                rw [q2, Option.bind_some] at hv
                exact SM.sound y y2 (Nat.le_refl _) hL q3 hi (fun he => by obtain ⟨a, b, c, d⟩ := q4 he; exact ⟨a, by omega, by omega⟩) hu hv
              cases c3 : tm (lk L i).gText (ByteArray.mk #[42])
              rotate_left
              · rw [c1, c2, c3, cond_false, cond_false, cond_true] at hu hv
                rw [Kf7 (by omega), Option.bind_some] at hu
                rw [rnamen (by omega), Option.bind_some] at hv
                cases hk : (lk L (i + 1)).gKind == 1
                · rw [hk, cond_false] at hu hv
                  exact SM.bad _ _ (i + 1) 3 (by decide) hlt hu hv
                · have hk1 : (lk L (i + 1)).gKind = 1 := by simpa using hk
                  rw [hk, cond_true] at hu hv
                  exact ⟨_, _, i + 1 + 1, 0, hu, hv, lk_lt (by rw [hk1]; decide), fun _ => ⟨rfl, by omega, by simp [dpE, dpEs], by simp [szE, szEs]; omega⟩⟩
              cases c4 : tm (lk L i).gText (ByteArray.mk #[38])
              rotate_left
              · rw [c1, c2, c3, c4, cond_false, cond_false, cond_false, cond_true] at hu hv
                rw [Kf7 (by omega), Option.bind_some] at hu
                rw [rnamen (by omega), Option.bind_some] at hv
                cases hk : (lk L (i + 1)).gKind == 1
                · rw [hk, cond_false] at hu hv
                  simp only [] at hu hv
                  obtain ⟨n, rfl⟩ : ∃ m, n = m + 1 := ⟨n - 1, by omega⟩
                  rw [KiK (by decide)] at hu
                  rw [rindex_bad (by decide)] at hv
                  exact SM.bad _ _ (i + 1) 3 (by decide) hlt hu hv
                · have hk1 : (lk L (i + 1)).gKind = 1 := by simpa using hk
                  have hlt2 := lk_lt (L := L) (i := i + 1) (by rw [hk1]; decide)
                  rw [hk, cond_true] at hu hv
                  simp only [] at hu hv
                  have h := ihI L (i + 1 + 1) i (n1 + 1) ⟨19, 0, (lk L (i + 1)).gText, [], (lk L i).gAt⟩ 20 hL hlt2 hi rfl rfl (by omega) (by omega)
                  rw [hu, hv]
                  exact h.more (by omega) (by omega)
              cases c5 : tm (lk L i).gText (ByteArray.mk #[110, 117, 108, 108])
              rotate_left
              · rw [c1, c2, c3, c4, c5, cond_false, cond_false, cond_false, cond_false, cond_true] at hu hv
                exact ⟨_, _, i + 1, 0, hu, hv, hlt, fun _ => ⟨rfl, by omega, by simp [dpE, dpEs], by simp [szE, szEs]; omega⟩⟩
              cases c6 : tm (lk L i).gText (ByteArray.mk #[40])
              rotate_left
              · rw [c1, c2, c3, c4, c5, c6, cond_false, cond_false, cond_false, cond_false, cond_false, cond_true] at hu hv
                rw [all_eq] at hu
                obtain ⟨y, y2, j, e1, q1, q2, q3, q4⟩ := ihR L (i + 1) 0 n1 hL hlt (by omega) (by omega) (by omega)
                rw [show (pg n1).1 (mk L (i + 1) 0) 0 = _ from q1, Option.bind_some] at hu
                rw [show (rg n).1 (rn L (i + 1) 0) 0 = _ from q2, Option.bind_some] at hv
                by_cases he : e1 = 0
                · subst he
                  obtain ⟨hyy, g1, g2, g3⟩ := q4 rfl
                  subst hyy
                  change _ = Option.bind (KaY (mk L j 0) (ByteArray.mk #[41])) _ at hu
                  rw [eat_eq _ (by omega), Option.bind_some] at hu
                  simp only [] at hv
                  rw [reatn _ (by omega), Option.bind_some] at hv
                  cases hb : isS L j (ByteArray.mk #[41])
                  · rw [hb, cond_false] at hu hv
                    exact SM.bad y y j 3 (by decide) q3 hu hv
                  · rw [hb, cond_true] at hu hv
                    obtain ⟨hl2, _, _⟩ := Kei hb
                    exact ⟨y, y, j + 1, 0, hu, hv, hl2, fun _ => ⟨rfl, by omega, g2, by omega⟩⟩
                · rw [show ((y, mk L j e1).2.gE == 0) = false by simp [mk, he], cond_false] at hu
                  simp only [] at hv
                  rw [reatb _ he, Option.bind_some] at hv
                  exact SM.bad y y2 j e1 he q3 hu hv
              · rw [c1, c2, c3, c4, c5, c6, cond_false, cond_false, cond_false, cond_false, cond_false, cond_false] at hu hv
                exact SM.bad ex0 ex0 i 3 (by decide) hi hu hv
            exact (goal rfl rfl).more (by omega) (by omega)
          · rw [show ((lk L i).gKind == 3) = false by simp [h3], cond_false] at hu hv
            exact SM.bad ex0 ex0 i 3 (by decide) hi hu hv
    · -- an index
      obtain ⟨n1, rfl⟩ : ∃ m, n1 = m + 1 := ⟨n1 - 1, by omega⟩
      have hx1 : dpE x = 1 := by rw [KeC, hx]; rfl
      have hx2 : szE x = 1 := by rw [KcX, hx]; rfl
      have hu := KfX (n := n1) (i := i) (L := L) (x := x) (op := op) (a := (a : Int)) (by omega)
      have hv := rindex_eq (n := n) (i := i) (L := L) (x := x) (op := op) (a := (a : Int)) (by omega)
      cases hb : isS L i (ByteArray.mk #[91])
      · rw [hb, cond_false] at hu hv
        exact ⟨x, x, i, 0, hu, hv, hi, fun _ => ⟨rfl, Nat.le_refl _, by omega, by omega⟩⟩
      · rw [hb, cond_true] at hu hv
        obtain ⟨hlt, hk3, _⟩ := Kei hb
        obtain ⟨n1, rfl⟩ : ∃ m, n1 = m + 1 := ⟨n1 - 1, by omega⟩
        rw [all_eq] at hu
        obtain ⟨y, y2, j, e1, q1, q2, q3, q4⟩ := ihR L (i + 1) 0 n1 hL hlt (by omega) (by omega) (by omega)
        rw [show (pg n1).1 (mk L (i + 1) 0) 0 = _ from q1, Option.bind_some] at hu
        rw [show (rg n).1 (rn L (i + 1) 0) 0 = _ from q2, Option.bind_some] at hv
        rw [hxn] at hu
        by_cases he : e1 = 0
        · subst he
          obtain ⟨hyy, g1, g2, g3⟩ := q4 rfl
          subst hyy
          rw [show ((y, mk L j 0).2.gE == 0) = true from rfl, cond_true] at hu
          change _ = Option.bind (Option.bind (KaY (mk L j 0) (ByteArray.mk #[93])) _) _ at hu
          rw [eat_eq _ (by omega), Option.bind_some, Option.bind_some] at hu
          simp only [] at hv
          rw [reatn _ (by omega), Option.bind_some] at hv
          cases hb2 : isS L j (ByteArray.mk #[93])
          · rw [hb2, cond_false] at hu hv
            exact SM.sound (e := 3) (j := j) y y (Nat.le_refl _) hL q3 ha (fun h => by cases h) hu hv
          · rw [hb2, cond_true] at hu hv
            obtain ⟨hl2, _, _⟩ := Kei hb2
            exact SM.sound (e := 0) (j := j + 1) y y (Nat.le_refl _) hL hl2 ha (fun _ => ⟨rfl, by omega, by omega⟩) hu hv
        · rw [show ((y, mk L j e1).2.gE == 0) = false by simp [mk, he], cond_false, Option.bind_some] at hu
          simp only [] at hv
          rw [reatb _ he, Option.bind_some] at hv
          exact SM.sound (e := e1) (j := j) y y2 (Nat.le_refl _) hL q3 ha (fun h => absurd h he) hu hv
end Go.Proofs.Ytmgklehakmdiiaa.Ab.Pq
namespace Go.Proofs.Ytmgklehakmdiiaa.Ab
open Go
set_option linter.all false
mutual
def allE : Ka → List Ka
 | ⟨a, b, c, ks, d⟩ => ⟨a, b, c, ks, d⟩ :: allEs ks
def allEs : List Ka → List Ka
 | [] => []
 | e :: l => allE e ++ allEs l
end
theorem allE_eq (e : Ka) : allE e = e :: allEs e.gKids := by cases e; simp only [allE]
theorem Kgu : ∀ l m, allEs (l ++ m) = allEs l ++ allEs m
 | [], m => by simp [allEs]
 | e :: l, m => by simp only [List.cons_append, allEs, Kgu l m, List.append_assoc]
mutual
theorem Ki2 : ∀ e, (allE e).length = szE e
 | ⟨_, _, _, ks, _⟩ => by simp only [allE, szE, List.length_cons, KeU ks]; omega
theorem KeU : ∀ l, (allEs l).length = szEs l
 | [] => rfl
 | e :: l => by simp only [allEs, szEs, List.length_append, Ki2 e, KeU l]
end
mutual
def flS : Kj → List Kj
 | ⟨a, b, c, es, ks, ls, d⟩ => ⟨a, b, c, es, ks, ls, d⟩ :: (flSs ks ++ flSs ls)
def flSs : List Kj → List Kj
 | [] => []
 | s :: l => flS s ++ flSs l
end
mutual
def szS : Kj → Nat
 | ⟨_, _, _, es, ks, ls, _⟩ => 1 + szSs ks + szSs ls + szEs es
def szSs : List Kj → Nat
 | [] => 0
 | s :: l => szS s + szSs l
end
mutual
def hS : Kj → Nat
 | ⟨_, _, _, _, ks, ls, _⟩ => 1 + max (hSs ks) (hSs ls)
def hSs : List Kj → Nat
 | [] => 1
 | s :: l => max (hS s) (hSs l)
end
def exOf (l : List Kj) : List Ka := l.flatMap fun s => allEs s.gExps
theorem flS_eq (s : Kj) : flS s = s :: (flSs s.gKids ++ flSs s.gElse) := by cases s; simp only [flS]
theorem KeE (s : Kj) : szS s = 1 + szSs s.gKids + szSs s.gElse + szEs s.gExps := by cases s; simp only [szS]
theorem hS_eq (s : Kj) : hS s = 1 + max (hSs s.gKids) (hSs s.gElse) := by cases s; simp only [hS]
theorem KiL : ∀ l m, flSs (l ++ m) = flSs l ++ flSs m
 | [], m => by simp [flSs]
 | e :: l, m => by simp only [List.cons_append, flSs, KiL l m, List.append_assoc]
theorem Kfx : ∀ l m, szSs (l ++ m) = szSs l + szSs m
 | [], m => by simp [szSs]
 | e :: l, m => by simp only [List.cons_append, szSs, Kfx l m]; omega
theorem KiM (l m : List Kj) : exOf (l ++ m) = exOf l ++ exOf m := by simp [exOf]
theorem hS_mem : ∀ {l : List Kj} {s : Kj}, s ∈ l → hS s ≤ hSs l
  | x :: l, e, h => by
    simp only [hSs]
    rcases List.mem_cons.1 h with rfl | h
    · omega
    · have := hS_mem h; omega
theorem szS_mem : ∀ {l : List Kj} {s : Kj}, s ∈ l → szS s ≤ szSs l
  | x :: l, e, h => by
    simp only [szSs]
    rcases List.mem_cons.1 h with rfl | h
    · omega
    · have := szS_mem h; omega
theorem Kix : ∀ l, 1 ≤ hSs l
 | [] => by simp [hSs]
 | s :: l => by have := Kix l; simp only [hSs]; omega
mutual
theorem szS_fl : ∀ s, szS s = (flS s).length + (exOf (flS s)).length
  | ⟨a, b, c, es, ks, ls, d⟩ => by
    have h1 := KeV ks
    have h2 := KeV ls
    simp only [szS, flS, List.length_cons, List.length_append, exOf, List.flatMap_cons, List.flatMap_append, KeU] at h1 h2 ⊢
    omega
theorem KeV : ∀ l, szSs l = (flSs l).length + (exOf (flSs l)).length
  | [] => rfl
  | s :: l => by
    have h1 := szS_fl s
    have h2 := KeV l
    simp only [szSs, flSs, List.length_append, KiM]; omega
end
theorem Kfp : ∀ l, l.length ≤ szSs l
  | [] => by simp
  | e :: l => by
    have := Kfp l
    have h := KeE e
    simp only [szSs, List.length_cons]; omega
theorem szSs_pre {l pre : List Kj} {x : Kj} {post : List Kj} (h : l = pre ++ x :: post) : szSs pre + szS x ≤ szSs l := by
 subst h; rw [Kfx]; simp only [szSs]; omega
theorem fuel {l : List Kj} {n : Nat} {x : Kj} (h : hSs l ≤ n + 1) (hx : x ∈ l) : hSs x.gKids ≤ n ∧ hSs x.gElse ≤ n := by
 have h1 := hS_mem hx
 have h2 := hS_eq x
 omega
end Go.Proofs.Ytmgklehakmdiiaa.Ab
namespace Go.Proofs.Ytmgklehakmdiiaa.Ab.Pq
open Go
set_option linter.all false
def GR {A : Type} (L : List Tok) (v o : Int) (p : Pos L) (sz : A → Nat) (r : Option (A × Ke)) (r2 : Option (A × RR)) : Prop :=
 ∃ x y q e, r = some (x, gm L q e v o) ∧ r2 = some (y, rm L q e) ∧ (e = 0 → x = y ∧ p.1 + sz x ≤ q.1)
theorem GR.bad {A : Type} {L : List Tok} {v o : Int} {p : Pos L} {sz : A → Nat} {r : Option (A × Ke)} {r2 : Option (A × RR)} {x y : A} {q : Pos L} {e : Int} (he : e ≠ 0) (h : r = some (x, gm L q e v o)) (h2 : r2 = some (y, rm L q e)) : GR L v o p sz r r2 := ⟨x, y, q, e, h, h2, fun h => absurd h he⟩
theorem GR.ret {A : Type} {L : List Tok} {v o : Int} {p : Pos L} {sz : A → Nat} {r : Option (A × Ke)} {r2 : Option (A × RR)} {x : A} {q : Pos L} {e : Int} (h : r = some (x, gm L q e v o)) (h2 : r2 = some (x, rm L q e)) (hs : p.1 + sz x ≤ q.1) : GR L v o p sz r r2 := ⟨x, x, q, e, h, h2, fun _ => ⟨rfl, hs⟩⟩
section
variable {L : List Tok}
theorem Kdk (p : Pos L) (s : ByteArray) : (∃ q : Pos L, eatP L p 0 s = (q, 0) ∧ q.1 = p.1 + 1 ∧ isS L p.1 s = true) ∨ (eatP L p 0 s = (p, 3) ∧ isS L p.1 s = false) := by
 unfold eatP
 rw [if_pos rfl]
 by_cases h : isS L p.1 s = true
 ·rw [dif_pos h]; exact .inl ⟨_, rfl, rfl, h⟩
 ·rw [dif_neg h]; exact .inr ⟨rfl, by simpa using h⟩
theorem KcR (p : Pos L) (e : Int) (s : ByteArray) : p.1 ≤ (eatP L p e s).1.1 := by
 unfold eatP
 by_cases he : e = 0
 ·rw [if_pos he]
  by_cases h : isS L p.1 s = true
  ·rw [dif_pos h]; exact Nat.le_succ _
  ·rw [dif_neg h]; exact Nat.le_refl _
 ·rw [if_neg he]; exact Nat.le_refl _
theorem Kbj (p : Pos L) (s : ByteArray) : (∃ q : Pos L, mayP L p 0 s = (true, q) ∧ q.1 = p.1 + 1 ∧ isS L p.1 s = true) ∨ (mayP L p 0 s = (false, p) ∧ isS L p.1 s = false) := by
 unfold mayP
 rw [if_pos rfl]
 by_cases h : isS L p.1 s = true
 ·rw [dif_pos h]; exact .inl ⟨_, rfl, rfl, h⟩
 ·rw [dif_neg h]; exact .inr ⟨rfl, by simpa using h⟩
theorem Kfy (p : Pos L) : (∃ q : Pos L, nameP L p 0 = ((lk L p.1).gText, q, 0) ∧ q.1 = p.1 + 1 ∧ (lk L p.1).gKind = 1) ∨ nameP L p 0 = (ByteArray.empty, p, 3) := by
 unfold nameP
 rw [if_pos rfl]
 by_cases h : (lk L p.1).gKind = 1
 ·rw [dif_pos h]; exact .inl ⟨_, rfl, rfl, h⟩
 ·rw [dif_neg h]; exact .inr rfl
theorem Kiy {p : Pos L} {e v o : Int} (he : e ≠ 0) : K8 (gm L p e v o) = some (ex0, gm L p e v o) := by
 unfold K8
 rw [show ((gm L p e v o).gE != 0) = true by simp [he]]; rfl
theorem Kf8 {p : Pos L} {e : Int} (he : e ≠ 0) : KaL (rm L p e) = some (ex0, rm L p e) := by
 unfold KaL
 rw [show ((rm L p e).gE != 0) = true by simp [he]]; rfl
variable (hL : L.length ≤ 100000)
include hL
theorem Kdl {p : Pos L} {e v o : Int} (he : e ≠ 0) (l : List ByteArray) (hl : l.length ≤ 1000) : KJ (gm L p e v o) l = some (gm L p e v o) := by rw [geats hL p e v o l hl, KgR he]
theorem Kdm {p : Pos L} {e : Int} (he : e ≠ 0) (s : ByteArray) : Kae (rm L p e) s = some (rm L p e) := by rw [reat hL, Kbz he]
theorem KfF {p : Pos L} {e v o : Int} (he : e ≠ 0) (s : ByteArray) : KX (gm L p e v o) s = some (false, gm L p e v o) := by rw [gmay hL, Kej he]
theorem KdW {p : Pos L} {e : Int} (he : e ≠ 0) (s : ByteArray) : Kbr (rm L p e) s = some (false, rm L p e) := by rw [rmay hL, Kej he]
theorem gname_b {p : Pos L} {e v o : Int} (he : e ≠ 0) : Kaw (gm L p e v o) = some (ByteArray.empty, gm L p e v o) := by rw [gname hL, KgQ he]
theorem rname_b {p : Pos L} {e : Int} (he : e ≠ 0) : Kbo (rm L p e) = some (ByteArray.empty, rm L p e) := by rw [rname hL, KgQ he]
theorem Kfq (p : Pos L) (v o : Int) : GR L v o p szE (K8 (gm L p 0 v o)) (KaL (rm L p 0)) := by
 have hp := p.2
 obtain ⟨x, y, i, e, h1, h2, h3, h4⟩ := (sm (10 * L.length + 20)).1 L p.1 0 (10 * L.length + 20) hL hp (by omega) (by omega) (by omega)
 have h1' := Kfh _ _ _ h1
 have h2' := Kkn _ _ _ h2
 have a1 : K8 (gm L p 0 v o) = some (bif e == 0 then x else ex0, gm L ⟨i, h3⟩ e v o) := by
  unfold K8 Ker
  simp only [bne, beq_self_eq_true, Bool.not_true, cond_false]
  rw [show min ((p.1 : Nat) : Int) (L.length : Int) = ((p.1 : Nat) : Int) by omega, decide_eq_false (by omega), cond_false, decide_eq_false (by omega), Option.bind_some, cond_false]
  rw [show KcV (⟨L, ((p.1 : Nat) : Int), 0⟩ : Kb) 0 = _ from h1', Option.bind_some]
  by_cases he : e = 0
  ·subst he; rfl
  ·simp only [mk, show (e == 0) = false by simp [he], Bool.not_false, cond_true, Option.bind_some, cond_false]
   have := gfail (L := L) p ⟨i, h3⟩ 0 v o e
   rw [KcZ] at this
   rw [show Kab (gm L p 0 v o) (i : Int) e = _ from this, Option.bind_some]; rfl
 have a2 : KaL (rm L p 0) = some (y, rm L ⟨i, h3⟩ e) := by
  unfold KaL
  simp only [bne, beq_self_eq_true, Bool.not_true, cond_false]
  rw [show KgP (rm L p 0) 0 = _ from h2', Option.bind_some]; rfl
 refine ⟨_, _, _, _, a1, a2, fun he => ?_⟩
 subst he
 obtain ⟨q1, q2, q3, q4⟩ := h4 rfl
 exact ⟨q1, by show p.1 + szE x ≤ i; omega⟩
abbrev SL6 := List Xp × List Tok × Int × Int × Int × Int
abbrev SL4 := List Xp × List Tok × Int × Int
omit hL in
noncomputable def lsP (s28 : SL6) : Option (Step SL6 SL6) := (bif (s28.2.2.2.1 == (0 : Int)) then ((K8 (⟨s28.2.1, s28.2.2.1, s28.2.2.2.1, s28.2.2.2.2.1, s28.2.2.2.2.2⟩ : Ke)).bind fun x43 => ((app 64 s28.1 ([x43.1] : List Ka)).bind fun x44 => ((KX x43.2 (ByteArray.mk #[44])).bind fun x45 => (bif (!x45.1) then some (.done (x44, x45.2.gL, x45.2.gAt, x45.2.gE, x45.2.gVars, x45.2.gOpen)) else some (.next (x44, x45.2.gL, x45.2.gAt, x45.2.gE, x45.2.gVars, x45.2.gOpen)))))) else some (.done (s28.1, s28.2.1, s28.2.2.1, s28.2.2.2.1, s28.2.2.2.2.1, s28.2.2.2.2.2)))
omit hL in
noncomputable def lsR (s26 : SL4) : Option (Step SL4 SL4) := ((Kbr (⟨s26.2.1, s26.2.2.1, s26.2.2.2⟩ : Kd) (ByteArray.mk #[44])).bind fun x37 => (bif x37.1 then ((KaL x37.2).bind fun x39 => ((app 64 s26.1 ([x39.1] : List Ka)).bind fun x40 => some (.next (x40, x39.2.gL, x39.2.gAt, x39.2.gE)))) else some (.done (s26.1, x37.2.gL, x37.2.gAt, x37.2.gE))))
theorem ls_loop (v o : Int) (p0 : Nat) : ∀ (n : Nat) (p : Pos L) (acc : List Xp), L.length - p.1 ≤ n → p0 + szEs acc ≤ p.1 →
    ∃ l l2 q e, loopM lsP (acc, L, ((p.1 : Nat) : Int), 0, v, o) = some (l, L, ((q.1 : Nat) : Int), e, v, o) ∧ ((KaL (rm L p 0)).bind fun x7 => (app 64 acc [x7.1]).bind fun x8 => loopM lsR (x8, x7.2.gL, x7.2.gAt, x7.2.gE)) = some (l2, L, ((q.1 : Nat) : Int), e) ∧ (e = 0 → l = l2 ∧ p0 + szEs l ≤ (q : Pos L).1) := by
  intro n
  induction n with
  | zero =>
    intro p acc hn ha
    obtain ⟨x, y, q, e, h1, h2, h3⟩ := Kfq hL p v o
    have hp := p.2
    have hlen := Kdt acc
    have he : e ≠ 0 := by
      intro he
      obtain ⟨_, h4⟩ := h3 he
      have := q.2
      have h5 : 1 ≤ szE x := by rw [KcX]; omega
      omega
    have hf : lsP (acc, L, ((p.1 : Nat) : Int), 0, v, o) = some (.done (acc ++ [x], L, ((q.1 : Nat) : Int), e, v, o)) := by
      unfold lsP
      simp only [beq_self_eq_true, cond_true]
      rw [h1, Option.bind_some, Kbm (by omega) (by simp; omega), Option.bind_some]
      simp only []
      rw [KfF hL he, Option.bind_some]; rfl
    refine ⟨_, acc ++ [y], q, e, KV hf, ?_, fun h => absurd h he⟩
    rw [h2, Option.bind_some, Kbm (by omega) (by simp; omega), Option.bind_some]
    refine KV ?_
    unfold lsR
    simp only []
    rw [KdW hL he, Option.bind_some]; rfl
  | succ n ih =>
    intro p acc hn ha
    obtain ⟨x, y, q, e, h1, h2, h3⟩ := Kfq hL p v o
    have hp := p.2
    have hlen := Kdt acc
    have hf : ∀ b q', mayP L q e (ByteArray.mk #[44]) = (b, q') → lsP (acc, L, ((p.1 : Nat) : Int), 0, v, o) = (bif !b then some (.done (acc ++ [x], L, ((q'.1 : Nat) : Int), e, v, o)) else some (.next (acc ++ [x], L, ((q'.1 : Nat) : Int), e, v, o))) := by
      intro b q' hb
      unfold lsP
      simp only [beq_self_eq_true, cond_true]
      rw [h1, Option.bind_some, Kbm (by omega) (by simp; omega), Option.bind_some]
      simp only []
      rw [gmay hL, Option.bind_some, hb]
    have hR : ∀ b q', mayP L q e (ByteArray.mk #[44]) = (b, q') → lsR (acc ++ [y], L, ((q.1 : Nat) : Int), e) = (bif b then ((KaL (rm L q' e)).bind fun x39 => ((app 64 (acc ++ [y]) ([x39.1] : List Ka)).bind fun x40 => some (.next (x40, x39.2.gL, x39.2.gAt, x39.2.gE)))) else some (.done (acc ++ [y], L, ((q'.1 : Nat) : Int), e))) := by
      intro b q' hb
      unfold lsR
      simp only []
      rw [rmay hL q, Option.bind_some, hb]
    rw [h2, Option.bind_some, Kbm (by omega) (by simp; omega), Option.bind_some]
    by_cases he : e = 0
    · subst he
      obtain ⟨hxy, h4⟩ := h3 rfl
      subst hxy
      have h5 : 1 ≤ szE x := by rw [KcX]; omega
      have hsz : szEs (acc ++ [x]) = szEs acc + szE x := by rw [KeD]; simp [szEs]
      rcases Kbj q (ByteArray.mk #[44]) with ⟨q', hq, hq1, _⟩ | ⟨hq, _⟩
      · have hf' := hf _ _ hq
        have hR' := hR _ _ hq
        simp only [Bool.not_true, cond_false, cond_true] at hf' hR'
        rw [KaG hf']
        obtain ⟨l, l2, q2, e2, k1, k2, k3⟩ := ih q' (acc ++ [x]) (by omega) (by omega)
        refine ⟨l, l2, q2, e2, k1, ?_, k3⟩
        rw [← k2]
        have hstep : ∀ (m : Option (Xp × RR)) (g : Xp × RR → Option SL4), lsR (acc ++ [x], L, ((q.1 : Nat) : Int), 0) = (m.bind fun z => (g z).bind fun w => some (.next w)) → (∃ r, (m.bind g) = some r) → loopM lsR (acc ++ [x], L, ((q.1 : Nat) : Int), 0) = m.bind fun z => (g z).bind fun w => loopM lsR w := by
          intro m g hm hr
          cases m with
          | none => obtain ⟨r, hr⟩ := hr; cases hr
          | some z =>
            rw [Option.bind_some] at hm hr ⊢
            obtain ⟨r, hr⟩ := hr
            rw [hr, Option.bind_some] at hm ⊢
            exact KaG hm
        have hh := hstep (KaL (rm L q' 0)) (fun z => (app 64 (acc ++ [x]) [z.1]).bind fun w => some (w, z.2.gL, z.2.gAt, z.2.gE)) (by
          rw [hR']
          cases KaL (rm L q' 0) with
          | none => rfl
          | some z =>
            simp only [Option.bind_some]
            cases app 64 (acc ++ [x]) [z.1] <;> rfl) (by
          obtain ⟨x', y', q'', e'', m1, m2, m3⟩ := Kfq hL q' v o
          rw [m2, Option.bind_some]
          have hq2 := q.2
          rw [Kbm (by omega) (by simp; omega), Option.bind_some]
          exact ⟨_, rfl⟩)
        rw [show ((acc ++ [x], (x, rm L q 0).2.gL, (x, rm L q 0).2.gAt, (x, rm L q 0).2.gE) : SL4) = (acc ++ [x], L, ((q.1 : Nat) : Int), 0) from rfl, hh]
        cases KaL (rm L q' 0) with
        | none => rfl
        | some z =>
          simp only [Option.bind_some]
          cases app 64 (acc ++ [x]) [z.1] <;> rfl
      · have hf' := hf _ _ hq
        have hR' := hR _ _ hq
        simp only [Bool.not_false, cond_false, cond_true] at hf' hR'
        exact ⟨_, _, q, 0, KV hf', KV hR', fun _ => ⟨rfl, by omega⟩⟩
    · have hf' := hf _ _ (Kej he _)
      have hR' := hR _ _ (Kej he _)
      simp only [Bool.not_false, cond_false, cond_true] at hf' hR'
      exact ⟨_, _, q, e, KV hf', KV hR', fun h => absurd h he⟩
theorem list_gr (p : Pos L) (v o : Int) : GR L v o p szEs (KaT (gm L p 0 v o)) (Kee (rm L p 0)) := by
  unfold KaT Kee
  rw [geat hL, Option.bind_some, reat hL, Option.bind_some]
  rcases Kdk p (ByteArray.mk #[40]) with ⟨q, hq, hq1, _⟩ | ⟨hq, _⟩
  · rw [hq]
    simp only []
    rw [gmay hL, Option.bind_some, rmay hL, Option.bind_some]
    rcases Kbj q (ByteArray.mk #[41]) with ⟨q', hm, hm1, _⟩ | ⟨hm, _⟩
    · rw [hm]
      exact GR.ret (x := []) (q := q') (e := 0) rfl rfl (by simp [szEs]; omega)
    · rw [hm]
      simp only [cond_false]
      obtain ⟨l, l2, q2, e, k1, k2, k3⟩ := ls_loop hL v o p.1 L.length q [] (by omega) (by simp [szEs]; omega)
      change GR L v o p szEs (Option.bind (loopM lsP ([], L, ((q.1 : Nat) : Int), 0, v, o)) _) _
      rw [k1, Option.bind_some]
      simp only []
      rw [geat hL q2, Option.bind_some]
      have e2 : ((KaL (rm L q 0)).bind fun x7 => (app 64 ([] : List Xp) [x7.1]).bind fun x8 => (loopM lsR (x8, x7.2.gL, x7.2.gAt, x7.2.gE)).bind fun y25 => ((Kae (⟨y25.2.1, y25.2.2.1, y25.2.2.2⟩ : Kd) (ByteArray.mk #[41])).bind fun x41 => some (y25.1, x41))) = some (l2, rm L (eatP L q2 e (ByteArray.mk #[41])).1 (eatP L q2 e (ByteArray.mk #[41])).2) := by
        cases hx : KaL (rm L q 0) with
        | none => rw [hx] at k2; cases k2
        | some z =>
          rw [hx, Option.bind_some] at k2
          rw [Option.bind_some]
          cases hy : app 64 ([] : List Xp) [z.1] with
          | none => rw [hy] at k2; cases k2
          | some w =>
            rw [hy, Option.bind_some] at k2
            rw [Option.bind_some, k2, Option.bind_some]
            simp only []
            rw [reat hL q2, Option.bind_some]
      refine ⟨l, l2, (eatP L q2 e (ByteArray.mk #[41])).1, (eatP L q2 e (ByteArray.mk #[41])).2, rfl, e2, fun he => ?_⟩
      by_cases h0 : e = 0
      · obtain ⟨a, b⟩ := k3 h0
        have := KcR q2 e (ByteArray.mk #[41])
        exact ⟨a, by omega⟩
      · rw [Kbz h0] at he; exact absurd he h0
  · rw [hq]
    simp only []
    have h3 : (3 : Int) ≠ 0 := by decide
    rw [KfF hL h3, Option.bind_some, KdW hL h3, Option.bind_some]
    simp only [cond_false]
    change GR L v o p szEs (Option.bind (loopM lsP ([], L, ((p.1 : Nat) : Int), 3, v, o)) _) _
    rw [KV (t := ([], L, ((p.1 : Nat) : Int), 3, v, o)) rfl, Option.bind_some]
    simp only []
    rw [Kdl hL h3 _ (by simp), Option.bind_some, Kf8 h3, Option.bind_some, Kbm (by omega) (by simp), Option.bind_some]
    refine GR.bad h3 (q := p) rfl (y := [ex0]) ?_
    change Option.bind (loopM lsR ([] ++ [ex0], L, ((p.1 : Nat) : Int), 3)) _ = _
    rw [KV (t := ([ex0], L, ((p.1 : Nat) : Int), 3)) (by unfold lsR; simp only []; rw [KdW hL h3, Option.bind_some]; rfl), Option.bind_some]
    simp only []
    rw [Kdm hL h3, Option.bind_some]
end
end Go.Proofs.Ytmgklehakmdiiaa.Ab.Pq
namespace Go.Proofs.Ytmgklehakmdiiaa.Ab.Pq
open Go
set_option linter.all false
section
variable {L : List Tok}
theorem szS0 {op at_ : Int} {nm fn : ByteArray} {es : List Xp} : szS ⟨op, nm, fn, es, [], [], at_⟩ = 1 + szEs es := by rw [KeE]; simp [szSs]
variable (hL : L.length ≤ 100000)
include hL
theorem list_b {p : Pos L} {e v o : Int} (he : e ≠ 0) : KaT (gm L p e v o) = some ([], gm L p e v o) := by
 unfold KaT
 rw [Kdl hL he _ (by simp), Option.bind_some, KfF hL he, Option.bind_some]
 simp only [cond_false]
 change (Option.bind (loopM lsP ([], L, ((p.1 : Nat) : Int), e, v, o)) _) = _
 rw [KV (t := ([], L, ((p.1 : Nat) : Int), e, v, o)) (by unfold lsP; simp only []; rw [show (e == 0) = false by simp [he], cond_false]), Option.bind_some]
 simp only []
 rw [Kdl hL he _ (by simp), Option.bind_some]
theorem exprs_b {p : Pos L} {e : Int} (he : e ≠ 0) : Kee (rm L p e) = some ([ex0], rm L p e) := by
 unfold Kee
 rw [Kdm hL he, Option.bind_some, KdW hL he, Option.bind_some]
 simp only [cond_false]
 rw [Kf8 he, Option.bind_some, Kbm (by omega) (by simp), Option.bind_some]
 change (Option.bind (loopM lsR ([] ++ [ex0], L, ((p.1 : Nat) : Int), e)) _) = _
 rw [KV (t := ([ex0], L, ((p.1 : Nat) : Int), e)) (by unfold lsR; simp only []; rw [KdW hL he, Option.bind_some]; rfl), Option.bind_some]
 simp only []
 rw [Kdm hL he, Option.bind_some]
theorem call_gr (p : Pos L) (v o : Int) (op at_ : Int) (nm fn : ByteArray) (es : List Xp) : GR L v o p szS (KaO (gm L p 0 v o) ⟨op, nm, fn, es, [], [], at_⟩) (Kdr (rm L p 0) ⟨op, nm, fn, es, [], [], at_⟩) := by
 unfold KaO Kdr
 rw [gname hL, Option.bind_some, rname hL, Option.bind_some]
 rcases Kfy p with ⟨q, hq, hq1, _⟩ | hq
 ·rw [hq]
  simp only []
  obtain ⟨x, y, q2, e, h1, h2, h3⟩ := list_gr hL q v o
  rw [h1, Option.bind_some, h2, Option.bind_some, geat hL, Option.bind_some, reat hL, Option.bind_some]
  by_cases he : e = 0
  ·obtain ⟨hxy, h4⟩ := h3 he
   subst hxy
   exact GR.ret rfl rfl (by rw [szS0]; have := KcR q2 e (ByteArray.mk #[59]); show p.1 + (1 + szEs x) ≤ (eatP L q2 e (ByteArray.mk #[59])).1.1; omega)
  ·rw [Kbz he]
   exact GR.bad he rfl rfl
 ·rw [hq]
  simp only []
  have h3 : (3 : Int) ≠ 0 := by decide
  rw [list_b hL h3, exprs_b hL h3, Option.bind_some, Option.bind_some, Kdl hL h3 _ (by simp), Option.bind_some, Kdm hL h3, Option.bind_some]
  exact GR.bad h3 rfl rfl
theorem call_b {p : Pos L} {e v o : Int} (he : e ≠ 0) (s : Kj) : (∃ x, KaO (gm L p e v o) s = some (x, gm L p e v o)) ∧ (∃ y, Kdr (rm L p e) s = some (y, rm L p e)) := by
 constructor
 ·unfold KaO
  rw [gname_b hL he, Option.bind_some]
  simp only []
  rw [list_b hL he, Option.bind_some]
  simp only []
  rw [Kdl hL he _ (by simp), Option.bind_some]
  exact ⟨_, rfl⟩
 ·unfold Kdr
  rw [rname_b hL he, Option.bind_some]
  simp only []
  rw [exprs_b hL he, Option.bind_some]
  simp only []
  rw [Kdm hL he, Option.bind_some]
  exact ⟨_, rfl⟩
theorem test_gr (p : Pos L) (v o : Int) : GR L v o p szEs (Ka9 (gm L p 0 v o)) (KeK (rm L p 0)) := by
 unfold Ka9 KeK
 rw [geat hL, Option.bind_some, reat hL, Option.bind_some]
 rcases Kdk p (ByteArray.mk #[40]) with ⟨q, hq, hq1, _⟩ | ⟨hq, _⟩
 ·rw [hq]
  simp only []
  obtain ⟨x, y, q2, e, h1, h2, h3⟩ := Kfq hL q v o
  rw [h1, Option.bind_some, h2, Option.bind_some, geat hL, Option.bind_some, reat hL, Option.bind_some]
  by_cases he : e = 0
  ·obtain ⟨hxy, h4⟩ := h3 he
   subst hxy
   exact GR.ret rfl rfl (by simp only [szEs]; have := KcR q2 e (ByteArray.mk #[41]); omega)
  ·rw [Kbz he]
   exact GR.bad he rfl rfl
 ·rw [hq]
  simp only []
  have h3 : (3 : Int) ≠ 0 := by decide
  rw [Kiy h3, Option.bind_some, Kf8 h3, Option.bind_some, Kdl hL h3 _ (by simp), Option.bind_some, Kdm hL h3, Option.bind_some]
  exact GR.bad h3 rfl rfl
theorem Ki3 (p q0 : Pos L) (v o : Int) (s : ByteArray) (op at_ : Int) (nm fn : ByteArray) (hp : p.1 + 1 ≤ q0.1) : GR L v o p szS
  ((K8 (gm L q0 0 v o)).bind fun x => (KJ x.2 [s]).bind fun z => some ((⟨op, nm, fn, [x.1], [], [], at_⟩ : Kj), z))
  ((KaL (rm L q0 0)).bind fun x => (Kae x.2 s).bind fun z => some ((⟨op, nm, fn, [x.1], [], [], at_⟩ : Kj), z)) := by
 obtain ⟨x, y, q2, e, h1, h2, h3⟩ := Kfq hL q0 v o
 rw [h1, Option.bind_some, h2, Option.bind_some, geat hL, Option.bind_some, reat hL, Option.bind_some]
 by_cases he : e = 0
 ·obtain ⟨hxy, h4⟩ := h3 he
  subst hxy
  exact GR.ret rfl rfl (by rw [szS0]; simp only [szEs]; have := KcR q2 e s; omega)
 ·rw [Kbz he]
  exact GR.bad he rfl rfl
theorem Kji {p q0 : Pos L} {v o e : Int} (he : e ≠ 0) (s : ByteArray) (op at_ : Int) (nm fn : ByteArray) : GR L v o p szS
  ((K8 (gm L q0 e v o)).bind fun x => (KJ x.2 [s]).bind fun z => some ((⟨op, nm, fn, [x.1], [], [], at_⟩ : Kj), z))
  ((KaL (rm L q0 e)).bind fun x => (Kae x.2 s).bind fun z => some ((⟨op, nm, fn, [x.1], [], [], at_⟩ : Kj), z)) := by
 rw [Kiy he, Option.bind_some, Kf8 he, Option.bind_some, Kdl hL he _ (by simp), Option.bind_some, Kdm hL he, Option.bind_some]
 exact GR.bad he rfl rfl
theorem isS1 (i : Nat) (s : ByteArray) : (bif (lk L i).gKind == 3 then some (decide ((lk L i).gText = s)) else some false) = some (isS L i s) := by
 unfold isS
 cases (lk L i).gKind == 3 <;> rfl
noncomputable def rtail (x32 : RR) (nm fn : ByteArray) (op at_ : Int) : Option (Kj × RR) := ((Kbr x32 (ByteArray.mk #[105, 110, 112, 117, 116])).bind fun x33 => (bif x33.1 then ((Kae x33.2 (ByteArray.mk #[40])).bind fun x39 => ((Kae x39 (ByteArray.mk #[41])).bind fun x40 => ((Kae x40 (ByteArray.mk #[59])).bind fun x41 => some ((⟨(5 : Int), nm, fn, [], [], [], at_⟩ : Kj), x41)))) else ((Ked x33.2 (1 : Int)).bind fun x43 => (Option.bind (α := Bool) ((Kbc x33.2).bind fun x49 => (bif (x49.gKind == (1 : Int)) then (bif (x43.gKind == (3 : Int)) then some (decide (x43.gText = (ByteArray.mk #[40]))) else some false) else some false)) fun y48 => (bif y48 then ((Kdr x33.2 (⟨op, nm, fn, [], [], [], at_⟩ : Kj)).bind fun x55 => some (x55.1, x55.2)) else ((KaL x33.2).bind fun x57 => ((Kae x57.2 (ByteArray.mk #[59])).bind fun x58 => some ((⟨(1 : Int), nm, fn, ([x57.1] : List Ka), [], [], at_⟩ : Kj), x58))))))))
theorem assign_gr (p q0 : Pos L) (v o : Int) (nm fn : ByteArray) (op at_ : Int) (hp : p.1 + 1 ≤ q0.1) : GR L v o p szS (KaM (gm L q0 0 v o) ⟨op, nm, fn, [], [], [], at_⟩) (rtail (rm L q0 0) nm fn op at_) := by
  unfold KaM rtail
  rw [gmay hL, Option.bind_some, rmay hL, Option.bind_some]
  rcases Kbj q0 (ByteArray.mk #[105, 110, 112, 117, 116]) with ⟨q, hq, hq1, _⟩ | ⟨hq, _⟩
  · rw [hq]
    simp only [cond_true]
    rw [geats hL _ _ _ _ _ (by simp), Option.bind_some, reat hL, Option.bind_some, reat hL, Option.bind_some, reat hL, Option.bind_some]
    refine GR.ret (q := (eatsP L q 0 [ByteArray.mk #[40], ByteArray.mk #[41], ByteArray.mk #[59]]).1) rfl rfl ?_
    rw [szS0]
    simp only [szEs]
    have a1 := KcR q 0 (ByteArray.mk #[40])
    have a2 := KcR (eatP L q 0 (ByteArray.mk #[40])).1 (eatP L q 0 (ByteArray.mk #[40])).2 (ByteArray.mk #[41])
    have a3 := KcR (eatP L (eatP L q 0 (ByteArray.mk #[40])).1 (eatP L q 0 (ByteArray.mk #[40])).2 (ByteArray.mk #[41])).1 (eatP L (eatP L q 0 (ByteArray.mk #[40])).1 (eatP L q 0 (ByteArray.mk #[40])).2 (ByteArray.mk #[41])).2 (ByteArray.mk #[59])
    show p.1 + (1 + 0) ≤ (eatP L (eatP L (eatP L q 0 (ByteArray.mk #[40])).1 (eatP L q 0 (ByteArray.mk #[40])).2 (ByteArray.mk #[41])).1 (eatP L (eatP L q 0 (ByteArray.mk #[40])).1 (eatP L q 0 (ByteArray.mk #[40])).2 (ByteArray.mk #[41])).2 (ByteArray.mk #[59])).1.1
    omega
  · rw [hq]
    simp only [cond_false]
    rw [Kfa hL, Option.bind_some, gis1 hL, Option.bind_some, rahead1 hL, Option.bind_some, rlook hL, Option.bind_some, isS1 hL]
    cases hk : (bif (lk L q0.1).gKind == 1 then some (isS L (q0.1 + 1) (ByteArray.mk #[40])) else some false) with
    | none => cases hk2 : (lk L q0.1).gKind == 1 <;> rw [hk2] at hk <;> cases hk
    | some b =>
      rw [Option.bind_some, Option.bind_some]
      cases b
      · exact Ki3 hL p q0 v o _ _ _ _ _ hp
      · simp only [cond_true]
        rw [KbE, KbE]
        obtain ⟨x, y, q2, e, h1, h2, h3⟩ := call_gr hL q0 v o op at_ nm fn []
        exact ⟨x, y, q2, e, h1, h2, fun he => by obtain ⟨a, b⟩ := h3 he; exact ⟨a, by omega⟩⟩
theorem assign_b {p : Pos L} {e v o : Int} (he : e ≠ 0) (nm fn : ByteArray) (op at_ : Int) : (∃ x, KaM (gm L p e v o) ⟨op, nm, fn, [], [], [], at_⟩ = some (x, gm L p e v o)) ∧ (∃ y, rtail (rm L p e) nm fn op at_ = some (y, rm L p e)) := by
  obtain ⟨⟨c1, h1⟩, ⟨c2, h2⟩⟩ := call_b hL (p := p) (v := v) (o := o) he ⟨op, nm, fn, [], [], [], at_⟩
  constructor
  · unfold KaM
    rw [KfF hL he, Option.bind_some]
    simp only [cond_false]
    rw [Kfa hL, Option.bind_some, gis1 hL, Option.bind_some]
    cases hk : (bif (lk L p.1).gKind == 1 then some (isS L (p.1 + 1) (ByteArray.mk #[40])) else some false) with
    | none => cases hk2 : (lk L p.1).gKind == 1 <;> rw [hk2] at hk <;> cases hk
    | some b =>
      rw [Option.bind_some]
      cases b
      · simp only [cond_false]
        rw [Kiy he, Option.bind_some]
        simp only []
        rw [Kdl hL he _ (by simp), Option.bind_some]; exact ⟨_, rfl⟩
      · simp only [cond_true]
        rw [KbE, h1]; exact ⟨_, rfl⟩
  · unfold rtail
    rw [KdW hL he, Option.bind_some]
    simp only [cond_false]
    rw [rahead1 hL, Option.bind_some, rlook hL, Option.bind_some, isS1 hL]
    cases hk : (bif (lk L p.1).gKind == 1 then some (isS L (p.1 + 1) (ByteArray.mk #[40])) else some false) with
    | none => cases hk2 : (lk L p.1).gKind == 1 <;> rw [hk2] at hk <;> cases hk
    | some b =>
      rw [Option.bind_some]
      cases b
      · simp only [cond_false]
        rw [Kf8 he, Option.bind_some]
        simp only []
        rw [Kdm hL he, Option.bind_some]; exact ⟨_, rfl⟩
      · simp only [cond_true]
        rw [KbE, h2]; exact ⟨_, rfl⟩
end
end Go.Proofs.Ytmgklehakmdiiaa.Ab.Pq
namespace Go.Proofs.Ytmgklehakmdiiaa.Ab.Pq
open Go
set_option linter.all false
section
variable {L : List Tok} (hL : L.length ≤ 100000)
include hL
theorem rnamed_eq (p : Pos L) (e at_ : Int) : KeR (rm L p e) ⟨0, ByteArray.empty, ByteArray.empty, [], [], [], at_⟩ = (bif isS L (p.1 + 1) (ByteArray.mk #[40]) then Kdr (rm L p e) ⟨0, ByteArray.empty, ByteArray.empty, [], [], [], at_⟩ else ((Kbo (rm L p e)).bind fun x13 => ((Kbr x13.2 (ByteArray.mk #[91])).bind fun x14 => (bif x14.1 then ((KaL x14.2).bind fun x24 => ((Kae x24.2 (ByteArray.mk #[93])).bind fun x26 => ((Kae x26 (ByteArray.mk #[61])).bind fun x27 => ((KaL x27).bind fun x28 => ((Kae x28.2 (ByteArray.mk #[59])).bind fun x30 => some ((⟨(2 : Int), x13.1, ByteArray.empty, ([x24.1, x28.1] : List Ka), [], [], at_⟩ : Kj), x30)))))) else ((Kae x14.2 (ByteArray.mk #[61])).bind fun x32 => rtail x32 x13.1 ByteArray.empty 0 at_))))) := by
 unfold KeR rtail
 rw [rahead1 hL, Option.bind_some, isS1 hL, Option.bind_some]
 cases isS L (p.1 + 1) (ByteArray.mk #[40])
 ·rfl
 ·simp only [cond_true]; rw [KbE]
theorem gnamed_eq (p : Pos L) (e v o at_ : Int) : Kbf (gm L p e v o) ⟨0, ByteArray.empty, ByteArray.empty, [], [], [], at_⟩ = (bif isS L (p.1 + 1) (ByteArray.mk #[40]) then KaO (gm L p e v o) ⟨0, ByteArray.empty, ByteArray.empty, [], [], [], at_⟩ else ((Kaw (gm L p e v o)).bind fun x9 => ((KX x9.2 (ByteArray.mk #[91])).bind fun x10 => (bif x10.1 then ((K8 x10.2).bind fun x18 => ((KJ x18.2 ([(ByteArray.mk #[93]), (ByteArray.mk #[61])] : List ByteArray)).bind fun x20 => ((K8 x20).bind fun x21 => ((KJ x21.2 ([(ByteArray.mk #[59])] : List ByteArray)).bind fun x22 => some ((⟨(2 : Int), x9.1, ByteArray.empty, ([x18.1, x21.1] : List Ka), [], [], at_⟩ : Kj), x22))))) else ((KJ x10.2 ([(ByteArray.mk #[61])] : List ByteArray)).bind fun x24 => KaM x24 ⟨0, x9.1, ByteArray.empty, [], [], [], at_⟩))))) := by
 unfold Kbf
 rw [gis1 hL, Option.bind_some]
 simp only [KbE]
theorem named_gr (p : Pos L) (v o at_ : Int) : GR L v o p szS (Kbf (gm L p 0 v o) ⟨0, ByteArray.empty, ByteArray.empty, [], [], [], at_⟩) (KeR (rm L p 0) ⟨0, ByteArray.empty, ByteArray.empty, [], [], [], at_⟩) := by
 rw [gnamed_eq hL, rnamed_eq hL]
 have h3 : (3 : Int) ≠ 0 := by decide
 cases isS L (p.1 + 1) (ByteArray.mk #[40])
 rotate_left
 ·exact call_gr hL p v o _ _ _ _ _
 simp only [cond_false]
 rw [gname hL, Option.bind_some, rname hL, Option.bind_some]
 rcases Kfy p with ⟨q, hq, hq1, _⟩ | hq
 ·rw [hq]
  simp only []
  rw [gmay hL, Option.bind_some, rmay hL, Option.bind_some]
  rcases Kbj q (ByteArray.mk #[91]) with ⟨q', hm, hm1, _⟩ | ⟨hm, _⟩
  ·rw [hm]
   simp only [cond_true]
   obtain ⟨x, y, q2, e, h1, h2, h4⟩ := Kfq hL q' v o
   rw [h1, Option.bind_some, h2, Option.bind_some]
   simp only []
   rw [geats hL q2 e v o _ (by simp), Option.bind_some, reat hL q2, Option.bind_some, reat hL, Option.bind_some]
   rw [show eatsP L q2 e [ByteArray.mk #[93], ByteArray.mk #[61]] = eatP L (eatP L q2 e (ByteArray.mk #[93])).1 (eatP L q2 e (ByteArray.mk #[93])).2 (ByteArray.mk #[61]) from rfl]
   have a1 := KcR q2 e (ByteArray.mk #[93])
   have a2 := KcR (eatP L q2 e (ByteArray.mk #[93])).1 (eatP L q2 e (ByteArray.mk #[93])).2 (ByteArray.mk #[61])
   have hbad : e ≠ 0 → (eatP L (eatP L q2 e (ByteArray.mk #[93])).1 (eatP L q2 e (ByteArray.mk #[93])).2 (ByteArray.mk #[61])).2 ≠ 0 := by
    intro he
    rw [Kbz he]
    simp only []
    rw [Kbz he]; exact he
   generalize eatP L (eatP L q2 e (ByteArray.mk #[93])).1 (eatP L q2 e (ByteArray.mk #[93])).2 (ByteArray.mk #[61]) = w at a2 hbad ⊢
   obtain ⟨w1, w2⟩ := w
   simp only [] at a2 hbad ⊢
   by_cases hw : w2 = 0
   ·subst hw
    have he : e = 0 := by
     by_cases h : e = 0
     ·exact h
     ·exact absurd rfl (hbad h)
    obtain ⟨hxy, h5⟩ := h4 he
    subst hxy
    obtain ⟨x', y', q3, e', m1, m2, m3⟩ := Kfq hL w1 v o
    rw [m1, Option.bind_some, m2, Option.bind_some]
    simp only []
    rw [geat hL q3, Option.bind_some, reat hL q3, Option.bind_some]
    by_cases he' : e' = 0
    ·obtain ⟨hxy, m4⟩ := m3 he'
     subst hxy
     refine GR.ret (q := (eatP L q3 e' (ByteArray.mk #[59])).1) rfl rfl ?_
     rw [szS0]
     simp only [szEs]
     have := KcR q3 e' (ByteArray.mk #[59])
     omega
    ·rw [Kbz he']
     exact GR.bad he' rfl rfl
   ·rw [Kiy hw, Option.bind_some, Kf8 hw, Option.bind_some]
    simp only []
    rw [Kdl hL hw _ (by simp), Option.bind_some, Kdm hL hw, Option.bind_some]
    exact GR.bad hw rfl rfl
  ·rw [hm]
   simp only [cond_false]
   rw [geat hL, Option.bind_some, reat hL, Option.bind_some]
   rcases Kdk q (ByteArray.mk #[61]) with ⟨q', hm, hm1, _⟩ | ⟨hm, _⟩
   ·rw [hm]
    exact assign_gr hL p q' v o _ _ _ _ (by omega)
   ·rw [hm]
    obtain ⟨⟨x, hx⟩, ⟨y, hy⟩⟩ := assign_b hL (p := q) (v := v) (o := o) h3 (lk L p.1).gText ByteArray.empty 0 at_
    exact GR.bad h3 hx hy
 ·rw [hq]
  simp only []
  rw [KfF hL h3, Option.bind_some, KdW hL h3, Option.bind_some]
  simp only [cond_false]
  rw [Kdl hL h3 _ (by simp), Option.bind_some, Kdm hL h3, Option.bind_some]
  obtain ⟨⟨x, hx⟩, ⟨y, hy⟩⟩ := assign_b hL (p := p) (v := v) (o := o) h3 ByteArray.empty ByteArray.empty 0 at_
  exact GR.bad h3 hx hy
end
end Go.Proofs.Ytmgklehakmdiiaa.Ab.Pq
namespace Go.Proofs.Ytmgklehakmdiiaa.Ab.Pq
open Go
set_option linter.all false
section
variable {L : List Tok} (hL : L.length ≤ 100000)
omit hL in
theorem word_eq2 (i : Nat) : ∃ w, (bif (lk L i).gKind == 3 then some (lk L i).gText else some (ByteArray.mk #[])) = some w ∧ ∀ s : ByteArray, s ≠ ByteArray.mk #[] → decide (w = s) = isS L i s := by
 unfold isS
 cases h : (lk L i).gKind == 3
 ·exact ⟨_, rfl, fun s hs => by rw [Bool.false_and, decide_eq_false (Ne.symm hs)]⟩
 ·exact ⟨_, rfl, fun s hs => by rw [Bool.true_and]⟩
include hL
theorem rnext {p q : Pos L} (h : q.1 = p.1 + 1) : (⟨L, IntKind.i64.wrap (((p.1 : Nat) : Int) + 1), 0⟩ : RR) = rm L q 0 := by
 have := p.2
 rw [winc (by omega), ← h]
theorem stmt_gr (g0 : Ke → Option (Kj × Ke)) (g1 : Ke → Option (List Kj × Ke)) (k0 : RR → Int → Option (List Kj × RR)) (k1 : RR → Int → Option (Kj × RR)) (k2 : RR → Int → Option (List Kj × RR)) (p : Pos L) (v o : Int)
  (ih : ∀ q : Pos L, p.1 + 1 ≤ q.1 → GR L v o q szSs (g1 (gm L q 0 v o)) (k2 (rm L q 0) o))
  (ihb : ∀ (q : Pos L) (e : Int), e ≠ 0 → (∃ x, g1 (gm L q e v o) = some (x, gm L q e v o)) ∧ (∃ y, k2 (rm L q e) o = some (y, rm L q e))) :
  GR L v o p szS (KaA g0 g1 (gm L p 0 v o)) (Kcs k0 k1 k2 (rm L p 0) o) := by
 have h3 : (3 : Int) ≠ 0 := by decide
 unfold KaA Kcs
 rw [Kfa hL, Option.bind_some, rlook hL, Option.bind_some]
 cases hk : (lk L p.1).gKind == 1
 rotate_left
 ·simp only [cond_true]
  rw [KbE, KbE]
  exact named_gr hL p v o _
 obtain ⟨w, hw, hws⟩ := word_eq2 (L := L) p.1
 simp only [cond_false]
 rw [hw, Option.bind_some, hws _ (by decide), hws _ (by decide), hws _ (by decide), hws _ (by decide), hws _ (by decide)]
 rw [gmay hL, Option.bind_some]
 rcases Kbj p (ByteArray.mk #[42]) with ⟨q, hq, hq1, hs⟩ | ⟨hq, hs⟩
 ·
  rw [hq, hs]
  simp only [cond_true]
  rw [rnext hL hq1, gname hL, Option.bind_some, rname hL, Option.bind_some]
  rcases Kfy q with ⟨q', hm, hm1, _⟩ | hm
  ·rw [hm]
   simp only []
   rw [geat hL, Option.bind_some, reat hL, Option.bind_some]
   rcases Kdk q' (ByteArray.mk #[61]) with ⟨q2, hm, hm2, _⟩ | ⟨hm, _⟩
   ·rw [hm]
    exact Ki3 hL p q2 v o _ _ _ _ _ (by omega)
   ·rw [hm]
    exact Kji hL h3 _ _ _ _ _
  ·rw [hm]
   simp only []
   rw [Kdl hL h3 _ (by simp), Option.bind_some, Kdm hL h3, Option.bind_some]
   exact Kji hL h3 _ _ _ _ _
 rw [hq, hs]
 simp only [cond_false]
 rw [gmay hL, Option.bind_some]
 rcases Kbj p (ByteArray.mk #[105, 102]) with ⟨q, hq, hq1, hs⟩ | ⟨hq, hs⟩
 ·
  rw [hq, hs]
  simp only [cond_true]
  rw [rnext hL hq1]
  obtain ⟨x, y, q2, e, h1, h2, h4⟩ := test_gr hL q v o
  rw [h1, Option.bind_some, h2, Option.bind_some]
  simp only []
  by_cases he : e = 0
  ·subst he
   obtain ⟨hxy, h5⟩ := h4 rfl
   subst hxy
   obtain ⟨x', y', q3, e', m1, m2, m3⟩ := ih q2 (by omega)
   rw [m1, Option.bind_some, m2, Option.bind_some]
   simp only []
   rw [gmay hL, Option.bind_some, rmay hL, Option.bind_some]
   by_cases he' : e' = 0
   ·subst he'
    obtain ⟨hxy, m4⟩ := m3 rfl
    subst hxy
    rcases Kbj q3 (ByteArray.mk #[101, 108, 115, 101]) with ⟨q4, hm, hm1, _⟩ | ⟨hm, _⟩
    ·rw [hm]
     simp only [cond_true]
     obtain ⟨x2, y2, q5, e2, j1, j2, j3⟩ := ih q4 (by omega)
     rw [j1, Option.bind_some, j2, Option.bind_some]
     refine ⟨_, _, q5, e2, rfl, rfl, fun h => ?_⟩
     obtain ⟨hxy, j4⟩ := j3 h
     subst hxy
     refine ⟨rfl, ?_⟩
     rw [KeE]
     show p.1 + (1 + szSs x' + szSs x2 + szEs x) ≤ q5.1
     omega
    ·rw [hm]
     simp only [cond_false]
     refine GR.ret (q := q3) rfl rfl ?_
     rw [KeE]
     show p.1 + (1 + szSs x' + szSs [] + szEs x) ≤ q3.1
     simp only [szSs]
     omega
   ·rw [Kej he']
    simp only [cond_false]
    exact GR.bad he' rfl rfl
  ·obtain ⟨⟨x', m1⟩, ⟨y', m2⟩⟩ := ihb q2 e he
   rw [m1, Option.bind_some, m2, Option.bind_some]
   simp only []
   rw [KfF hL he, Option.bind_some, KdW hL he, Option.bind_some]
   simp only [cond_false]
   exact GR.bad he rfl rfl
 rw [hq, hs]
 simp only [cond_false]
 rw [gmay hL, Option.bind_some]
 rcases Kbj p (ByteArray.mk #[119, 104, 105, 108, 101]) with ⟨q, hq, hq1, hs⟩ | ⟨hq, hs⟩
 ·
  rw [hq, hs]
  simp only [cond_true]
  rw [rnext hL hq1]
  obtain ⟨x, y, q2, e, h1, h2, h4⟩ := test_gr hL q v o
  rw [h1, Option.bind_some, h2, Option.bind_some]
  simp only []
  by_cases he : e = 0
  ·subst he
   obtain ⟨hxy, h5⟩ := h4 rfl
   subst hxy
   obtain ⟨x', y', q3, e', m1, m2, m3⟩ := ih q2 (by omega)
   rw [m1, Option.bind_some, m2, Option.bind_some]
   refine ⟨_, _, q3, e', rfl, rfl, fun h => ?_⟩
   obtain ⟨hxy, m4⟩ := m3 h
   subst hxy
   refine ⟨rfl, ?_⟩
   rw [KeE]
   show p.1 + (1 + szSs x' + szSs [] + szEs x) ≤ q3.1
   simp only [szSs]
   omega
  ·obtain ⟨⟨x', m1⟩, ⟨y', m2⟩⟩ := ihb q2 e he
   rw [m1, Option.bind_some, m2, Option.bind_some]
   exact GR.bad he rfl rfl
 rw [hq, hs]
 simp only [cond_false]
 rw [gmay hL, Option.bind_some]
 rcases Kbj p (ByteArray.mk #[114, 101, 116, 117, 114, 110]) with ⟨q, hq, hq1, hs⟩ | ⟨hq, hs⟩
 ·
  rw [hq, hs]
  simp only [cond_true]
  rw [rnext hL hq1]
  exact Ki3 hL p q v o _ _ _ _ _ (by omega)
 rw [hq, hs]
 simp only [cond_false]
 rw [gmay hL, Option.bind_some]
 rcases Kbj p (ByteArray.mk #[97, 115, 115, 101, 114, 116]) with ⟨q, hq, hq1, hs⟩ | ⟨hq, hs⟩
 ·
  rw [hq, hs]
  simp only [cond_true]
  rw [rnext hL hq1]
  obtain ⟨x, y, q2, e, h1, h2, h4⟩ := test_gr hL q v o
  rw [h1, Option.bind_some, h2, Option.bind_some]
  simp only []
  rw [geat hL, Option.bind_some, reat hL, Option.bind_some]
  by_cases he : e = 0
  ·obtain ⟨hxy, h5⟩ := h4 he
   subst hxy
   refine GR.ret (q := (eatP L q2 e (ByteArray.mk #[59])).1) rfl rfl ?_
   rw [szS0]
   have := KcR q2 e (ByteArray.mk #[59])
   omega
  ·rw [Kbz he]
   exact GR.bad he rfl rfl
 rw [hq, hs]
 simp only [cond_false]
 rw [gfail p p, Option.bind_some, rfail p p, Option.bind_some, KcZ]
 exact GR.bad h3 rfl rfl
end
end Go.Proofs.Ytmgklehakmdiiaa.Ab.Pq
namespace Go.Proofs.Ytmgklehakmdiiaa.Ab.Pq
open Go
set_option linter.all false
abbrev SB6 := List Kj × List Tok × Int × Int × Int × Int
abbrev SB4 := List Kj × List Tok × Int × Int
noncomputable def bkP (g0 : Ke → Option (Kj × Ke)) (s38 : SB6) : Option (Step SB6 SB6) := (Option.bind (α := Bool × List Kt × Int × Int × Int × Int) (bif (s38.2.2.2.1 == (0 : Int)) then ((KX (⟨s38.2.1, s38.2.2.1, s38.2.2.2.1, s38.2.2.2.2.1, s38.2.2.2.2.2⟩ : Ke) (ByteArray.mk #[125])).bind fun x62 => some ((!x62.1), x62.2.gL, x62.2.gAt, x62.2.gE, x62.2.gVars, x62.2.gOpen)) else some (false, s38.2.1, s38.2.2.1, s38.2.2.2.1, s38.2.2.2.2.1, s38.2.2.2.2.2)) fun y60 => (bif y60.1 then ((g0 (⟨y60.2.1, y60.2.2.1, y60.2.2.2.1, y60.2.2.2.2.1, y60.2.2.2.2.2⟩ : Ke)).bind fun x64 => ((app 120 s38.1 ([x64.1] : List Kj)).bind fun x65 => some (.next (x65, x64.2.gL, x64.2.gAt, x64.2.gE, x64.2.gVars, x64.2.gOpen)))) else some (.done (s38.1, y60.2.1, y60.2.2.1, y60.2.2.2.1, y60.2.2.2.2.1, y60.2.2.2.2.2))))
noncomputable def bkR (g1 : RR → Int → Option (Kj × RR)) (a1 : Int) (s31 : SB4) : Option (Step SB4 SB4) := (Option.bind (α := Bool × List Kt × Int × Int) (bif (s31.2.2.2 == (0 : Int)) then ((Kbr (⟨s31.2.1, s31.2.2.1, s31.2.2.2⟩ : Kd) (ByteArray.mk #[125])).bind fun x55 => some ((!x55.1), x55.2.gL, x55.2.gAt, x55.2.gE)) else some (false, s31.2.1, s31.2.2.1, s31.2.2.2)) fun y53 => (bif y53.1 then ((g1 (⟨y53.2.1, y53.2.2.1, y53.2.2.2⟩ : Kd) a1).bind fun x57 => ((app 120 s31.1 ([x57.1] : List Kj)).bind fun x58 => some (.next (x58, x57.2.gL, x57.2.gAt, x57.2.gE)))) else some (.done (s31.1, y53.2.1, y53.2.2.1, y53.2.2.2))))
section
variable {L : List Tok}
theorem Khn {g0} {acc : List Kj} {p : Pos L} {e v o : Int} (he : e ≠ 0) : loopM (bkP g0) (acc, L, ((p.1 : Nat) : Int), e, v, o) = some (acc, L, ((p.1 : Nat) : Int), e, v, o) := by
 refine KV ?_
 unfold bkP
 simp only []
 rw [show (e == 0) = false by simp [he], cond_false]; rfl
theorem Kho {g1} {a1 : Int} {acc : List Kj} {p : Pos L} {e : Int} (he : e ≠ 0) : loopM (bkR g1 a1) (acc, L, ((p.1 : Nat) : Int), e) = some (acc, L, ((p.1 : Nat) : Int), e) := by
 refine KV ?_
 unfold bkR
 simp only []
 rw [show (e == 0) = false by simp [he], cond_false]; rfl
variable (hL : L.length ≤ 100000)
include hL
theorem bk_loop (g0 : Ke → Option (Kj × Ke)) (k1 : RR → Int → Option (Kj × RR)) (v o : Int) (p0 : Nat)
    (ih : ∀ q : Pos L, p0 ≤ q.1 → GR L v o q szS (g0 (gm L q 0 v o)) (k1 (rm L q 0) o)) : ∀ (n : Nat) (p : Pos L) (acc : List Kj), L.length - p.1 ≤ n → p0 + szSs acc ≤ p.1 →
    ∃ l l2 q e, loopM (bkP g0) (acc, L, ((p.1 : Nat) : Int), 0, v, o) = some (l, L, (((q : Pos L).1 : Nat) : Int), e, v, o) ∧ loopM (bkR k1 o) (acc, L, ((p.1 : Nat) : Int), 0) = some (l2, L, ((q.1 : Nat) : Int), e) ∧ (e = 0 → l = l2 ∧ p0 + szSs l ≤ q.1) := by
  intro n
  induction n with
  | zero =>
    intro p acc hn ha
    have hp := p.2
    have hlen := Kfp acc
    rcases Kbj p (ByteArray.mk #[125]) with ⟨q, hq, hq1, hs⟩ | ⟨hq, hs⟩
    · have := (Kei hs).1; omega
    · obtain ⟨x, y, q, e, h1, h2, h3⟩ := ih p (by omega)
      have he : e ≠ 0 := by
        intro he
        obtain ⟨_, h4⟩ := h3 he
        have := q.2
        have h5 : 1 ≤ szS x := by rw [KeE]; omega
        omega
      refine ⟨acc ++ [x], acc ++ [y], q, e, ?_, ?_, fun h => absurd h he⟩
      · rw [KaG (s' := (acc ++ [x], L, ((q.1 : Nat) : Int), e, v, o)) ?_]
        · exact Khn he
        · unfold bkP
          simp only [beq_self_eq_true, cond_true]
          rw [gmay hL p, Option.bind_some, hq]
          simp only [Bool.not_false, Option.bind_some, cond_true]
          rw [h1, Option.bind_some, Kbm (by omega) (by simp; omega), Option.bind_some]
      · rw [KaG (s' := (acc ++ [y], L, ((q.1 : Nat) : Int), e)) ?_]
        · exact Kho he
        · unfold bkR
          simp only [beq_self_eq_true, cond_true]
          rw [rmay hL p, Option.bind_some, hq]
          simp only [Bool.not_false, Option.bind_some, cond_true]
          rw [h2, Option.bind_some, Kbm (by omega) (by simp; omega), Option.bind_some]
  | succ n ihn =>
    intro p acc hn ha
    have hp := p.2
    have hlen := Kfp acc
    rcases Kbj p (ByteArray.mk #[125]) with ⟨q, hq, hq1, hs⟩ | ⟨hq, hs⟩
    · refine ⟨acc, acc, q, 0, KV ?_, KV ?_, fun _ => ⟨rfl, by omega⟩⟩
      · unfold bkP
        simp only [beq_self_eq_true, cond_true]
        rw [gmay hL p, Option.bind_some, hq]; rfl
      · unfold bkR
        simp only [beq_self_eq_true, cond_true]
        rw [rmay hL p, Option.bind_some, hq]; rfl
    · obtain ⟨x, y, q, e, h1, h2, h3⟩ := ih p (by omega)
      have f1 : bkP g0 (acc, L, ((p.1 : Nat) : Int), 0, v, o) = some (.next (acc ++ [x], L, ((q.1 : Nat) : Int), e, v, o)) := by
        unfold bkP
        simp only [beq_self_eq_true, cond_true]
        rw [gmay hL p, Option.bind_some, hq]
        simp only [Bool.not_false, Option.bind_some, cond_true]
        rw [h1, Option.bind_some, Kbm (by omega) (by simp; omega), Option.bind_some]
      have f2 : bkR k1 o (acc, L, ((p.1 : Nat) : Int), 0) = some (.next (acc ++ [y], L, ((q.1 : Nat) : Int), e)) := by
        unfold bkR
        simp only [beq_self_eq_true, cond_true]
        rw [rmay hL p, Option.bind_some, hq]
        simp only [Bool.not_false, Option.bind_some, cond_true]
        rw [h2, Option.bind_some, Kbm (by omega) (by simp; omega), Option.bind_some]
      rw [KaG f1, KaG f2]
      by_cases he : e = 0
      · subst he
        obtain ⟨hxy, h4⟩ := h3 rfl
        subst hxy
        have h5 : 1 ≤ szS x := by rw [KeE]; omega
        exact ihn q (acc ++ [x]) (by omega) (by rw [Kfx]; simp only [szSs]; omega)
      · exact ⟨_, _, q, e, Khn he, Kho he, fun h => absurd h he⟩
def begP (L : List Tok) (p : Pos L) (e : Int) (o : Int) : Pos L × Int := if 24 ≤ o then failP L (eatP L p e (ByteArray.mk #[123])).1 (eatP L p e (ByteArray.mk #[123])).2 p 5 else eatP L p e (ByteArray.mk #[123])
theorem rbegin (p : Pos L) (e o : Int) : Kdf (rm L p e) o = some (rm L (begP L p e o).1 (begP L p e o).2) := by
 unfold Kdf begP
 rw [reat hL, Option.bind_some]
 by_cases h : 24 ≤ o
 ·rw [decide_eq_true h, cond_true, if_pos h, rfail _ p, Option.bind_some]
 ·rw [decide_eq_false h, cond_false, if_neg h]
omit hL in
theorem KhN {p : Pos L} {e o : Int} (he : e ≠ 0) : begP L p e o = (p, e) := by
 unfold begP
 rw [Kbz he]
 simp only []
 rw [KfE he]
 split <;> rfl
omit hL in
theorem begP_ok {p : Pos L} {o : Int} (h : (begP L p 0 o).2 = 0) : o < 24 ∧ p.1 + 1 ≤ (begP L p 0 o).1.1 := by
 unfold begP at h ⊢
 by_cases h24 : 24 ≤ o
 ·rw [if_pos h24] at h
  rcases Kdk p (ByteArray.mk #[123]) with ⟨q, hq, hq1, _⟩ | ⟨hq, _⟩
  ·rw [hq] at h; simp only [KcZ] at h; cases h
  ·rw [hq] at h; simp only [] at h; rw [KfE (by decide)] at h; cases h
 ·rw [if_neg h24] at h ⊢
  refine ⟨by omega, ?_⟩
  rcases Kdk p (ByteArray.mk #[123]) with ⟨q, hq, hq1, _⟩ | ⟨hq, _⟩
  ·rw [hq]; simp only []; omega
  ·rw [hq] at h; cases h
theorem gbegin (p : Pos L) (e v o : Int) : ((KJ (gm L p e v o) [ByteArray.mk #[123]]).bind fun x1 => (bif (decide ((24 : Int) ≤ x1.gOpen)) then ((Kab x1 ((p.1 : Nat) : Int) (5 : Int)).bind fun x6 => some (x6.gL, x6.gAt, x6.gE, x6.gVars, x6.gOpen)) else some (x1.gL, x1.gAt, x1.gE, x1.gVars, x1.gOpen))) = some (L, (((begP L p e o).1.1 : Nat) : Int), (begP L p e o).2, v, o) := by
 unfold begP
 rw [geat hL, Option.bind_some]
 by_cases h : 24 ≤ o
 ·simp only [decide_eq_true h, cond_true, if_pos h]
  rw [gfail _ p, Option.bind_some]
 ·simp only [decide_eq_false h, cond_false, if_neg h]
theorem KjZ (g0 : Ke → Option (Kj × Ke)) (g1 : Ke → Option (List Kj × Ke)) (p : Pos L) (e v o : Int) : Kas g0 g1 (gm L p e v o) = (loopM (bkP g0) ([], L, (((begP L p e o).1.1 : Nat) : Int), (begP L p e o).2, v, IntKind.i64.wrap (o + 1))).bind fun y37 => some (y37.1, (⟨y37.2.1, y37.2.2.1, y37.2.2.2.1, y37.2.2.2.2.1, (IntKind.i64.wrap (y37.2.2.2.2.2 - (1 : Int)))⟩ : Ke)) := by
 have h := gbegin hL p e v o
 unfold Kas
 rw [geat hL, Option.bind_some] at h ⊢
 simp only [] at h ⊢
 rw [h, Option.bind_some]
 rfl
end
end Go.Proofs.Ytmgklehakmdiiaa.Ab.Pq
namespace Go.Proofs.Ytmgklehakmdiiaa.Ab.Pq
open Go
set_option linter.all false
noncomputable abbrev stg := KO
noncomputable abbrev rsg := K4
theorem wopen {o : Nat} (h : o ≤ 1000) : IntKind.i64.wrap (IntKind.i64.wrap ((o : Int) + 1) - 1) = (o : Int) := by
 rw [KcQ (n := (o : Int) + 1) (by omega) (by omega), KcQ (by omega) (by omega)]; omega
section
variable {L : List Tok} (hL : L.length ≤ 100000)
include hL
theorem Kiz (n : Nat) (p : Pos L) (e : Int) (a : Int) : (rsg (n + 1)).1 (rm L p e) a = (loopM (bkR (rsg n).2.1 a) ([], L, ((p.1 : Nat) : Int), e)).bind fun y30 => some (y30.1, (⟨y30.2.1, y30.2.2.1, y30.2.2.2⟩ : RR)) := rfl
theorem Kj0 (n : Nat) (p : Pos L) (e o : Int) : (rsg (n + 1)).2.2 (rm L p e) o = (rsg n).1 (rm L (begP L p e o).1 (begP L p e o).2) (IntKind.i64.wrap (o + 1)) := by
 show KcM (rsg n).1 (rsg n).2.1 (rsg n).2.2 (rm L p e) o = _
 unfold KcM
 rw [rbegin hL, Option.bind_some, KbE]
theorem block_b {p : Pos L} {e v : Int} {o : Nat} (ho : o ≤ 24) (he : e ≠ 0) (n1 n2 : Nat) : (∃ x, (stg (n1 + 1)).2 (gm L p e v o) = some (x, gm L p e v o)) ∧ (∃ y, (rsg (n2 + 2)).2.2 (rm L p e) o = some (y, rm L p e)) := by
 constructor
 ·show ∃ x, Kas (stg n1).1 (stg n1).2 (gm L p e v o) = _
  rw [KjZ hL, KhN he]
  simp only []
  rw [Khn he, Option.bind_some]
  simp only []
  rw [wopen (by omega)]; exact ⟨_, rfl⟩
 ·rw [Kj0 hL, Kiz hL, KhN he]
  simp only []
  rw [Kho he, Option.bind_some]; exact ⟨_, rfl⟩
theorem stm (v : Int) : ∀ N n2 : Nat, n2 ≤ N → (∀ (p : Pos L) (o n1 : Nat), o ≤ 24 → 4 * (L.length - p.1) + 1 ≤ n2 → 4 * (L.length - p.1) + 1 ≤ n1 → GR L v o p szS ((stg n1).1 (gm L p 0 v o)) ((rsg n2).2.1 (rm L p 0) o)) ∧
    (∀ (p : Pos L) (o n1 : Nat), o ≤ 24 → 4 * (L.length - p.1) + 3 ≤ n2 → 4 * (L.length - p.1) + 3 ≤ n1 → GR L v o p szSs ((stg n1).2 (gm L p 0 v o)) ((rsg n2).2.2 (rm L p 0) o)) := by
  intro N
  induction N with
  | zero => intro n2 h; exact ⟨fun p o n1 _ h2 => by omega, fun p o n1 _ h2 => by omega⟩
  | succ N ih =>
    intro n2 hN
    refine ⟨fun p o n1 ho h1 h2 => ?_, fun p o n1 ho h1 h2 => ?_⟩
    · obtain ⟨m1, rfl⟩ : ∃ m, n1 = m + 1 := ⟨n1 - 1, by omega⟩
      obtain ⟨m2, rfl⟩ : ∃ m, n2 = m + 1 := ⟨n2 - 1, by omega⟩
      have hp := p.2
      by_cases hlt : p.1 < L.length
      · refine stmt_gr hL (stg m1).1 (stg m1).2 (rsg m2).1 (rsg m2).2.1 (rsg m2).2.2 p v o (fun q hq => (ih m2 (by omega)).2 q o m1 ho (by omega) (by omega)) (fun q e he => ?_)
        obtain ⟨m1, rfl⟩ : ∃ m, m1 = m + 1 := ⟨m1 - 1, by omega⟩
        obtain ⟨m2, rfl⟩ : ∃ m, m2 = m + 2 := ⟨m2 - 2, by omega⟩
        exact block_b hL ho he m1 m2
      · -- nothing stands there
        have hz : lk L p.1 = z0 := Ke9 (by omega)
        refine ⟨⟨0, ByteArray.empty, ByteArray.empty, [], [], [], 0⟩, ⟨0, ByteArray.empty, ByteArray.empty, [], [], [], 0⟩, p, 3, ?_, ?_, fun h => by cases h⟩
        · show KaA (stg m1).1 (stg m1).2 (gm L p 0 v o) = _
          have hs : ∀ s : ByteArray, mayP L p 0 s = (false, p) := by
            intro s
            rcases Kbj p s with ⟨q, _, _, h⟩ | ⟨h, _⟩
            · have := (Kei h).1; omega
            · exact h
          unfold KaA
          rw [Kfa hL, Option.bind_some, hz]
          simp only [show (z0.gKind == 1) = false from rfl, cond_false]
          rw [gmay hL, Option.bind_some, hs]
          simp only [cond_false]
          rw [gmay hL, Option.bind_some, hs]
          simp only [cond_false]
          rw [gmay hL, Option.bind_some, hs]
          simp only [cond_false]
          rw [gmay hL, Option.bind_some, hs]
          simp only [cond_false]
          rw [gmay hL, Option.bind_some, hs]
          simp only [cond_false]
          rw [gfail p p, Option.bind_some, KcZ]; rfl
        · show Kcs (rsg m2).1 (rsg m2).2.1 (rsg m2).2.2 (rm L p 0) o = _
          unfold Kcs
          rw [rlook hL, Option.bind_some, hz]
          simp only [show (z0.gKind == 1) = false from rfl, show (z0.gKind == 3) = false from rfl, cond_false, Option.bind_some]
          rw [decide_eq_false (by decide), decide_eq_false (by decide), decide_eq_false (by decide), decide_eq_false (by decide), decide_eq_false (by decide)]
          simp only [cond_false]
          rw [rfail p p, Option.bind_some, KcZ]; rfl
    · obtain ⟨m1, rfl⟩ : ∃ m, n1 = m + 1 := ⟨n1 - 1, by omega⟩
      obtain ⟨m2, rfl⟩ : ∃ m, n2 = m + 2 := ⟨n2 - 2, by omega⟩
      show GR L v o p szSs (Kas (stg m1).1 (stg m1).2 (gm L p 0 v o)) _
      rw [KjZ hL, Kj0 hL, Kiz hL]
      by_cases he : (begP L p 0 o).2 = 0
      · obtain ⟨ho2, hp1⟩ := begP_ok he
        rw [he]
        have hw : IntKind.i64.wrap ((o : Int) + 1) = ((o + 1 : Nat) : Int) := winc (by omega)
        obtain ⟨l, l2, q, e, k1, k2, k3⟩ := bk_loop hL (stg m1).1 (rsg m2).2.1 v ((o + 1 : Nat) : Int) (p.1 + 1) (fun q hq => (ih m2 (by omega)).1 q (o + 1) m1 (by omega) (by omega) (by omega)) L.length (begP L p 0 o).1 [] (by omega) (by simp only [szSs]; omega)
        rw [hw, k1, k2, Option.bind_some, Option.bind_some]
        simp only []
        rw [← hw, wopen (by omega)]
        exact ⟨l, l2, q, e, rfl, rfl, fun h => by obtain ⟨a, b⟩ := k3 h; exact ⟨a, by omega⟩⟩
      · rw [Khn he, Kho he, Option.bind_some, Option.bind_some]
        simp only []
        rw [wopen (by omega)]
        exact GR.bad he rfl rfl
end
end Go.Proofs.Ytmgklehakmdiiaa.Ab.Pq
namespace Go.Proofs.Ytmgklehakmdiiaa.Ab.Pq
open Go
set_option linter.all false
def varP (L : List Tok) (p : Pos L) (e : Int) (n : Nat) : KR × Pos L × Int :=
 let a := eatP L p e (ByteArray.mk #[105, 110, 116])
 let b := mayP L a.1 a.2 (ByteArray.mk #[42])
 let m := nameP L b.2 a.2
 let f := if 16 ≤ n then failP L m.2.1 m.2.2 b.2 6 else (m.2.1, m.2.2)
 (⟨m.1, b.1⟩, f.1, f.2)
section
variable {L : List Tok}
theorem varP_bad {p : Pos L} {e : Int} {n : Nat} (he : e ≠ 0) : varP L p e n = (⟨ByteArray.empty, false⟩, p, e) := by
 unfold varP
 simp only [Kbz he, Kej he, KgQ he, KfE he]
 split <;> rfl
theorem varP_ok {p : Pos L} {n : Nat} (h : (varP L p 0 n).2.2 = 0) : p.1 + 1 ≤ (varP L p 0 n).2.1.1 := by
 unfold varP at h ⊢
 simp only [] at h ⊢
 rcases Kdk p (ByteArray.mk #[105, 110, 116]) with ⟨q, hq, hq1, _⟩ | ⟨hq, _⟩
 ·rw [hq] at h ⊢
  simp only [] at h ⊢
  have hb : q.1 ≤ (mayP L q 0 (ByteArray.mk #[42])).2.1 := by
   rcases Kbj q (ByteArray.mk #[42]) with ⟨q', hm, hm1, _⟩ | ⟨hm, _⟩ <;> rw [hm] <;> simp only [] <;> omega
  generalize mayP L q 0 (ByteArray.mk #[42]) = b at h hb ⊢
  rcases Kfy b.2 with ⟨q', hm, hm1, _⟩ | hm
  ·rw [hm] at h ⊢
   simp only [KcZ] at h ⊢
   by_cases hn : 16 ≤ n
   ·rw [if_pos hn] at h; cases h
   ·rw [if_neg hn]; simp only []; omega
  ·rw [hm] at h
   simp only [] at h
   rw [KfE (by decide)] at h
   by_cases hn : 16 ≤ n
   ·rw [if_pos hn] at h; cases h
   ·rw [if_neg hn] at h; cases h
 ·rw [hq] at h
  simp only [Kej (show (3 : Int) ≠ 0 by decide), KgQ (show (3 : Int) ≠ 0 by decide), KfE (show (3 : Int) ≠ 0 by decide)] at h
  by_cases hn : 16 ≤ n
  ·rw [if_pos hn] at h; cases h
  ·rw [if_neg hn] at h; cases h
variable (hL : L.length ≤ 100000)
include hL
theorem gvar (p : Pos L) (e o : Int) {n : Nat} (hn : n ≤ 1000000) : KaF (gm L p e n o) = some ((varP L p e n).1, gm L (varP L p e n).2.1 (varP L p e n).2.2 ((n + 1 : Nat) : Int) o) := by
 unfold KaF varP
 simp only []
 rw [geat hL, Option.bind_some, gmay hL, Option.bind_some, gname hL, Option.bind_some]
 simp only []
 rw [winc (by omega)]
 by_cases h : 16 ≤ n
 ·rw [decide_eq_true (by omega), cond_true, if_pos h, gfail _ (mayP L (eatP L p e (ByteArray.mk #[105, 110, 116])).1 (eatP L p e (ByteArray.mk #[105, 110, 116])).2 (ByteArray.mk #[42])).2, Option.bind_some]
 ·rw [decide_eq_false (by omega), cond_false, if_neg h]
theorem rvar (p : Pos L) (e : Int) (n : Nat) : KbD (rm L p e) (n : Int) = some ((varP L p e n).1, rm L (varP L p e n).2.1 (varP L p e n).2.2) := by
 unfold KbD varP
 simp only []
 rw [reat hL, Option.bind_some, rmay hL, Option.bind_some, rname hL, Option.bind_some]
 simp only []
 by_cases h : 16 ≤ n
 ·rw [decide_eq_true (by omega), cond_true, if_pos h, rfail _ (mayP L (eatP L p e (ByteArray.mk #[105, 110, 116])).1 (eatP L p e (ByteArray.mk #[105, 110, 116])).2 (ByteArray.mk #[42])).2, Option.bind_some]
 ·rw [decide_eq_false (by omega), cond_false, if_neg h]
abbrev SV6 := List KR × List Tok × Int × Int × Int × Int
abbrev SV4 := List KR × List Tok × Int × Int
omit hL in
noncomputable def lvP (s28 : SV6) : Option (Step SV6 SV6) := (bif (s28.2.2.2.1 == (0 : Int)) then ((KaF (⟨s28.2.1, s28.2.2.1, s28.2.2.2.1, s28.2.2.2.2.1, s28.2.2.2.2.2⟩ : Ke)).bind fun x43 => ((app 24 s28.1 ([x43.1] : List KR)).bind fun x44 => ((KX x43.2 (ByteArray.mk #[44])).bind fun x45 => (bif (!x45.1) then some (.done (x44, x45.2.gL, x45.2.gAt, x45.2.gE, x45.2.gVars, x45.2.gOpen)) else some (.next (x44, x45.2.gL, x45.2.gAt, x45.2.gE, x45.2.gVars, x45.2.gOpen)))))) else some (.done (s28.1, s28.2.1, s28.2.2.1, s28.2.2.2.1, s28.2.2.2.2.1, s28.2.2.2.2.2)))
omit hL in
noncomputable def lvR (s26 : SV4) : Option (Step SV4 SV4) := ((Kbr (⟨s26.2.1, s26.2.2.1, s26.2.2.2⟩ : Kd) (ByteArray.mk #[44])).bind fun x37 => (bif x37.1 then ((KbD x37.2 (s26.1.length : Int)).bind fun x39 => ((app 24 s26.1 ([x39.1] : List KR)).bind fun x40 => some (.next (x40, x39.2.gL, x39.2.gAt, x39.2.gE)))) else some (.done (s26.1, x37.2.gL, x37.2.gAt, x37.2.gE))))
theorem lv_loop (o : Int) (p0 : Nat) : ∀ (n : Nat) (p : Pos L) (acc : List KR), L.length - p.1 ≤ n → p0 + acc.length ≤ p.1 →
    ∃ l q e v', loopM lvP (acc, L, ((p.1 : Nat) : Int), 0, (acc.length : Int), o) = some (l, L, (((q : Pos L).1 : Nat) : Int), e, v', o) ∧ loopM lvR (acc ++ [(varP L p 0 acc.length).1], L, (((varP L p 0 acc.length).2.1.1 : Nat) : Int), (varP L p 0 acc.length).2.2) = some (l, L, ((q.1 : Nat) : Int), e) ∧ (e = 0 → v' = (l.length : Int) ∧ p0 + l.length ≤ q.1) := by
  intro n
  induction n with
  | zero =>
    intro p acc hn ha
    have hp := p.2
    have he : (varP L p 0 acc.length).2.2 ≠ 0 := by
      intro he
      have := varP_ok he
      have := (varP L p 0 acc.length).2.1.2
      omega
    refine ⟨_, (varP L p 0 acc.length).2.1, _, _, KV (t := (acc ++ [(varP L p 0 acc.length).1], L, (((varP L p 0 acc.length).2.1.1 : Nat) : Int), (varP L p 0 acc.length).2.2, ((acc.length + 1 : Nat) : Int), o)) ?_, KV ?_, fun h => absurd h he⟩
    · unfold lvP
      simp only [beq_self_eq_true, cond_true]
      rw [gvar hL p 0 o (by omega), Option.bind_some, Kbm (by omega) (by simp; omega), Option.bind_some]
      simp only []
      rw [KfF hL he, Option.bind_some]; rfl
    · unfold lvR
      simp only []
      rw [KdW hL he, Option.bind_some]; rfl
  | succ n ih =>
    intro p acc hn ha
    have hp := p.2
    have hf : ∀ b q', mayP L (varP L p 0 acc.length).2.1 (varP L p 0 acc.length).2.2 (ByteArray.mk #[44]) = (b, q') → lvP (acc, L, ((p.1 : Nat) : Int), 0, (acc.length : Int), o) = (bif !b then some (.done (acc ++ [(varP L p 0 acc.length).1], L, ((q'.1 : Nat) : Int), (varP L p 0 acc.length).2.2, ((acc.length + 1 : Nat) : Int), o)) else some (.next (acc ++ [(varP L p 0 acc.length).1], L, ((q'.1 : Nat) : Int), (varP L p 0 acc.length).2.2, ((acc.length + 1 : Nat) : Int), o))) := by
      intro b q' hb
      unfold lvP
      simp only [beq_self_eq_true, cond_true]
      rw [gvar hL p 0 o (by omega), Option.bind_some, Kbm (by omega) (by simp; omega), Option.bind_some]
      simp only []
      rw [gmay hL, Option.bind_some, hb]
    by_cases he : (varP L p 0 acc.length).2.2 = 0
    · have hq1 := varP_ok he
      rcases Kbj (varP L p 0 acc.length).2.1 (ByteArray.mk #[44]) with ⟨q', hq, hq2, _⟩ | ⟨hq, _⟩
      · rw [he] at hf ⊢
        have hf' := hf _ _ hq
        simp only [Bool.not_true, cond_false] at hf'
        obtain ⟨l, q2, e2, v', k1, k2, k3⟩ := ih q' (acc ++ [(varP L p 0 acc.length).1]) (by omega) (by rw [List.length_append, List.length_singleton]; omega)
        rw [List.length_append, List.length_singleton] at k1 k2
        refine ⟨l, q2, e2, v', by rw [KaG hf']; exact k1, ?_, k3⟩
        rw [← k2]
        refine KaG ?_
        unfold lvR
        simp only []
        rw [rmay hL (varP L p 0 acc.length).2.1, Option.bind_some, hq]
        simp only [cond_true]
        rw [List.length_append, List.length_singleton, rvar hL q' 0, Option.bind_some, Kbm (by omega) (by simp; omega), Option.bind_some]
      · rw [he] at hf ⊢
        have hf' := hf _ _ hq
        simp only [Bool.not_false, cond_true] at hf'
        refine ⟨_, (varP L p 0 acc.length).2.1, 0, _, KV hf', KV ?_, fun _ => ⟨by rw [List.length_append, List.length_singleton], by rw [List.length_append, List.length_singleton]; omega⟩⟩
        unfold lvR
        simp only []
        rw [rmay hL (varP L p 0 acc.length).2.1, Option.bind_some, hq]; rfl
    · have hf' := hf _ _ (Kej he _)
      simp only [Bool.not_false, cond_true] at hf'
      refine ⟨_, (varP L p 0 acc.length).2.1, (varP L p 0 acc.length).2.2, _, KV hf', KV ?_, fun h => absurd h he⟩
      unfold lvR
      simp only []
      rw [KdW hL he, Option.bind_some]; rfl
end
end Go.Proofs.Ytmgklehakmdiiaa.Ab.Pq
namespace Go.Proofs.Ytmgklehakmdiiaa.Ab.Pq
open Go
set_option linter.all false
section
variable {L : List Tok} (hL : L.length ≤ 100000)
include hL
theorem params_b {p : Pos L} {e v o : Int} (he : e ≠ 0) : Kaz (gm L p e v o) = some ([], gm L p e v o) ∧ Kci (rm L p e) = some ([⟨ByteArray.empty, false⟩], rm L p e) := by
 constructor
 ·unfold Kaz
  rw [Kdl hL he _ (by simp), Option.bind_some, KfF hL he, Option.bind_some]
  simp only [cond_false]
  change (Option.bind (loopM lvP ([], L, ((p.1 : Nat) : Int), e, v, o)) _) = _
  rw [KV (t := ([], L, ((p.1 : Nat) : Int), e, v, o)) (by unfold lvP; simp only []; rw [show (e == 0) = false by simp [he], cond_false]), Option.bind_some]
  simp only []
  rw [Kdl hL he _ (by simp), Option.bind_some]
 ·unfold Kci
  rw [Kdm hL he, Option.bind_some, KdW hL he, Option.bind_some]
  simp only [cond_false]
  rw [show KbD (rm L p e) 0 = _ from rvar hL p e 0, Option.bind_some, Kbm (by omega) (by simp), Option.bind_some, varP_bad he]
  change (Option.bind (loopM lvR ([] ++ [⟨ByteArray.empty, false⟩], L, ((p.1 : Nat) : Int), e)) _) = _
  rw [KV (t := ([⟨ByteArray.empty, false⟩], L, ((p.1 : Nat) : Int), e)) (by unfold lvR; simp only []; rw [KdW hL he, Option.bind_some]; rfl), Option.bind_some]
  simp only []
  rw [Kdm hL he, Option.bind_some]
theorem params_ok (p : Pos L) (o : Int) : ∃ l l2 q e v', Kaz (gm L p 0 0 o) = some (l, gm L q e v' o) ∧ Kci (rm L p 0) = some (l2, rm L q e) ∧ (e = 0 → l = l2 ∧ v' = (l.length : Int) ∧ p.1 + l.length ≤ q.1) := by
 have h3 : (3 : Int) ≠ 0 := by decide
 rcases Kdk p (ByteArray.mk #[40]) with ⟨q, hq, hq1, _⟩ | ⟨hq, _⟩
 ·unfold Kaz Kci
  rw [geat hL, Option.bind_some, reat hL, Option.bind_some, hq]
  simp only []
  rw [gmay hL, Option.bind_some, rmay hL, Option.bind_some]
  rcases Kbj q (ByteArray.mk #[41]) with ⟨q', hm, hm1, _⟩ | ⟨hm, _⟩
  ·rw [hm]
   exact ⟨[], [], q', 0, 0, rfl, rfl, fun _ => ⟨rfl, rfl, by simp only [List.length_nil]; omega⟩⟩
  ·rw [hm]
   simp only [cond_false]
   obtain ⟨l, q2, e, v', k1, k2, k3⟩ := lv_loop hL o p.1 L.length q [] (by omega) (by simp only [List.length_nil]; omega)
   rw [show KbD (rm L q 0) 0 = _ from rvar hL q 0 0, Option.bind_some, Kbm (by omega) (by simp), Option.bind_some]
   have k1' : loopM lvP ([], L, ((q.1 : Nat) : Int), 0, 0, o) = some (l, L, ((q2.1 : Nat) : Int), e, v', o) := k1
   have k2' : loopM lvR ([] ++ [(varP L q 0 0).1], L, (((varP L q 0 0).2.1.1 : Nat) : Int), (varP L q 0 0).2.2) = some (l, L, ((q2.1 : Nat) : Int), e) := k2
   refine ⟨l, l, (eatP L q2 e (ByteArray.mk #[41])).1, (eatP L q2 e (ByteArray.mk #[41])).2, v', ?_, ?_, fun h => ?_⟩
   ·change (Option.bind (loopM lvP ([], L, ((q.1 : Nat) : Int), 0, 0, o)) _) = _
    rw [k1', Option.bind_some]
    simp only []
    rw [geat hL q2, Option.bind_some]
   ·change (Option.bind (loopM lvR ([] ++ [(varP L q 0 0).1], L, (((varP L q 0 0).2.1.1 : Nat) : Int), (varP L q 0 0).2.2)) _) = _
    rw [k2', Option.bind_some]
    simp only []
    rw [reat hL q2, Option.bind_some]
   ·by_cases he : e = 0
    ·obtain ⟨a, b⟩ := k3 he
     have := KcR q2 e (ByteArray.mk #[41])
     exact ⟨rfl, a, by omega⟩
    ·rw [Kbz he] at h; exact absurd h he
 ·unfold Kaz Kci
  rw [geat hL, Option.bind_some, reat hL, Option.bind_some, hq]
  obtain ⟨b1, b2⟩ := params_b hL (p := p) (v := 0) (o := o) h3
  unfold Kaz at b1
  unfold Kci at b2
  rw [Kdl hL h3 _ (by simp), Option.bind_some] at b1
  rw [Kdm hL h3, Option.bind_some] at b2
  exact ⟨_, _, p, 3, 0, b1, b2, fun h => by cases h⟩
abbrev SW6 := List Tok × Int × Int × Int × Int × List KR
abbrev SW4 := List Tok × Int × Int × List KR
omit hL in
noncomputable def lcP (s33 : SW6) : Option (Step SW6 SW6) := (Option.bind (α := Bool) (bif (s33.2.2.1 == (0 : Int)) then ((KaB (⟨s33.1, s33.2.1, s33.2.2.1, s33.2.2.2.1, s33.2.2.2.2.1⟩ : Ke) (0 : Int) (ByteArray.mk #[105, 110, 116])).bind fun x58 => some x58) else some false) fun y56 => (bif y56 then ((KaF (⟨s33.1, s33.2.1, s33.2.2.1, s33.2.2.2.1, s33.2.2.2.2.1⟩ : Ke)).bind fun x60 => ((app 24 s33.2.2.2.2.2 ([x60.1] : List KR)).bind fun x61 => ((KJ x60.2 ([(ByteArray.mk #[59])] : List ByteArray)).bind fun x62 => some (.next (x62.gL, x62.gAt, x62.gE, x62.gVars, x62.gOpen, x61))))) else some (.done (s33.1, s33.2.1, s33.2.2.1, s33.2.2.2.1, s33.2.2.2.2.1, s33.2.2.2.2.2))))
omit hL in
noncomputable def lcR (c : Nat) (s52 : SW4) : Option (Step SW4 SW4) := (Option.bind (α := Bool) (bif (s52.2.2.1 == (0 : Int)) then ((Kec (⟨s52.1, s52.2.1, s52.2.2.1⟩ : Kd) (ByteArray.mk #[105, 110, 116])).bind fun x78 => some x78) else some false) fun y76 => (bif y76 then ((KbD (⟨s52.1, s52.2.1, s52.2.2.1⟩ : Kd) (IntKind.i64.wrap ((c : Int) + (s52.2.2.2.length : Int)))).bind fun x80 => ((app 24 s52.2.2.2 ([x80.1] : List KR)).bind fun x81 => ((Kae x80.2 (ByteArray.mk #[59])).bind fun x82 => some (.next (x82.gL, x82.gAt, x82.gE, x81))))) else some (.done (s52.1, s52.2.1, s52.2.2.1, s52.2.2.2))))
omit hL in
theorem lcP_bad {p : Pos L} {e v o : Int} {acc : List KR} (he : e ≠ 0) : loopM lcP (L, ((p.1 : Nat) : Int), e, v, o, acc) = some (L, ((p.1 : Nat) : Int), e, v, o, acc) := by
 refine KV ?_
 unfold lcP
 simp only []
 rw [show (e == 0) = false by simp [he], cond_false]; rfl
omit hL in
theorem lcR_bad {p : Pos L} {e : Int} {c : Nat} {acc : List KR} (he : e ≠ 0) : loopM (lcR c) (L, ((p.1 : Nat) : Int), e, acc) = some (L, ((p.1 : Nat) : Int), e, acc) := by
 refine KV ?_
 unfold lcR
 simp only []
 rw [show (e == 0) = false by simp [he], cond_false]; rfl
theorem lc_loop (o : Int) (c p0 : Nat) : ∀ (n : Nat) (p : Pos L) (acc : List KR), L.length - p.1 ≤ n → p0 + acc.length ≤ p.1 → c ≤ p0 →
    ∃ l q e v', loopM lcP (L, ((p.1 : Nat) : Int), 0, ((c + acc.length : Nat) : Int), o, acc) = some (L, (((q : Pos L).1 : Nat) : Int), e, v', o, l) ∧ loopM (lcR c) (L, ((p.1 : Nat) : Int), 0, acc) = some (L, ((q.1 : Nat) : Int), e, l) ∧ (e = 0 → p0 + l.length ≤ q.1) := by
  intro n
  induction n with
  | zero =>
    intro p acc hn ha hc
    have hp := p.2
    have hs : isS L p.1 (ByteArray.mk #[105, 110, 116]) = false := by
      cases h : isS L p.1 (ByteArray.mk #[105, 110, 116])
      · rfl
      · have := (Kei h).1; omega
    refine ⟨acc, p, 0, ((c + acc.length : Nat) : Int), KV ?_, KV ?_, fun _ => ha⟩
    · unfold lcP
      simp only [beq_self_eq_true, cond_true]
      rw [gis0 hL p, Option.bind_some, Option.bind_some, hs, cond_false]
    · unfold lcR
      simp only [beq_self_eq_true, cond_true]
      rw [ris hL p, Option.bind_some, Option.bind_some, hs, cond_false]
  | succ n ih =>
    intro p acc hn ha hc
    have hp := p.2
    cases hs : isS L p.1 (ByteArray.mk #[105, 110, 116])
    · refine ⟨acc, p, 0, ((c + acc.length : Nat) : Int), KV ?_, KV ?_, fun _ => ha⟩
      · unfold lcP
        simp only [beq_self_eq_true, cond_true]
        rw [gis0 hL p, Option.bind_some, Option.bind_some, hs, cond_false]
      · unfold lcR
        simp only [beq_self_eq_true, cond_true]
        rw [ris hL p, Option.bind_some, Option.bind_some, hs, cond_false]
    · have hle : (eatP L (varP L p 0 (c + acc.length)).2.1 (varP L p 0 (c + acc.length)).2.2 (ByteArray.mk #[59])).2 = 0 → p.1 + 1 ≤ (eatP L (varP L p 0 (c + acc.length)).2.1 (varP L p 0 (c + acc.length)).2.2 (ByteArray.mk #[59])).1.1 := by
        intro h
        by_cases he : (varP L p 0 (c + acc.length)).2.2 = 0
        · have := varP_ok he
          have := KcR (varP L p 0 (c + acc.length)).2.1 (varP L p 0 (c + acc.length)).2.2 (ByteArray.mk #[59])
          omega
        · rw [Kbz he] at h; exact absurd h he
      have f1 : lcP (L, ((p.1 : Nat) : Int), 0, ((c + acc.length : Nat) : Int), o, acc) = some (.next (L, (((eatP L (varP L p 0 (c + acc.length)).2.1 (varP L p 0 (c + acc.length)).2.2 (ByteArray.mk #[59])).1.1 : Nat) : Int), (eatP L (varP L p 0 (c + acc.length)).2.1 (varP L p 0 (c + acc.length)).2.2 (ByteArray.mk #[59])).2, ((c + acc.length + 1 : Nat) : Int), o, acc ++ [(varP L p 0 (c + acc.length)).1])) := by
        unfold lcP
        simp only [beq_self_eq_true, cond_true]
        rw [gis0 hL p, Option.bind_some, Option.bind_some, hs, cond_true, gvar hL p 0 o (by omega), Option.bind_some, Kbm (by omega) (by simp; omega), Option.bind_some]
        simp only []
        rw [geat hL, Option.bind_some]
      have f2 : lcR c (L, ((p.1 : Nat) : Int), 0, acc) = some (.next (L, (((eatP L (varP L p 0 (c + acc.length)).2.1 (varP L p 0 (c + acc.length)).2.2 (ByteArray.mk #[59])).1.1 : Nat) : Int), (eatP L (varP L p 0 (c + acc.length)).2.1 (varP L p 0 (c + acc.length)).2.2 (ByteArray.mk #[59])).2, acc ++ [(varP L p 0 (c + acc.length)).1])) := by
        unfold lcR
        simp only [beq_self_eq_true, cond_true]
        rw [ris hL p, Option.bind_some, Option.bind_some, hs, cond_true, KcQ (by omega) (by omega), show (c : Int) + (acc.length : Int) = ((c + acc.length : Nat) : Int) by omega, rvar hL p 0, Option.bind_some, Kbm (by omega) (by simp; omega), Option.bind_some]
        simp only []
        rw [reat hL, Option.bind_some]
      rw [KaG f1, KaG f2]
      by_cases he : (eatP L (varP L p 0 (c + acc.length)).2.1 (varP L p 0 (c + acc.length)).2.2 (ByteArray.mk #[59])).2 = 0
      · have h1 := hle he
        rw [he]
        have := ih (eatP L (varP L p 0 (c + acc.length)).2.1 (varP L p 0 (c + acc.length)).2.2 (ByteArray.mk #[59])).1 (acc ++ [(varP L p 0 (c + acc.length)).1]) (by omega) (by rw [List.length_append, List.length_singleton]; omega) hc
        rw [List.length_append, List.length_singleton, ← Nat.add_assoc] at this
        exact this
      · exact ⟨_, _, _, _, lcP_bad he, lcR_bad he, fun h => absurd h he⟩
end
end Go.Proofs.Ytmgklehakmdiiaa.Ab.Pq
namespace Go.Proofs.Ytmgklehakmdiiaa.Ab.Pq
open Go
set_option linter.all false
def zG : Ka4 := ⟨ByteArray.empty, false, 0, 0⟩
theorem Kj1 {L : List Tok} {p : Pos L} {e : Int} {s : ByteArray} (h : (mayP L p e s).1 = true) : e = 0 := by
 unfold mayP at h
 by_cases q : e = 0
 ·exact q
 ·rw [if_neg q] at h; cases h
noncomputable def sizeP (L : List Tok) (p : Pos L) : Pos L × Int × Int :=
 if h : (lk L p.1).gKind = 2 then if (lk L p.1).gN < 1 ∨ 1000 < (lk L p.1).gN then (p, 4, 0) else (⟨p.1 + 1, lk_lt (by rw [h]; decide)⟩, 0, (lk L p.1).gN) else (p, 3, 0)
noncomputable def globP (L : List Tok) (p : Pos L) : Ka4 × Pos L × Int :=
 let a := eatP L p 0 (ByteArray.mk #[105, 110, 116])
 let b := mayP L a.1 a.2 (ByteArray.mk #[42])
 let n := nameP L b.2 a.2
 let m := if b.1 = true then (false, n.2.1) else mayP L n.2.1 n.2.2 (ByteArray.mk #[91])
 let s := if m.1 = true then ((eatP L (sizeP L m.2).1 (sizeP L m.2).2.1 (ByteArray.mk #[93])).1, (eatP L (sizeP L m.2).1 (sizeP L m.2).2.1 (ByteArray.mk #[93])).2, (sizeP L m.2).2.2) else (m.2, n.2.2, 0)
 let f := eatP L s.1 s.2.1 (ByteArray.mk #[59])
 (⟨n.1, b.1, s.2.2, (lk L p.1).gAt⟩, f.1, f.2)
section
variable {L : List Tok} (hL : L.length ≤ 100000)
include hL
theorem gglob (p : Pos L) (v o : Int) : KbY (gm L p 0 v o) = some ((globP L p).1, gm L (globP L p).2.1 (globP L p).2.2 v o) := by
 unfold KbY globP
 simp only []
 rw [Kfa hL, Option.bind_some, geat hL, Option.bind_some, gmay hL, Option.bind_some, gname hL, Option.bind_some]
 generalize eatP L p 0 (ByteArray.mk #[105, 110, 116]) = a
 generalize mayP L a.1 a.2 (ByteArray.mk #[42]) = b
 generalize nameP L b.2 a.2 = n
 have hm : (bif (!b.1) then ((KX (gm L n.2.1 n.2.2 v o) (ByteArray.mk #[91])).bind fun x11 => some (x11.1, x11.2.gL, x11.2.gAt, x11.2.gE, x11.2.gVars, x11.2.gOpen)) else some (false, L, ((n.2.1.1 : Nat) : Int), n.2.2, v, o)) = some ((if b.1 = true then (false, n.2.1) else mayP L n.2.1 n.2.2 (ByteArray.mk #[91])).1, L, (((if b.1 = true then (false, n.2.1) else mayP L n.2.1 n.2.2 (ByteArray.mk #[91])).2.1 : Nat) : Int), n.2.2, v, o) := by
  rw [gmay hL, Option.bind_some]
  cases b.1 <;> rfl
 have he : (if b.1 = true then (false, n.2.1) else mayP L n.2.1 n.2.2 (ByteArray.mk #[91])).1 = true → n.2.2 = 0 := by
  intro h
  cases hb : b.1
  ·rw [hb] at h; exact Kj1 h
  ·rw [hb] at h; cases h
 simp only [] at hm ⊢
 rw [hm, Option.bind_some]
 generalize (if b.1 = true then (false, n.2.1) else mayP L n.2.1 n.2.2 (ByteArray.mk #[91])) = m at he ⊢
 cases hm1 : m.1
 ·simp only [cond_false, Option.bind_some, Bool.false_eq_true, if_false]
  rw [geat hL m.2, Option.bind_some]
 ·rw [he hm1]
  simp only [cond_true, if_true]
  rw [Kfa hL m.2, Option.bind_some]
  unfold sizeP
  by_cases k2 : (lk L m.2.1).gKind = 2
  ·rw [dif_pos k2]
   simp only [bne, show ((lk L m.2.1).gKind == 2) = true by simp [k2], Bool.not_true, cond_false]
   by_cases k3 : (lk L m.2.1).gN < 1 ∨ 1000 < (lk L m.2.1).gN
   ·have hb : (bif decide ((lk L m.2.1).gN < 1) then some true else some (decide (1000 < (lk L m.2.1).gN))) = some true := by
     rcases k3 with k | k
     ·rw [decide_eq_true k]; rfl
     ·rw [decide_eq_true k]; cases decide ((lk L m.2.1).gN < 1) <;> rfl
    rw [if_pos k3, hb, Option.bind_some, cond_true, gfail m.2 m.2, KcZ, Option.bind_some, Option.bind_some, Option.bind_some, Option.bind_some]
    simp only []
    rw [geat hL m.2, Option.bind_some, Option.bind_some]
    simp only []
    rw [geat hL, Option.bind_some]
   ·have hb : (bif decide ((lk L m.2.1).gN < 1) then some true else some (decide (1000 < (lk L m.2.1).gN))) = some false := by
     rw [decide_eq_false (fun h => k3 (.inl h)), decide_eq_false (fun h => k3 (.inr h))]; rfl
    have hp := m.2.2
    rw [if_neg k3, hb, Option.bind_some, cond_false, Option.bind_some, Option.bind_some, Option.bind_some]
    simp only []
    rw [winc (by omega)]
    rw [geat hL ⟨m.2.1 + 1, lk_lt (by rw [k2]; decide)⟩, Option.bind_some, Option.bind_some]
    simp only []
    rw [geat hL, Option.bind_some]
  ·rw [dif_neg k2]
   simp only [bne, show ((lk L m.2.1).gKind == 2) = false by simp [k2], Bool.not_false, cond_true]
   rw [gfail m.2 m.2, KcZ, Option.bind_some, Option.bind_some, Option.bind_some]
   simp only []
   rw [geat hL m.2, Option.bind_some, Option.bind_some]
   simp only []
   rw [geat hL, Option.bind_some]
def outG (x : Ka4 × Nat × Int) : Ka4 × Int × Int := bif x.2.2 != 0 then (zG, ((x.2.1 : Nat) : Int), x.2.2) else (x.1, ((x.2.1 : Nat) : Int), 0)
theorem gGlobal (p : Pos L) : KbZ L ((p.1 : Nat) : Int) = some (outG ((globP L p).1, (globP L p).2.1.1, (globP L p).2.2)) := by
 have hp := p.2
 unfold KbZ Kbk
 rw [decide_eq_true (by omega), cond_true, Option.bind_some, decide_eq_true (by omega)]
 simp only [Bool.not_true, cond_false]
 rw [gglob hL p, Option.bind_some]
 unfold outG
 cases ((globP L p).2.2 != 0) <;> rfl
theorem rGlobal (p : Pos L) : Kdj L ((p.1 : Nat) : Int) = some (outG ((globP L p).1, (globP L p).2.1.1, (globP L p).2.2)) := by
 have hp := p.2
 unfold Kdj globP
 rw [decide_eq_false (by omega), cond_false, decide_eq_false (by omega), Option.bind_some, cond_false]
 rw [rlook hL p, Option.bind_some, reat hL p, Option.bind_some, rmay hL, Option.bind_some, rname hL, Option.bind_some]
 try simp only []
 generalize eatP L p 0 (ByteArray.mk #[105, 110, 116]) = a
 generalize mayP L a.1 a.2 (ByteArray.mk #[42]) = b
 generalize nameP L b.2 a.2 = n
 have hm : (bif (!b.1) then ((Kbr (rm L n.2.1 n.2.2) (ByteArray.mk #[91])).bind fun x11 => some (x11.1, x11.2.gL, x11.2.gAt, x11.2.gE)) else some (false, L, ((n.2.1.1 : Nat) : Int), n.2.2)) = some ((if b.1 = true then (false, n.2.1) else mayP L n.2.1 n.2.2 (ByteArray.mk #[91])).1, L, (((if b.1 = true then (false, n.2.1) else mayP L n.2.1 n.2.2 (ByteArray.mk #[91])).2.1 : Nat) : Int), n.2.2) := by
  rw [rmay hL, Option.bind_some]
  cases b.1 <;> rfl
 have he : (if b.1 = true then (false, n.2.1) else mayP L n.2.1 n.2.2 (ByteArray.mk #[91])).1 = true → n.2.2 = 0 := by
  intro h
  cases hb : b.1
  ·rw [hb] at h; exact Kj1 h
  ·rw [hb] at h; cases h
 try simp only [] at hm ⊢
 rw [hm, Option.bind_some]
 generalize (if b.1 = true then (false, n.2.1) else mayP L n.2.1 n.2.2 (ByteArray.mk #[91])) = m at he ⊢
 unfold outG
 cases hm1 : m.1
 ·simp only [cond_false, Option.bind_some, Bool.false_eq_true, if_false]
  rw [reat hL m.2, Option.bind_some]
  cases ((eatP L m.2 n.2.2 (ByteArray.mk #[59])).2 != 0) <;> rfl
 ·rw [he hm1]
  simp only [cond_true, if_true]
  rw [rlook hL m.2, Option.bind_some]
  unfold sizeP
  by_cases k2 : (lk L m.2.1).gKind = 2
  ·rw [dif_pos k2]
   simp only [bne, show ((lk L m.2.1).gKind == 2) = true by simp [k2], Bool.not_true, cond_false]
   by_cases k3 : (lk L m.2.1).gN < 1 ∨ 1000 < (lk L m.2.1).gN
   ·have hb : (bif decide ((lk L m.2.1).gN < 1) then some true else some (decide (1000 < (lk L m.2.1).gN))) = some true := by
     rcases k3 with k | k
     ·rw [decide_eq_true k]; rfl
     ·rw [decide_eq_true k]; cases decide ((lk L m.2.1).gN < 1) <;> rfl
    rw [if_pos k3, hb, Option.bind_some, cond_true, rfail m.2 m.2, KcZ, Option.bind_some, Option.bind_some, Option.bind_some]
    simp only []
    rw [show ((4 : Int) == 0) = false from rfl, cond_false, Option.bind_some]
    simp only []
    rw [reat hL m.2, Option.bind_some, Option.bind_some]
    simp only []
    rw [reat hL, Option.bind_some]
    rw [Kbz (p := m.2) (e := 4) (by decide)]
    simp only []
    rw [Kbz (p := m.2) (e := 4) (by decide)]; rfl
   ·have hb : (bif decide ((lk L m.2.1).gN < 1) then some true else some (decide (1000 < (lk L m.2.1).gN))) = some false := by
     rw [decide_eq_false (fun h => k3 (.inl h)), decide_eq_false (fun h => k3 (.inr h))]; rfl
    have hp := m.2.2
    rw [if_neg k3, hb, Option.bind_some, cond_false, Option.bind_some, Option.bind_some]
    simp only []
    rw [show ((0 : Int) == 0) = true from rfl, cond_true, Option.bind_some]
    simp only []
    rw [winc (by omega)]
    rw [reat hL ⟨m.2.1 + 1, lk_lt (by rw [k2]; decide)⟩, Option.bind_some, Option.bind_some]
    simp only []
    rw [reat hL, Option.bind_some]
    generalize eatP L (eatP L ⟨m.2.1 + 1, lk_lt (by rw [k2]; decide)⟩ 0 (ByteArray.mk #[93])).1 (eatP L ⟨m.2.1 + 1, lk_lt (by rw [k2]; decide)⟩ 0 (ByteArray.mk #[93])).2 (ByteArray.mk #[59]) = f
    cases (f.2 == 0) <;> rfl
  ·rw [dif_neg k2]
   simp only [bne, show ((lk L m.2.1).gKind == 2) = false by simp [k2], Bool.not_false, cond_true]
   rw [rfail m.2 m.2, KcZ, Option.bind_some, Option.bind_some]
   simp only []
   rw [show ((3 : Int) == 0) = false from rfl, cond_false, Option.bind_some]
   simp only []
   rw [reat hL m.2, Option.bind_some, Option.bind_some]
   simp only []
   rw [reat hL, Option.bind_some]
   rw [Kbz (p := m.2) (e := 3) (by decide)]
   simp only []
   rw [Kbz (p := m.2) (e := 3) (by decide)]; rfl
theorem global_both (a : Int) : ∃ r, KbZ L a = some r ∧ Kdj L a = some r ∧ (0 ≤ a → a ≤ (L.length : Int) → ∃ q : Pos L, r.2.1 = ((q.1 : Nat) : Int)) := by
 by_cases h0 : 0 ≤ a
 ·by_cases h1 : a ≤ (L.length : Int)
  ·obtain ⟨n, rfl⟩ := Int.eq_ofNat_of_zero_le h0
   refine ⟨_, gGlobal hL ⟨n, by omega⟩, rGlobal hL ⟨n, by omega⟩, fun _ _ => ⟨(globP L ⟨n, by omega⟩).2.1, ?_⟩⟩
   unfold outG
   cases ((globP L ⟨n, by omega⟩).2.2 != 0) <;> rfl
  ·refine ⟨(zG, 0, 2), ?_, ?_, fun _ h => absurd h h1⟩
   ·unfold KbZ Kbk
    rw [decide_eq_true h0, cond_true, Option.bind_some, decide_eq_false h1]; rfl
   ·unfold Kdj
    rw [decide_eq_false (by omega), cond_false, decide_eq_true (by omega)]; rfl
 ·refine ⟨(zG, 0, 2), ?_, ?_, fun h => absurd h h0⟩
  ·unfold KbZ Kbk
   rw [decide_eq_false h0, cond_false]; rfl
  ·unfold Kdj
   rw [decide_eq_true (by omega), cond_true]; rfl
end
end Go.Proofs.Ytmgklehakmdiiaa.Ab.Pq
namespace Go.Proofs.Ytmgklehakmdiiaa.Ab
open Go
set_option linter.all false
theorem size_g : ∀ (n : Nat) (e : Ka), dpE e ≤ n → szE e ≤ 1048576 → KbH n e = some (szE e : Int)
  | 0, e, h, _ => by rw [KeC] at h; omega
  | n + 1, e, h, hb => by
    show Kb6 (KbH n) e = _
    unfold Kb6
    have hs := KcX e
    have hl := Kdt e.gKids
    refine Kdc e.gKids (fun pre => 1 + szEs pre) (fun a n => ((a : Nat), (n : Nat))) (fun a => (a : Int)) (by simp [szEs, dpEs, allEs]) (fun pre x post hp => ?_) ?_ ?_
    · have hk := KhL (Kep hp)
      have hsp := KhM hp
      simp only [Kdd hp, cond_true]
      rw [Kcv hp (by omega)]
      rw [show idx e.gKids (pre.length : Int) = some x by rw [hp]; exact Kd0 _ _ _, Option.bind_some, size_g n x (by omega) (by omega), Option.bind_some]
      rw [KcQ (by omega) (by omega), KeD]
      simp only [szEs]
      congr 3; omega
    · simp only [Kde, cond_false]
    · rw [hs]
theorem size_eq {e : Ka} (hb : szE e ≤ 1048576) : KfD e = some (szE e : Int) := Kih e (dpE e) (size_g _ e (Nat.le_refl _) hb)
theorem rall_g : ∀ (n : Nat) (e : Ka), dpE e ≤ n → szE e ≤ 1048576 → Kct n e = some (allE e)
  | 0, e, h, _ => by rw [KeC] at h; omega
  | n + 1, e, h, hb => by
    show KdJ (Kct n) e = _
    unfold KdJ
    have hs := KcX e
    have hl := Kdt e.gKids
    refine Kdc e.gKids (fun pre => e :: allEs pre) (fun a n => (a, (n : Nat))) (fun a => a) (by simp [szEs, dpEs, allEs]) (fun pre x post hp => ?_) ?_ ?_
    · have hk := KhL (Kep hp)
      have hsp := KhM hp
      simp only [Kdd hp, cond_true]
      rw [Kcv hp (by omega)]
      rw [show idx e.gKids (pre.length : Int) = some x by rw [hp]; exact Kd0 _ _ _, Option.bind_some, rall_g n x (by omega) (by omega), Option.bind_some]
      rw [Kbm (by omega) (by rw [List.length_cons, KeU, Ki2]; omega), Option.bind_some, Kgu]
      simp only [allEs, List.append_nil, List.cons_append]
    · simp only [Kde, cond_false]
    · rw [allE_eq]
theorem rall_eq {e : Ka} (hb : szE e ≤ 1048576) : Kiu e = some (allE e) := r11_All_of e (dpE e) (rall_g _ e (Nat.le_refl _) hb)
theorem stmts_g : ∀ (n : Nat) (l : List Kj), hSs l ≤ n → szSs l ≤ 1048576 → KbU n l = some (flSs l)
  | 0, l, h, _ => by have := Kix l; omega
  | n + 1, l, h, hb => by
    show KcN (KbU n) l = _
    unfold KcN
    have hl := Kfp l
    refine Kdc l (fun pre => flSs pre) (fun a n => (a, (n : Nat))) (fun a => a) (by simp [flSs]) (fun pre x post hp => ?_) ?_ ?_
    · have hx := Kep hp
      have hk := fuel h hx
      have hsp := szSs_pre hp
      have hsx := KeE x
      have f1 := KeV pre
      have f2 := KeV x.gKids
      have f3 := KeV x.gElse
      simp only [Kdd hp, cond_true]
      rw [Kcv hp (by omega)]
      rw [show idx l (pre.length : Int) = some x by rw [hp]; exact Kd0 _ _ _, Option.bind_some, Kbm (by omega) (by simp; omega), Option.bind_some, Option.bind_some, stmts_g n _ hk.1 (by omega), Option.bind_some, Kbm (by omega) (by simp; omega), Option.bind_some, Option.bind_some, stmts_g n _ hk.2 (by omega), Option.bind_some, Kbm (by omega) (by simp; omega), Option.bind_some]
      rw [KiL]
      simp only [flSs, List.append_nil, flS_eq x, List.append_assoc, List.cons_append, List.nil_append]
    · simp only [Kde, cond_false]
    · rfl
theorem stmts_eq {l : List Kj} (hb : szSs l ≤ 1048576) : KeS l = some (flSs l) := Kkr l (hSs l) (stmts_g _ l (Nat.le_refl _) hb)
theorem exOf_pre {l pre : List Kj} {x : Kj} {post : List Kj} (h : l = pre ++ x :: post) : (exOf pre).length + szEs x.gExps ≤ (exOf l).length := by
 subst h; simp only [exOf, List.flatMap_append, List.flatMap_cons, List.length_append, KeU]; omega
theorem exprs_eq {l : List Kj} (hb : szSs l ≤ 1048576) : KeT l = some (exOf (flSs l)) := by
 unfold KeT
 rw [stmts_eq hb, Option.bind_some]
 have hf := KeV l
 generalize flSs l = m at hf ⊢
 refine Kdc m (fun pre => exOf pre) (fun a n => (a, (n : Nat))) (fun a => a) (by simp [exOf]) (fun pre x post hp => ?_) ?_ ?_
 ·have hx := Kep hp
  have hp2 := exOf_pre hp
  have hl := Kdt x.gExps
  simp only [Kdd hp, cond_true]
  rw [Kcv hp (by omega)]
  have hi : idx m (pre.length : Int) = some x := by rw [hp]; exact Kd0 _ _ _
  rw [hi]
  refine Kdc x.gExps (fun q => exOf pre ++ allEs q) (fun a n => (a, (n : Nat))) (fun a => a) (by simp [allEs]) (fun q y post2 hq => ?_) ?_ ?_
  ·have hy := KhM hq
   simp only [Option.bind_some, Kdd hq, cond_true]
   rw [Kcv hq (by omega)]
   rw [show idx x.gExps (q.length : Int) = some y by rw [hq]; exact Kd0 _ _ _, Option.bind_some, rall_eq (by omega), Option.bind_some, Kbm (by omega) (by simp [KeU, Ki2]; omega), Option.bind_some]
   rw [Kgu]
   simp only [allEs, List.append_nil, List.append_assoc]
  ·simp only [Option.bind_some, Kde, cond_false]
  ·simp only [KiM]; simp [exOf]
 ·simp only [Kde, cond_false]
 ·rfl
theorem sizes_g : ∀ (n : Nat) (l : List Kj), hSs l ≤ n → szSs l ≤ 1048576 → Kbu n l = some (szSs l : Int)
  | 0, l, h, _ => by have := Kix l; omega
  | n + 1, l, h, hb => by
    show KbS (Kbu n) l = _
    unfold KbS
    have hl := Kfp l
    refine Kdc l (fun pre => szSs pre) (fun a n => ((a : Nat), (n : Nat))) (fun a => (a : Int)) (by simp [szSs]) (fun pre x post hp => ?_) ?_ ?_
    · have hx := Kep hp
      have hk := fuel h hx
      have hsp := szSs_pre hp
      have hsx := KeE x
      have hel := Kdt x.gExps
      simp only [Kdd hp, cond_true]
      rw [Kcv hp (by omega)]
      rw [show idx l (pre.length : Int) = some x by rw [hp]; exact Kd0 _ _ _, Option.bind_some, sizes_g n _ hk.1 (by omega), Option.bind_some, sizes_g n _ hk.2 (by omega), Option.bind_some]
      refine Kdc x.gExps (fun q => szSs pre + 1 + szSs x.gKids + szSs x.gElse + szEs q) (fun a n => ((a : Nat), (n : Nat))) (fun a => (a : Int)) ?_ (fun q y post2 hq => ?_) ?_ ?_
      · simp only [szEs]
        rw [KcQ (n := 1 + (szSs x.gKids : Int)) (by omega) (by omega), KcQ (n := 1 + (szSs x.gKids : Int) + szSs x.gElse) (by omega) (by omega), KcQ (by omega) (by omega)]
        congr 1; omega
      · have hy := KhM hq
        simp only [Kdd hq, cond_true]
        rw [Kcv hq (by omega)]
        rw [show idx x.gExps (q.length : Int) = some y by rw [hq]; exact Kd0 _ _ _, Option.bind_some, size_eq (by omega), Option.bind_some, KcQ (by omega) (by omega), KeD]
        simp only [szEs]
        congr 3; omega
      · simp only [Kde, cond_false]
      · rw [Kfx]; simp only [szSs]; congr 3; omega
    · simp only [Kde, cond_false]
    · rfl
theorem sizes_eq {l : List Kj} (hb : szSs l ≤ 1048576) : Kes l = some (szSs l : Int) := KhW l (hSs l) (sizes_g _ l (Nat.le_refl _) hb)
end Go.Proofs.Ytmgklehakmdiiaa.Ab
namespace Go.Proofs.Ytmgklehakmdiiaa.Ab
open Go
set_option linter.all false
mutual
def eqS (p : Bool) : Kj → Kj → Bool
  | ⟨a, b, c, es, ks, ls, d⟩, f => a == f.gOp && (decide (b = f.gName) && (decide (c = f.gFunc) && ((!p || d == f.gAt) && (eqEs p es f.gExps && (eqSs p ks f.gKids && eqSs p ls f.gElse)))))
def eqSs (p : Bool) : List Kj → List Kj → Bool
  | [], m => m.isEmpty
  | e :: l, m => match m with
    | [] => false
    | f :: m => eqS p e f && eqSs p l m
end
theorem eqS_eq (p : Bool) (e f : Kj) : eqS p e f = (e.gOp == f.gOp && (decide (e.gName = f.gName) && (decide (e.gFunc = f.gFunc) && ((!p || e.gAt == f.gAt) && (eqEs p e.gExps f.gExps && (eqSs p e.gKids f.gKids && eqSs p e.gElse f.gElse)))))) := by cases e; simp only [eqS]
theorem eqSs_eq (p : Bool) : ∀ l m, eqSs p l m = all2 (eqS p) l m
 | [], [] => by simp [eqSs, all2]
 | [], _ :: _ => by simp [eqSs, all2]
 | _ :: _, [] => by simp [eqSs, all2]
 | x :: l, y :: m => by simp only [eqSs, all2, eqSs_eq p l m]
mutual
theorem eqS_refl (p : Bool) : ∀ e, eqS p e e = true
  | ⟨a, b, c, es, ks, ls, d⟩ => by
    rw [eqS_eq]
    simp [Kio p es, KgS p ks, KgS p ls]
theorem KgS (p : Bool) : ∀ l, eqSs p l l = true
  | [] => by simp [eqSs]
  | e :: l => by simp only [eqSs, eqS_refl p e, KgS p l, Bool.and_self]
end
theorem Ki4 (p : Bool) : ∀ (n : Nat) (l m : List Kj), hSs l ≤ n → szSs l ≤ 1048576 → Kbv n l m p = some (eqSs p l m)
  | 0, l, m, h, _ => by have := Kix l; omega
  | n + 1, l, m, h, hb => by
    show Kcn (Kbv n) l m p = _
    unfold Kcn
    have hl := Kfp l
    rw [eqSs_eq]
    refine pairs _ l m (fun a x q a' y q' e e' hp => ?_) ?_
    · have hx := Kep e
      have hd := hS_mem hx
      have hz := szS_mem hx
      have hdx := hS_eq x
      have hsx := KeE x
      rw [Kdd e, cond_true]
      simp only [KdO e rfl, KdO e' hp, Option.bind_some]
      rw [Kcv e (by omega), rexps_eq (by omega), Ki4 p n _ _ (by omega) (by omega), Ki4 p n _ _ (by omega) (by omega), eqS_eq]
      simp only [Option.bind_some, bne]
      cases x.gOp == y.gOp <;> cases decide (x.gName = y.gName) <;> cases decide (x.gFunc = y.gFunc) <;> cases p <;> cases x.gAt == y.gAt <;> cases eqEs _ x.gExps y.gExps <;> cases eqSs _ x.gKids y.gKids <;> cases eqSs _ x.gElse y.gElse <;> rfl
    · rw [Kde, cond_false]
theorem rsameS_eq {l m : List Kj} {p : Bool} (hb : szSs l ≤ 1048576) : Kfw l m p = some (eqSs p l m) := Kjt l m p (hSs l) (Ki4 p _ l m (Nat.le_refl _) hb)
def eqVar (a b : KR) : Bool := decide (a.gName = b.gName) && (a.gPtr == b.gPtr && true)
theorem vars_eq {l m : List KR} (hb : l.length ≤ 1048576) : Kfm l m = some (all2 eqVar l m) := by
 unfold Kfm
 refine pairs _ l m (fun p x q p' y q' e e' hp => ?_) ?_
 ·rw [Kdd e, cond_true, KdO e rfl, Option.bind_some, KdO e' hp, Option.bind_some, Kcv e (by omega)]
  show (bif !eqVar x y then _ else _) = _
  cases eqVar x y <;> rfl
 ·rw [Kde, cond_false]
theorem Kjj (v : KR) : eqVar v v = true := by simp [eqVar]
theorem KkG {a : KQ} {p : Bool} (h1 : a.gParams.length ≤ 1048576) (h2 : a.gLocals.length ≤ 1048576) (h3 : szSs a.gBody ≤ 1048576) : Keh a a p = some true := by
 unfold Keh
 rw [vars_eq h1, vars_eq h2, rsameS_eq h3, Kie fun x _ => Kjj x, Kie fun x _ => Kjj x, KgS]
 cases p <;> simp
end Go.Proofs.Ytmgklehakmdiiaa.Ab
namespace Go.Proofs.Ytmgklehakmdiiaa.Ab.Pq
open Go
set_option linter.all false
section
variable {L : List Tok} (hL : L.length ≤ 100000)
omit hL in
theorem f1_eq (m2 : KQ) (p : Pos L) (e v o : Int) : Ka3 m2 (gm L p e v o) = (loopM lcP (L, ((p.1 : Nat) : Int), e, v, o, m2.gLocals)).bind fun y32 => some ((⟨y32.1, y32.2.1, y32.2.2.1, y32.2.2.2.1, y32.2.2.2.2.1⟩ : Ke), (⟨m2.gName, m2.gParams, y32.2.2.2.2.2, m2.gBody, m2.gAt⟩ : KQ)) := rfl
include hL
theorem Kjk (p : Pos L) (e v o : Int) (m2 : KQ) : KaI (gm L p e v o) m2 = (Ka3 m2 (gm L (begP L p e o).1 (begP L p e o).2 v (IntKind.i64.wrap (o + 1)))).bind fun x8 => (loopM (bkP Kba) ([], x8.1.gL, x8.1.gAt, x8.1.gE, x8.1.gVars, x8.1.gOpen)).bind fun y38 => some (y38.1, (⟨y38.2.1, y38.2.2.1, y38.2.2.2.1, y38.2.2.2.2.1, (IntKind.i64.wrap (y38.2.2.2.2.2 - (1 : Int)))⟩ : Ke), x8.2) := by
 have h := gbegin hL p e v o
 unfold KaI
 rw [geat hL, Option.bind_some] at h ⊢
 simp only [] at h ⊢
 rw [h, Option.bind_some]
 rfl
theorem stmt_half (p : Pos L) (v : Int) {o : Nat} (ho : o ≤ 24) : GR L v o p szS (Kba (gm L p 0 v o)) ((rsg (4 * L.length + 10)).2.1 (rm L p 0) o) := by
 obtain ⟨x, y, q, e, h1, h2, h3⟩ := (stm hL v (4 * L.length + 10) (4 * L.length + 10) (Nat.le_refl _)).1 p o (4 * L.length + 10) ho (by omega) (by omega)
 exact ⟨x, y, q, e, KeB _ _ h1, h2, h3⟩
theorem body_ok (p : Pos L) (v : Int) : ∃ l l2 q e, loopM (bkP Kba) ([], L, ((p.1 : Nat) : Int), 0, v, 1) = some (l, L, (((q : Pos L).1 : Nat) : Int), e, v, 1) ∧ Kef (rm L p 0) 1 = some (l2, rm L q e) ∧ (e = 0 → l = l2 ∧ p.1 + szSs l ≤ q.1) := by
 obtain ⟨l, l2, q, e, k1, k2, k3⟩ := bk_loop hL Kba (rsg (4 * L.length + 10)).2.1 v ((1 : Nat) : Int) p.1 (fun q _ => stmt_half hL q v (by omega)) L.length p [] (by omega) (by simp only [szSs]; omega)
 refine ⟨l, l2, q, e, k1, KiI _ _ (4 * L.length + 10 + 1) ?_, k3⟩
 rw [Kiz hL]
 rw [show (1 : Int) = ((1 : Nat) : Int) from rfl, k2, Option.bind_some]
theorem body_b {p : Pos L} {e v o : Int} (he : e ≠ 0) : loopM (bkP Kba) ([], L, ((p.1 : Nat) : Int), e, v, o) = some ([], L, ((p.1 : Nat) : Int), e, v, o) ∧ Kef (rm L p e) 1 = some ([], rm L p e) := by
 refine ⟨Khn he, KiI _ _ 1 ?_⟩
 rw [Kiz hL, Kho he, Option.bind_some]
end
end Go.Proofs.Ytmgklehakmdiiaa.Ab.Pq
namespace Go.Proofs.Ytmgklehakmdiiaa.Ab.Pq
open Go
set_option linter.all false
section
variable {L : List Tok} (hL : L.length ≤ 100000)
include hL
theorem Kj2 {p : Pos L} {e v : Int} (he : e ≠ 0) (m2 : KQ) : KaI (gm L p e v 0) m2 = some ([], gm L p e v 0, ⟨m2.gName, m2.gParams, m2.gLocals, m2.gBody, m2.gAt⟩) := by
 rw [Kjk hL, KhN he]
 simp only []
 rw [f1_eq, lcP_bad he, Option.bind_some, Option.bind_some]
 simp only []
 rw [(body_b hL he).1, Option.bind_some]
 rfl
noncomputable def rfb (c : Nat) (m : RR) : Option (List KR × List Kj × RR) := (Kdf m 0).bind fun x18 => (loopM (lcR c) (x18.gL, x18.gAt, x18.gE, [])).bind fun y51 => (Kef (⟨y51.1, y51.2.1, y51.2.2.1⟩ : RR) 1).bind fun x84 => some (y51.2.2.2, x84.1, x84.2)
theorem rfb_b {p : Pos L} {e : Int} {c : Nat} (he : e ≠ 0) : rfb c (rm L p e) = some ([], [], rm L p e) := by
 unfold rfb
 rw [rbegin hL, Option.bind_some, KhN he]
 simp only []
 rw [lcR_bad he, Option.bind_some]
 simp only []
 rw [(body_b hL (v := 0) (o := 0) he).2, Option.bind_some]
theorem fblock_ok (p : Pos L) (c : Nat) (hc : c ≤ p.1) (nm : ByteArray) (ps : List KR) (at_ : Int) : ∃ lo l l2 q e v', KaI (gm L p 0 c 0) ⟨nm, ps, [], [], at_⟩ = some (l, gm L q e v' 0, ⟨nm, ps, lo, [], at_⟩) ∧ rfb c (rm L p 0) = some (lo, l2, rm L q e) ∧ (e = 0 → l = l2 ∧ p.1 + lo.length + szSs l ≤ q.1) := by
 rw [Kjk hL]
 unfold rfb
 rw [rbegin hL, Option.bind_some, show IntKind.i64.wrap ((0 : Int) + 1) = 1 from rfl, f1_eq]
 by_cases he : (begP L p 0 0).2 = 0
 ·obtain ⟨_, hb⟩ := begP_ok he
  rw [he]
  obtain ⟨lo, q, e, v', k1, k2, k3⟩ := lc_loop hL 1 c p.1 L.length (begP L p 0 0).1 [] (by omega) (by simp only [List.length_nil]; omega) hc
  have k1' : loopM lcP (L, (((begP L p 0 0).1.1 : Nat) : Int), 0, (c : Int), 1, []) = some (L, ((q.1 : Nat) : Int), e, v', 1, lo) := k1
  rw [k1', k2, Option.bind_some, Option.bind_some, Option.bind_some]
  simp only []
  by_cases he2 : e = 0
  ·subst he2
   obtain ⟨l, l2, q2, e2, m1, m2, m3⟩ := body_ok hL q v'
   rw [m1, m2, Option.bind_some, Option.bind_some]
   refine ⟨lo, l, l2, q2, e2, v', rfl, rfl, fun h => ?_⟩
   obtain ⟨a, b⟩ := m3 h
   have := k3 rfl
   exact ⟨a, by omega⟩
  ·obtain ⟨m1, m2⟩ := body_b hL (p := q) (v := v') (o := 1) he2
   rw [m1, m2, Option.bind_some, Option.bind_some]
   exact ⟨lo, _, _, q, e, v', rfl, rfl, fun h => absurd h he2⟩
 ·rw [lcP_bad he, lcR_bad he, Option.bind_some, Option.bind_some, Option.bind_some]
  simp only []
  obtain ⟨m1, m2⟩ := body_b hL (p := (begP L p 0 0).1) (v := (c : Int)) (o := 1) he
  rw [m1, m2, Option.bind_some, Option.bind_some]
  exact ⟨[], _, _, _, _, _, rfl, rfl, fun h => absurd h he⟩
end
end Go.Proofs.Ytmgklehakmdiiaa.Ab.Pq
namespace Go.Proofs.Ytmgklehakmdiiaa.Ab.Pq
open Go
set_option linter.all false
def zF : KQ := ⟨ByteArray.empty, [], [], [], 0⟩
section
variable {L : List Tok} (hL : L.length ≤ 100000)
include hL
theorem tail_both (p : Pos L) (e : Int) (nm : ByteArray) (at_ : Int) : ∃ f ps lo l2 q e' v', ((Kaz (gm L p e 0 0)).bind fun x8 => (KaI x8.2 (⟨nm, x8.1, [], [], at_⟩ : KQ)).bind fun x12 => some ((⟨x12.2.2.gName, x12.2.2.gParams, x12.2.2.gLocals, x12.1, x12.2.2.gAt⟩ : KQ), x12.2.1)) = some (f, gm L q e' v' 0) ∧ ((Kci (rm L p e)).bind fun x17 => (rfb x17.1.length x17.2).bind fun y => some (x17.1, y)) = some (ps, lo, l2, rm L q e') ∧ (e' = 0 → f = ⟨nm, ps, lo, l2, at_⟩ ∧ ps.length + lo.length + szSs l2 ≤ 2 * q.1) := by
 by_cases he : e = 0
 ·subst he
  obtain ⟨l, l2, q, e, v', h1, h2, h3⟩ := params_ok hL p 0
  rw [h1, h2, Option.bind_some, Option.bind_some]
  simp only []
  by_cases he : e = 0
  ·subst he
   obtain ⟨hl, hv, hq⟩ := h3 rfl
   subst hl; subst hv
   obtain ⟨lo, b, b2, q2, e2, v2, k1, k2, k3⟩ := fblock_ok hL q l.length (by omega) nm l at_
   rw [k1, k2, Option.bind_some, Option.bind_some]
   refine ⟨_, l, lo, b2, q2, e2, v2, rfl, rfl, fun h => ?_⟩
   obtain ⟨a, c⟩ := k3 h
   subst a
   exact ⟨rfl, by omega⟩
  ·rw [Kj2 hL he, rfb_b hL he, Option.bind_some, Option.bind_some]
   exact ⟨_, l2, [], [], q, e, v', rfl, rfl, fun h => absurd h he⟩
 ·obtain ⟨h1, h2⟩ := params_b hL (p := p) (v := 0) (o := 0) he
  rw [h1, h2, Option.bind_some, Option.bind_some]
  simp only []
  rw [Kj2 hL he, rfb_b hL he, Option.bind_some, Option.bind_some]
  exact ⟨_, _, [], [], p, e, 0, rfl, rfl, fun h => absurd h he⟩
end
end Go.Proofs.Ytmgklehakmdiiaa.Ab.Pq
namespace Go.Proofs.Ytmgklehakmdiiaa.Ab.Pq
open Go
set_option linter.all false
section
variable {L : List Tok} (hL : L.length ≤ 100000)
theorem rfb_inv {c : Nat} {m : RR} {lo : List KR} {l2 : List Kj} {m2 : RR} (h : rfb c m = some (lo, l2, m2)) : ∃ x y, Kdf m 0 = some x ∧ loopM (lcR c) (x.gL, x.gAt, x.gE, []) = some y ∧ Kef (⟨y.1, y.2.1, y.2.2.1⟩ : RR) 1 = some (l2, m2) ∧ y.2.2.2 = lo := by
  unfold rfb at h
  cases h1 : Kdf m 0 with
  | none => rw [h1] at h; cases h
  | some x =>
    rw [h1, Option.bind_some] at h
    cases h2 : loopM (lcR c) (x.gL, x.gAt, x.gE, []) with
    | none => rw [h2] at h; cases h
    | some y =>
      rw [h2, Option.bind_some] at h
      cases h3 : Kef (⟨y.1, y.2.1, y.2.2.1⟩ : RR) 1 with
      | none => rw [h3] at h; cases h
      | some z =>
        rw [h3, Option.bind_some] at h
        simp only [Option.some.injEq, Prod.mk.injEq] at h
        obtain ⟨a, b, c⟩ := h
        exact ⟨x, y, rfl, h2, by rw [h3]; cases z; simp_all, a⟩
include hL
theorem sizes_both {l : List Kj} (h : szSs l ≤ 1000000) : Kes l = some (szSs l : Int) ∧ ((KeS l).bind fun x101 => (KeT l).bind fun x103 => some (decide ((800 : Int) < (IntKind.i64.wrap ((x101.length : Int) + (x103.length : Int)))))) = some (decide (800 < szSs l)) := by
 refine ⟨sizes_eq (by omega), ?_⟩
 have hfl := KeV l
 rw [stmts_eq (by omega), Option.bind_some, exprs_eq (by omega), Option.bind_some, KcQ (by omega) (by omega)]
 congr 1
 exact decide_eq_decide.2 (by omega)
def outF (f : KQ) (q : Nat) (e : Int) : KQ × Int × Int := bif e != 0 then (zF, (q : Int), e) else (f, (q : Int), 0)
theorem func_both (p : Pos L) : ∃ f q e v', KaZ (gm L p 0 0 0) = some (f, gm L q e v' 0) ∧ Keg L ((p.1 : Nat) : Int) = some (outF f q.1 e) ∧ (e = 0 → f.gParams.length ≤ 1048576 ∧ f.gLocals.length ≤ 1048576 ∧ szSs f.gBody ≤ 1048576) := by
 have hp := p.2
 unfold KaZ Keg
 rw [decide_eq_false (by omega), cond_false, decide_eq_false (by omega), Option.bind_some, cond_false]
 rw [Kfa hL, Option.bind_some, geat hL, Option.bind_some, gname hL, Option.bind_some]
 rw [rlook hL p, Option.bind_some, reat hL p, Option.bind_some, rname hL, Option.bind_some]
 simp only []
 generalize eatP L p 0 (ByteArray.mk #[105, 110, 116]) = a
 generalize nameP L a.1 a.2 = m
 obtain ⟨f, ps, lo, l2, q, e, v', h1, h2, h3⟩ := tail_both hL m.2.1 m.2.2 m.1 (lk L p.1).gAt
 cases hA : Kaz (gm L m.2.1 m.2.2 0 0) with
 | none => rw [hA] at h1; cases h1
 | some x8 =>
 rw [hA, Option.bind_some] at h1
 cases hB : KaI x8.2 (⟨m.1, x8.1, [], [], (lk L p.1).gAt⟩ : KQ) with
 | none => rw [hB] at h1; cases h1
 | some x12 =>
 rw [hB, Option.bind_some] at h1
 simp only [Option.some.injEq, Prod.mk.injEq] at h1
 obtain ⟨hf, hg⟩ := h1
 cases hC : Kci (rm L m.2.1 m.2.2) with
 | none => rw [hC] at h2; cases h2
 | some x17 =>
 rw [hC, Option.bind_some] at h2
 cases hD : rfb x17.1.length x17.2 with
 | none => rw [hD] at h2; cases h2
 | some y =>
 rw [hD, Option.bind_some] at h2
 simp only [Option.some.injEq, Prod.mk.injEq] at h2
 obtain ⟨hps, hy⟩ := h2
 subst hy
 obtain ⟨x18, y51, k1, k2, k3, k4⟩ := rfb_inv hD
 simp only [Option.bind_some]
 rw [hB, Option.bind_some, k1, Option.bind_some]
 change ∃ f_1 q_1 e_1 v'_1, _ ∧ Option.bind (loopM (lcR x17.1.length) (x18.gL, x18.gAt, x18.gE, [])) _ = _ ∧ _
 rw [k2, Option.bind_some, k3, Option.bind_some, hg, hf, k4, hps]
 simp only []
 by_cases he : e = 0
 ·subst he
  obtain ⟨hf2, hs⟩ := h3 rfl
  have hq := q.2
  obtain ⟨s1, s2⟩ := sizes_both hL (l := l2) (by omega)
  have hb : x12.1 = l2 := by
   have := congrArg KQ.gBody (hf.trans hf2)
   exact this
  rw [hb, s1, s2]
  simp only [beq_self_eq_true, cond_true, Option.bind_some]
  rw [show decide ((800 : Int) < ((szSs l2 : Nat) : Int)) = decide (800 < szSs l2) from decide_eq_decide.2 (by omega)]
  subst hf2
  by_cases h8 : 800 < szSs l2
  ·rw [decide_eq_true h8, cond_true, cond_true, gfail q a.1, rfail q a.1, KcZ, Option.bind_some, Option.bind_some, Option.bind_some]
   exact ⟨_, a.1, 6, v', rfl, rfl, fun h => by cases h⟩
  ·rw [decide_eq_false h8, cond_false, cond_false, Option.bind_some]
   exact ⟨_, q, 0, v', rfl, rfl, fun _ => ⟨by show ps.length ≤ _; omega, by show lo.length ≤ _; omega, by show szSs l2 ≤ _; omega⟩⟩
 ·have hb : (e == 0) = false := by simp [he]
  simp only [hb, cond_false, Option.bind_some, bne, Bool.not_false, cond_true]
  refine ⟨_, q, e, v', rfl, ?_, fun h => absurd h he⟩
  unfold outF
  simp only [bne, hb, Bool.not_false, cond_true]; rfl
end
end Go.Proofs.Ytmgklehakmdiiaa.Ab.Pq
namespace Go.Proofs.Ytmgklehakmdiiaa.Ab.Pq
open Go
set_option linter.all false
def FSz (f : KQ) : Prop := f.gParams.length ≤ 1048576 ∧ f.gLocals.length ≤ 1048576 ∧ szSs f.gBody ≤ 1048576
theorem fsz_z : FSz zF := ⟨by show (0 : Nat) ≤ _; omega, by show (0 : Nat) ≤ _; omega, by show szSs [] ≤ _; decide⟩
theorem outF_sz {f : KQ} {q : Nat} {e : Int} (h : e = 0 → FSz f) : FSz (outF f q e).1 := by
 unfold outF
 by_cases he : e = 0
 ·subst he; exact h rfl
 ·simp only [bne, show (e == 0) = false by simp [he], Bool.not_false, cond_true]; exact fsz_z
theorem outF_at (f : KQ) (q : Nat) (e : Int) : (outF f q e).2.1 = (q : Int) := by
 unfold outF; cases (e != 0) <;> rfl
section
variable {L : List Tok} (hL : L.length ≤ 100000)
include hL
theorem funcs_both (a : Int) : ∃ r, KbT L a = some r ∧ Keg L a = some r ∧ FSz r.1 ∧ (0 ≤ a → a ≤ (L.length : Int) → ∃ q : Pos L, r.2.1 = ((q.1 : Nat) : Int)) := by
 by_cases h0 : 0 ≤ a
 ·by_cases h1 : a ≤ (L.length : Int)
  ·obtain ⟨n, rfl⟩ := Int.eq_ofNat_of_zero_le h0
   obtain ⟨f, q, e, v', k1, k2, k3⟩ := func_both hL ⟨n, by omega⟩
   refine ⟨outF f q.1 e, ?_, k2, outF_sz k3, fun _ _ => ⟨q, outF_at _ _ _⟩⟩
   unfold KbT Kbk
   rw [decide_eq_true h0, cond_true, Option.bind_some, decide_eq_true h1]
   simp only [Bool.not_true, cond_false]
   change Option.bind (KaZ (gm L ⟨n, by omega⟩ 0 0 0)) _ = _
   rw [k1, Option.bind_some]
   unfold outF
   cases (e != 0) <;> rfl
  ·refine ⟨(zF, 0, 2), ?_, ?_, fsz_z, fun _ h => absurd h h1⟩
   ·unfold KbT Kbk
    rw [decide_eq_true h0, cond_true, Option.bind_some, decide_eq_false h1]; rfl
   ·unfold Keg
    rw [decide_eq_false (by omega), cond_false, decide_eq_true (by omega)]; rfl
 ·refine ⟨(zF, 0, 2), ?_, ?_, fsz_z, fun h => absurd h h0⟩
  ·unfold KbT Kbk
   rw [decide_eq_false h0, cond_false]; rfl
  ·unfold Keg
   rw [decide_eq_true (by omega), cond_true]; rfl
end
end Go.Proofs.Ytmgklehakmdiiaa.Ab.Pq
