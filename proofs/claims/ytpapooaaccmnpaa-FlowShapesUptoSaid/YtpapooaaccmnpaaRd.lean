/- What is read as data stands for data of the abstract machine. Over any program. -/
import Derived.Test.YtpapooaaccmnpaaAb15
import Derived.ProofKit
import Derived.OpenShut
namespace Go.Proofs.Ytpapooaaccmnpaa.Ab
open Go
set_option linter.all false

def fieldsOK (tab : List (Option TI)) (ts : List Nat) : Nat → List (Nat × Nat) → Option Nat
  | off, [] => some off
  | off, (ty, o) :: fs => match ti tab ty with
    | some i => bif Nat.beq o off && ts.contains ty then fieldsOK tab ts (off + i.size) fs else none
    | none => none
def typeOK (tab : List (Option TI)) (ts : List Nat) (t : Nat) : Bool :=
  match ti tab t with
  | some i => match i.d with
    | .bool => Nat.beq i.size 1
    | .int _ => Nat.beq i.size 1
    | .str => Nat.beq i.size 1
    | .slice e => ts.contains e && Nat.beq i.size 1 && (match ti tab e with | some ie => Nat.ble 1 ie.size | none => false)
    | .struct fs => match fieldsOK tab ts 0 fs with
      | some n => Nat.beq n i.size
      | none => false
    | .array n e => ts.contains e && (match ti tab e with | some ie => Nat.beq i.size (n * ie.size) | none => false)
    | _ => false
  | none => false
/-- The types ts are made of one another. -/
def closedT (tab : List (Option TI)) (ts : List Nat) : Bool := ts.all (typeOK tab ts)
/-- Data of a type. -/
def GoodT (tab : List (Option TI)) : Nat → Nat → D → Prop
  | 0, _, _ => False
  | n + 1, t, d => ∃ i, ti tab t = some i ∧ match i.d with
    | .bool => ∃ b, d = .v (.bool b)
    | .int k => ∃ m, d = .v (.int k m) ∧ (Lit.int k m).wf = true
    | .str => ∃ s : ByteArray, d = .v (.string s) ∧ s.size ≤ maxLen
    | .slice e => ∃ ie xs, ti tab e = some ie ∧ d = .lst ie.size xs .no ∧ xs.length ≤ maxLen ∧ ∀ x ∈ xs, GoodT tab n e x
    | .struct fs => ∃ ds : List D, d = .agg (ds.flatMap dcells) ∧ ds.length = fs.length ∧ ∀ (j : Nat) (f : Nat × Nat) (d0 : D), fs[j]? = some f → ds[j]? = some d0 → GoodT tab n f.1 d0
    | .array m e => ∃ ds : List D, d = .agg (ds.flatMap dcells) ∧ ds.length = m ∧ ∀ x ∈ ds, GoodT tab n e x
    | _ => False

section
variable {H : Type} {enc : TypeId × Value → H} {P : Program} {w : World} {base : Nat} {spare : Nat → Bool} {held : Bool} {tab : List (Option TI)} {ts : List Nat}
theorem cellsOf_ti (hT : TabOK P tab) {t : TypeId} {i : TI} (h : ti tab t = some i) : P.cellsOf t = i.size := by
  obtain ⟨tf, z, dd, h1, _, _, h2, _⟩ := tiOf_inv (ti_ok hT h)
  simp [Program.cellsOf, h1, h2]
/-- All that a world holds. -/
def allOf (w : World) : Hp := fun a => w.cell? a
theorem ag_all (w : World) : Ag (allOf w) w := fun _ _ h => h
def Rd (tab : List (Option TI)) (w : World) (n t : Nat) (cs : List Value) (d : D) : Prop :=
  ∃ i, ti tab t = some i ∧ RepC (allOf w) d cs ∧ Reps (allOf w) (dcells d) cs ∧ cs.length = i.size ∧ (dcells d).length = i.size ∧ GoodT tab n t d
theorem rd_fields (hT : TabOK P tab) {n : Nat} {cs : List Value} (ih : ∀ t cs x, ts.contains t = true → DataW.trod enc P w base spare held n t cs = some x → ∃ d, Rd tab w n t cs d) :
    ∀ (gs : List Field) (off total : Nat), fieldsOK tab ts off (gs.map fun f => (f.type, f.offset)) = some total → total ≤ cs.length → (∀ f ∈ gs, ∃ y, DataW.trod enc P w base spare held n f.type ((cs.drop f.offset).take (P.cellsOf f.type)) = some y) →
      off ≤ total ∧ ∃ ds : List D, ds.length = gs.length ∧ Reps (allOf w) (ds.flatMap dcells) ((cs.drop off).take (total - off)) ∧ (ds.flatMap dcells).length = total - off ∧ ∀ (j : Nat) (f : Nat × Nat) (d0 : D), (gs.map fun f => (f.type, f.offset))[j]? = some f → ds[j]? = some d0 → GoodT tab n f.1 d0
  | [], off, total, h, _, _ => by
    simp [fieldsOK] at h; subst h
    exact ⟨Nat.le_refl _, [], rfl, by simp [Reps], by simp, fun j f d0 e => by simp at e⟩
  | g :: gs, off, total, h, hl, hy => by
    simp only [List.map_cons, fieldsOK] at h
    split at h
    · rename_i i hi
      cases hb : (Nat.beq g.offset off && ts.contains g.type) with
      | false => rw [hb] at h; cases h
      | true =>
        rw [hb] at h
        simp only [cond_true] at h
        simp only [Bool.and_eq_true] at hb
        have ho := Nat.eq_of_beq_eq_true hb.1
        obtain ⟨y, hy0⟩ := hy g (by simp)
        obtain ⟨d, i', hi', h1, h2, h3, h4, h5⟩ := ih _ _ y hb.2 hy0
        rw [hi] at hi'; cases hi'
        obtain ⟨hle, ds, e1, e2, e3, e4⟩ := rd_fields hT ih gs (off + i.size) total h hl fun f hf => hy f (by simp [hf])
        rw [cellsOf_ti hT hi, ho] at h2
        refine ⟨by omega, d :: ds, by simp [e1], ?_, by simp [h4, e3]; omega, ?_⟩
        · simp only [List.flatMap_cons]
          have := reps_append h2 e2
          have e : (cs.drop off).take i.size ++ (cs.drop (off + i.size)).take (total - (off + i.size)) = (cs.drop off).take (total - off) := by
            rw [show total - off = i.size + (total - (off + i.size)) by omega, List.take_add, List.drop_drop]
          rwa [e] at this
        · intro j f d0 hf hd
          cases j with
          | zero => simp at hf hd; subst hf; subst hd; exact h5
          | succ j => exact e4 j f d0 (by simpa using hf) (by simpa using hd)
    · cases h
theorem rd_elems {n e sz b off : Nat} {ie : TI} (hie : ti tab e = some ie) (hsz : ie.size = sz) (he : ts.contains e = true) (ih : ∀ t cs x, ts.contains t = true → DataW.trod enc P w base spare held n t cs = some x → ∃ d, Rd tab w n t cs d) :
    ∀ (m i0 : Nat), (∀ i, i0 ≤ i → i < i0 + m → ∃ cs y, w.cells? base ((⟨b, off, none⟩ : Addr).add (i * sz)) sz = some cs ∧ DataW.trod enc P w base spare held n e cs = some y) →
      ∃ xs : List D, xs.length = m ∧ Els (allOf w) sz b (off + i0 * sz) xs ∧ ∀ x ∈ xs, GoodT tab n e x
  | 0, i0, _ => ⟨[], rfl, by simp [Els], by simp⟩
  | m + 1, i0, h => by
    obtain ⟨cs, y, h1, h2⟩ := h i0 (Nat.le_refl _) (by omega)
    obtain ⟨d, i', hi', g1, g2, g3, g4, g5⟩ := ih e cs y he h2
    rw [hie] at hi'; cases hi'
    obtain ⟨xs, f1, f2, f3⟩ := rd_elems hie hsz he ih m (i0 + 1) fun i hi hi' => h i (by omega) (by omega)
    refine ⟨d :: xs, by simp [f1], ?_, ?_⟩
    · simp only [Els]
      refine ⟨⟨cs, by rw [g3, hsz], g1, fun j u hj => ?_, reps_one g2⟩, ?_⟩
      · obtain ⟨_, hlen, hc⟩ := World.cells?_some h1
        have hjl : j < sz := by rw [← hlen]; exact (List.getElem?_eq_some_iff.1 hj).1
        have := hc j hjl
        rw [addr_add, addr_add] at this
        show w.cell? _ = _
        rw [this]; exact hj
      · rw [show off + i0 * sz + sz = off + (i0 + 1) * sz by rw [Nat.add_mul]; omega]; exact f2
    · intro x hx
      rcases List.mem_cons.1 hx with rfl | hx
      · exact g5
      · exact f3 x hx
theorem rd_arr {n e sz : Nat} {ie : TI} {cs : List Value} (hie : ti tab e = some ie) (hsz : ie.size = sz) (he : ts.contains e = true) (ih : ∀ t cs x, ts.contains t = true → DataW.trod enc P w base spare held n t cs = some x → ∃ d, Rd tab w n t cs d) :
    ∀ (m i0 : Nat), (∀ i, i0 ≤ i → i < i0 + m → ∃ y, DataW.trod enc P w base spare held n e ((cs.drop (i * sz)).take sz) = some y) →
      ∃ ds : List D, ds.length = m ∧ Reps (allOf w) (ds.flatMap dcells) ((cs.drop (i0 * sz)).take (m * sz)) ∧ (ds.flatMap dcells).length = m * sz ∧ ∀ x ∈ ds, GoodT tab n e x
  | 0, i0, _ => ⟨[], rfl, by simp [Reps], by simp, by simp⟩
  | m + 1, i0, h => by
    obtain ⟨y, h2⟩ := h i0 (Nat.le_refl _) (by omega)
    obtain ⟨d, i', hi', g1, g2, g3, g4, g5⟩ := ih e _ y he h2
    rw [hie] at hi'; cases hi'
    obtain ⟨ds, f1, f2, f3, f4⟩ := rd_arr hie hsz he ih m (i0 + 1) fun i hi hi' => h i (by omega) (by omega)
    refine ⟨d :: ds, by simp [f1], ?_, ?_, ?_⟩
    · simp only [List.flatMap_cons]
      have := reps_append g2 f2
      have e2 : (cs.drop (i0 * sz)).take sz ++ (cs.drop ((i0 + 1) * sz)).take (m * sz) = (cs.drop (i0 * sz)).take ((m + 1) * sz) := by
        rw [show (m + 1) * sz = sz + m * sz by rw [Nat.add_mul]; omega, List.take_add, List.drop_drop, show i0 * sz + sz = (i0 + 1) * sz by rw [Nat.add_mul]; omega]
      rwa [e2] at this
    · simp only [List.flatMap_cons, List.length_append, f3, g4, hsz]
      rw [Nat.add_mul]; omega
    · intro x hx
      rcases List.mem_cons.1 hx with rfl | hx
      · exact g5
      · exact f4 x hx
theorem rd (hT : TabOK P tab) (hc : closedT tab ts = true) : ∀ (n : Nat) (t : TypeId) (cs : List Value) (x : DataW H × List MemPlace), ts.contains t = true → DataW.trod enc P w base spare held n t cs = some x → ∃ d, Rd tab w n t cs d := by
  intro n
  induction n with
  | zero => intro t cs x _ h; simp [DataW.trod] at h
  | succ n ih =>
    intro t cs x ht h
    have hok : typeOK tab ts t = true := by
      unfold closedT at hc
      rw [List.all_eq_true] at hc
      exact hc t (by simpa using ht)
    unfold typeOK at hok
    split at hok
    · rename_i i hi
      obtain ⟨tf, z, dd, h1, h2, h3, h4, _⟩ := tiOf_inv (ti_ok hT hi)
      split at hok
      · rename_i hd
        have hs := Nat.eq_of_beq_eq_true hok
        obtain ⟨b, rfl, _⟩ := DataW.trod_bool (by rw [h2, td_bool (h3.trans hd)]) h
        refine ⟨.v (.bool b), i, hi, by simp [RepC], ?_, by simp [hs], by simp [dcells, hs], ?_⟩
        · simp only [dcells, Reps]; exact ⟨_, _, rfl, ⟨by simp [RepC], rfl, rfl⟩, rfl⟩
        · unfold GoodT; exact ⟨i, hi, by rw [hd]; exact ⟨b, rfl⟩⟩
      · rename_i k hd
        have hs := Nat.eq_of_beq_eq_true hok
        obtain ⟨m, rfl, _, hwf⟩ := DataW.trod_int (by rw [h2, td_int (h3.trans hd)]) h
        refine ⟨.v (.int k m), i, hi, by simp [RepC], ?_, by simp [hs], by simp [dcells, hs], ?_⟩
        · simp only [dcells, Reps]; exact ⟨_, _, rfl, ⟨by simp [RepC], rfl, rfl⟩, rfl⟩
        · unfold GoodT; exact ⟨i, hi, by rw [hd]; exact ⟨m, rfl, hwf⟩⟩
      · rename_i hd
        have hs := Nat.eq_of_beq_eq_true hok
        obtain ⟨s, rfl, _, hwf⟩ := DataW.trod_string (by rw [h2, td_str (h3.trans hd)]) h
        refine ⟨.v (.string s), i, hi, by simp [RepC], ?_, by simp [hs], by simp [dcells, hs], ?_⟩
        · simp only [dcells, Reps]; exact ⟨_, _, rfl, ⟨by simp [RepC], rfl, rfl⟩, rfl⟩
        · unfold GoodT; exact ⟨i, hi, by rw [hd]; exact ⟨s, rfl, hwf⟩⟩
      · rename_i e hd
        simp only [Bool.and_eq_true] at hok
        obtain ⟨⟨he, hs⟩, hsz⟩ := hok
        have hs := Nat.eq_of_beq_eq_true hs
        split at hsz
        · rename_i ie hie
          have hsz := Nat.le_of_ble_eq_true hsz
          rcases DataW.trod_slice (by rw [h2, td_slice (h3.trans hd)]) h with ⟨rfl, _⟩ | ⟨a, len, cap, elems, rest, n', hf, rfl, _, hb, hlc, hcm, hel, hcells, _, _⟩
          · have hr : RepC (allOf w) (.lst ie.size [] .no) [.slice none 0 0] := by
              simp only [RepC, CapOK]; exact ⟨_, rfl, trivial, .inl ⟨by trivial, none, 0, rfl, fun _ => rfl⟩⟩
            refine ⟨.lst ie.size [] .no, i, hi, hr, ?_, by simp [hs], by simp [dcells, hs], ?_⟩
            · simp only [dcells, Reps]; exact ⟨_, _, rfl, ⟨hr, rfl, rfl⟩, rfl⟩
            · unfold GoodT; exact ⟨i, hi, by rw [hd]; exact ⟨ie, [], hie, rfl, by simp, by simp⟩⟩
          · have : n' = n := by omega
            subst this
            rw [cellsOf_ti hT hie] at hcells
            rcases Nat.eq_zero_or_pos len with hz | hpos
            · subst hz
              have hr : RepC (allOf w) (.lst ie.size [] .no) [.slice (some a) 0 cap] := by
                simp only [RepC, CapOK]; exact ⟨_, rfl, trivial, .inl ⟨by trivial, some a, cap, rfl, fun q => by cases q⟩⟩
              refine ⟨.lst ie.size [] .no, i, hi, hr, ?_, by simp [hs], by simp [dcells, hs], ?_⟩
              · simp only [dcells, Reps]; exact ⟨_, _, rfl, ⟨hr, rfl, rfl⟩, rfl⟩
              · unfold GoodT; exact ⟨i, hi, by rw [hd]; exact ⟨ie, [], hie, rfl, by simp, by simp⟩⟩
            · have hsome : ∀ j, j < len → ∃ cs y, w.cells? base (a.add (j * ie.size)) ie.size = some cs ∧ DataW.trod enc P w base spare held n' e cs = some y := by
                intro j hj
                have hj2 := hcells j hj
                rw [List.getElem?_eq_getElem (by omega)] at hj2
                rw [Option.bind_eq_some_iff] at hj2
                obtain ⟨cs, q1, q2⟩ := hj2
                exact ⟨cs, _, q1, q2⟩
              have hspot : a.spot = none := by
                obtain ⟨cs, y, q1, _⟩ := hsome 0 hpos
                obtain ⟨_, hlen, hcc⟩ := World.cells?_some q1
                have q2 := hcc 0 (by omega)
                rw [List.getElem?_eq_getElem (by omega)] at q2
                have q3 : (a.add (0 * ie.size)).add 0 = a := by simp [Addr.add]
                rw [q3] at q2
                cases hsp : a.spot with
                | none => rfl
                | some s =>
                  unfold World.cell? at q2
                  split at q2
                  · simp [hsp] at q2
                  · cases q2
              obtain ⟨b, off, sp⟩ := a
              simp only at hspot; subst hspot
              obtain ⟨xs, f1, f2, f3⟩ := rd_elems (spare := spare) (held := held) (enc := enc) (P := P) (base := base) hie rfl he ih len 0 fun j _ hj => hsome j (by omega)
              have hr : RepC (allOf w) (.lst ie.size xs .no) [.slice (some ⟨b, off, none⟩) len cap] := by
                simp only [RepC, CapOK]
                refine ⟨_, rfl, trivial, .inr ⟨b, off, cap, by rw [f1], by rw [f1]; exact hlc, by simpa using f2⟩⟩
              refine ⟨.lst ie.size xs .no, i, hi, hr, ?_, by simp [hs], by simp [dcells, hs], ?_⟩
              · simp only [dcells, Reps]; exact ⟨_, _, rfl, ⟨hr, rfl, rfl⟩, rfl⟩
              · unfold GoodT; exact ⟨i, hi, by rw [hd]; exact ⟨ie, xs, hie, rfl, by rw [f1]; omega, f3⟩⟩
        · cases hsz
      · rename_i fs hd
        split at hok
        · rename_i tot hfo
          have hs := Nat.eq_of_beq_eq_true hok
          obtain ⟨gs, e1, e2⟩ := td_struct (h3.trans hd)
          obtain ⟨xs, n', hf, _, hl, hxl, hx⟩ := DataW.trod_struct (by rw [h2, e1]) h
          have : n' = n := by omega
          subst this
          rw [cellsOf_ti hT hi] at hl
          obtain ⟨_, ds, f1, f2, f3, f4⟩ := rd_fields hT (cs := cs) ih gs.toList 0 tot (by rw [e2]; exact hfo) (by omega) fun f hfm => by
            obtain ⟨j, hj⟩ := List.getElem?_of_mem hfm
            have hj' : gs[j]? = some f := by simpa using hj
            have q := hx j f hj'
            have hjl : j < xs.length := by rw [hxl]; exact (Array.getElem?_eq_some_iff.1 hj').1
            rw [List.getElem?_eq_getElem hjl] at q
            exact ⟨_, q⟩
          simp only [List.drop_zero, Nat.sub_zero] at f2 f3
          rw [List.take_of_length_le (by omega)] at f2
          refine ⟨.agg (ds.flatMap dcells), i, hi, by simp only [RepC]; exact f2, f2, hl, by simp only [dcells]; omega, ?_⟩
          unfold GoodT
          exact ⟨i, hi, by rw [hd]; exact ⟨ds, rfl, by rw [f1, ← e2]; simp, fun j f d0 q1 q2 => f4 j f d0 (by rw [e2]; exact q1) q2⟩⟩
        · cases hok
      · rename_i m e hd
        simp only [Bool.and_eq_true] at hok
        obtain ⟨he, hsz⟩ := hok
        split at hsz
        · rename_i ie hie
          have hsz := Nat.eq_of_beq_eq_true hsz
          obtain ⟨xs, n', hf, _, hl, hxl, hx⟩ := DataW.trod_array (by rw [h2, td_array (h3.trans hd)]) h
          have : n' = n := by omega
          subst this
          rw [cellsOf_ti hT hi] at hl
          rw [cellsOf_ti hT hie] at hx
          obtain ⟨ds, f1, f2, f3, f4⟩ := rd_arr (cs := cs) hie rfl he ih m 0 fun j _ hj => by
            have q := hx j (by omega)
            rw [List.getElem?_eq_getElem (by omega)] at q
            exact ⟨_, q⟩
          simp only [Nat.zero_mul, List.drop_zero] at f2
          rw [List.take_of_length_le (by omega)] at f2
          refine ⟨.agg (ds.flatMap dcells), i, hi, by simp only [RepC]; exact f2, f2, hl, by simp only [dcells]; omega, ?_⟩
          unfold GoodT
          exact ⟨i, hi, by rw [hd]; exact ⟨ds, rfl, f1, f4⟩⟩
        · cases hsz
      · cases hok
    · cases hok
/-- A value that is read. -/
theorem rd_val (hT : TabOK P tab) (hc : closedT tab ts = true) {t : TypeId} {v : Value} {d : DataW H} {ps : List MemPlace} (ht : ts.contains t = true) (_hv : one v = true ∨ ∃ cs, v = .agg cs) (h : DataW.Trod enc P w base spare held t v d ps) :
    ∃ n x, GoodT tab n t x ∧ (x.shape v = true → Rep (allOf w) x v) := by
  obtain ⟨n, hn⟩ := h
  obtain ⟨x, i, h1, h2, h3, h4, h5, h6⟩ := rd hT hc n t _ _ ht hn
  exact ⟨n, x, h6, fun hs => ⟨h2, hs⟩⟩
end
end Go.Proofs.Ytpapooaaccmnpaa.Ab
