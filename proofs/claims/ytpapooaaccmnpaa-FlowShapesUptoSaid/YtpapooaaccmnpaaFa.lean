/- Arguments that are read: what they stand for. Over any program. -/
import Derived.Test.YtpapooaaccmnpaaRd
namespace Go.Proofs.Ytpapooaaccmnpaa.Ab
open Go
set_option linter.all false

section
variable {P : Program} {tab : List (Option TI)} {n t : Nat} {i : TI} {d : D}
theorem good_int {k : IntKind} (hi : ti tab t = some i) (hd : i.d = .int k) (g : GoodT tab n t d) : ∃ m, d = .v (.int k m) ∧ (Lit.int k m).wf = true := by
  cases n with
  | zero => simp [GoodT] at g
  | succ n =>
    unfold GoodT at g
    obtain ⟨i', h1, h2⟩ := g
    rw [hi] at h1; cases h1
    rw [hd] at h2; exact h2
theorem good_bool (hi : ti tab t = some i) (hd : i.d = .bool) (g : GoodT tab n t d) : ∃ b, d = .v (.bool b) := by
  cases n with
  | zero => simp [GoodT] at g
  | succ n =>
    unfold GoodT at g
    obtain ⟨i', h1, h2⟩ := g
    rw [hi] at h1; cases h1
    rw [hd] at h2; exact h2
theorem good_str (hi : ti tab t = some i) (hd : i.d = .str) (g : GoodT tab n t d) : ∃ s : ByteArray, d = .v (.string s) ∧ s.size ≤ maxLen := by
  cases n with
  | zero => simp [GoodT] at g
  | succ n =>
    unfold GoodT at g
    obtain ⟨i', h1, h2⟩ := g
    rw [hi] at h1; cases h1
    rw [hd] at h2; exact h2
theorem good_slice {e : Nat} {ie : TI} (hi : ti tab t = some i) (hd : i.d = .slice e) (he : ti tab e = some ie) (g : GoodT tab n t d) : ∃ (n' : Nat) (xs : List D), n = n' + 1 ∧ d = .lst ie.size xs .no ∧ xs.length ≤ maxLen ∧ ∀ x ∈ xs, GoodT tab n' e x := by
  cases n with
  | zero => simp [GoodT] at g
  | succ n =>
    unfold GoodT at g
    obtain ⟨i', h1, h2⟩ := g
    rw [hi] at h1; cases h1
    rw [hd] at h2
    obtain ⟨ie', xs, h3, h4, h5, h6⟩ := h2
    rw [he] at h3; cases h3
    exact ⟨n, xs, rfl, h4, h5, h6⟩
theorem good_struct {fs : List (Nat × Nat)} (hi : ti tab t = some i) (hd : i.d = .struct fs) (g : GoodT tab n t d) : ∃ (n' : Nat) (ds : List D), n = n' + 1 ∧ d = .agg (ds.flatMap dcells) ∧ ds.length = fs.length ∧ ∀ (j : Nat) (f : Nat × Nat) (d0 : D), fs[j]? = some f → ds[j]? = some d0 → GoodT tab n' f.1 d0 := by
  cases n with
  | zero => simp [GoodT] at g
  | succ n =>
    unfold GoodT at g
    obtain ⟨i', h1, h2⟩ := g
    rw [hi] at h1; cases h1
    rw [hd] at h2
    obtain ⟨ds, h4, h5, h6⟩ := h2
    exact ⟨n, ds, rfl, h4, h5, h6⟩
theorem good_array {m e : Nat} (hi : ti tab t = some i) (hd : i.d = .array m e) (g : GoodT tab n t d) : ∃ (n' : Nat) (ds : List D), n = n' + 1 ∧ d = .agg (ds.flatMap dcells) ∧ ds.length = m ∧ ∀ x ∈ ds, GoodT tab n' e x := by
  cases n with
  | zero => simp [GoodT] at g
  | succ n =>
    unfold GoodT at g
    obtain ⟨i', h1, h2⟩ := g
    rw [hi] at h1; cases h1
    rw [hd] at h2
    obtain ⟨ds, h4, h5, h6⟩ := h2
    exact ⟨n, ds, rfl, h4, h5, h6⟩
theorem good_u8 (hi : ti tab t = some i) (hd : i.d = .int .u8) (g : GoodT tab n t d) : ∃ c : UInt8, d = byteD c := by
  obtain ⟨m, rfl, h⟩ := good_int hi hd g
  simp [Lit.wf, IntKind.min, IntKind.max, IntKind.signed, IntKind.bits] at h
  refine ⟨UInt8.ofNat m.toNat, ?_⟩
  unfold byteD
  have e : ((UInt8.ofNat m.toNat).toNat : Int) = m := by
    rw [UInt8.toNat_ofNat']
    omega
  rw [e]
theorem good_list {α : Type} {f : α → D} {K : α → Prop} {p : D → Prop} (h : ∀ x, p x → ∃ y, x = f y ∧ K y) : ∀ (xs : List D), (∀ x ∈ xs, p x) → ∃ ys : List α, xs = ys.map f ∧ ∀ y ∈ ys, K y
  | [], _ => ⟨[], rfl, by simp⟩
  | x :: xs, hx => by
    obtain ⟨y, rfl, hy⟩ := h x (hx x (by simp))
    obtain ⟨ys, rfl, hys⟩ := good_list h xs fun z hz => hx z (by simp [hz])
    refine ⟨y :: ys, rfl, fun z hz => ?_⟩
    rcases List.mem_cons.1 hz with rfl | hz
    · exact hy
    · exact hys z hz
theorem shape_of {w : World} {r : Reach} {base : Nat} {v : Value} (hT : TabOK P tab) (hv : Value.okWide P w r base t v) (g : GoodT tab n t d) : d.shape v = true := by
  cases n with
  | zero => simp [GoodT] at g
  | succ n =>
    unfold GoodT at g
    obtain ⟨i, hi, g⟩ := g
    obtain ⟨tf, z, dd, h1, h2, h3, _⟩ := tiOf_inv (ti_ok hT hi)
    unfold Value.okWide at hv
    rw [h2] at hv
    split at g
    · rename_i hd
      have := td_bool (h3.trans hd); subst this
      obtain ⟨b, rfl⟩ := g
      cases v <;> first | rfl | (simp [Cell.okWide, Cell.ok, h2] at hv)
    · rename_i k hd
      have := td_int (h3.trans hd); subst this
      obtain ⟨b, rfl, _⟩ := g
      cases v <;> first | rfl | (simp [Cell.okWide, Cell.ok, h2] at hv)
    · rename_i hd
      have := td_str (h3.trans hd); subst this
      obtain ⟨b, rfl, _⟩ := g
      cases v <;> first | rfl | (simp [Cell.okWide, Cell.ok, h2] at hv)
    · rename_i e hd
      have := td_slice (h3.trans hd); subst this
      obtain ⟨ie, xs, _, rfl, _⟩ := g
      cases v <;> first | rfl | (simp [Cell.okWide, Cell.ok, h2] at hv)
    · rename_i fs hd
      obtain ⟨gs, rfl, _⟩ := td_struct (h3.trans hd)
      obtain ⟨ds, rfl, _⟩ := g
      simp only at hv
      obtain ⟨cs, rfl, _⟩ := hv
      rfl
    · rename_i m e hd
      have := td_array (h3.trans hd); subst this
      obtain ⟨ds, rfl, _⟩ := g
      simp only at hv
      obtain ⟨cs, rfl, _⟩ := hv
      rfl
    · exact g.elim
theorem rd_arg {H : Type} {enc : TypeId × Value → H} {w : World} {base : Nat} {spare : Nat → Bool} {held : Bool} {v : Value} {x : DataW H} {ps : List MemPlace} {r : Reach} {b0 : Nat} (hT : TabOK P tab) (ts : List Nat) (hc : closedT tab ts = true) (ht : ts.contains t = true)
    (hv : Value.okWide P w r b0 t v) (h : DataW.Trod enc P w base spare held t v x ps) : ∃ n d, GoodT tab n t d ∧ Rep (allOf w) d v := by
  obtain ⟨n, hn⟩ := h
  obtain ⟨d, i, h1, h2, h3, h4, h5, h6⟩ := rd hT hc n t _ _ ht hn
  exact ⟨n, d, h6, h2, shape_of hT hv h6⟩
end
end Go.Proofs.Ytpapooaaccmnpaa.Ab
