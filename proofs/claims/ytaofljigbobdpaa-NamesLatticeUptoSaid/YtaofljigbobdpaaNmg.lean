/- Layer 7: what is read. -/
import Derived.Test.YtaofljigbobdpaaNq2
import Derived.Test.YtaofljigbobdpaaRb
import Derived.Test.YtaofljigbobdpaaFr
namespace Go.Proofs.Ytaofljigbobdpaa.Ab
open Go
set_option linter.all false
def wfTApiSet (x : TApiSet) : Prop := (x.gNames.length ≤ maxLen ∧ ∀ y ∈ x.gNames, y.size ≤ maxLen)
theorem goodTApiSet {n : Nat} {d : D} (g : GoodT tab n 25 d) : ∃ x : TApiSet, d = eTApiSet x ∧ wfTApiSet x := by
  obtain ⟨n', ds, _, rfl, hl, h⟩ := good_struct ti25 rfl g
  match ds, hl with
  | [d0, d1], _ =>
    obtain ⟨x1, rfl⟩ := good_bool ti4 rfl (h 0 _ _ rfl rfl)
    obtain ⟨n2, zs2, _, rfl, hl2, hz2⟩ := good_slice ti23 rfl ti9 (h 1 _ _ rfl rfl)
    obtain ⟨x2, rfl, w2⟩ := good_list (f := eStr) (K := (fun y => y.size ≤ maxLen)) (p := fun x => GoodT tab n2 9 x) (fun x hx => by obtain ⟨x3, rfl, w3⟩ := good_str ti9 rfl (hx); exact ⟨x3, rfl, w3⟩) zs2 hz2
    exact ⟨⟨x1, x2⟩, rfl, ⟨by simpa using hl2, w2⟩⟩
def wfL22 : List TApiSet → Prop := (fun y => (y.length ≤ maxLen ∧ ∀ z ∈ y, wfTApiSet z))
theorem goodL22 {n : Nat} {d : D} (g : GoodT tab n 22 d) : ∃ x : List TApiSet, d = .lst 2 (x.map eTApiSet) .no ∧ wfL22 x := by
  obtain ⟨n1, zs1, _, rfl, hl1, hz1⟩ := good_slice ti22 rfl ti25 (g)
  obtain ⟨x1, rfl, w1⟩ := good_list (f := eTApiSet) (K := (fun y => wfTApiSet y)) (p := fun x => GoodT tab n1 25 x) (fun x hx => by obtain ⟨x2, rfl, w2⟩ := goodTApiSet (hx); exact ⟨x2, rfl, w2⟩) zs1 hz1
  exact ⟨x1, rfl, ⟨by simpa using hl1, w1⟩⟩
theorem wts_str : ∀ l : List ByteArray, l.length ≤ wts (l.map eStr)
  | [] => by simp
  | s :: l => by
    have := wts_str l
    simp only [List.length_cons, List.map_cons, wts]
    have h : 1 ≤ wt (eStr s) := by unfold eStr; simp only [wt, wtv]; omega
    omega
theorem wt_set (a : TApiSet) : a.gNames.length + 1 ≤ wt (eTApiSet a) := by
  have := wts_str a.gNames
  unfold eTApiSet
  simp only [wt, wts, wtv]; omega
theorem NamesSets_true (a0 : TApiSet) (a1 : TApiSet) (a2 : ByteArray) (h : wt (eTApiSet a0) + wt (eTApiSet a1) + wt (.v (.string a2)) ≤ 1048576) (k0 : wfTApiSet a0) (k1 : wfTApiSet a1) {p : Prop} (k2 : p) : l07_NamesSets a0 a1 a2 = some true := by
  have h1 := wt_set a0
  have h2 := wt_set a1
  exact sets_law (by omega) (by omega) (by omega)
theorem NamesOnly_true (a0 : TApiSet) (a1 : TApiSet) (a2 : Bool) (h : wt (eTApiSet a0) + wt (eTApiSet a1) + wt (.v (.bool a2)) ≤ 1048576) (k0 : wfTApiSet a0) (k1 : wfTApiSet a1) : l07_NamesOnly a0 a1 a2 = some true := by
  have h1 := wt_set a0
  have h2 := wt_set a1
  exact only_law (by omega) (by omega) (by omega)
theorem NamesLattice_true (a0 : TApiSet) (a1 : TApiSet) (a2 : TApiSet) (h : wt (eTApiSet a0) + wt (eTApiSet a1) + wt (eTApiSet a2) ≤ 1048576) (k0 : wfTApiSet a0) (k1 : wfTApiSet a1) (k2 : wfTApiSet a2) : l07_NamesLattice a0 a1 a2 = some true := by
  have h1 := wt_set a0
  have h2 := wt_set a1
  have h3 := wt_set a2
  exact lattice_law (by omega)
theorem wts_sets : ∀ l : List TApiSet, l.length + totN l ≤ wts (l.map eTApiSet)
  | [] => by simp [totN]
  | a :: l => by
    have := wts_sets l
    have h := wt_set a
    simp only [List.length_cons, List.map_cons, wts, totN]
    omega
theorem NamesClimbs_true (a0 : List TApiSet) (h : wt (.lst 2 (a0.map eTApiSet) .no) ≤ 1048576) (k0 : wfL22 a0) : l07_NamesClimbs a0 = some true := by
  have h1 := wts_sets a0
  simp only [wt] at h
  exact climbs_law (by omega)
end Go.Proofs.Ytaofljigbobdpaa.Ab
