/- Opening an argument that is a slice of elements of several cells. Over any program. -/
import Derived.WalkKit
import Derived.ProofKit
import Derived.OpenShut
import Derived.Lib.SmallJoins
import Derived.Deep.Slices
import Derived.Deep.Fields
import Derived.Test.YtjjlhihocllgjaaGreatDoorPz01
namespace Go.Proofs.YtjjlhihocllgjaaGreatDoor.OpenG
open Go.ChangeShapes Go.WideShapes Go.ChangeAt Go.RowKit Go.Joins Go.Deep
theorem list_of {T : Type} {R : Nat → T → Prop} : ∀ n : Nat, (∀ i, i < n → ∃ x : T, R i x) → ∃ L : List T, L.length = n ∧ ∀ i (h : i < L.length), R i L[i]
  | 0, _ => ⟨[], rfl, fun i h => by simp at h⟩
  | n + 1, h => by
    obtain ⟨L, hl, hL⟩ := list_of n (fun i hi => h i (by omega))
    obtain ⟨x, hx⟩ := h n (by omega)
    refine ⟨L ++ [x], by simp [hl], fun i hi => ?_⟩
    by_cases e : i < L.length
    · rw [List.getElem_append_left e]
      exact hL i e
    · obtain rfl : i = L.length := by simp at hi; omega
      rw [List.getElem_append_right (Nat.le_refl _)]
      simp only [Nat.sub_self, List.getElem_cons_zero]
      rw [hl]
      exact hx
/-- the cells of a list of elements of K cells each, one by one -/
theorem flat_at {T : Type} {K : Nat} {c : T → List Value} (hc : ∀ t, (c t).length = K) : ∀ (L : List T) (j : Nat) (u : Value), (L.flatMap c)[j]? = some u → ∃ i r, ∃ h : i < L.length, r < K ∧ j = i * K + r ∧ (c L[i])[r]? = some u
  | [], j, u, h => by simp at h
  | t :: L, j, u, h => by
    rw [List.flatMap_cons] at h
    by_cases hj : j < K
    · rw [List.getElem?_append_left (by rw [hc]; exact hj)] at h
      exact ⟨0, j, by simp, hj, by simp, h⟩
    · rw [List.getElem?_append_right (by rw [hc]; omega), hc] at h
      obtain ⟨i, r, hi, hr, e, hu⟩ := flat_at hc L (j - K) u h
      exact ⟨i + 1, r, by simpa using hi, hr, by rw [Nat.succ_mul]; omega, by simpa using hu⟩
section
variable {H : Type} {enc : TypeId × Value → H} {P : Program} {w : World} {base : Nat} {spare : Nat → Bool} {held : Bool}
/-- the cells of an element, at an address without a spot -/
theorem cells_at {a : Addr} {n : Nat} {cs : List Value} (hn : 0 < n) (h : w.cells? base a n = some cs) : a.spot = none ∧ cs.length = n ∧ ∀ j, j < n → w.cell? ⟨a.block, a.off + j, none⟩ = cs[j]? := by
  obtain ⟨_, hl, hc⟩ := World.cells?_some h
  have h0 := hc 0 hn
  have hs : a.spot = none := by
    have e : cs[0]? = some (cs[0]'(by omega)) := List.getElem?_eq_getElem (by omega)
    rw [e] at h0
    have := World.cell?_spot h0
    simpa [Addr.add] using this
  refine ⟨hs, hl, fun j hj => ?_⟩
  rw [← hc j hj]
  obtain ⟨b, o, s⟩ := a
  subst hs
  rw [OpenAdd.add_at]
/-- what a list of elements says of a slice's datum -/
def Elems {T : Type} (Q : T → DataW H → Prop) (L : List T) (d : DataW H) : Prop :=
  (L = [] ∧ d = .nil) ∨ ∃ el sp, d = .slice el sp ∧ el.length = L.length ∧ ∀ i (h : i < L.length) (h' : i < el.length), Q L[i] el[i]
theorem open_list {T : Type} (K : Nat) (c : T → List Value) (Q : T → DataW H → Prop) (hK : 0 < K) (hc : ∀ t, (c t).length = K) {r : Reach} {b0 : Nat} {t e : TypeId} {v : Value} {d : DataW H} {ps : List MemPlace} (ht : P.underlying t = some (.slice e)) (hC : P.cellsOf e = K)
    (dec : ∀ fuel cs y, DataW.trod enc P w base spare held fuel e cs = some y → ∃ x : T, cs = c x ∧ Q x y.1)
    (hv : Value.okWide P w r b0 t v) (h : DataW.Trod enc P w base spare held t v d ps) :
    ∃ (A : Option Addr) (cap : Nat) (L : List T), v = .slice A L.length cap ∧ L.length ≤ cap ∧ cap ≤ maxLen ∧
      (0 < L.length → ∃ b o, A = some ⟨b, o, none⟩ ∧ b < w.heap.size ∧ ∀ j u, (L.flatMap c)[j]? = some u → w.cell? ⟨b, o + j, none⟩ = some u) ∧ Elems Q L d := by
  obtain ⟨a, n, cap, rfl⟩ := okWide_slice ht hv
  obtain ⟨fuel, hf⟩ := h
  rcases open_slice ht hf with ⟨hcs, hx⟩ | ⟨x, l, cp, m, k, D, Pl, hcs, _, hl, hm, hmm, hx, hi⟩
  · simp [Value.cells] at hcs
    obtain ⟨rfl, rfl, rfl⟩ := hcs
    simp only [Prod.mk.injEq] at hx
    exact ⟨none, 0, [], rfl, Nat.le_refl _, by unfold maxLen; omega, fun h => absurd h (by simp), .inl ⟨rfl, hx.1⟩⟩
  · simp [Value.cells] at hcs
    obtain ⟨rfl, rfl, rfl⟩ := hcs
    simp only [Prod.mk.injEq] at hx
    have hstep : ∀ i, i < n → ∃ y : T, w.cells? base (x.add (i * K)) K = some (c y) ∧ Q y (D i) := fun i hin => by
      have him : i < m := by rw [hmm]; split <;> omega
      obtain ⟨cs', h1, h2⟩ := hi i him
      obtain ⟨y, rfl, hq⟩ := dec _ _ _ h2
      rw [hC] at h1
      exact ⟨y, h1, hq⟩
    obtain ⟨L, hlen, hL⟩ := list_of n hstep
    refine ⟨some x, cap, L, by rw [hlen], by rw [hlen]; exact hl, hm, fun hn => ?_, .inr ⟨_, _, hx.1, by simp [hlen], fun i h1 h2 => ?_⟩⟩
    · have hs : x.spot = none := by
        have := (cells_at hK (hL 0 hn).1).1
        simpa [Addr.add] using this
      obtain ⟨b, off, sp⟩ := x
      subst hs
      have hcell : ∀ i (hi : i < L.length) r, r < K → w.cell? ⟨b, off + i * K + r, none⟩ = (c L[i])[r]? := fun i hi r hr => by
        have h1 := (hL i hi).1
        rw [OpenAdd.add_at] at h1
        exact (cells_at hK h1).2.2 r hr
      have hfirst : ∃ u, w.cell? ⟨b, off + 0 * K + 0, none⟩ = some u := by
        rw [hcell 0 hn 0 hK]
        exact ⟨_, List.getElem?_eq_getElem (by rw [hc]; exact hK)⟩
      obtain ⟨u0, hu0⟩ := hfirst
      refine ⟨b, off, rfl, block_lt_of_cell hu0, fun j u hj => ?_⟩
      obtain ⟨i, r, hi, hr, e, hu⟩ := flat_at hc L j u hj
      rw [e, ← Nat.add_assoc, hcell i hi r hr]
      exact hu
    · have := (hL i h1).2
      simpa using this
/-- one field of a struct of one-cell fields -/
theorem field_at {fs : Array Field} {cs : List Value} {xs : List (DataW H × List MemPlace)} {n : Nat} (hone : oneCellFields P fs = true)
    (hf : ∀ (i : Nat) (f : Field), fs[i]? = some f → DataW.trod enc P w base spare held n f.type ((cs.drop f.offset).take (P.cellsOf f.type)) = xs[i]?) (j : Nat) (f : Field) (hj : fs[j]? = some f) (hl : j < cs.length) (hx : j < xs.length) :
    DataW.trod enc P w base spare held n f.type [cs[j]] = some xs[j] := by
  obtain ⟨ho, hk⟩ := hone_of hone j f hj
  have h1 := hf j f hj
  rw [ho, hk] at h1
  have e : (cs.drop j).take 1 = [cs[j]] := by
    rw [List.drop_eq_getElem_cons hl]
    rfl
  rw [e, List.getElem?_eq_getElem hx] at h1
  exact h1
end
end Go.Proofs.YtjjlhihocllgjaaGreatDoor.OpenG
