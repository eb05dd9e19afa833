/- Opening a slice whose elements take one or several cells; a slice of strings. -/
import Derived.WalkKit
import Derived.ProofKit
import Derived.OpenShut
import Derived.Lib.SmallJoins
import Derived.Deep.Slices
import Derived.Test.YtnnakikhfacnpaaSumC
namespace Go.Proofs.Ytnnakikhfacnpaa.OpenE
open Go.ChangeShapes Go.WideShapes Go.ChangeAt Go.RowKit Go.Joins Go.Deep
open Go.ChangeMaps (open_string shut_string)
section
variable {H : Type} {enc : TypeId × Value → H} {P : Program} {w : World} {base : Nat} {spare : Nat → Bool} {held : Bool}
theorem open_elems {r : Reach} {b0 : Nat} {t e : TypeId} {v : Value} {d : DataW H} {ps : List MemPlace} (ht : P.underlying t = some (.slice e))
    (hv : Value.okWide P w r b0 t v) (h : DataW.Trod enc P w base spare held t v d ps) :
    ∃ (a : Option Addr) (n cap : Nat), v = .slice a n cap ∧ ((a = none ∧ n = 0 ∧ cap = 0) ∨ ∃ x, a = some x ∧ n ≤ cap ∧ cap ≤ maxLen ∧
      ∀ i, i < n → ∃ cs' y fuel, w.cells? base (x.add (i * P.cellsOf e)) (P.cellsOf e) = some cs' ∧ DataW.trod enc P w base spare held fuel e cs' = some y) := by
  obtain ⟨a, n, cap, rfl⟩ := okWide_slice ht hv
  refine ⟨a, n, cap, rfl, ?_⟩
  obtain ⟨fuel, hf⟩ := h
  rcases open_slice ht hf with ⟨hcs, _⟩ | ⟨x, l, c, m, k, D, Pl, hcs, _, hl, hm, hmm, _, hx⟩
  · simp [Value.cells] at hcs
    exact .inl hcs
  · simp [Value.cells] at hcs
    obtain ⟨rfl, rfl, rfl⟩ := hcs
    refine .inr ⟨x, rfl, hl, hm, fun i hi => ?_⟩
    have hi' : i < m := by rw [hmm]; split <;> omega
    obtain ⟨cs', h1, h2⟩ := hx i hi'
    exact ⟨cs', _, k, h1, h2⟩
/-- the cells of an element, at an address without a spot -/
theorem cells_at {a : Addr} {n : Nat} {cs : List Value} (hn : 0 < n) (h : w.cells? base a n = some cs) : a.spot = none ∧ cs.length = n ∧ ∀ j, j < n → w.cell? ⟨a.block, a.off + j, none⟩ = cs[j]? := by
  obtain ⟨_, hl, hc⟩ := World.cells?_some h
  have h0 := hc 0 hn
  have hs : a.spot = none := by
    have e : cs[0]? = some (cs[0]'(by omega)) := List.getElem?_eq_getElem (by omega)
    rw [e] at h0
    have := World.cell?_spot h0
    simpa [Addr.add] using this
  refine ⟨hs, hl, fun j hj => ?_⟩
  rw [← hc j hj]
  obtain ⟨b, o, s⟩ := a
  subst hs
  unfold Addr.add
  split
  · rename_i e; subst e; rfl
  · rfl
theorem add_at (b o k : Nat) : (⟨b, o, none⟩ : Addr).add k = ⟨b, o + k, none⟩ := by
  unfold Addr.add
  split
  · rename_i e; subst e; rfl
  · rfl
end


/-- an argument of the type of lists of strings -/
theorem open_strs {H : Type} {enc : TypeId × Value → H} {w : World} {spare : Nat → Bool} {held : Bool} {r : Reach} {b0 base : Nat} {v : Value} {d : DataW H} {ps : List MemPlace}
    (hv : Value.okWide Try.prog w r b0 58 v) (h : DataW.Trod enc Try.prog w base spare held 58 v d ps) :
    ∃ (a : Option Addr) (n cap : Nat) (ss : Nat → ByteArray), v = .slice a n cap ∧ Sum.IsStrs w a n cap ss := by
  have hC : Try.prog.cellsOf 9 = 1 := by kernel_rfl
  obtain ⟨a, n, cap, rfl, h1⟩ := open_elems Try.underlying58 hv h
  rcases h1 with ⟨rfl, rfl, rfl⟩ | ⟨x, rfl, hl, hm, hx⟩
  · exact ⟨none, 0, 0, fun _ => ByteArray.empty, rfl, .inl ⟨rfl, fun _ => rfl⟩⟩
  · by_cases hn : n = 0
    · subst hn
      exact ⟨some x, 0, cap, fun _ => ByteArray.empty, rfl, .inl ⟨rfl, fun h => by cases h⟩⟩
    · have hs : x.spot = none := by
        obtain ⟨cs', y, fuel, hc, ht⟩ := hx 0 (by omega)
        rw [hC] at hc
        have := (cells_at (by omega) hc).1
        simpa [Addr.add] using this
      obtain ⟨b, off, sp⟩ := x
      subst hs
      have hp : ∀ i, ∃ s : ByteArray, i < n → w.cell? ⟨b, off + i, none⟩ = some (.string s) ∧ s.size ≤ maxLen := by
        intro i
        by_cases hi : i < n
        · obtain ⟨cs', y, fuel, hc, ht⟩ := hx i hi
          rw [hC, Nat.mul_one, add_at] at hc
          obtain ⟨s, hcs, _, hsz⟩ := DataW.trod_string Try.underlying9 ht
          subst hcs
          obtain ⟨_, _, hj⟩ := cells_at (by omega) hc
          exact ⟨s, fun _ => ⟨hj 0 (by omega), hsz⟩⟩
        · exact ⟨ByteArray.empty, fun h => absurd h hi⟩
      exact ⟨some ⟨b, off, none⟩, n, cap, fun i => (hp i).choose, rfl, .inr ⟨by omega, hl, hm, b, off, rfl, fun i hi => (hp i).choose_spec hi⟩⟩
end Go.Proofs.Ytnnakikhfacnpaa.OpenE
