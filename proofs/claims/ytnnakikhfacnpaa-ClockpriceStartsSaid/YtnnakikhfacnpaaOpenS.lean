/- Opening a slice whose elements take several cells; a slice of products. -/
import Derived.WalkKit
import Derived.ProofKit
import Derived.OpenShut
import Derived.Lib.SmallJoins
import Derived.Deep.Slices
import Derived.Test.YtnnakikhfacnpaaClk8
namespace Go.Proofs.Ytnnakikhfacnpaa
open Go.ChangeShapes Go.WideShapes Go.ChangeAt Go.RowKit Go.Joins Go.Deep
open Go.ChangeMaps (open_string shut_string)
section
variable {H : Type} {enc : TypeId × Value → H} {P : Program} {w : World} {base : Nat} {spare : Nat → Bool} {held : Bool}
theorem open_elems {r : Reach} {b0 : Nat} {t e : TypeId} {v : Value} {d : DataW H} {ps : List MemPlace} (ht : P.underlying t = some (.slice e))
    (hv : Value.okWide P w r b0 t v) (h : DataW.Trod enc P w base spare held t v d ps) :
    ∃ (a : Option Addr) (n cap : Nat), v = .slice a n cap ∧ ((a = none ∧ n = 0 ∧ cap = 0) ∨ ∃ x, a = some x ∧ n ≤ cap ∧ cap ≤ maxLen ∧
      ∀ i, i < n → ∃ cs' y fuel, w.cells? base (x.add (i * P.cellsOf e)) (P.cellsOf e) = some cs' ∧ DataW.trod enc P w base spare held fuel e cs' = some y) := by
  obtain ⟨a, n, cap, rfl⟩ := okWide_slice ht hv
  refine ⟨a, n, cap, rfl, ?_⟩
  obtain ⟨fuel, hf⟩ := h
  rcases open_slice ht hf with ⟨hcs, _⟩ | ⟨x, l, c, m, k, D, Pl, hcs, _, hl, hm, hmm, _, hx⟩
  · simp [Value.cells] at hcs
    exact .inl hcs
  · simp [Value.cells] at hcs
    obtain ⟨rfl, rfl, rfl⟩ := hcs
    refine .inr ⟨x, rfl, hl, hm, fun i hi => ?_⟩
    have hi' : i < m := by rw [hmm]; split <;> omega
    obtain ⟨cs', h1, h2⟩ := hx i hi'
    exact ⟨cs', _, k, h1, h2⟩
/-- the cells of an element, at an address without a spot -/
theorem cells_at {a : Addr} {n : Nat} {cs : List Value} (hn : 0 < n) (h : w.cells? base a n = some cs) : a.spot = none ∧ cs.length = n ∧ ∀ j, j < n → w.cell? ⟨a.block, a.off + j, none⟩ = cs[j]? := by
  obtain ⟨_, hl, hc⟩ := World.cells?_some h
  have h0 := hc 0 hn
  have hs : a.spot = none := by
    have e : cs[0]? = some (cs[0]'(by omega)) := List.getElem?_eq_getElem (by omega)
    rw [e] at h0
    have := World.cell?_spot h0
    simpa [Addr.add] using this
  refine ⟨hs, hl, fun j hj => ?_⟩
  rw [← hc j hj]
  obtain ⟨b, o, s⟩ := a
  subst hs
  unfold Addr.add
  split
  · rename_i e; subst e; rfl
  · rfl
theorem add_at (b o k : Nat) : (⟨b, o, none⟩ : Addr).add k = ⟨b, o + k, none⟩ := by
  unfold Addr.add
  split
  · rename_i e; subst e; rfl
  · rfl
theorem list5 {α : Type} {cs : List α} (h : cs.length = 5) : ∃ c0 c1 c2 c3 c4, cs = [c0, c1, c2, c3, c4] := by
  match cs, h with
  | [c0, c1, c2, c3, c4], _ => exact ⟨c0, c1, c2, c3, c4, rfl⟩
/-- a struct of a string and four numbers, in five cells -/
theorem trod_prod {t : TypeId} {f0 f1 f2 f3 f4 : Field} {fuel : Nat} {cs : List Value} {x : DataW H × List MemPlace} (hs : P.underlying t = some (.struct #[f0, f1, f2, f3, f4])) (hone : oneCellFields P #[f0, f1, f2, f3, f4] = true) (hC : P.cellsOf t = 5)
    (k0 : P.underlying f0.type = some .string) (k1 : P.underlying f1.type = some (.int .i64)) (k2 : P.underlying f2.type = some (.int .i64)) (k3 : P.underlying f3.type = some (.int .i64)) (k4 : P.underlying f4.type = some (.int .i64))
    (h : DataW.trod enc P w base spare held fuel t cs = some x) : ∃ (nm : ByteArray) (a b c e : Int), cs = [.string nm, .int .i64 a, .int .i64 b, .int .i64 c, .int .i64 e] ∧ nm.size ≤ maxLen ∧
      (Lit.int .i64 a).wf = true ∧ (Lit.int .i64 b).wf = true ∧ (Lit.int .i64 c).wf = true ∧ (Lit.int .i64 e).wf = true := by
  obtain ⟨xs, n, _, _, hl, hlen, hf⟩ := DataW.trod_struct hs h
  obtain ⟨c0, c1, c2, c3, c4, rfl⟩ := list5 (hl.trans hC)
  obtain ⟨y0, y1, y2, y3, y4, rfl⟩ := list5 hlen
  obtain ⟨o0, z0⟩ := hone_of hone 0 f0 rfl
  obtain ⟨o1, z1⟩ := hone_of hone 1 f1 rfl
  obtain ⟨o2, z2⟩ := hone_of hone 2 f2 rfl
  obtain ⟨o3, z3⟩ := hone_of hone 3 f3 rfl
  obtain ⟨o4, z4⟩ := hone_of hone 4 f4 rfl
  have g0 := hf 0 f0 rfl
  have g1 := hf 1 f1 rfl
  have g2 := hf 2 f2 rfl
  have g3 := hf 3 f3 rfl
  have g4 := hf 4 f4 rfl
  rw [o0, z0] at g0
  rw [o1, z1] at g1
  rw [o2, z2] at g2
  rw [o3, z3] at g3
  rw [o4, z4] at g4
  obtain ⟨nm, e0, _, w0⟩ := DataW.trod_string k0 g0
  obtain ⟨a, e1, _, w1⟩ := DataW.trod_int k1 g1
  obtain ⟨b, e2, _, w2⟩ := DataW.trod_int k2 g2
  obtain ⟨c, e3, _, w3⟩ := DataW.trod_int k3 g3
  obtain ⟨e, e4, _, w4⟩ := DataW.trod_int k4 g4
  simp at e0 e1 e2 e3 e4
  subst e0 e1 e2 e3 e4
  exact ⟨nm, a, b, c, e, rfl, w0, w1, w2, w3, w4⟩
end
open Clk in
/-- an argument of the type of lists of products -/
theorem open_prods {H : Type} {enc : TypeId × Value → H} {w : World} {spare : Nat → Bool} {held : Bool} {r : Reach} {b0 base : Nat} {v : Value} {d : DataW H} {ps : List MemPlace}
    (hv : Value.okWide Try.prog w r b0 35 v) (h : DataW.Trod enc Try.prog w base spare held 35 v d ps) :
    ∃ (a : Option Addr) (n cap : Nat) (re : Nat → Int), v = .slice a n cap ∧ IsProds w a n cap re := by
  have hC : Try.prog.cellsOf 66 = 5 := by kernel_rfl
  obtain ⟨a, n, cap, rfl, h1⟩ := open_elems Try.underlying35 hv h
  rcases h1 with ⟨rfl, rfl, rfl⟩ | ⟨x, rfl, hl, hm, hx⟩
  · exact ⟨none, 0, 0, fun _ => 0, rfl, .inl ⟨rfl, fun _ => rfl⟩⟩
  · by_cases hn : n = 0
    · subst hn
      exact ⟨some x, 0, cap, fun _ => 0, rfl, .inl ⟨rfl, fun h => by cases h⟩⟩
    · have hs : x.spot = none := by
        obtain ⟨cs', y, fuel, hc, ht⟩ := hx 0 (by omega)
        rw [hC] at hc
        have := (cells_at (by omega) hc).1
        simpa [Addr.add] using this
      obtain ⟨b, off, sp⟩ := x
      subst hs
      have hp : ∀ i, i < n → ∃ y : ByteArray × Int × Int × Int × Int, ProdAt w b (off + i * 5) y.1 y.2.1 y.2.2.1 y.2.2.2.1 y.2.2.2.2 := by
        intro i hi
        obtain ⟨cs', y, fuel, hc, ht⟩ := hx i hi
        rw [hC, add_at] at hc
        obtain ⟨nm, a, b', c, e, rfl, _⟩ := trod_prod Try.underlying66 (by kernel_rfl) hC (by kernel_rfl) (by kernel_rfl) (by kernel_rfl) (by kernel_rfl) (by kernel_rfl) ht
        obtain ⟨_, _, hj⟩ := cells_at (by omega) hc
        exact ⟨(nm, a, b', c, e), hj 0 (by omega), hj 1 (by omega), hj 2 (by omega), hj 3 (by omega), hj 4 (by omega)⟩
      have hz : ∀ i, ∃ y : ByteArray × Int × Int × Int × Int, i < n → ProdAt w b (off + i * 5) y.1 y.2.1 y.2.2.1 y.2.2.2.1 y.2.2.2.2 := fun i =>
        if hi : i < n then (let ⟨y, hy⟩ := hp i hi; ⟨y, fun _ => hy⟩) else ⟨(ByteArray.empty, 0, 0, 0, 0), fun h => absurd h hi⟩
      exact ⟨some ⟨b, off, none⟩, n, cap, fun i => (hz i).choose.2.2.1, rfl, .inr ⟨by omega, hl, hm, b, off, fun i => (hz i).choose.1, fun i => (hz i).choose.2.1, fun i => (hz i).choose.2.2.2.1, fun i => (hz i).choose.2.2.2.2, rfl, fun i hi => (hz i).choose_spec hi⟩⟩
end Go.Proofs.Ytnnakikhfacnpaa
