/- Opening arguments: arrays of six numbers, structs of four numbers. Over any program. -/
import Derived.WalkKit
import Derived.ProofKit
import Derived.OpenShut
import Derived.Lib.SmallJoins
import Derived.Test.YtnnakikhfacnpaaClk2
namespace Go.Proofs.Ytnnakikhfacnpaa
open Go.ChangeShapes Go.WideShapes Go.ChangeAt Go.RowKit Go.Joins Go.Deep
section
variable {H : Type} {enc : TypeId × Value → H} {P : Program} {w : World} {base : Nat} {spare : Nat → Bool} {held : Bool}
theorem array6 {α : Type} {cs : Array α} (h : cs.size = 6) : ∃ c0 c1 c2 c3 c4 c5, cs = #[c0, c1, c2, c3, c4, c5] := by
  obtain ⟨l⟩ := cs
  match l, h with
  | [c0, c1, c2, c3, c4, c5], _ => exact ⟨c0, c1, c2, c3, c4, c5, rfl⟩
def sel6 (a b c d e f : Int) : Nat → Int
  | 0 => a
  | 1 => b
  | 2 => c
  | 3 => d
  | 4 => e
  | _ => f
theorem open_arr6 {r : Reach} {b0 : Nat} {t e : TypeId} {v : Value} {d : DataW H} {ps : List MemPlace} (ht : P.underlying t = some (.array 6 e)) (he : P.underlying e = some (.int .i64)) (hC : P.cellsOf t = 6) (hCe : P.cellsOf e = 1)
    (hv : Value.okWide P w r b0 t v) (h : DataW.Trod enc P w base spare held t v d ps) : ∃ p : Nat → Int, v = .agg (Clk.arr p) ∧ ∀ k, k < 6 → (Lit.int .i64 (p k)).wf = true := by
  have hcs : ∃ cs, v = .agg cs ∧ cs.size = P.cellsOf t := by
    simp only [Value.okWide, ht] at hv
    obtain ⟨cs, h1, h2, _⟩ := hv
    exact ⟨cs, h1, h2⟩
  obtain ⟨cs, rfl, hsz⟩ := hcs
  obtain ⟨c0, c1, c2, c3, c4, c5, rfl⟩ := array6 (hsz.trans hC)
  obtain ⟨fuel, hf⟩ := h
  obtain ⟨xs, m, _, _, _, hlen, hg⟩ := DataW.trod_array ht hf
  have step : ∀ i, i < 6 → ∃ n, ((([c0, c1, c2, c3, c4, c5] : List Value).drop (i * 1)).take 1) = [.int .i64 n] ∧ (Lit.int .i64 n).wf = true := by
    intro i hi
    have h1 := hg i hi
    rw [hCe] at h1
    have h2 : xs[i]? = some (xs[i]'(by omega)) := List.getElem?_eq_getElem (by omega)
    rw [h2] at h1
    obtain ⟨n, e1, _, wn⟩ := DataW.trod_int he h1
    exact ⟨n, by simpa [Value.cells] using e1, wn⟩
  obtain ⟨n0, e0, w0⟩ := step 0 (by omega)
  obtain ⟨n1, e1, w1⟩ := step 1 (by omega)
  obtain ⟨n2, e2, w2⟩ := step 2 (by omega)
  obtain ⟨n3, e3, w3⟩ := step 3 (by omega)
  obtain ⟨n4, e4, w4⟩ := step 4 (by omega)
  obtain ⟨n5, e5, w5⟩ := step 5 (by omega)
  simp at e0 e1 e2 e3 e4 e5
  subst e0 e1 e2 e3 e4 e5
  refine ⟨sel6 n0 n1 n2 n3 n4 n5, rfl, ?_⟩
  intro k hk
  obtain rfl | rfl | rfl | rfl | rfl | rfl : k = 0 ∨ k = 1 ∨ k = 2 ∨ k = 3 ∨ k = 4 ∨ k = 5 := by omega
  all_goals assumption
/-- a struct of four numbers -/
theorem open_ints4 {r : Reach} {b0 : Nat} {t : TypeId} {f0 f1 f2 f3 : Field} {v : Value} {d : DataW H} {p : List MemPlace} (hs : P.underlying t = some (.struct #[f0, f1, f2, f3])) (hone : oneCellFields P #[f0, f1, f2, f3] = true) (hC : P.cellsOf t = 4)
    (k0 : P.underlying f0.type = some (.int .i64)) (k1 : P.underlying f1.type = some (.int .i64)) (k2 : P.underlying f2.type = some (.int .i64)) (k3 : P.underlying f3.type = some (.int .i64))
    (hv : Value.okWide P w r b0 t v) (h : DataW.Trod enc P w base spare held t v d p) : ∃ a b c e : Int, v = .agg #[.int .i64 a, .int .i64 b, .int .i64 c, .int .i64 e] := by
  obtain ⟨v0, v1, v2, v3, y0, y1, y2, y3, n, rfl, _, _, h0, h1, h2, h3⟩ := Joins.open_agg4 hs hone hC hv h
  obtain ⟨a, e0, _, _⟩ := DataW.trod_int k0 h0
  obtain ⟨b, e1, _, _⟩ := DataW.trod_int k1 h1
  obtain ⟨c, e2, _, _⟩ := DataW.trod_int k2 h2
  obtain ⟨e, e3, _, _⟩ := DataW.trod_int k3 h3
  simp at e0 e1 e2 e3
  subst e0 e1 e2 e3
  exact ⟨a, b, c, e, rfl⟩
end
end Go.Proofs.Ytnnakikhfacnpaa
