/- Opening an argument that is a list of products, or a bundle. -/
import Derived.Test.YtjjlhihocllgjaaGreatDoorOpenG
import Derived.Test.YtjjlhihocllgjaaGreatDoorPz04
namespace Go.Proofs.YtjjlhihocllgjaaGreatDoor.OpenC
open Go.ChangeShapes Go.WideShapes Go.ChangeAt Go.RowKit Go.Joins Go.Deep
open Cat
section
variable {H : Type} {enc : TypeId × Value → H} {w : World} {base : Nat} {spare : Nat → Bool} {held : Bool}
section
variable {P : Program}
theorem array6 {α : Type} {cs : Array α} (h : cs.size = 6) : ∃ c0 c1 c2 c3 c4 c5, cs = #[c0, c1, c2, c3, c4, c5] := by
  obtain ⟨l⟩ := cs
  match l, h with
  | [c0, c1, c2, c3, c4, c5], _ => exact ⟨c0, c1, c2, c3, c4, c5, rfl⟩
def sel6 (a b c d e f : Int) : Nat → Int
  | 0 => a
  | 1 => b
  | 2 => c
  | 3 => d
  | 4 => e
  | _ => f
theorem open_arr6 {r : Reach} {b0 : Nat} {t e : TypeId} {v : Value} {d : DataW H} {ps : List MemPlace} (ht : P.underlying t = some (.array 6 e)) (he : P.underlying e = some (.int .i64)) (hC : P.cellsOf t = 6) (hCe : P.cellsOf e = 1)
    (hv : Value.okWide P w r b0 t v) (h : DataW.Trod enc P w base spare held t v d ps) : ∃ p : Nat → Int, v = .agg (Cat.arr p) ∧ ∀ k, k < 6 → (Lit.int .i64 (p k)).wf = true := by
  have hcs : ∃ cs, v = .agg cs ∧ cs.size = P.cellsOf t := by
    simp only [Value.okWide, ht] at hv
    obtain ⟨cs, h1, h2, _⟩ := hv
    exact ⟨cs, h1, h2⟩
  obtain ⟨cs, rfl, hsz⟩ := hcs
  obtain ⟨c0, c1, c2, c3, c4, c5, rfl⟩ := array6 (hsz.trans hC)
  obtain ⟨fuel, hf⟩ := h
  obtain ⟨xs, m, _, _, _, hlen, hg⟩ := DataW.trod_array ht hf
  have step : ∀ i, i < 6 → ∃ n, ((([c0, c1, c2, c3, c4, c5] : List Value).drop (i * 1)).take 1) = [.int .i64 n] ∧ (Lit.int .i64 n).wf = true := by
    intro i hi
    have h1 := hg i hi
    rw [hCe] at h1
    have h2 : xs[i]? = some (xs[i]'(by omega)) := List.getElem?_eq_getElem (by omega)
    rw [h2] at h1
    obtain ⟨n, e1, _, wn⟩ := DataW.trod_int he h1
    exact ⟨n, by simpa [Value.cells] using e1, wn⟩
  obtain ⟨n0, e0, w0⟩ := step 0 (by omega)
  obtain ⟨n1, e1, w1⟩ := step 1 (by omega)
  obtain ⟨n2, e2, w2⟩ := step 2 (by omega)
  obtain ⟨n3, e3, w3⟩ := step 3 (by omega)
  obtain ⟨n4, e4, w4⟩ := step 4 (by omega)
  obtain ⟨n5, e5, w5⟩ := step 5 (by omega)
  simp at e0 e1 e2 e3 e4 e5
  subst e0 e1 e2 e3 e4 e5
  refine ⟨sel6 n0 n1 n2 n3 n4 n5, rfl, ?_⟩
  intro k hk
  obtain rfl | rfl | rfl | rfl | rfl | rfl : k = 0 ∨ k = 1 ∨ k = 2 ∨ k = 3 ∨ k = 4 ∨ k = 5 := by omega
  all_goals assumption
end
theorem prod_fields : ∃ f0 f1 f2 f3 f4 : Field, Tryz.prog.underlying 82 = some (.struct #[f0, f1, f2, f3, f4]) ∧ oneCellFields Tryz.prog #[f0, f1, f2, f3, f4] = true ∧ Tryz.prog.underlying f0.type = some .string ∧ Tryz.prog.underlying f1.type = some (.int .i64) ∧ Tryz.prog.underlying f2.type = some (.int .i64) ∧ Tryz.prog.underlying f3.type = some (.int .i64) ∧ Tryz.prog.underlying f4.type = some (.int .i64) :=
  ⟨_, _, _, _, _, Tryz.underlying82, by kernel_rfl, by kernel_rfl, by kernel_rfl, by kernel_rfl, by kernel_rfl, by kernel_rfl⟩
def ProdD (t : Prod) (_ : DataW H) : Prop := t.name.size ≤ maxLen
set_option maxRecDepth 100000 in
theorem dec_prod (fuel : Nat) (cs : List Value) (y : DataW H × List MemPlace) (h : DataW.trod enc Tryz.prog w base spare held fuel 82 cs = some y) : ∃ t : Prod, cs = t.cells ∧ ProdD t y.1 := by
  obtain ⟨f0, f1, f2, f3, f4, hs, hone, k0, k1, k2, k3, k4⟩ := prod_fields
  obtain ⟨xs, n, _, rfl, hl, hxl, hf⟩ := DataW.trod_struct hs h
  have hC : Tryz.prog.cellsOf 82 = 5 := by kernel_rfl
  rw [hC] at hl
  match cs, hl, xs, hxl, hf with
  | [c0, c1, c2, c3, c4], _, [x0, x1, x2, x3, x4], _, hf =>
    obtain ⟨s, e0, _, z1⟩ := DataW.trod_string k0 (OpenG.field_at hone hf 0 f0 rfl (by simp) (by simp))
    obtain ⟨a, e1, _, _⟩ := DataW.trod_int k1 (OpenG.field_at hone hf 1 f1 rfl (by simp) (by simp))
    obtain ⟨b, e2, _, _⟩ := DataW.trod_int k2 (OpenG.field_at hone hf 2 f2 rfl (by simp) (by simp))
    obtain ⟨c, e3, _, _⟩ := DataW.trod_int k3 (OpenG.field_at hone hf 3 f3 rfl (by simp) (by simp))
    obtain ⟨e, e4, _, _⟩ := DataW.trod_int k4 (OpenG.field_at hone hf 4 f4 rfl (by simp) (by simp))
    simp at e0 e1 e2 e3 e4
    subst e0 e1 e2 e3 e4
    exact ⟨⟨s, a, b, c, e⟩, rfl, z1⟩
theorem elems_all {T : Type} {p : T → Prop} {L : List T} {d : DataW H} (h : OpenG.Elems (fun t (_ : DataW H) => p t) L d) : ∀ t ∈ L, p t := by
  rcases h with ⟨rfl, _⟩ | ⟨el, sp, _, hl, hq⟩
  · intro t ht; cases ht
  · intro t ht
    obtain ⟨i, hi, rfl⟩ := List.getElem_of_mem ht
    exact hq i hi (by omega)
set_option maxRecDepth 100000 in
theorem open_prodL {r : Reach} {b0 : Nat} {v : Value} {d : DataW H} {ps : List MemPlace} (hv : Value.okWide Tryz.prog w r b0 22 v) (h : DataW.Trod enc Tryz.prog w base spare held 22 v d ps) :
    ∃ L : List Prod, PS w v L ∧ ∀ p ∈ L, p.name.size ≤ maxLen := by
  obtain ⟨A, cap, L, rfl, h1, h2, h3, h4⟩ := OpenG.open_list 5 Prod.cells ProdD (by decide) (fun _ => rfl) Tryz.underlying22 (by kernel_rfl) dec_prod hv h
  exact ⟨L, ⟨prodCells_len L, A, cap, rfl, h1, h2, h3⟩, elems_all h4⟩
end
end Go.Proofs.YtjjlhihocllgjaaGreatDoor.OpenC
