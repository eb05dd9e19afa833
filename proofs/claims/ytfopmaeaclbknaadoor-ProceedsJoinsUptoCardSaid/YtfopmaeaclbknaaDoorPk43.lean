/- Opening an argument that is a slice of elements of several cells. Over any program. Opening an argument that is a list of products, or a bundle. Opening an argument that is a slice of integers, or a fraction. Opening an argument that is a sale, a list of sellers, of invoices or of shares. -/
import Derived.WalkKit
import Derived.ProofKit
import Derived.OpenShut
import Derived.Lib.SmallJoins
import Derived.Deep.Slices
import Derived.Deep.Fields
import Derived.Test.YtfopmaeaclbknaaDoorPk00
import Derived.Test.YtfopmaeaclbknaaDoorPk15
import Derived.Test.YtfopmaeaclbknaaDoorPk01
import Derived.Test.YtfopmaeaclbknaaDoorPk12
import Derived.Test.YtfopmaeaclbknaaDoorPk42
import Derived.SizedLaws
namespace Go.Proofs.YtfopmaeaclbknaaDoor.OpenG
open Go.ChangeShapes Go.WideShapes Go.ChangeAt Go.RowKit Go.Joins Go.Deep
theorem list_of {T : Type} {R : Nat → T → Prop} : ∀ n : Nat, (∀ i, i < n → ∃ x : T, R i x) → ∃ L : List T, L.length = n ∧ ∀ i (h : i < L.length), R i L[i]
  | 0, _ => ⟨[], rfl, fun i h => by simp at h⟩
  | n + 1, h => by
    obtain ⟨L, hl, hL⟩ := list_of n (fun i hi => h i (by omega))
    obtain ⟨x, hx⟩ := h n (by omega)
    refine ⟨L ++ [x], by simp [hl], fun i hi => ?_⟩
    by_cases e : i < L.length
    · rw [List.getElem_append_left e]
      exact hL i e
    · obtain rfl : i = L.length := by simp at hi; omega
      rw [List.getElem_append_right (Nat.le_refl _)]
      simp only [Nat.sub_self, List.getElem_cons_zero]
      rw [hl]
      exact hx
/-- the cells of a list of elements of K cells each, one by one -/
theorem flat_at {T : Type} {K : Nat} {c : T → List Value} (hc : ∀ t, (c t).length = K) : ∀ (L : List T) (j : Nat) (u : Value), (L.flatMap c)[j]? = some u → ∃ i r, ∃ h : i < L.length, r < K ∧ j = i * K + r ∧ (c L[i])[r]? = some u
  | [], j, u, h => by simp at h
  | t :: L, j, u, h => by
    rw [List.flatMap_cons] at h
    by_cases hj : j < K
    · rw [List.getElem?_append_left (by rw [hc]; exact hj)] at h
      exact ⟨0, j, by simp, hj, by simp, h⟩
    · rw [List.getElem?_append_right (by rw [hc]; omega), hc] at h
      obtain ⟨i, r, hi, hr, e, hu⟩ := flat_at hc L (j - K) u h
      exact ⟨i + 1, r, by simpa using hi, hr, by rw [Nat.succ_mul]; omega, by simpa using hu⟩
section
variable {H : Type} {enc : TypeId × Value → H} {P : Program} {w : World} {base : Nat} {spare : Nat → Bool} {held : Bool}
/-- the cells of an element, at an address without a spot -/
theorem cells_at {a : Addr} {n : Nat} {cs : List Value} (hn : 0 < n) (h : w.cells? base a n = some cs) : a.spot = none ∧ cs.length = n ∧ ∀ j, j < n → w.cell? ⟨a.block, a.off + j, none⟩ = cs[j]? := by
  obtain ⟨_, hl, hc⟩ := World.cells?_some h
  have h0 := hc 0 hn
  have hs : a.spot = none := by
    have e : cs[0]? = some (cs[0]'(by omega)) := List.getElem?_eq_getElem (by omega)
    rw [e] at h0
    have := World.cell?_spot h0
    simpa [Addr.add] using this
  refine ⟨hs, hl, fun j hj => ?_⟩
  rw [← hc j hj]
  obtain ⟨b, o, s⟩ := a
  subst hs
  rw [OpenAdd.add_at]
/-- what a list of elements says of a slice's datum -/
def Elems {T : Type} (Q : T → DataW H → Prop) (L : List T) (d : DataW H) : Prop :=
  (L = [] ∧ d = .nil) ∨ ∃ el sp, d = .slice el sp ∧ el.length = L.length ∧ ∀ i (h : i < L.length) (h' : i < el.length), Q L[i] el[i]
theorem open_list {T : Type} (K : Nat) (c : T → List Value) (Q : T → DataW H → Prop) (hK : 0 < K) (hc : ∀ t, (c t).length = K) {r : Reach} {b0 : Nat} {t e : TypeId} {v : Value} {d : DataW H} {ps : List MemPlace} (ht : P.underlying t = some (.slice e)) (hC : P.cellsOf e = K)
    (dec : ∀ fuel cs y, DataW.trod enc P w base spare held fuel e cs = some y → ∃ x : T, cs = c x ∧ Q x y.1)
    (hv : Value.okWide P w r b0 t v) (h : DataW.Trod enc P w base spare held t v d ps) :
    ∃ (A : Option Addr) (cap : Nat) (L : List T), v = .slice A L.length cap ∧ L.length ≤ cap ∧ cap ≤ maxLen ∧
      (0 < L.length → ∃ b o, A = some ⟨b, o, none⟩ ∧ b < w.heap.size ∧ ∀ j u, (L.flatMap c)[j]? = some u → w.cell? ⟨b, o + j, none⟩ = some u) ∧ Elems Q L d := by
  obtain ⟨a, n, cap, rfl⟩ := okWide_slice ht hv
  obtain ⟨fuel, hf⟩ := h
  rcases open_slice ht hf with ⟨hcs, hx⟩ | ⟨x, l, cp, m, k, D, Pl, hcs, _, hl, hm, hmm, hx, hi⟩
  · simp [Value.cells] at hcs
    obtain ⟨rfl, rfl, rfl⟩ := hcs
    simp only [Prod.mk.injEq] at hx
    exact ⟨none, 0, [], rfl, Nat.le_refl _, by unfold maxLen; omega, fun h => absurd h (by simp), .inl ⟨rfl, hx.1⟩⟩
  · simp [Value.cells] at hcs
    obtain ⟨rfl, rfl, rfl⟩ := hcs
    simp only [Prod.mk.injEq] at hx
    have hstep : ∀ i, i < n → ∃ y : T, w.cells? base (x.add (i * K)) K = some (c y) ∧ Q y (D i) := fun i hin => by
      have him : i < m := by rw [hmm]; split <;> omega
      obtain ⟨cs', h1, h2⟩ := hi i him
      obtain ⟨y, rfl, hq⟩ := dec _ _ _ h2
      rw [hC] at h1
      exact ⟨y, h1, hq⟩
    obtain ⟨L, hlen, hL⟩ := list_of n hstep
    refine ⟨some x, cap, L, by rw [hlen], by rw [hlen]; exact hl, hm, fun hn => ?_, .inr ⟨_, _, hx.1, by simp [hlen], fun i h1 h2 => ?_⟩⟩
    · have hs : x.spot = none := by
        have := (cells_at hK (hL 0 hn).1).1
        simpa [Addr.add] using this
      obtain ⟨b, off, sp⟩ := x
      subst hs
      have hcell : ∀ i (hi : i < L.length) r, r < K → w.cell? ⟨b, off + i * K + r, none⟩ = (c L[i])[r]? := fun i hi r hr => by
        have h1 := (hL i hi).1
        rw [OpenAdd.add_at] at h1
        exact (cells_at hK h1).2.2 r hr
      have hfirst : ∃ u, w.cell? ⟨b, off + 0 * K + 0, none⟩ = some u := by
        rw [hcell 0 hn 0 hK]
        exact ⟨_, List.getElem?_eq_getElem (by rw [hc]; exact hK)⟩
      obtain ⟨u0, hu0⟩ := hfirst
      refine ⟨b, off, rfl, block_lt_of_cell hu0, fun j u hj => ?_⟩
      obtain ⟨i, r, hi, hr, e, hu⟩ := flat_at hc L j u hj
      rw [e, ← Nat.add_assoc, hcell i hi r hr]
      exact hu
    · have := (hL i h1).2
      simpa using this
/-- one field of a struct of one-cell fields -/
theorem field_at {fs : Array Field} {cs : List Value} {xs : List (DataW H × List MemPlace)} {n : Nat} (hone : oneCellFields P fs = true)
    (hf : ∀ (i : Nat) (f : Field), fs[i]? = some f → DataW.trod enc P w base spare held n f.type ((cs.drop f.offset).take (P.cellsOf f.type)) = xs[i]?) (j : Nat) (f : Field) (hj : fs[j]? = some f) (hl : j < cs.length) (hx : j < xs.length) :
    DataW.trod enc P w base spare held n f.type [cs[j]] = some xs[j] := by
  obtain ⟨ho, hk⟩ := hone_of hone j f hj
  have h1 := hf j f hj
  rw [ho, hk] at h1
  have e : (cs.drop j).take 1 = [cs[j]] := by
    rw [List.drop_eq_getElem_cons hl]
    rfl
  rw [e, List.getElem?_eq_getElem hx] at h1
  exact h1
end
end Go.Proofs.YtfopmaeaclbknaaDoor.OpenG
namespace Go.Proofs.YtfopmaeaclbknaaDoor.OpenC
open Go.ChangeShapes Go.WideShapes Go.ChangeAt Go.RowKit Go.Joins Go.Deep
open Cat
section
variable {H : Type} {enc : TypeId × Value → H} {w : World} {base : Nat} {spare : Nat → Bool} {held : Bool}
section
variable {P : Program}
theorem array6 {α : Type} {cs : Array α} (h : cs.size = 6) : ∃ c0 c1 c2 c3 c4 c5, cs = #[c0, c1, c2, c3, c4, c5] := by
  obtain ⟨l⟩ := cs
  match l, h with
  | [c0, c1, c2, c3, c4, c5], _ => exact ⟨c0, c1, c2, c3, c4, c5, rfl⟩
def sel6 (a b c d e f : Int) : Nat → Int
  | 0 => a
  | 1 => b
  | 2 => c
  | 3 => d
  | 4 => e
  | _ => f
theorem open_arr6 {r : Reach} {b0 : Nat} {t e : TypeId} {v : Value} {d : DataW H} {ps : List MemPlace} (ht : P.underlying t = some (.array 6 e)) (he : P.underlying e = some (.int .i64)) (hC : P.cellsOf t = 6) (hCe : P.cellsOf e = 1)
    (hv : Value.okWide P w r b0 t v) (h : DataW.Trod enc P w base spare held t v d ps) : ∃ p : Nat → Int, v = .agg (Cat.arr p) ∧ ∀ k, k < 6 → (Lit.int .i64 (p k)).wf = true := by
  have hcs : ∃ cs, v = .agg cs ∧ cs.size = P.cellsOf t := by
    simp only [Value.okWide, ht] at hv
    obtain ⟨cs, h1, h2, _⟩ := hv
    exact ⟨cs, h1, h2⟩
  obtain ⟨cs, rfl, hsz⟩ := hcs
  obtain ⟨c0, c1, c2, c3, c4, c5, rfl⟩ := array6 (hsz.trans hC)
  obtain ⟨fuel, hf⟩ := h
  obtain ⟨xs, m, _, _, _, hlen, hg⟩ := DataW.trod_array ht hf
  have step : ∀ i, i < 6 → ∃ n, ((([c0, c1, c2, c3, c4, c5] : List Value).drop (i * 1)).take 1) = [.int .i64 n] ∧ (Lit.int .i64 n).wf = true := by
    intro i hi
    have h1 := hg i hi
    rw [hCe] at h1
    have h2 : xs[i]? = some (xs[i]'(by omega)) := List.getElem?_eq_getElem (by omega)
    rw [h2] at h1
    obtain ⟨n, e1, _, wn⟩ := DataW.trod_int he h1
    exact ⟨n, by simpa [Value.cells] using e1, wn⟩
  obtain ⟨n0, e0, w0⟩ := step 0 (by omega)
  obtain ⟨n1, e1, w1⟩ := step 1 (by omega)
  obtain ⟨n2, e2, w2⟩ := step 2 (by omega)
  obtain ⟨n3, e3, w3⟩ := step 3 (by omega)
  obtain ⟨n4, e4, w4⟩ := step 4 (by omega)
  obtain ⟨n5, e5, w5⟩ := step 5 (by omega)
  simp at e0 e1 e2 e3 e4 e5
  subst e0 e1 e2 e3 e4 e5
  refine ⟨sel6 n0 n1 n2 n3 n4 n5, rfl, ?_⟩
  intro k hk
  obtain rfl | rfl | rfl | rfl | rfl | rfl : k = 0 ∨ k = 1 ∨ k = 2 ∨ k = 3 ∨ k = 4 ∨ k = 5 := by omega
  all_goals assumption
end
theorem prod_fields : ∃ f0 f1 f2 f3 f4 : Field, Tryd.prog.underlying 108 = some (.struct #[f0, f1, f2, f3, f4]) ∧ oneCellFields Tryd.prog #[f0, f1, f2, f3, f4] = true ∧ Tryd.prog.underlying f0.type = some .string ∧ Tryd.prog.underlying f1.type = some (.int .i64) ∧ Tryd.prog.underlying f2.type = some (.int .i64) ∧ Tryd.prog.underlying f3.type = some (.int .i64) ∧ Tryd.prog.underlying f4.type = some (.int .i64) :=
  ⟨_, _, _, _, _, Tryd.underlying108, by kernel_rfl, by kernel_rfl, by kernel_rfl, by kernel_rfl, by kernel_rfl, by kernel_rfl⟩
def ProdD (t : Prod) (_ : DataW H) : Prop := t.name.size ≤ maxLen
set_option maxRecDepth 100000 in
theorem dec_prod (fuel : Nat) (cs : List Value) (y : DataW H × List MemPlace) (h : DataW.trod enc Tryd.prog w base spare held fuel 108 cs = some y) : ∃ t : Prod, cs = t.cells ∧ ProdD t y.1 := by
  obtain ⟨f0, f1, f2, f3, f4, hs, hone, k0, k1, k2, k3, k4⟩ := prod_fields
  obtain ⟨xs, n, _, rfl, hl, hxl, hf⟩ := DataW.trod_struct hs h
  have hC : Tryd.prog.cellsOf 108 = 5 := by kernel_rfl
  rw [hC] at hl
  match cs, hl, xs, hxl, hf with
  | [c0, c1, c2, c3, c4], _, [x0, x1, x2, x3, x4], _, hf =>
    obtain ⟨s, e0, _, z1⟩ := DataW.trod_string k0 (OpenG.field_at hone hf 0 f0 rfl (by simp) (by simp))
    obtain ⟨a, e1, _, _⟩ := DataW.trod_int k1 (OpenG.field_at hone hf 1 f1 rfl (by simp) (by simp))
    obtain ⟨b, e2, _, _⟩ := DataW.trod_int k2 (OpenG.field_at hone hf 2 f2 rfl (by simp) (by simp))
    obtain ⟨c, e3, _, _⟩ := DataW.trod_int k3 (OpenG.field_at hone hf 3 f3 rfl (by simp) (by simp))
    obtain ⟨e, e4, _, _⟩ := DataW.trod_int k4 (OpenG.field_at hone hf 4 f4 rfl (by simp) (by simp))
    simp at e0 e1 e2 e3 e4
    subst e0 e1 e2 e3 e4
    exact ⟨⟨s, a, b, c, e⟩, rfl, z1⟩
theorem elems_all {T : Type} {p : T → Prop} {L : List T} {d : DataW H} (h : OpenG.Elems (fun t (_ : DataW H) => p t) L d) : ∀ t ∈ L, p t := by
  rcases h with ⟨rfl, _⟩ | ⟨el, sp, _, hl, hq⟩
  · intro t ht; cases ht
  · intro t ht
    obtain ⟨i, hi, rfl⟩ := List.getElem_of_mem ht
    exact hq i hi (by omega)
set_option maxRecDepth 100000 in
theorem open_prodL {r : Reach} {b0 : Nat} {v : Value} {d : DataW H} {ps : List MemPlace} (hv : Value.okWide Tryd.prog w r b0 43 v) (h : DataW.Trod enc Tryd.prog w base spare held 43 v d ps) :
    ∃ L : List Prod, PS w v L ∧ ∀ p ∈ L, p.name.size ≤ maxLen := by
  obtain ⟨A, cap, L, rfl, h1, h2, h3, h4⟩ := OpenG.open_list 5 Prod.cells ProdD (by decide) (fun _ => rfl) Tryd.underlying43 (by kernel_rfl) dec_prod hv h
  exact ⟨L, ⟨prodCells_len L, A, cap, rfl, h1, h2, h3⟩, elems_all h4⟩
end
end Go.Proofs.YtfopmaeaclbknaaDoor.OpenC
namespace Go.Proofs.YtfopmaeaclbknaaDoor.OpenN
open Go.ChangeShapes Go.WideShapes Go.ChangeAt Go.RowKit Go.Joins Go.Deep
section
variable {H : Type} {enc : TypeId × Value → H} {P : Program} {w : World} {base : Nat} {spare : Nat → Bool} {held : Bool}
theorem sl_of_trod {t e : TypeId} {k : IntKind} {fuel : Nat} {v : Value} {x : DataW H × List MemPlace} (ht : P.underlying t = some (.slice e)) (he : P.underlying e = some (.int k)) (hc : P.cellsOf e = 1) (h : DataW.trod enc P w base spare held fuel t [v] = some x) :
    ∃ xs : List Int, (∀ z ∈ xs, (Lit.int k z).wf = true) ∧ Sl w 1 v xs.length (xs.map (Value.int k)) := by
  rcases open_ints ht he hc h with ⟨hv, _⟩ | ⟨a, len, cap, zs, hv, _, hlc, hcm, hzl, _, hcell, hwf⟩
  · obtain rfl : v = .slice none 0 0 := by simpa using hv
    exact ⟨[], (fun z h => by cases h), Sl.nil w 1⟩
  · obtain rfl : v = .slice (some a) len cap := by simpa using hv
    have hle : len ≤ zs.length := by rw [hzl]; split <;> omega
    have hl : (zs.take len).length = len := by rw [List.length_take]; omega
    refine ⟨zs.take len, fun z hz => hwf z (List.mem_of_mem_take hz), by simp, some a, cap, by rw [hl], by rw [hl]; exact hlc, hcm, fun h0 => ?_⟩
    rw [hl] at h0
    have hs : a.spot = none := by
      have h1 := hcell 0 (by omega)
      have h2 := World.cell?_spot h1
      simpa [Addr.add] using h2
    obtain ⟨b, off, sp⟩ := a
    subst hs
    have hh : ∀ i, i < len → w.cell? ⟨b, off + i, none⟩ = some (.int k (zs.getD i 0)) := fun i hi => by
      have h1 := hcell i (by omega)
      rw [OpenAdd.add_at] at h1
      exact h1
    refine ⟨b, off, rfl, block_lt_of_cell (hh 0 h0), fun j u hu => ?_⟩
    obtain ⟨hj, e⟩ := List.getElem?_eq_some_iff.1 hu
    have hj' : j < len := by simp at hj; omega
    rw [hh j hj', ← e]
    simp [List.getD, show j < zs.length by omega]
theorem open_sl {r : Reach} {b0 : Nat} {t e : TypeId} {k : IntKind} {v : Value} {d : DataW H} {ps : List MemPlace} (ht : P.underlying t = some (.slice e)) (he : P.underlying e = some (.int k)) (hc : P.cellsOf e = 1) (hv : Value.okWide P w r b0 t v) (h : DataW.Trod enc P w base spare held t v d ps) :
    ∃ xs : List Int, (∀ z ∈ xs, (Lit.int k z).wf = true) ∧ Sl w 1 v xs.length (xs.map (Value.int k)) := by
  obtain ⟨a, n, cap, rfl⟩ := okWide_slice ht hv
  obtain ⟨fuel, hf⟩ := h
  exact sl_of_trod ht he hc hf
theorem ns_of_sl {v : Value} {xs : List Int} (hwf : ∀ z ∈ xs, (Lit.int .u32 z).wf = true) (h : Sl w 1 v xs.length (xs.map (Value.int .u32))) : ∃ l : List Nat, Fr.NS w v l ∧ Fr.Dg l := by
  have hb : ∀ z ∈ xs, 0 ≤ z ∧ z < 4294967296 := fun z hz => by
    have h1 := hwf z hz
    simp [Lit.wf, IntKind.min, IntKind.max, IntKind.signed, IntKind.bits] at h1
    omega
  have e : (xs.map Int.toNat).map (fun (n : Nat) => (n : Int)) = xs := by
    rw [List.map_map]
    conv => rhs; rw [← List.map_id xs]
    refine List.map_congr_left fun z hz => ?_
    have := hb z hz
    simp only [Function.comp_apply, id]
    omega
  refine ⟨xs.map Int.toNat, ?_, fun d hd => ?_⟩
  · unfold Fr.NS Fr.u32s
    have e2 : (xs.map Int.toNat).map (fun n => Value.int .u32 ((n : Nat) : Int)) = xs.map (Value.int .u32) := by
      conv => rhs; rw [← e]
      simp only [List.map_map]
      rfl
    rw [e2, List.length_map]
    exact h
  · obtain ⟨z, hz, rfl⟩ := List.mem_map.1 hd
    have := hb z hz
    unfold Fr.B
    omega
end
section
variable {H : Type} {enc : TypeId × Value → H} {w : World} {base : Nat} {spare : Nat → Bool} {held : Bool}
set_option maxRecDepth 100000 in
theorem open_i64s {r : Reach} {b0 : Nat} {v : Value} {d : DataW H} {ps : List MemPlace} (hv : Value.okWide Tryd.prog w r b0 22 v) (h : DataW.Trod enc Tryd.prog w base spare held 22 v d ps) :
    ∃ xs : List Int, So.IS w v xs := by
  obtain ⟨xs, _, h2⟩ := open_sl Tryd.underlying22 (by kernel_rfl) (by kernel_rfl) hv h
  exact ⟨xs, h2⟩
set_option maxRecDepth 100000 in
theorem frac_fields : ∃ f0 f1 f2 : Field, ∃ e : TypeId, Tryd.prog.underlying 38 = some (.struct #[f0, f1, f2]) ∧ oneCellFields Tryd.prog #[f0, f1, f2] = true ∧ Tryd.prog.underlying f0.type = some .bool ∧ Tryd.prog.underlying f1.type = some (.slice e) ∧ Tryd.prog.underlying f2.type = some (.slice e) ∧ Tryd.prog.underlying e = some (.int .u32) ∧ Tryd.prog.cellsOf e = 1 :=
  ⟨_, _, _, 92, Tryd.underlying38, by kernel_rfl, by kernel_rfl, by kernel_rfl, by kernel_rfl, by kernel_rfl, by kernel_rfl⟩
set_option maxRecDepth 100000 in
theorem open_frac {r : Reach} {b0 : Nat} {v : Value} {d : DataW H} {ps : List MemPlace} (hv : Value.okWide Tryd.prog w r b0 38 v) (h : DataW.Trod enc Tryd.prog w base spare held 38 v d ps) :
    ∃ (s : Bool) (v1 v2 : Value) (l1 l2 : List Nat), v = .agg #[.bool s, v1, v2] ∧ Fr.NS w v1 l1 ∧ Fr.NS w v2 l2 ∧ Fr.Dg l1 ∧ Fr.Dg l2 := by
  obtain ⟨f0, f1, f2, e, hs, hone, k0, k1, k2, k3, k4⟩ := frac_fields
  obtain ⟨v0, v1, v2, y0, y1, y2, n, rfl, _, _, h0, h1, h2⟩ := open_agg3 hs hone (by kernel_rfl) hv h
  obtain ⟨b, e0, _⟩ := DataW.trod_bool k0 h0
  obtain rfl : v0 = .bool b := by simpa using e0
  obtain ⟨x1, w1, s1⟩ := sl_of_trod k1 k3 k4 h1
  obtain ⟨x2, w2, s2⟩ := sl_of_trod k2 k3 k4 h2
  obtain ⟨l1, n1, d1⟩ := ns_of_sl w1 s1
  obtain ⟨l2, n2, d2⟩ := ns_of_sl w2 s2
  exact ⟨b, v1, v2, l1, l2, rfl, n1, n2, d1, d2⟩
end
end Go.Proofs.YtfopmaeaclbknaaDoor.OpenN
namespace Go.Proofs.YtfopmaeaclbknaaDoor.OpenP
open Go.ChangeShapes Go.WideShapes Go.ChangeAt Go.RowKit Go.Joins Go.Deep
open Cat Pr
set_option linter.unusedVariables false
set_option linter.unusedSimpArgs false
section
variable {H : Type} {enc : TypeId × Value → H} {w : World} {base : Nat} {spare : Nat → Bool} {held : Bool}
section
variable {P : Program}
theorem list_of_trod {T : Type} (K : Nat) (c : T → List Value) (Q : T → DataW H → Prop) (hK : 0 < K) (hc : ∀ t, (c t).length = K) {t e : TypeId} {fuel : Nat} {v : Value} {y : DataW H × List MemPlace} (ht : P.underlying t = some (.slice e)) (hC : P.cellsOf e = K)
    (dec : ∀ fuel cs y, DataW.trod enc P w base spare held fuel e cs = some y → ∃ x : T, cs = c x ∧ Q x y.1)
    (hf : DataW.trod enc P w base spare held fuel t [v] = some y) :
    ∃ (A : Option Addr) (cap : Nat) (L : List T), v = .slice A L.length cap ∧ Sl w K v L.length (L.flatMap c) ∧ OpenG.Elems Q L y.1 := by
  have hlen : ∀ L : List T, (L.flatMap c).length = L.length * K := by
    intro L
    induction L with
    | nil => simp
    | cons a r ih => rw [List.flatMap_cons, List.length_append, hc, ih, List.length_cons, Nat.succ_mul]; omega
  rcases open_slice ht hf with ⟨hcs, hx⟩ | ⟨x, n, cap, m, k, D, Pl, hcs, _, hl, hm, hmm, hx, hi⟩
  · obtain rfl : v = .slice none 0 0 := by simpa using hcs
    subst hx
    exact ⟨none, 0, [], rfl, Sl.nil w K, .inl ⟨rfl, rfl⟩⟩
  · obtain rfl : v = .slice (some x) n cap := by simpa using hcs
    subst hx
    have hstep : ∀ i, i < n → ∃ y : T, w.cells? base (x.add (i * K)) K = some (c y) ∧ Q y (D i) := fun i hin => by
      have him : i < m := by rw [hmm]; split <;> omega
      obtain ⟨cs', h1, h2⟩ := hi i him
      obtain ⟨y, rfl, hq⟩ := dec _ _ _ h2
      rw [hC] at h1
      exact ⟨y, h1, hq⟩
    obtain ⟨L, hll, hL⟩ := OpenG.list_of n hstep
    refine ⟨some x, cap, L, by rw [hll], ⟨hlen L, some x, cap, by rw [hll], by rw [hll]; exact hl, hm, fun hn => ?_⟩, .inr ⟨_, _, rfl, by simp [hll], fun i h1 h2 => ?_⟩⟩
    · have hs : x.spot = none := by
        have := (OpenG.cells_at hK (hL 0 hn).1).1
        simpa [Addr.add] using this
      obtain ⟨b, off, sp⟩ := x
      subst hs
      have hcell : ∀ i (hi : i < L.length) r, r < K → w.cell? ⟨b, off + i * K + r, none⟩ = (c L[i])[r]? := fun i hi r hr => by
        have h1 := (hL i hi).1
        rw [OpenAdd.add_at] at h1
        exact (OpenG.cells_at hK h1).2.2 r hr
      have hfirst : ∃ u, w.cell? ⟨b, off + 0 * K + 0, none⟩ = some u := by
        rw [hcell 0 hn 0 hK]
        exact ⟨_, List.getElem?_eq_getElem (by rw [hc]; exact hK)⟩
      obtain ⟨u0, hu0⟩ := hfirst
      refine ⟨b, off, rfl, block_lt_of_cell hu0, fun j u hj => ?_⟩
      obtain ⟨i, r, hi, hr, e, hu⟩ := OpenG.flat_at hc L j u hj
      rw [e, ← Nat.add_assoc, hcell i hi r hr]
      exact hu
    · have := (hL i h1).2
      simpa using this
theorem size_of_elems {T : Type} {Q : T → DataW H → Prop} {L : List T} {ts : List TypeId} {ds : List (DataW H)} (h : (DataW.weightsEach P ts ds).all (· ≤ reachBytes) = true) {j : Nat} {t e : TypeId} {d : DataW H} {B : Nat} (he : OpenG.Elems Q L d) (ht : ts[j]? = some t) (hd : ds[j]? = some d) (hu : P.underlying t = some (.slice e)) (hB : P.bytesOf e = B) :
    L.length * B ≤ 140737488355328 := by
  rcases he with ⟨rfl, _⟩ | ⟨el, sp, rfl, hl, _⟩
  · simp
  · have h1 := sized_slice h ht hd hu
    rw [hB, Nat.add_mul, hl] at h1
    have h2 := reachBytes_lt
    omega
theorem form_of_trod {t e : TypeId} {fuel : Nat} {v : Value} {y : DataW H × List MemPlace} (ht : P.underlying t = some (.slice e)) (hf : DataW.trod enc P w base spare held fuel t [v] = some y) : ∃ A n c, v = .slice A n c := by
  rcases open_slice ht hf with ⟨hcs, _⟩ | ⟨x, n, cap, m, k, D, Pl, hcs, _⟩
  · exact ⟨none, 0, 0, by simpa using hcs⟩
  · exact ⟨some x, n, cap, by simpa using hcs⟩
theorem arr6_of_trod {t e : TypeId} {fuel : Nat} {cs : List Value} {y : DataW H × List MemPlace} (ht : P.underlying t = some (.array 6 e)) (he : P.underlying e = some (.int .i64)) (hC : P.cellsOf t = 6) (hCe : P.cellsOf e = 1)
    (hf : DataW.trod enc P w base spare held fuel t cs = some y) : ∃ p : Nat → Int, cs = [.int .i64 (p 0), .int .i64 (p 1), .int .i64 (p 2), .int .i64 (p 3), .int .i64 (p 4), .int .i64 (p 5)] ∧ ∀ k, k < 6 → (Lit.int .i64 (p k)).wf = true := by
  obtain ⟨xs, m, _, _, hl, hlen, hg⟩ := DataW.trod_array ht hf
  rw [hC] at hl
  match cs, hl with
  | [c0, c1, c2, c3, c4, c5], _ =>
    have step : ∀ i, i < 6 → ∃ n, ((([c0, c1, c2, c3, c4, c5] : List Value).drop (i * 1)).take 1) = [.int .i64 n] ∧ (Lit.int .i64 n).wf = true := by
      intro i hi
      have h1 := hg i hi
      rw [hCe] at h1
      have h2 : xs[i]? = some (xs[i]'(by omega)) := List.getElem?_eq_getElem (by omega)
      rw [h2] at h1
      obtain ⟨n, e1, _, wn⟩ := DataW.trod_int he h1
      exact ⟨n, e1, wn⟩
    obtain ⟨n0, e0, w0⟩ := step 0 (by omega)
    obtain ⟨n1, e1, w1⟩ := step 1 (by omega)
    obtain ⟨n2, e2, w2⟩ := step 2 (by omega)
    obtain ⟨n3, e3, w3⟩ := step 3 (by omega)
    obtain ⟨n4, e4, w4⟩ := step 4 (by omega)
    obtain ⟨n5, e5, w5⟩ := step 5 (by omega)
    simp at e0 e1 e2 e3 e4 e5
    subst e0 e1 e2 e3 e4 e5
    refine ⟨OpenC.sel6 n0 n1 n2 n3 n4 n5, rfl, ?_⟩
    intro k hk
    obtain rfl | rfl | rfl | rfl | rfl | rfl : k = 0 ∨ k = 1 ∨ k = 2 ∨ k = 3 ∨ k = 4 ∨ k = 5 := by omega
    all_goals assumption
end
set_option maxRecDepth 100000 in
theorem seller_fields : ∃ f0 f1 : Field, ∃ e, Tryd.prog.underlying 102 = some (.struct #[f0, f1]) ∧ oneCellFields Tryd.prog #[f0, f1] = true ∧ Tryd.prog.underlying f0.type = some .string ∧ Tryd.prog.underlying f1.type = some (.slice e) ∧ Tryd.prog.underlying e = some (.int .i64) ∧ Tryd.prog.cellsOf e = 1 :=
  ⟨_, _, 3, Tryd.underlying102, by kernel_rfl, by kernel_rfl, by kernel_rfl, by kernel_rfl, by kernel_rfl⟩
def SelD (w : World) (x : Sel) (_ : DataW H) : Prop := x.name.size ≤ maxLen ∧ Sl w 1 x.v x.ps.length (x.ps.map fun z => Value.int .i64 z)
set_option maxRecDepth 100000 in
theorem dec_sel (fuel : Nat) (cs : List Value) (y : DataW H × List MemPlace) (h : DataW.trod enc Tryd.prog w base spare held fuel 102 cs = some y) : ∃ t : Sel, cs = t.cells ∧ SelD w t y.1 := by
  obtain ⟨f0, f1, e, hs, hone, k0, k1, k2, k3⟩ := seller_fields
  obtain ⟨xs, n, _, rfl, hl, hxl, hf⟩ := DataW.trod_struct hs h
  have hC : Tryd.prog.cellsOf 102 = 2 := by kernel_rfl
  rw [hC] at hl
  match cs, hl, xs, hxl, hf with
  | [c0, c1], _, [x0, x1], _, hf =>
    obtain ⟨s, e0, _, z1⟩ := DataW.trod_string k0 (OpenG.field_at hone hf 0 f0 rfl (by simp) (by simp))
    obtain ⟨l, _, sl⟩ := OpenN.sl_of_trod k1 k2 k3 (OpenG.field_at hone hf 1 f1 rfl (by simp) (by simp))
    simp at e0
    subst e0
    exact ⟨⟨s, c1, l⟩, rfl, z1, sl⟩
set_option maxRecDepth 100000 in
theorem inv_fields : ∃ f0 f1 f2 f3 f4 : Field, ∃ e, Tryd.prog.underlying 79 = some (.struct #[f0, f1, f2, f3, f4]) ∧
    (Tryd.prog.underlying f0.type = some (.int .i64) ∧ f0.offset = 0 ∧ Tryd.prog.cellsOf f0.type = 1) ∧
    (Tryd.prog.underlying f1.type = some (.array 6 e) ∧ f1.offset = 1 ∧ Tryd.prog.cellsOf f1.type = 6 ∧ Tryd.prog.underlying e = some (.int .i64) ∧ Tryd.prog.cellsOf e = 1) ∧
    (Tryd.prog.underlying f2.type = some (.int .i64) ∧ f2.offset = 7 ∧ Tryd.prog.cellsOf f2.type = 1) ∧
    (Tryd.prog.underlying f3.type = some (.int .i64) ∧ f3.offset = 8 ∧ Tryd.prog.cellsOf f3.type = 1) ∧
    (Tryd.prog.underlying f4.type = some (.int .i64) ∧ f4.offset = 9 ∧ Tryd.prog.cellsOf f4.type = 1) :=
  ⟨_, _, _, _, _, 3, Tryd.underlying79, ⟨by kernel_rfl, by kernel_rfl, by kernel_rfl⟩, ⟨by kernel_rfl, by kernel_rfl, by kernel_rfl, by kernel_rfl, by kernel_rfl⟩, ⟨by kernel_rfl, by kernel_rfl, by kernel_rfl⟩, ⟨by kernel_rfl, by kernel_rfl, by kernel_rfl⟩, ⟨by kernel_rfl, by kernel_rfl, by kernel_rfl⟩⟩
def InvD (v : Inv) (_ : DataW H) : Prop := True
set_option maxRecDepth 100000 in
theorem dec_inv (fuel : Nat) (cs : List Value) (y : DataW H × List MemPlace) (h : DataW.trod enc Tryd.prog w base spare held fuel 79 cs = some y) : ∃ t : Inv, cs = t.cells ∧ InvD t y.1 := by
  obtain ⟨f0, f1, f2, f3, f4, e, hs, ⟨k0, o0, z0⟩, ⟨k1, o1, z1, k1e, z1e⟩, ⟨k2, o2, z2⟩, ⟨k3, o3, z3⟩, ⟨k4, o4, z4⟩⟩ := inv_fields
  obtain ⟨xs, n, _, rfl, hl, hxl, hf⟩ := DataW.trod_struct hs h
  have hC : Tryd.prog.cellsOf 79 = 10 := by kernel_rfl
  rw [hC] at hl
  match cs, hl, xs, hxl, hf with
  | [c0, c1, c2, c3, c4, c5, c6, c7, c8, c9], _, [x0, x1, x2, x3, x4], _, hf =>
    have g0 := hf 0 f0 rfl
    have g1 := hf 1 f1 rfl
    have g2 := hf 2 f2 rfl
    have g3 := hf 3 f3 rfl
    have g4 := hf 4 f4 rfl
    rw [o0, z0] at g0
    rw [o1, z1] at g1
    rw [o2, z2] at g2
    rw [o3, z3] at g3
    rw [o4, z4] at g4
    obtain ⟨a, e0, _, _⟩ := DataW.trod_int k0 g0
    obtain ⟨p, e1, _⟩ := arr6_of_trod k1 k1e z1 z1e g1
    obtain ⟨b, e2, _, _⟩ := DataW.trod_int k2 g2
    obtain ⟨c, e3, _, _⟩ := DataW.trod_int k3 g3
    obtain ⟨d, e4, _, _⟩ := DataW.trod_int k4 g4
    simp at e0 e1 e2 e3 e4
    obtain ⟨r1, r2, r3, r4, r5, r6⟩ := e1
    subst e0 e2 e3 e4 r1 r2 r3 r4 r5 r6
    exact ⟨⟨a, p, b, c, d⟩, rfl, trivial⟩
set_option maxRecDepth 100000 in
theorem shr_fields : ∃ f0 f1 f2 : Field, Tryd.prog.underlying 75 = some (.struct #[f0, f1, f2]) ∧ oneCellFields Tryd.prog #[f0, f1, f2] = true ∧ Tryd.prog.underlying f0.type = some (.int .i64) ∧ Tryd.prog.underlying f1.type = some (.int .i64) ∧ Tryd.prog.underlying f2.type = some (.int .i64) :=
  ⟨_, _, _, Tryd.underlying75, by kernel_rfl, by kernel_rfl, by kernel_rfl, by kernel_rfl⟩
def ShrD (v : Shr) (_ : DataW H) : Prop := True
set_option maxRecDepth 100000 in
theorem dec_shr (fuel : Nat) (cs : List Value) (y : DataW H × List MemPlace) (h : DataW.trod enc Tryd.prog w base spare held fuel 75 cs = some y) : ∃ t : Shr, cs = t.cells ∧ ShrD t y.1 := by
  obtain ⟨f0, f1, f2, hs, hone, k0, k1, k2⟩ := shr_fields
  obtain ⟨xs, n, _, rfl, hl, hxl, hf⟩ := DataW.trod_struct hs h
  have hC : Tryd.prog.cellsOf 75 = 3 := by kernel_rfl
  rw [hC] at hl
  match cs, hl, xs, hxl, hf with
  | [c0, c1, c2], _, [x0, x1, x2], _, hf =>
    obtain ⟨a, e0, _, _⟩ := DataW.trod_int k0 (OpenG.field_at hone hf 0 f0 rfl (by simp) (by simp))
    obtain ⟨b, e1, _, _⟩ := DataW.trod_int k1 (OpenG.field_at hone hf 1 f1 rfl (by simp) (by simp))
    obtain ⟨c, e2, _, _⟩ := DataW.trod_int k2 (OpenG.field_at hone hf 2 f2 rfl (by simp) (by simp))
    simp at e0 e1 e2
    subst e0 e1 e2
    exact ⟨⟨a, b, c⟩, rfl, trivial⟩
set_option maxRecDepth 100000 in
theorem setup_fields : ∃ f0 f1 f2 f3 : Field, Tryd.prog.underlying 48 = some (.struct #[f0, f1, f2, f3]) ∧ oneCellFields Tryd.prog #[f0, f1, f2, f3] = true ∧ Tryd.prog.underlying f0.type = some (.slice 108) ∧ Tryd.prog.underlying f1.type = some (.slice 130) :=
  ⟨_, _, _, _, Tryd.underlying48, by kernel_rfl, by kernel_rfl, by kernel_rfl⟩
set_option maxRecDepth 100000 in
/-- a sale: its products, and the forms of its lists -/
theorem open_setup {r : Reach} {b0 : Nat} {v : Value} {d : DataW H} {q : List MemPlace} (hv : Value.okWide Tryd.prog w r b0 48 v) (h : DataW.Trod enc Tryd.prog w base spare held 48 v d q) :
    ∃ (A1 A2 : Option Addr) (c1 n2 c2 : Nat) (v3 v4 : Value) (ps : List Prod), v = .agg #[.slice A1 ps.length c1, .slice A2 n2 c2, v3, v4] ∧ SetF w (.slice A1 ps.length c1) ps := by
  obtain ⟨f0, f1, f2, f3, hs, hone, k0, k1⟩ := setup_fields
  obtain ⟨v0, v1, v2, v3, y0, y1, y2, y3, n, rfl, _, _, h0, h1, h2, h3⟩ := open_agg4 hs hone (by kernel_rfl) hv h
  obtain ⟨A1, c1, ps, rfl, hsl, he⟩ := list_of_trod 5 Prod.cells OpenC.ProdD (by decide) (fun _ => rfl) k0 (by kernel_rfl) OpenC.dec_prod h0
  obtain ⟨A2, n2, c2, rfl⟩ := form_of_trod k1 h1
  exact ⟨A1, A2, c1, n2, c2, v2, v3, ps, rfl, hsl, OpenC.elems_all he⟩
set_option maxRecDepth 100000 in
theorem open_sellers {r : Reach} {b0 : Nat} {v : Value} {d : DataW H} {q : List MemPlace} (hv : Value.okWide Tryd.prog w r b0 49 v) (h : DataW.Trod enc Tryd.prog w base spare held 49 v d q) :
    ∃ l : List Sel, SelS w v l ∧ SelOk w l ∧ OpenG.Elems (SelD w) l d := by
  obtain ⟨a, n, cap, rfl⟩ := okWide_slice Tryd.underlying49 hv
  obtain ⟨fuel, hf⟩ := h
  obtain ⟨_, _, l, _, hsl, he⟩ := list_of_trod 2 Sel.cells (SelD w) (by decide) (fun _ => rfl) Tryd.underlying49 (by kernel_rfl) dec_sel hf
  exact ⟨l, hsl, OpenC.elems_all he, he⟩
set_option maxRecDepth 100000 in
theorem open_invs {r : Reach} {b0 : Nat} {v : Value} {d : DataW H} {q : List MemPlace} (hv : Value.okWide Tryd.prog w r b0 50 v) (h : DataW.Trod enc Tryd.prog w base spare held 50 v d q) :
    ∃ l : List Inv, InvS w v l ∧ OpenG.Elems InvD l d := by
  obtain ⟨a, n, cap, rfl⟩ := okWide_slice Tryd.underlying50 hv
  obtain ⟨fuel, hf⟩ := h
  obtain ⟨_, _, l, _, hsl, he⟩ := list_of_trod 10 Inv.cells InvD (by decide) (fun _ => rfl) Tryd.underlying50 (by kernel_rfl) dec_inv hf
  exact ⟨l, hsl, he⟩
set_option maxRecDepth 100000 in
theorem open_shrs {r : Reach} {b0 : Nat} {v : Value} {d : DataW H} {q : List MemPlace} (hv : Value.okWide Tryd.prog w r b0 52 v) (h : DataW.Trod enc Tryd.prog w base spare held 52 v d q) :
    ∃ l : List Shr, ShrS w v l ∧ OpenG.Elems ShrD l d := by
  obtain ⟨a, n, cap, rfl⟩ := okWide_slice Tryd.underlying52 hv
  obtain ⟨fuel, hf⟩ := h
  obtain ⟨_, _, l, _, hsl, he⟩ := list_of_trod 3 Shr.cells ShrD (by decide) (fun _ => rfl) Tryd.underlying52 (by kernel_rfl) dec_shr hf
  exact ⟨l, hsl, he⟩
end
end Go.Proofs.YtfopmaeaclbknaaDoor.OpenP
