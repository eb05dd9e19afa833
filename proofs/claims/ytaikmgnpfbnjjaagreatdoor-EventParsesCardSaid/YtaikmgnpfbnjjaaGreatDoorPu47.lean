/- Opening an argument that is a slice of elements of several cells. Over any program. Opening an argument that is a list of products, or a bundle. Opening an argument that is a setup, or an event. Printed by gen_openE.py. few; the walk of EventNames. Printed by gen_evb2.py. -/
import Derived.WalkKit
import Derived.ProofKit
import Derived.OpenShut
import Derived.Lib.SmallJoins
import Derived.Deep.Slices
import Derived.Deep.Fields
import Derived.Test.YtaikmgnpfbnjjaaGreatDoorPu02
import Derived.Test.YtaikmgnpfbnjjaaGreatDoorPu05
import Derived.Test.YtaikmgnpfbnjjaaGreatDoorPu18
import Derived.Test.YtaikmgnpfbnjjaaGreatDoorPu19
import Derived.Test.YtaikmgnpfbnjjaaGreatDoorPu46
import Derived.Deep.CutBlock
namespace Go.Proofs.YtaikmgnpfbnjjaaGreatDoor.OpenG
open Go.ChangeShapes Go.WideShapes Go.ChangeAt Go.RowKit Go.Joins Go.Deep
theorem list_of {T : Type} {R : Nat → T → Prop} : ∀ n : Nat, (∀ i, i < n → ∃ x : T, R i x) → ∃ L : List T, L.length = n ∧ ∀ i (h : i < L.length), R i L[i]
  | 0, _ => ⟨[], rfl, fun i h => by simp at h⟩
  | n + 1, h => by
    obtain ⟨L, hl, hL⟩ := list_of n (fun i hi => h i (by omega))
    obtain ⟨x, hx⟩ := h n (by omega)
    refine ⟨L ++ [x], by simp [hl], fun i hi => ?_⟩
    by_cases e : i < L.length
    · rw [List.getElem_append_left e]
      exact hL i e
    · obtain rfl : i = L.length := by simp at hi; omega
      rw [List.getElem_append_right (Nat.le_refl _)]
      simp only [Nat.sub_self, List.getElem_cons_zero]
      rw [hl]
      exact hx
/-- the cells of a list of elements of K cells each, one by one -/
theorem flat_at {T : Type} {K : Nat} {c : T → List Value} (hc : ∀ t, (c t).length = K) : ∀ (L : List T) (j : Nat) (u : Value), (L.flatMap c)[j]? = some u → ∃ i r, ∃ h : i < L.length, r < K ∧ j = i * K + r ∧ (c L[i])[r]? = some u
  | [], j, u, h => by simp at h
  | t :: L, j, u, h => by
    rw [List.flatMap_cons] at h
    by_cases hj : j < K
    · rw [List.getElem?_append_left (by rw [hc]; exact hj)] at h
      exact ⟨0, j, by simp, hj, by simp, h⟩
    · rw [List.getElem?_append_right (by rw [hc]; omega), hc] at h
      obtain ⟨i, r, hi, hr, e, hu⟩ := flat_at hc L (j - K) u h
      exact ⟨i + 1, r, by simpa using hi, hr, by rw [Nat.succ_mul]; omega, by simpa using hu⟩
section
variable {H : Type} {enc : TypeId × Value → H} {P : Program} {w : World} {base : Nat} {spare : Nat → Bool} {held : Bool}
/-- the cells of an element, at an address without a spot -/
theorem cells_at {a : Addr} {n : Nat} {cs : List Value} (hn : 0 < n) (h : w.cells? base a n = some cs) : a.spot = none ∧ cs.length = n ∧ ∀ j, j < n → w.cell? ⟨a.block, a.off + j, none⟩ = cs[j]? := by
  obtain ⟨_, hl, hc⟩ := World.cells?_some h
  have h0 := hc 0 hn
  have hs : a.spot = none := by
    have e : cs[0]? = some (cs[0]'(by omega)) := List.getElem?_eq_getElem (by omega)
    rw [e] at h0
    have := World.cell?_spot h0
    simpa [Addr.add] using this
  refine ⟨hs, hl, fun j hj => ?_⟩
  rw [← hc j hj]
  obtain ⟨b, o, s⟩ := a
  subst hs
  rw [OpenAdd.add_at]
/-- what a list of elements says of a slice's datum -/
def Elems {T : Type} (Q : T → DataW H → Prop) (L : List T) (d : DataW H) : Prop :=
  (L = [] ∧ d = .nil) ∨ ∃ el sp, d = .slice el sp ∧ el.length = L.length ∧ ∀ i (h : i < L.length) (h' : i < el.length), Q L[i] el[i]
/-- one field of a struct of one-cell fields -/
theorem field_at {fs : Array Field} {cs : List Value} {xs : List (DataW H × List MemPlace)} {n : Nat} (hone : oneCellFields P fs = true)
    (hf : ∀ (i : Nat) (f : Field), fs[i]? = some f → DataW.trod enc P w base spare held n f.type ((cs.drop f.offset).take (P.cellsOf f.type)) = xs[i]?) (j : Nat) (f : Field) (hj : fs[j]? = some f) (hl : j < cs.length) (hx : j < xs.length) :
    DataW.trod enc P w base spare held n f.type [cs[j]] = some xs[j] := by
  obtain ⟨ho, hk⟩ := hone_of hone j f hj
  have h1 := hf j f hj
  rw [ho, hk] at h1
  have e : (cs.drop j).take 1 = [cs[j]] := by
    rw [List.drop_eq_getElem_cons hl]
    rfl
  rw [e, List.getElem?_eq_getElem hx] at h1
  exact h1
end
end Go.Proofs.YtaikmgnpfbnjjaaGreatDoor.OpenG
namespace Go.Proofs.YtaikmgnpfbnjjaaGreatDoor.OpenC
open Go.ChangeShapes Go.WideShapes Go.ChangeAt Go.RowKit Go.Joins Go.Deep
open Cat
section
variable {H : Type} {enc : TypeId × Value → H} {w : World} {base : Nat} {spare : Nat → Bool} {held : Bool}
section
variable {P : Program}
end
theorem prod_fields : ∃ f0 f1 f2 f3 f4 : Field, Tryz.prog.underlying 98 = some (.struct #[f0, f1, f2, f3, f4]) ∧ oneCellFields Tryz.prog #[f0, f1, f2, f3, f4] = true ∧ Tryz.prog.underlying f0.type = some .string ∧ Tryz.prog.underlying f1.type = some (.int .i64) ∧ Tryz.prog.underlying f2.type = some (.int .i64) ∧ Tryz.prog.underlying f3.type = some (.int .i64) ∧ Tryz.prog.underlying f4.type = some (.int .i64) :=
  ⟨_, _, _, _, _, Tryz.underlying98, by kernel_rfl, by kernel_rfl, by kernel_rfl, by kernel_rfl, by kernel_rfl, by kernel_rfl⟩
def ProdD (t : Prod) (_ : DataW H) : Prop := t.name.size ≤ maxLen
set_option maxRecDepth 100000 in
theorem dec_prod (fuel : Nat) (cs : List Value) (y : DataW H × List MemPlace) (h : DataW.trod enc Tryz.prog w base spare held fuel 98 cs = some y) : ∃ t : Prod, cs = t.cells ∧ ProdD t y.1 := by
  obtain ⟨f0, f1, f2, f3, f4, hs, hone, k0, k1, k2, k3, k4⟩ := prod_fields
  obtain ⟨xs, n, _, rfl, hl, hxl, hf⟩ := DataW.trod_struct hs h
  have hC : Tryz.prog.cellsOf 98 = 5 := by kernel_rfl
  rw [hC] at hl
  match cs, hl, xs, hxl, hf with
  | [c0, c1, c2, c3, c4], _, [x0, x1, x2, x3, x4], _, hf =>
    obtain ⟨s, e0, _, z1⟩ := DataW.trod_string k0 (OpenG.field_at hone hf 0 f0 rfl (by simp) (by simp))
    obtain ⟨a, e1, _, _⟩ := DataW.trod_int k1 (OpenG.field_at hone hf 1 f1 rfl (by simp) (by simp))
    obtain ⟨b, e2, _, _⟩ := DataW.trod_int k2 (OpenG.field_at hone hf 2 f2 rfl (by simp) (by simp))
    obtain ⟨c, e3, _, _⟩ := DataW.trod_int k3 (OpenG.field_at hone hf 3 f3 rfl (by simp) (by simp))
    obtain ⟨e, e4, _, _⟩ := DataW.trod_int k4 (OpenG.field_at hone hf 4 f4 rfl (by simp) (by simp))
    simp at e0 e1 e2 e3 e4
    subst e0 e1 e2 e3 e4
    exact ⟨⟨s, a, b, c, e⟩, rfl, z1⟩
theorem elems_all {T : Type} {p : T → Prop} {L : List T} {d : DataW H} (h : OpenG.Elems (fun t (_ : DataW H) => p t) L d) : ∀ t ∈ L, p t := by
  rcases h with ⟨rfl, _⟩ | ⟨el, sp, _, hl, hq⟩
  · intro t ht; cases ht
  · intro t ht
    obtain ⟨i, hi, rfl⟩ := List.getElem_of_mem ht
    exact hq i hi (by omega)
end
end Go.Proofs.YtaikmgnpfbnjjaaGreatDoor.OpenC
namespace Go.Proofs.YtaikmgnpfbnjjaaGreatDoor.Ev
open Go.ChangeShapes Go.WideShapes Go.ChangeAt Go.RowKit Gn Cat Lex Ros Se
set_option linter.unusedVariables false
set_option linter.unusedSimpArgs false
structure SetO (w : World) (v1 v2 v3 v4 : Value) (S : SetD) : Prop where
  p : PS w v1 S.ps
  b : BidS w v2 S.bs
  c : CapS w v3 S.cs
  a : AsdS w v4 S.ad
  np : ∀ p ∈ S.ps, p.name.size ≤ maxLen
  nb : ∀ p ∈ S.bs, p.name.size ≤ maxLen
theorem SetO.setW {w : World} {v1 v2 v3 v4 : Value} {S : SetD} (h : SetO w v1 v2 v3 v4 S) (hl : S.ps.length ≤ 50 ∧ S.bs.length ≤ 50 ∧ S.cs.length ≤ 50 ∧ S.ad.length ≤ 50) : SetW w v1 v2 v3 v4 S :=
  ⟨h.p, h.b, h.c, h.a, by omega, by omega, by omega, by omega, h.np, h.nb⟩
theorem SetO.forms {w : World} {v1 v2 v3 v4 : Value} {S : SetD} (h : SetO w v1 v2 v3 v4 S) : ∃ A1 c1 A2 c2 A3 c3 A4 c4, v1 = .slice A1 S.ps.length c1 ∧ v2 = .slice A2 S.bs.length c2 ∧ v3 = .slice A3 S.cs.length c3 ∧ v4 = .slice A4 S.ad.length c4 := by
  obtain ⟨A1, c1, e1, _⟩ := sl_parts h.p
  obtain ⟨A2, c2, e2, _⟩ := sl_parts h.b
  obtain ⟨A3, c3, e3, _⟩ := sl_parts h.c
  obtain ⟨A4, c4, e4, _⟩ := sl_parts h.a
  exact ⟨A1, c1, A2, c2, A3, c3, A4, c4, e1, e2, e3, e4⟩
end Go.Proofs.YtaikmgnpfbnjjaaGreatDoor.Ev
namespace Go.Proofs.YtaikmgnpfbnjjaaGreatDoor.OpenV
open Go.ChangeShapes Go.WideShapes Go.ChangeAt Go.RowKit Go.Joins Go.Deep
open Cat Ros Se Ev
set_option linter.unusedVariables false
set_option linter.unusedSimpArgs false
section
variable {H : Type} {enc : TypeId × Value → H} {w : World} {base : Nat} {spare : Nat → Bool} {held : Bool}
section
variable {P : Program}
theorem list_of_trod {T : Type} (K : Nat) (c : T → List Value) (Q : T → DataW H → Prop) (hK : 0 < K) (hc : ∀ t, (c t).length = K) {t e : TypeId} {fuel : Nat} {v : Value} {y : DataW H × List MemPlace} (ht : P.underlying t = some (.slice e)) (hC : P.cellsOf e = K)
    (dec : ∀ fuel cs y, DataW.trod enc P w base spare held fuel e cs = some y → ∃ x : T, cs = c x ∧ Q x y.1)
    (hf : DataW.trod enc P w base spare held fuel t [v] = some y) :
    ∃ (A : Option Addr) (cap : Nat) (L : List T), v = .slice A L.length cap ∧ Sl w K v L.length (L.flatMap c) ∧ OpenG.Elems Q L y.1 := by
  have hlen : ∀ L : List T, (L.flatMap c).length = L.length * K := by
    intro L
    induction L with
    | nil => simp
    | cons a r ih => rw [List.flatMap_cons, List.length_append, hc, ih, List.length_cons, Nat.succ_mul]; omega
  rcases open_slice ht hf with ⟨hcs, hx⟩ | ⟨x, n, cap, m, k, D, Pl, hcs, _, hl, hm, hmm, hx, hi⟩
  · obtain rfl : v = .slice none 0 0 := by simpa using hcs
    subst hx
    exact ⟨none, 0, [], rfl, Sl.nil w K, .inl ⟨rfl, rfl⟩⟩
  · obtain rfl : v = .slice (some x) n cap := by simpa using hcs
    subst hx
    have hstep : ∀ i, i < n → ∃ y : T, w.cells? base (x.add (i * K)) K = some (c y) ∧ Q y (D i) := fun i hin => by
      have him : i < m := by rw [hmm]; split <;> omega
      obtain ⟨cs', h1, h2⟩ := hi i him
      obtain ⟨y, rfl, hq⟩ := dec _ _ _ h2
      rw [hC] at h1
      exact ⟨y, h1, hq⟩
    obtain ⟨L, hll, hL⟩ := OpenG.list_of n hstep
    refine ⟨some x, cap, L, by rw [hll], ⟨hlen L, some x, cap, by rw [hll], by rw [hll]; exact hl, hm, fun hn => ?_⟩, .inr ⟨_, _, rfl, by simp [hll], fun i h1 h2 => ?_⟩⟩
    · have hs : x.spot = none := by
        have := (OpenG.cells_at hK (hL 0 hn).1).1
        simpa [Addr.add] using this
      obtain ⟨b, off, sp⟩ := x
      subst hs
      have hcell : ∀ i (hi : i < L.length) r, r < K → w.cell? ⟨b, off + i * K + r, none⟩ = (c L[i])[r]? := fun i hi r hr => by
        have h1 := (hL i hi).1
        rw [OpenAdd.add_at] at h1
        exact (OpenG.cells_at hK h1).2.2 r hr
      have hfirst : ∃ u, w.cell? ⟨b, off + 0 * K + 0, none⟩ = some u := by
        rw [hcell 0 hn 0 hK]
        exact ⟨_, List.getElem?_eq_getElem (by rw [hc]; exact hK)⟩
      obtain ⟨u0, hu0⟩ := hfirst
      refine ⟨b, off, rfl, block_lt_of_cell hu0, fun j u hj => ?_⟩
      obtain ⟨i, r, hi, hr, e, hu⟩ := OpenG.flat_at hc L j u hj
      rw [e, ← Nat.add_assoc, hcell i hi r hr]
      exact hu
    · have := (hL i h1).2
      simpa using this
end
set_option maxRecDepth 100000 in
theorem bidder_fields : ∃ f0 f1 f2 f3 : Field, Tryz.prog.underlying 67 = some (.struct #[f0, f1, f2, f3]) ∧ oneCellFields Tryz.prog #[f0, f1, f2, f3] = true ∧ Tryz.prog.underlying f0.type = some .string ∧ Tryz.prog.underlying f1.type = some (.int .i64) ∧ Tryz.prog.underlying f2.type = some (.int .i64) ∧ Tryz.prog.underlying f3.type = some (.int .i64) :=
  ⟨_, _, _, _, Tryz.underlying67, by kernel_rfl, by kernel_rfl, by kernel_rfl, by kernel_rfl, by kernel_rfl⟩
def BidD (t : Bid) (_ : DataW H) : Prop := t.name.size ≤ maxLen
set_option maxRecDepth 100000 in
theorem dec_bid (fuel : Nat) (cs : List Value) (y : DataW H × List MemPlace) (h : DataW.trod enc Tryz.prog w base spare held fuel 67 cs = some y) : ∃ t : Bid, cs = t.cells ∧ BidD t y.1 := by
  obtain ⟨f0, f1, f2, f3, hs, hone, k0, k1, k2, k3⟩ := bidder_fields
  obtain ⟨xs, n, _, rfl, hl, hxl, hf⟩ := DataW.trod_struct hs h
  have hC : Tryz.prog.cellsOf 67 = 4 := by kernel_rfl
  rw [hC] at hl
  match cs, hl, xs, hxl, hf with
  | [c0, c1, c2, c3], _, [x0, x1, x2, x3], _, hf =>
    obtain ⟨s, e0, _, z1⟩ := DataW.trod_string k0 (OpenG.field_at hone hf 0 f0 rfl (by simp) (by simp))
    obtain ⟨a, e1, _, _⟩ := DataW.trod_int k1 (OpenG.field_at hone hf 1 f1 rfl (by simp) (by simp))
    obtain ⟨b, e2, _, _⟩ := DataW.trod_int k2 (OpenG.field_at hone hf 2 f2 rfl (by simp) (by simp))
    obtain ⟨c, e3, _, _⟩ := DataW.trod_int k3 (OpenG.field_at hone hf 3 f3 rfl (by simp) (by simp))
    simp at e0 e1 e2 e3
    subst e0 e1 e2 e3
    exact ⟨⟨s, a, b, c⟩, rfl, z1⟩
theorem cap_fields : ∃ f0 f1 f2 : Field, Tryz.prog.underlying 94 = some (.struct #[f0, f1, f2]) ∧ oneCellFields Tryz.prog #[f0, f1, f2] = true ∧ Tryz.prog.underlying f0.type = some (.int .i64) ∧ Tryz.prog.underlying f1.type = some (.int .i64) ∧ Tryz.prog.underlying f2.type = some (.int .i64) :=
  ⟨_, _, _, Tryz.underlying94, by kernel_rfl, by kernel_rfl, by kernel_rfl, by kernel_rfl⟩
set_option maxRecDepth 100000 in
theorem dec_cap (fuel : Nat) (cs : List Value) (y : DataW H × List MemPlace) (h : DataW.trod enc Tryz.prog w base spare held fuel 94 cs = some y) : ∃ t : Cp, cs = t.cells ∧ (fun (_ : Cp) (_ : DataW H) => True) t y.1 := by
  obtain ⟨f0, f1, f2, hs, hone, k0, k1, k2⟩ := cap_fields
  obtain ⟨xs, n, _, rfl, hl, hxl, hf⟩ := DataW.trod_struct hs h
  have hC : Tryz.prog.cellsOf 94 = 3 := by kernel_rfl
  rw [hC] at hl
  match cs, hl, xs, hxl, hf with
  | [c0, c1, c2], _, [x0, x1, x2], _, hf =>
    obtain ⟨a, e0, _, _⟩ := DataW.trod_int k0 (OpenG.field_at hone hf 0 f0 rfl (by simp) (by simp))
    obtain ⟨b, e1, _, _⟩ := DataW.trod_int k1 (OpenG.field_at hone hf 1 f1 rfl (by simp) (by simp))
    obtain ⟨c, e2, _, _⟩ := DataW.trod_int k2 (OpenG.field_at hone hf 2 f2 rfl (by simp) (by simp))
    simp at e0 e1 e2
    subst e0 e1 e2
    exact ⟨⟨a, b, c⟩, rfl, trivial⟩
theorem asd_fields : ∃ f0 f1 f2 : Field, Tryz.prog.underlying 96 = some (.struct #[f0, f1, f2]) ∧ oneCellFields Tryz.prog #[f0, f1, f2] = true ∧ Tryz.prog.underlying f0.type = some (.int .i64) ∧ Tryz.prog.underlying f1.type = some (.int .i64) ∧ Tryz.prog.underlying f2.type = some (.int .i64) :=
  ⟨_, _, _, Tryz.underlying96, by kernel_rfl, by kernel_rfl, by kernel_rfl, by kernel_rfl⟩
set_option maxRecDepth 100000 in
theorem dec_asd (fuel : Nat) (cs : List Value) (y : DataW H × List MemPlace) (h : DataW.trod enc Tryz.prog w base spare held fuel 96 cs = some y) : ∃ t : Asd, cs = t.cells ∧ (fun (_ : Asd) (_ : DataW H) => True) t y.1 := by
  obtain ⟨f0, f1, f2, hs, hone, k0, k1, k2⟩ := asd_fields
  obtain ⟨xs, n, _, rfl, hl, hxl, hf⟩ := DataW.trod_struct hs h
  have hC : Tryz.prog.cellsOf 96 = 3 := by kernel_rfl
  rw [hC] at hl
  match cs, hl, xs, hxl, hf with
  | [c0, c1, c2], _, [x0, x1, x2], _, hf =>
    obtain ⟨a, e0, _, _⟩ := DataW.trod_int k0 (OpenG.field_at hone hf 0 f0 rfl (by simp) (by simp))
    obtain ⟨b, e1, _, _⟩ := DataW.trod_int k1 (OpenG.field_at hone hf 1 f1 rfl (by simp) (by simp))
    obtain ⟨c, e2, _, _⟩ := DataW.trod_int k2 (OpenG.field_at hone hf 2 f2 rfl (by simp) (by simp))
    simp at e0 e1 e2
    subst e0 e1 e2
    exact ⟨⟨a, b, c⟩, rfl, trivial⟩
set_option maxRecDepth 100000 in
theorem setup_fields : ∃ f0 f1 f2 f3 : Field, Tryz.prog.underlying 42 = some (.struct #[f0, f1, f2, f3]) ∧ oneCellFields Tryz.prog #[f0, f1, f2, f3] = true ∧ Tryz.prog.underlying f0.type = some (.slice 98) ∧ Tryz.prog.underlying f1.type = some (.slice 67) ∧ Tryz.prog.underlying f2.type = some (.slice 94) ∧ Tryz.prog.underlying f3.type = some (.slice 96) :=
  ⟨_, _, _, _, Tryz.underlying42, by kernel_rfl, by kernel_rfl, by kernel_rfl, by kernel_rfl, by kernel_rfl⟩
set_option maxRecDepth 100000 in
theorem open_setup {r : Reach} {b0 : Nat} {v : Value} {d : DataW H} {q : List MemPlace} (hv : Value.okWide Tryz.prog w r b0 42 v) (h : DataW.Trod enc Tryz.prog w base spare held 42 v d q) :
    ∃ (v1 v2 v3 v4 : Value) (S : SetD), v = .agg #[v1, v2, v3, v4] ∧ SetO w v1 v2 v3 v4 S := by
  obtain ⟨f0, f1, f2, f3, hs, hone, k0, k1, k2, k3⟩ := setup_fields
  obtain ⟨v0, v1, v2, v3, y0, y1, y2, y3, n, rfl, _, _, h0, h1, h2, h3⟩ := open_agg4 hs hone (by kernel_rfl) hv h
  obtain ⟨A1, c1, ps, rfl, hsl, he⟩ := list_of_trod 5 Prod.cells OpenC.ProdD (by decide) (fun _ => rfl) k0 (by kernel_rfl) OpenC.dec_prod h0
  obtain ⟨A2, c2, bs, rfl, hsb, hb⟩ := list_of_trod 4 Bid.cells BidD (by decide) (fun _ => rfl) k1 (by kernel_rfl) dec_bid h1
  obtain ⟨A3, c3, cs, rfl, hsc, _⟩ := list_of_trod 3 Cp.cells (fun _ _ => True) (by decide) (fun _ => rfl) k2 (by kernel_rfl) dec_cap h2
  obtain ⟨A4, c4, ad, rfl, hsa, _⟩ := list_of_trod 3 Asd.cells (fun _ _ => True) (by decide) (fun _ => rfl) k3 (by kernel_rfl) dec_asd h3
  exact ⟨_, _, _, _, ⟨ps, bs, cs, ad⟩, rfl, hsl, hsb, hsc, hsa, OpenC.elems_all he, OpenC.elems_all hb⟩
end
end Go.Proofs.YtaikmgnpfbnjjaaGreatDoor.OpenV
namespace Go.Proofs.YtaikmgnpfbnjjaaGreatDoor.Ev
open Go.ChangeShapes Go.WideShapes Go.ChangeAt Go.RowKit Gn Cat Lex Ros Se
set_option linter.unusedVariables false
set_option linter.unusedSimpArgs false
attribute [local go_sem] later_cell
abbrev TrueP (w : World) : Ending → World → Prop := fun e w' => e = .returned (.bool true) ∧ Below w.heap.size w w'
abbrev fewB (n1 n2 n3 n4 : Nat) : Bool := decide (n1 ≤ 20) && decide (n2 ≤ 20) && decide (n3 ≤ 40) && decide (n4 ≤ 40)
theorem few_yes {n1 n2 n3 n4 : Nat} (h : fewB n1 n2 n3 n4 = true) : n1 ≤ 20 ∧ n2 ≤ 20 ∧ n3 ≤ 40 ∧ n4 ≤ 40 := by
  simp [fewB] at h
  omega
set_option maxHeartbeats 2000000 in
set_option maxRecDepth 100000 in
theorem few_any (A1 A2 A3 A4 : Option Addr) (n1 n2 n3 n4 c1 c2 c3 c4 : Nat) (w : World) : Calls Tryz.prog 18 #[.agg #[.slice A1 n1 c1, .slice A2 n2 c2, .slice A3 n3 c3, .slice A4 n4 c4]] w fun e w' => e = .returned (.bool (fewB n1 n2 n3 n4)) ∧ Below w.heap.size w w' := by
  have BX := Lib.hid (below_new w (.cells #[.slice A1 n1 c1, .slice A2 n2 c2, .slice A3 n3 c3, .slice A4 n4 c4] 42))
  by_cases h1 : n1 ≤ 20
  case neg =>
    have t1 : decide ((n1 : Int) ≤ 20) = false := decide_eq_false (by omega)
    have HV : Hid (fewB n1 n2 n3 n4 = false) := by show _ = _; unfold fewB; simp [h1]
    go_enter Tryz.func18, Tryz.ntmps18
    go_wp2_with fail
    go_ret
    exact ⟨by rw [HV.out]; rfl, BX.out⟩
  have t1 : decide ((n1 : Int) ≤ 20) = true := decide_eq_true (by omega)
  by_cases h2 : n2 ≤ 20
  case neg =>
    have t2 : decide ((n2 : Int) ≤ 20) = false := decide_eq_false (by omega)
    have HV : Hid (fewB n1 n2 n3 n4 = false) := by show _ = _; unfold fewB; simp [h1, h2]
    go_enter Tryz.func18, Tryz.ntmps18
    go_wp2_with fail
    go_ret
    exact ⟨by rw [HV.out]; rfl, BX.out⟩
  have t2 : decide ((n2 : Int) ≤ 20) = true := decide_eq_true (by omega)
  by_cases h3 : n3 ≤ 40
  case neg =>
    have t3 : decide ((n3 : Int) ≤ 40) = false := decide_eq_false (by omega)
    have HV : Hid (fewB n1 n2 n3 n4 = false) := by show _ = _; unfold fewB; simp [h1, h2, h3]
    go_enter Tryz.func18, Tryz.ntmps18
    go_wp2_with fail
    go_ret
    exact ⟨by rw [HV.out]; rfl, BX.out⟩
  have t3 : decide ((n3 : Int) ≤ 40) = true := decide_eq_true (by omega)
  by_cases h4 : n4 ≤ 40
  case neg =>
    have t4 : decide ((n4 : Int) ≤ 40) = false := decide_eq_false (by omega)
    have HV : Hid (fewB n1 n2 n3 n4 = false) := by show _ = _; unfold fewB; simp [h1, h2, h3, h4]
    go_enter Tryz.func18, Tryz.ntmps18
    go_wp2_with fail
    go_ret
    exact ⟨by rw [HV.out]; rfl, BX.out⟩
  have t4 : decide ((n4 : Int) ≤ 40) = true := decide_eq_true (by omega)
  have HV : Hid (fewB n1 n2 n3 n4 = true) := by show _ = _; unfold fewB; simp [h1, h2, h3, h4]
  go_enter Tryz.func18, Tryz.ntmps18
  go_wp2_with fail
  go_ret
  exact ⟨by rw [HV.out]; rfl, BX.out⟩
end Go.Proofs.YtaikmgnpfbnjjaaGreatDoor.Ev
