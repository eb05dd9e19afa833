/- Opening an argument that is a setup, a list of bundles. Printed by gen_seL.py. -/
import Derived.Test.YtjjlhihocllgjaaDoorOpenG
import Derived.Test.YtjjlhihocllgjaaDoorOpenC
import Derived.Test.YtjjlhihocllgjaaDoorSeC
namespace Go.Proofs.YtjjlhihocllgjaaDoor.OpenV
open Go.ChangeShapes Go.WideShapes Go.ChangeAt Go.RowKit Go.Joins Go.Deep
open Cat Ros Se
set_option linter.unusedVariables false
set_option linter.unusedSimpArgs false
section
variable {H : Type} {enc : TypeId × Value → H} {w : World} {base : Nat} {spare : Nat → Bool} {held : Bool}
section
variable {P : Program}
theorem list_of_trod {T : Type} (K : Nat) (c : T → List Value) (Q : T → DataW H → Prop) (hK : 0 < K) (hc : ∀ t, (c t).length = K) {t e : TypeId} {fuel : Nat} {v : Value} {y : DataW H × List MemPlace} (ht : P.underlying t = some (.slice e)) (hC : P.cellsOf e = K)
    (dec : ∀ fuel cs y, DataW.trod enc P w base spare held fuel e cs = some y → ∃ x : T, cs = c x ∧ Q x y.1)
    (hf : DataW.trod enc P w base spare held fuel t [v] = some y) :
    ∃ (A : Option Addr) (cap : Nat) (L : List T), v = .slice A L.length cap ∧ Sl w K v L.length (L.flatMap c) ∧ OpenG.Elems Q L y.1 := by
  have hlen : ∀ L : List T, (L.flatMap c).length = L.length * K := by
    intro L
    induction L with
    | nil => simp
    | cons a r ih => rw [List.flatMap_cons, List.length_append, hc, ih, List.length_cons, Nat.succ_mul]; omega
  rcases open_slice ht hf with ⟨hcs, hx⟩ | ⟨x, n, cap, m, k, D, Pl, hcs, _, hl, hm, hmm, hx, hi⟩
  · obtain rfl : v = .slice none 0 0 := by simpa using hcs
    subst hx
    exact ⟨none, 0, [], rfl, Sl.nil w K, .inl ⟨rfl, rfl⟩⟩
  · obtain rfl : v = .slice (some x) n cap := by simpa using hcs
    subst hx
    have hstep : ∀ i, i < n → ∃ y : T, w.cells? base (x.add (i * K)) K = some (c y) ∧ Q y (D i) := fun i hin => by
      have him : i < m := by rw [hmm]; split <;> omega
      obtain ⟨cs', h1, h2⟩ := hi i him
      obtain ⟨y, rfl, hq⟩ := dec _ _ _ h2
      rw [hC] at h1
      exact ⟨y, h1, hq⟩
    obtain ⟨L, hll, hL⟩ := OpenG.list_of n hstep
    refine ⟨some x, cap, L, by rw [hll], ⟨hlen L, some x, cap, by rw [hll], by rw [hll]; exact hl, hm, fun hn => ?_⟩, .inr ⟨_, _, rfl, by simp [hll], fun i h1 h2 => ?_⟩⟩
    · have hs : x.spot = none := by
        have := (OpenG.cells_at hK (hL 0 hn).1).1
        simpa [Addr.add] using this
      obtain ⟨b, off, sp⟩ := x
      subst hs
      have hcell : ∀ i (hi : i < L.length) r, r < K → w.cell? ⟨b, off + i * K + r, none⟩ = (c L[i])[r]? := fun i hi r hr => by
        have h1 := (hL i hi).1
        rw [OpenAdd.add_at] at h1
        exact (OpenG.cells_at hK h1).2.2 r hr
      have hfirst : ∃ u, w.cell? ⟨b, off + 0 * K + 0, none⟩ = some u := by
        rw [hcell 0 hn 0 hK]
        exact ⟨_, List.getElem?_eq_getElem (by rw [hc]; exact hK)⟩
      obtain ⟨u0, hu0⟩ := hfirst
      refine ⟨b, off, rfl, block_lt_of_cell hu0, fun j u hj => ?_⟩
      obtain ⟨i, r, hi, hr, e, hu⟩ := OpenG.flat_at hc L j u hj
      rw [e, ← Nat.add_assoc, hcell i hi r hr]
      exact hu
    · have := (hL i h1).2
      simpa using this
theorem arr6_of_trod {t e : TypeId} {fuel : Nat} {cs : List Value} {y : DataW H × List MemPlace} (ht : P.underlying t = some (.array 6 e)) (he : P.underlying e = some (.int .i64)) (hC : P.cellsOf t = 6) (hCe : P.cellsOf e = 1)
    (hf : DataW.trod enc P w base spare held fuel t cs = some y) : ∃ p : Nat → Int, cs = [.int .i64 (p 0), .int .i64 (p 1), .int .i64 (p 2), .int .i64 (p 3), .int .i64 (p 4), .int .i64 (p 5)] ∧ ∀ k, k < 6 → (Lit.int .i64 (p k)).wf = true := by
  obtain ⟨xs, m, _, _, hl, hlen, hg⟩ := DataW.trod_array ht hf
  rw [hC] at hl
  match cs, hl with
  | [c0, c1, c2, c3, c4, c5], _ =>
    have step : ∀ i, i < 6 → ∃ n, ((([c0, c1, c2, c3, c4, c5] : List Value).drop (i * 1)).take 1) = [.int .i64 n] ∧ (Lit.int .i64 n).wf = true := by
      intro i hi
      have h1 := hg i hi
      rw [hCe] at h1
      have h2 : xs[i]? = some (xs[i]'(by omega)) := List.getElem?_eq_getElem (by omega)
      rw [h2] at h1
      obtain ⟨n, e1, _, wn⟩ := DataW.trod_int he h1
      exact ⟨n, e1, wn⟩
    obtain ⟨n0, e0, w0⟩ := step 0 (by omega)
    obtain ⟨n1, e1, w1⟩ := step 1 (by omega)
    obtain ⟨n2, e2, w2⟩ := step 2 (by omega)
    obtain ⟨n3, e3, w3⟩ := step 3 (by omega)
    obtain ⟨n4, e4, w4⟩ := step 4 (by omega)
    obtain ⟨n5, e5, w5⟩ := step 5 (by omega)
    simp at e0 e1 e2 e3 e4 e5
    subst e0 e1 e2 e3 e4 e5
    refine ⟨OpenC.sel6 n0 n1 n2 n3 n4 n5, rfl, ?_⟩
    intro k hk
    obtain rfl | rfl | rfl | rfl | rfl | rfl : k = 0 ∨ k = 1 ∨ k = 2 ∨ k = 3 ∨ k = 4 ∨ k = 5 := by omega
    all_goals assumption
end
set_option maxRecDepth 100000 in
theorem bidder_fields : ∃ f0 f1 f2 f3 : Field, Tryd.prog.underlying 116 = some (.struct #[f0, f1, f2, f3]) ∧ oneCellFields Tryd.prog #[f0, f1, f2, f3] = true ∧ Tryd.prog.underlying f0.type = some .string ∧ Tryd.prog.underlying f1.type = some (.int .i64) ∧ Tryd.prog.underlying f2.type = some (.int .i64) ∧ Tryd.prog.underlying f3.type = some (.int .i64) :=
  ⟨_, _, _, _, Tryd.underlying116, by kernel_rfl, by kernel_rfl, by kernel_rfl, by kernel_rfl, by kernel_rfl⟩
def BidD (t : Bid) (_ : DataW H) : Prop := t.name.size ≤ maxLen
set_option maxRecDepth 100000 in
theorem dec_bid (fuel : Nat) (cs : List Value) (y : DataW H × List MemPlace) (h : DataW.trod enc Tryd.prog w base spare held fuel 116 cs = some y) : ∃ t : Bid, cs = t.cells ∧ BidD t y.1 := by
  obtain ⟨f0, f1, f2, f3, hs, hone, k0, k1, k2, k3⟩ := bidder_fields
  obtain ⟨xs, n, _, rfl, hl, hxl, hf⟩ := DataW.trod_struct hs h
  have hC : Tryd.prog.cellsOf 116 = 4 := by kernel_rfl
  rw [hC] at hl
  match cs, hl, xs, hxl, hf with
  | [c0, c1, c2, c3], _, [x0, x1, x2, x3], _, hf =>
    obtain ⟨s, e0, _, z1⟩ := DataW.trod_string k0 (OpenG.field_at hone hf 0 f0 rfl (by simp) (by simp))
    obtain ⟨a, e1, _, _⟩ := DataW.trod_int k1 (OpenG.field_at hone hf 1 f1 rfl (by simp) (by simp))
    obtain ⟨b, e2, _, _⟩ := DataW.trod_int k2 (OpenG.field_at hone hf 2 f2 rfl (by simp) (by simp))
    obtain ⟨c, e3, _, _⟩ := DataW.trod_int k3 (OpenG.field_at hone hf 3 f3 rfl (by simp) (by simp))
    simp at e0 e1 e2 e3
    subst e0 e1 e2 e3
    exact ⟨⟨s, a, b, c⟩, rfl, z1⟩
def BunD (p : Nat → Int) (_ : DataW H) : Prop := ∀ k, k < 6 → (Lit.int .i64 (p k)).wf = true
set_option maxRecDepth 100000 in
theorem dec_bun (fuel : Nat) (cs : List Value) (y : DataW H × List MemPlace) (h : DataW.trod enc Tryd.prog w base spare held fuel 24 cs = some y) : ∃ p : Nat → Int, cs = bunCells p ∧ BunD p y.1 := by
  obtain ⟨p, e, hp⟩ := arr6_of_trod (e := 3) Tryd.underlying24 (by kernel_rfl) (by kernel_rfl) (by kernel_rfl) h
  exact ⟨p, e, hp⟩
theorem cap_fields : ∃ f0 f1 f2 : Field, Tryd.prog.underlying 111 = some (.struct #[f0, f1, f2]) ∧ oneCellFields Tryd.prog #[f0, f1, f2] = true ∧ Tryd.prog.underlying f0.type = some (.int .i64) ∧ Tryd.prog.underlying f1.type = some (.int .i64) ∧ Tryd.prog.underlying f2.type = some (.int .i64) :=
  ⟨_, _, _, Tryd.underlying111, by kernel_rfl, by kernel_rfl, by kernel_rfl, by kernel_rfl⟩
set_option maxRecDepth 100000 in
theorem dec_cap (fuel : Nat) (cs : List Value) (y : DataW H × List MemPlace) (h : DataW.trod enc Tryd.prog w base spare held fuel 111 cs = some y) : ∃ t : Cp, cs = t.cells ∧ (fun (_ : Cp) (_ : DataW H) => True) t y.1 := by
  obtain ⟨f0, f1, f2, hs, hone, k0, k1, k2⟩ := cap_fields
  obtain ⟨xs, n, _, rfl, hl, hxl, hf⟩ := DataW.trod_struct hs h
  have hC : Tryd.prog.cellsOf 111 = 3 := by kernel_rfl
  rw [hC] at hl
  match cs, hl, xs, hxl, hf with
  | [c0, c1, c2], _, [x0, x1, x2], _, hf =>
    obtain ⟨a, e0, _, _⟩ := DataW.trod_int k0 (OpenG.field_at hone hf 0 f0 rfl (by simp) (by simp))
    obtain ⟨b, e1, _, _⟩ := DataW.trod_int k1 (OpenG.field_at hone hf 1 f1 rfl (by simp) (by simp))
    obtain ⟨c, e2, _, _⟩ := DataW.trod_int k2 (OpenG.field_at hone hf 2 f2 rfl (by simp) (by simp))
    simp at e0 e1 e2
    subst e0 e1 e2
    exact ⟨⟨a, b, c⟩, rfl, trivial⟩
theorem asd_fields : ∃ f0 f1 f2 : Field, Tryd.prog.underlying 114 = some (.struct #[f0, f1, f2]) ∧ oneCellFields Tryd.prog #[f0, f1, f2] = true ∧ Tryd.prog.underlying f0.type = some (.int .i64) ∧ Tryd.prog.underlying f1.type = some (.int .i64) ∧ Tryd.prog.underlying f2.type = some (.int .i64) :=
  ⟨_, _, _, Tryd.underlying114, by kernel_rfl, by kernel_rfl, by kernel_rfl, by kernel_rfl⟩
set_option maxRecDepth 100000 in
theorem dec_asd (fuel : Nat) (cs : List Value) (y : DataW H × List MemPlace) (h : DataW.trod enc Tryd.prog w base spare held fuel 114 cs = some y) : ∃ t : Asd, cs = t.cells ∧ (fun (_ : Asd) (_ : DataW H) => True) t y.1 := by
  obtain ⟨f0, f1, f2, hs, hone, k0, k1, k2⟩ := asd_fields
  obtain ⟨xs, n, _, rfl, hl, hxl, hf⟩ := DataW.trod_struct hs h
  have hC : Tryd.prog.cellsOf 114 = 3 := by kernel_rfl
  rw [hC] at hl
  match cs, hl, xs, hxl, hf with
  | [c0, c1, c2], _, [x0, x1, x2], _, hf =>
    obtain ⟨a, e0, _, _⟩ := DataW.trod_int k0 (OpenG.field_at hone hf 0 f0 rfl (by simp) (by simp))
    obtain ⟨b, e1, _, _⟩ := DataW.trod_int k1 (OpenG.field_at hone hf 1 f1 rfl (by simp) (by simp))
    obtain ⟨c, e2, _, _⟩ := DataW.trod_int k2 (OpenG.field_at hone hf 2 f2 rfl (by simp) (by simp))
    simp at e0 e1 e2
    subst e0 e1 e2
    exact ⟨⟨a, b, c⟩, rfl, trivial⟩
set_option maxRecDepth 100000 in
theorem setup_fields : ∃ f0 f1 f2 f3 : Field, Tryd.prog.underlying 43 = some (.struct #[f0, f1, f2, f3]) ∧ oneCellFields Tryd.prog #[f0, f1, f2, f3] = true ∧ Tryd.prog.underlying f0.type = some (.slice 77) ∧ Tryd.prog.underlying f1.type = some (.slice 116) ∧ Tryd.prog.underlying f2.type = some (.slice 111) ∧ Tryd.prog.underlying f3.type = some (.slice 114) :=
  ⟨_, _, _, _, Tryd.underlying43, by kernel_rfl, by kernel_rfl, by kernel_rfl, by kernel_rfl, by kernel_rfl⟩
set_option maxRecDepth 100000 in
theorem open_setup {r : Reach} {b0 : Nat} {v : Value} {d : DataW H} {q : List MemPlace} (hv : Value.okWide Tryd.prog w r b0 43 v) (h : DataW.Trod enc Tryd.prog w base spare held 43 v d q) :
    ∃ (v1 v2 v3 v4 : Value) (S : SetD), v = .agg #[v1, v2, v3, v4] ∧ SetO w v1 v2 v3 v4 S := by
  obtain ⟨f0, f1, f2, f3, hs, hone, k0, k1, k2, k3⟩ := setup_fields
  obtain ⟨v0, v1, v2, v3, y0, y1, y2, y3, n, rfl, _, _, h0, h1, h2, h3⟩ := open_agg4 hs hone (by kernel_rfl) hv h
  obtain ⟨A1, c1, ps, rfl, hsl, he⟩ := list_of_trod 5 Prod.cells OpenC.ProdD (by decide) (fun _ => rfl) k0 (by kernel_rfl) OpenC.dec_prod h0
  obtain ⟨A2, c2, bs, rfl, hsb, hb⟩ := list_of_trod 4 Bid.cells BidD (by decide) (fun _ => rfl) k1 (by kernel_rfl) dec_bid h1
  obtain ⟨A3, c3, cs, rfl, hsc, _⟩ := list_of_trod 3 Cp.cells (fun _ _ => True) (by decide) (fun _ => rfl) k2 (by kernel_rfl) dec_cap h2
  obtain ⟨A4, c4, ad, rfl, hsa, _⟩ := list_of_trod 3 Asd.cells (fun _ _ => True) (by decide) (fun _ => rfl) k3 (by kernel_rfl) dec_asd h3
  exact ⟨_, _, _, _, ⟨ps, bs, cs, ad⟩, rfl, hsl, hsb, hsc, hsa, OpenC.elems_all he, OpenC.elems_all hb⟩
set_option maxRecDepth 100000 in
theorem open_buns {r : Reach} {b0 : Nat} {v : Value} {d : DataW H} {q : List MemPlace} (hv : Value.okWide Tryd.prog w r b0 44 v) (h : DataW.Trod enc Tryd.prog w base spare held 44 v d q) :
    ∃ l : List (Nat → Int), BunS w v l := by
  obtain ⟨a, n, cap, rfl⟩ := okWide_slice Tryd.underlying44 hv
  obtain ⟨fuel, hf⟩ := h
  obtain ⟨_, _, l, _, hsl, he⟩ := list_of_trod 6 bunCells BunD (by decide) (fun _ => rfl) Tryd.underlying44 (by kernel_rfl) dec_bun hf
  exact ⟨l, hsl⟩
end
end Go.Proofs.YtjjlhihocllgjaaDoor.OpenV
