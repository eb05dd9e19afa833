/- Opening an argument that is a bid expression. -/
import Derived.Test.YtjjlhihocllgjaaGreatDoorOpenG
import Derived.Test.YtjjlhihocllgjaaGreatDoorOpenC
import Derived.Test.YtjjlhihocllgjaaGreatDoorExT
namespace Go.Proofs.YtjjlhihocllgjaaGreatDoor.OpenX
open Go.ChangeShapes Go.WideShapes Go.ChangeAt Go.RowKit Go.Joins Go.Deep
open Cat Ex Gn
set_option linter.unusedVariables false
set_option linter.unusedSimpArgs false
section
variable {H : Type} {enc : TypeId × Value → H} {w : World} {base : Nat} {spare : Nat → Bool} {held : Bool}
section
variable {P : Program}
/-- a slice whose elements are read with less fuel -/
theorem list_of_fuel {T : Type} (K : Nat) (c : T → List Value) (Q : T → Prop) (hK : 0 < K) (hc : ∀ t, (c t).length = K) {t e : TypeId} {fuel : Nat} {v : Value} {y : DataW H × List MemPlace} (ht : P.underlying t = some (.slice e)) (hC : P.cellsOf e = K)
    (dec : ∀ n, n < fuel → ∀ cs y, DataW.trod enc P w base spare held n e cs = some y → ∃ x : T, cs = c x ∧ Q x)
    (hf : DataW.trod enc P w base spare held fuel t [v] = some y) :
    ∃ (A : Option Addr) (cap : Nat) (L : List T), v = .slice A L.length cap ∧ L.length ≤ cap ∧ cap ≤ maxLen ∧ (0 < L.length → ∃ b o, A = some ⟨b, o, none⟩ ∧ b < w.heap.size ∧ Row w b o (L.flatMap c)) ∧ ∀ x ∈ L, Q x := by
  rcases DataW.trod_slice ht hf with ⟨hcs, hx⟩ | ⟨x, n, cap, elems, rest, m, hfu, hcs, _, _, hl, hm, hel, hi, _, _⟩
  · obtain rfl : v = .slice none 0 0 := by simpa using hcs
    exact ⟨none, 0, [], rfl, Nat.le_refl _, Nat.zero_le _, fun h => absurd h (by simp), fun x hx => by cases hx⟩
  · obtain rfl : v = .slice (some x) n cap := by simpa using hcs
    have hstep : ∀ i, i < n → ∃ y : T, w.cells? base (x.add (i * K)) K = some (c y) ∧ Q y := fun i hin => by
      have h1 := hi i hin
      rw [List.getElem?_eq_getElem (by omega), hC] at h1
      obtain ⟨cs', h2, h3⟩ := Option.bind_eq_some_iff.1 h1
      obtain ⟨y, rfl, hq⟩ := dec m (by omega) _ _ h3
      exact ⟨y, h2, hq⟩
    obtain ⟨L, hll, hL⟩ := OpenG.list_of n hstep
    refine ⟨some x, cap, L, by rw [hll], by rw [hll]; exact hl, hm, fun hn => ?_, fun z hz => ?_⟩
    · have hs : x.spot = none := by
        have := (OpenG.cells_at hK (hL 0 hn).1).1
        simpa [Addr.add] using this
      obtain ⟨b, off, sp⟩ := x
      subst hs
      have hcell : ∀ i (hi : i < L.length) r, r < K → w.cell? ⟨b, off + i * K + r, none⟩ = (c L[i])[r]? := fun i hi r hr => by
        have h1 := (hL i hi).1
        rw [OpenAdd.add_at] at h1
        exact (OpenG.cells_at hK h1).2.2 r hr
      have hfirst : ∃ u, w.cell? ⟨b, off + 0 * K + 0, none⟩ = some u := by
        rw [hcell 0 hn 0 hK]
        exact ⟨_, List.getElem?_eq_getElem (by rw [hc]; exact hK)⟩
      obtain ⟨u0, hu0⟩ := hfirst
      refine ⟨b, off, rfl, block_lt_of_cell hu0, fun j u hj => ?_⟩
      obtain ⟨i, r, hi, hr, e, hu⟩ := OpenG.flat_at hc L j u hj
      rw [e, ← Nat.add_assoc, hcell i hi r hr]
      exact hu
    · obtain ⟨i, hi, rfl⟩ := List.getElem_of_mem hz
      exact (hL i hi).2
theorem arr6_of_trod {t e : TypeId} {fuel : Nat} {cs : List Value} {y : DataW H × List MemPlace} (ht : P.underlying t = some (.array 6 e)) (he : P.underlying e = some (.int .i64)) (hC : P.cellsOf t = 6) (hCe : P.cellsOf e = 1)
    (hf : DataW.trod enc P w base spare held fuel t cs = some y) : ∃ p : Nat → Int, cs = [.int .i64 (p 0), .int .i64 (p 1), .int .i64 (p 2), .int .i64 (p 3), .int .i64 (p 4), .int .i64 (p 5)] := by
  obtain ⟨xs, m, _, _, hl, hlen, hg⟩ := DataW.trod_array ht hf
  rw [hC] at hl
  match cs, hl with
  | [c0, c1, c2, c3, c4, c5], _ =>
    have step : ∀ i, i < 6 → ∃ n, ((([c0, c1, c2, c3, c4, c5] : List Value).drop (i * 1)).take 1) = [.int .i64 n] := by
      intro i hi
      have h1 := hg i hi
      rw [hCe] at h1
      have h2 : xs[i]? = some (xs[i]'(by omega)) := List.getElem?_eq_getElem (by omega)
      rw [h2] at h1
      obtain ⟨n, e1, _, wn⟩ := DataW.trod_int he h1
      exact ⟨n, e1⟩
    obtain ⟨n0, e0⟩ := step 0 (by omega)
    obtain ⟨n1, e1⟩ := step 1 (by omega)
    obtain ⟨n2, e2⟩ := step 2 (by omega)
    obtain ⟨n3, e3⟩ := step 3 (by omega)
    obtain ⟨n4, e4⟩ := step 4 (by omega)
    obtain ⟨n5, e5⟩ := step 5 (by omega)
    simp at e0 e1 e2 e3 e4 e5
    subst e0 e1 e2 e3 e4 e5
    exact ⟨OpenC.sel6 n0 n1 n2 n3 n4 n5, rfl⟩
end
theorem in_up : ∀ {d d' B : Nat} {e : Tree}, In d B w e → d ≤ d' → In d' B w e
  | 0, _, _, _, h, _ => h.elim
  | d + 1, 0, _, _, _, h => by omega
  | d + 1, d' + 1, B, e, h, k => ⟨h.1, h.2.1, h.2.2.1, fun x hx => in_up (h.2.2.2 x hx) (by omega)⟩
set_option maxRecDepth 100000 in
theorem expr_fields : ∃ f0 f1 f2 f3 : Field, Tryz.prog.underlying 28 = some (.struct #[f0, f1, f2, f3]) ∧ (f0.offset = 0 ∧ f1.offset = 1 ∧ f2.offset = 7 ∧ f3.offset = 8) ∧ (Tryz.prog.cellsOf f0.type = 1 ∧ Tryz.prog.cellsOf f1.type = 6 ∧ Tryz.prog.cellsOf f2.type = 1 ∧ Tryz.prog.cellsOf f3.type = 1) ∧ Tryz.prog.underlying f0.type = some (.int .i64) ∧ (∃ e, Tryz.prog.underlying f1.type = some (.array 6 e) ∧ Tryz.prog.underlying e = some (.int .i64) ∧ Tryz.prog.cellsOf e = 1) ∧ Tryz.prog.underlying f2.type = some (.int .i64) ∧ Tryz.prog.underlying f3.type = some (.slice 28) :=
  ⟨_, _, _, _, Tryz.underlying28, ⟨by kernel_rfl, by kernel_rfl, by kernel_rfl, by kernel_rfl⟩, ⟨by kernel_rfl, by kernel_rfl, by kernel_rfl, by kernel_rfl⟩, by kernel_rfl, ⟨3, by kernel_rfl, by kernel_rfl, by kernel_rfl⟩, by kernel_rfl, by kernel_rfl⟩
set_option maxRecDepth 100000 in
theorem dec_tree (fuel : Nat) : ∀ (cs : List Value) (y : DataW H × List MemPlace), DataW.trod enc Tryz.prog w base spare held fuel 28 cs = some y → ∃ t : Tree, cs = t.cells ∧ In fuel w.heap.size w t := by
  induction fuel using Nat.strongRecOn with
  | _ fuel ih =>
    intro cs y h
    obtain ⟨f0, f1, f2, f3, hs, ⟨o0, o1, o2, o3⟩, ⟨k0, k1, k2, k3⟩, u0, ⟨e1, u1, u11, u12⟩, u2, u3⟩ := expr_fields
    obtain ⟨xs, n, hfu, rfl, hl, hxl, hf⟩ := DataW.trod_struct hs h
    have hC : Tryz.prog.cellsOf 28 = 9 := by kernel_rfl
    rw [hC] at hl
    match cs, hl, xs, hxl, hf with
    | [c0, c1, c2, c3, c4, c5, c6, c7, c8], _, [x0, x1, x2, x3], _, hf =>
      have g0 := hf 0 f0 rfl
      have g1 := hf 1 f1 rfl
      have g2 := hf 2 f2 rfl
      have g3 := hf 3 f3 rfl
      rw [o0, k0] at g0
      rw [o1, k1] at g1
      rw [o2, k2] at g2
      rw [o3, k3] at g3
      obtain ⟨op, e0, _, _⟩ := DataW.trod_int u0 g0
      obtain ⟨p, ep⟩ := arr6_of_trod u1 u11 k1 u12 g1
      obtain ⟨v, e2, _, _⟩ := DataW.trod_int u2 g2
      obtain ⟨A, cap, L, e3, l1, l2, l3, l4⟩ := list_of_fuel 9 Tree.cells (fun t => In n w.heap.size w t) (by decide) tree_len u3 hC (fun m hm cs y hy => by
        obtain ⟨t, et, it⟩ := ih m (by omega) cs y hy
        exact ⟨t, et, in_up it (by omega)⟩) (show DataW.trod enc Tryz.prog w base spare held n f3.type [c8] = some x3 from g3)
      simp at e0 ep e2
      obtain ⟨q1, q2, q3, q4, q5, q6⟩ := ep
      subst e0 q1 q2 q3 q4 q5 q6 e2 e3 hfu
      exact ⟨.mk op p v A cap L, rfl, l1, l2, l3, l4⟩
set_option maxRecDepth 100000 in
theorem open_expr {r : Reach} {b0 : Nat} {v : Value} {d : DataW H} {ps : List MemPlace} (hv : Value.okWide Tryz.prog w r b0 28 v) (h : DataW.Trod enc Tryz.prog w base spare held 28 v d ps) :
    ∃ (dp : Nat) (e : Tree), v = e.val ∧ In dp w.heap.size w e := by
  obtain ⟨f0, f1, f2, f3, hs, _⟩ := expr_fields
  obtain ⟨cs, rfl, hsz⟩ := okWide_struct hs hv
  obtain ⟨fuel, hf⟩ := h
  obtain ⟨t, e, hi⟩ := dec_tree fuel _ _ hf
  refine ⟨fuel, t, ?_, hi⟩
  have e2 : cs.toList = t.cells := by simpa [Value.cells] using e
  obtain ⟨l⟩ := cs
  have e3 : l = t.cells := e2
  rw [e3]
end
end Go.Proofs.YtjjlhihocllgjaaGreatDoor.OpenX
