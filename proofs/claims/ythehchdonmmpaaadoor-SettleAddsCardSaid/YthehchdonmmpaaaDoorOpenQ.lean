/- Opening an argument that is a list of invoices; lists out of what a reading says. -/
import Derived.Test.YthehchdonmmpaaaDoorPs17
import Derived.Test.YthehchdonmmpaaaDoorPs18
import Derived.SizedLaws
namespace Go.Proofs.YthehchdonmmpaaaDoor.OpenQ
open Go.ChangeShapes Go.WideShapes Go.ChangeAt Go.RowKit Go.Joins Go.Deep
open Cat Pr
set_option linter.unusedVariables false
set_option linter.unusedSimpArgs false
section
variable {H : Type} {enc : TypeId × Value → H} {w : World} {base : Nat} {spare : Nat → Bool} {held : Bool}
section
variable {P : Program}
theorem list_of_trod {T : Type} (K : Nat) (c : T → List Value) (Q : T → DataW H → Prop) (hK : 0 < K) (hc : ∀ t, (c t).length = K) {t e : TypeId} {fuel : Nat} {v : Value} {y : DataW H × List MemPlace} (ht : P.underlying t = some (.slice e)) (hC : P.cellsOf e = K)
    (dec : ∀ fuel cs y, DataW.trod enc P w base spare held fuel e cs = some y → ∃ x : T, cs = c x ∧ Q x y.1)
    (hf : DataW.trod enc P w base spare held fuel t [v] = some y) :
    ∃ (A : Option Addr) (cap : Nat) (L : List T), v = .slice A L.length cap ∧ Sl w K v L.length (L.flatMap c) ∧ OpenG.Elems Q L y.1 := by
  have hlen : ∀ L : List T, (L.flatMap c).length = L.length * K := by
    intro L
    induction L with
    | nil => simp
    | cons a r ih => rw [List.flatMap_cons, List.length_append, hc, ih, List.length_cons, Nat.succ_mul]; omega
  rcases open_slice ht hf with ⟨hcs, hx⟩ | ⟨x, n, cap, m, k, D, Pl, hcs, _, hl, hm, hmm, hx, hi⟩
  · obtain rfl : v = .slice none 0 0 := by simpa using hcs
    subst hx
    exact ⟨none, 0, [], rfl, Sl.nil w K, .inl ⟨rfl, rfl⟩⟩
  · obtain rfl : v = .slice (some x) n cap := by simpa using hcs
    subst hx
    have hstep : ∀ i, i < n → ∃ y : T, w.cells? base (x.add (i * K)) K = some (c y) ∧ Q y (D i) := fun i hin => by
      have him : i < m := by rw [hmm]; split <;> omega
      obtain ⟨cs', h1, h2⟩ := hi i him
      obtain ⟨y, rfl, hq⟩ := dec _ _ _ h2
      rw [hC] at h1
      exact ⟨y, h1, hq⟩
    obtain ⟨L, hll, hL⟩ := OpenG.list_of n hstep
    refine ⟨some x, cap, L, by rw [hll], ⟨hlen L, some x, cap, by rw [hll], by rw [hll]; exact hl, hm, fun hn => ?_⟩, .inr ⟨_, _, rfl, by simp [hll], fun i h1 h2 => ?_⟩⟩
    · have hs : x.spot = none := by
        have := (OpenG.cells_at hK (hL 0 hn).1).1
        simpa [Addr.add] using this
      obtain ⟨b, off, sp⟩ := x
      subst hs
      have hcell : ∀ i (hi : i < L.length) r, r < K → w.cell? ⟨b, off + i * K + r, none⟩ = (c L[i])[r]? := fun i hi r hr => by
        have h1 := (hL i hi).1
        rw [OpenAdd.add_at] at h1
        exact (OpenG.cells_at hK h1).2.2 r hr
      have hfirst : ∃ u, w.cell? ⟨b, off + 0 * K + 0, none⟩ = some u := by
        rw [hcell 0 hn 0 hK]
        exact ⟨_, List.getElem?_eq_getElem (by rw [hc]; exact hK)⟩
      obtain ⟨u0, hu0⟩ := hfirst
      refine ⟨b, off, rfl, block_lt_of_cell hu0, fun j u hj => ?_⟩
      obtain ⟨i, r, hi, hr, e, hu⟩ := OpenG.flat_at hc L j u hj
      rw [e, ← Nat.add_assoc, hcell i hi r hr]
      exact hu
    · have := (hL i h1).2
      simpa using this
theorem size_of_elems {T : Type} {Q : T → DataW H → Prop} {L : List T} {ts : List TypeId} {ds : List (DataW H)} (h : (DataW.weightsEach P ts ds).all (· ≤ reachBytes) = true) {j : Nat} {t e : TypeId} {d : DataW H} {B : Nat} (he : OpenG.Elems Q L d) (ht : ts[j]? = some t) (hd : ds[j]? = some d) (hu : P.underlying t = some (.slice e)) (hB : P.bytesOf e = B) :
    L.length * B ≤ 140737488355328 := by
  rcases he with ⟨rfl, _⟩ | ⟨el, sp, rfl, hl, _⟩
  · simp
  · have h1 := sized_slice h ht hd hu
    rw [hB, Nat.add_mul, hl] at h1
    have h2 := reachBytes_lt
    omega
theorem form_of_trod {t e : TypeId} {fuel : Nat} {v : Value} {y : DataW H × List MemPlace} (ht : P.underlying t = some (.slice e)) (hf : DataW.trod enc P w base spare held fuel t [v] = some y) : ∃ A n c, v = .slice A n c := by
  rcases open_slice ht hf with ⟨hcs, _⟩ | ⟨x, n, cap, m, k, D, Pl, hcs, _⟩
  · exact ⟨none, 0, 0, by simpa using hcs⟩
  · exact ⟨some x, n, cap, by simpa using hcs⟩
theorem arr6_of_trod {t e : TypeId} {fuel : Nat} {cs : List Value} {y : DataW H × List MemPlace} (ht : P.underlying t = some (.array 6 e)) (he : P.underlying e = some (.int .i64)) (hC : P.cellsOf t = 6) (hCe : P.cellsOf e = 1)
    (hf : DataW.trod enc P w base spare held fuel t cs = some y) : ∃ p : Nat → Int, cs = [.int .i64 (p 0), .int .i64 (p 1), .int .i64 (p 2), .int .i64 (p 3), .int .i64 (p 4), .int .i64 (p 5)] ∧ ∀ k, k < 6 → (Lit.int .i64 (p k)).wf = true := by
  obtain ⟨xs, m, _, _, hl, hlen, hg⟩ := DataW.trod_array ht hf
  rw [hC] at hl
  match cs, hl with
  | [c0, c1, c2, c3, c4, c5], _ =>
    have step : ∀ i, i < 6 → ∃ n, ((([c0, c1, c2, c3, c4, c5] : List Value).drop (i * 1)).take 1) = [.int .i64 n] ∧ (Lit.int .i64 n).wf = true := by
      intro i hi
      have h1 := hg i hi
      rw [hCe] at h1
      have h2 : xs[i]? = some (xs[i]'(by omega)) := List.getElem?_eq_getElem (by omega)
      rw [h2] at h1
      obtain ⟨n, e1, _, wn⟩ := DataW.trod_int he h1
      exact ⟨n, e1, wn⟩
    obtain ⟨n0, e0, w0⟩ := step 0 (by omega)
    obtain ⟨n1, e1, w1⟩ := step 1 (by omega)
    obtain ⟨n2, e2, w2⟩ := step 2 (by omega)
    obtain ⟨n3, e3, w3⟩ := step 3 (by omega)
    obtain ⟨n4, e4, w4⟩ := step 4 (by omega)
    obtain ⟨n5, e5, w5⟩ := step 5 (by omega)
    simp at e0 e1 e2 e3 e4 e5
    subst e0 e1 e2 e3 e4 e5
    refine ⟨OpenC.sel6 n0 n1 n2 n3 n4 n5, rfl, ?_⟩
    intro k hk
    obtain rfl | rfl | rfl | rfl | rfl | rfl : k = 0 ∨ k = 1 ∨ k = 2 ∨ k = 3 ∨ k = 4 ∨ k = 5 := by omega
    all_goals assumption
end
set_option maxRecDepth 100000 in
theorem inv_fields : ∃ f0 f1 f2 f3 f4 : Field, ∃ e, Tryd.prog.underlying 44 = some (.struct #[f0, f1, f2, f3, f4]) ∧
    (Tryd.prog.underlying f0.type = some (.int .i64) ∧ f0.offset = 0 ∧ Tryd.prog.cellsOf f0.type = 1) ∧
    (Tryd.prog.underlying f1.type = some (.array 6 e) ∧ f1.offset = 1 ∧ Tryd.prog.cellsOf f1.type = 6 ∧ Tryd.prog.underlying e = some (.int .i64) ∧ Tryd.prog.cellsOf e = 1) ∧
    (Tryd.prog.underlying f2.type = some (.int .i64) ∧ f2.offset = 7 ∧ Tryd.prog.cellsOf f2.type = 1) ∧
    (Tryd.prog.underlying f3.type = some (.int .i64) ∧ f3.offset = 8 ∧ Tryd.prog.cellsOf f3.type = 1) ∧
    (Tryd.prog.underlying f4.type = some (.int .i64) ∧ f4.offset = 9 ∧ Tryd.prog.cellsOf f4.type = 1) :=
  ⟨_, _, _, _, _, 3, Tryd.underlying44, ⟨by kernel_rfl, by kernel_rfl, by kernel_rfl⟩, ⟨by kernel_rfl, by kernel_rfl, by kernel_rfl, by kernel_rfl, by kernel_rfl⟩, ⟨by kernel_rfl, by kernel_rfl, by kernel_rfl⟩, ⟨by kernel_rfl, by kernel_rfl, by kernel_rfl⟩, ⟨by kernel_rfl, by kernel_rfl, by kernel_rfl⟩⟩
def InvD (v : Inv) (_ : DataW H) : Prop := True
set_option maxRecDepth 100000 in
theorem dec_inv (fuel : Nat) (cs : List Value) (y : DataW H × List MemPlace) (h : DataW.trod enc Tryd.prog w base spare held fuel 44 cs = some y) : ∃ t : Inv, cs = t.cells ∧ InvD t y.1 := by
  obtain ⟨f0, f1, f2, f3, f4, e, hs, ⟨k0, o0, z0⟩, ⟨k1, o1, z1, k1e, z1e⟩, ⟨k2, o2, z2⟩, ⟨k3, o3, z3⟩, ⟨k4, o4, z4⟩⟩ := inv_fields
  obtain ⟨xs, n, _, rfl, hl, hxl, hf⟩ := DataW.trod_struct hs h
  have hC : Tryd.prog.cellsOf 44 = 10 := by kernel_rfl
  rw [hC] at hl
  match cs, hl, xs, hxl, hf with
  | [c0, c1, c2, c3, c4, c5, c6, c7, c8, c9], _, [x0, x1, x2, x3, x4], _, hf =>
    have g0 := hf 0 f0 rfl
    have g1 := hf 1 f1 rfl
    have g2 := hf 2 f2 rfl
    have g3 := hf 3 f3 rfl
    have g4 := hf 4 f4 rfl
    rw [o0, z0] at g0
    rw [o1, z1] at g1
    rw [o2, z2] at g2
    rw [o3, z3] at g3
    rw [o4, z4] at g4
    obtain ⟨a, e0, _, _⟩ := DataW.trod_int k0 g0
    obtain ⟨p, e1, _⟩ := arr6_of_trod k1 k1e z1 z1e g1
    obtain ⟨b, e2, _, _⟩ := DataW.trod_int k2 g2
    obtain ⟨c, e3, _, _⟩ := DataW.trod_int k3 g3
    obtain ⟨d, e4, _, _⟩ := DataW.trod_int k4 g4
    simp at e0 e1 e2 e3 e4
    obtain ⟨r1, r2, r3, r4, r5, r6⟩ := e1
    subst e0 e2 e3 e4 r1 r2 r3 r4 r5 r6
    exact ⟨⟨a, p, b, c, d⟩, rfl, trivial⟩
set_option maxRecDepth 100000 in
theorem open_invs {r : Reach} {b0 : Nat} {v : Value} {d : DataW H} {q : List MemPlace} (hv : Value.okWide Tryd.prog w r b0 32 v) (h : DataW.Trod enc Tryd.prog w base spare held 32 v d q) :
    ∃ l : List Inv, InvS w v l ∧ OpenG.Elems InvD l d := by
  obtain ⟨a, n, cap, rfl⟩ := okWide_slice Tryd.underlying32 hv
  obtain ⟨fuel, hf⟩ := h
  obtain ⟨_, _, l, _, hsl, he⟩ := list_of_trod 10 Inv.cells InvD (by decide) (fun _ => rfl) Tryd.underlying32 (by kernel_rfl) dec_inv hf
  exact ⟨l, hsl, he⟩
end
end Go.Proofs.YthehchdonmmpaaaDoor.OpenQ
