/- Opening an argument that is a list of invoices; lists out of what a reading says. Opening an argument that is a sale with its bidders, a list of bundles, of payments, of invoices. -/
import Derived.Test.YthehchdonmmpaaaGreatDoorPs17
import Derived.Test.YthehchdonmmpaaaGreatDoorPs18
import Derived.SizedLaws
import Derived.Test.YthehchdonmmpaaaGreatDoorStT
namespace Go.Proofs.YthehchdonmmpaaaGreatDoor.OpenQ
open Go.ChangeShapes Go.WideShapes Go.ChangeAt Go.RowKit Go.Joins Go.Deep
open Cat Pr
set_option linter.unusedVariables false
set_option linter.unusedSimpArgs false
section
variable {H : Type} {enc : TypeId × Value → H} {w : World} {base : Nat} {spare : Nat → Bool} {held : Bool}
section
variable {P : Program}
theorem list_of_trod {T : Type} (K : Nat) (c : T → List Value) (Q : T → DataW H → Prop) (hK : 0 < K) (hc : ∀ t, (c t).length = K) {t e : TypeId} {fuel : Nat} {v : Value} {y : DataW H × List MemPlace} (ht : P.underlying t = some (.slice e)) (hC : P.cellsOf e = K)
    (dec : ∀ fuel cs y, DataW.trod enc P w base spare held fuel e cs = some y → ∃ x : T, cs = c x ∧ Q x y.1)
    (hf : DataW.trod enc P w base spare held fuel t [v] = some y) :
    ∃ (A : Option Addr) (cap : Nat) (L : List T), v = .slice A L.length cap ∧ Sl w K v L.length (L.flatMap c) ∧ OpenG.Elems Q L y.1 := by
  have hlen : ∀ L : List T, (L.flatMap c).length = L.length * K := by
    intro L
    induction L with
    | nil => simp
    | cons a r ih => rw [List.flatMap_cons, List.length_append, hc, ih, List.length_cons, Nat.succ_mul]; omega
  rcases open_slice ht hf with ⟨hcs, hx⟩ | ⟨x, n, cap, m, k, D, Pl, hcs, _, hl, hm, hmm, hx, hi⟩
  · obtain rfl : v = .slice none 0 0 := by simpa using hcs
    subst hx
    exact ⟨none, 0, [], rfl, Sl.nil w K, .inl ⟨rfl, rfl⟩⟩
  · obtain rfl : v = .slice (some x) n cap := by simpa using hcs
    subst hx
    have hstep : ∀ i, i < n → ∃ y : T, w.cells? base (x.add (i * K)) K = some (c y) ∧ Q y (D i) := fun i hin => by
      have him : i < m := by rw [hmm]; split <;> omega
      obtain ⟨cs', h1, h2⟩ := hi i him
      obtain ⟨y, rfl, hq⟩ := dec _ _ _ h2
      rw [hC] at h1
      exact ⟨y, h1, hq⟩
    obtain ⟨L, hll, hL⟩ := OpenG.list_of n hstep
    refine ⟨some x, cap, L, by rw [hll], ⟨hlen L, some x, cap, by rw [hll], by rw [hll]; exact hl, hm, fun hn => ?_⟩, .inr ⟨_, _, rfl, by simp [hll], fun i h1 h2 => ?_⟩⟩
    · have hs : x.spot = none := by
        have := (OpenG.cells_at hK (hL 0 hn).1).1
        simpa [Addr.add] using this
      obtain ⟨b, off, sp⟩ := x
      subst hs
      have hcell : ∀ i (hi : i < L.length) r, r < K → w.cell? ⟨b, off + i * K + r, none⟩ = (c L[i])[r]? := fun i hi r hr => by
        have h1 := (hL i hi).1
        rw [OpenAdd.add_at] at h1
        exact (OpenG.cells_at hK h1).2.2 r hr
      have hfirst : ∃ u, w.cell? ⟨b, off + 0 * K + 0, none⟩ = some u := by
        rw [hcell 0 hn 0 hK]
        exact ⟨_, List.getElem?_eq_getElem (by rw [hc]; exact hK)⟩
      obtain ⟨u0, hu0⟩ := hfirst
      refine ⟨b, off, rfl, block_lt_of_cell hu0, fun j u hj => ?_⟩
      obtain ⟨i, r, hi, hr, e, hu⟩ := OpenG.flat_at hc L j u hj
      rw [e, ← Nat.add_assoc, hcell i hi r hr]
      exact hu
    · have := (hL i h1).2
      simpa using this
theorem size_of_elems {T : Type} {Q : T → DataW H → Prop} {L : List T} {ts : List TypeId} {ds : List (DataW H)} (h : (DataW.weightsEach P ts ds).all (· ≤ reachBytes) = true) {j : Nat} {t e : TypeId} {d : DataW H} {B : Nat} (he : OpenG.Elems Q L d) (ht : ts[j]? = some t) (hd : ds[j]? = some d) (hu : P.underlying t = some (.slice e)) (hB : P.bytesOf e = B) :
    L.length * B ≤ 140737488355328 := by
  rcases he with ⟨rfl, _⟩ | ⟨el, sp, rfl, hl, _⟩
  · simp
  · have h1 := sized_slice h ht hd hu
    rw [hB, Nat.add_mul, hl] at h1
    have h2 := reachBytes_lt
    omega
theorem form_of_trod {t e : TypeId} {fuel : Nat} {v : Value} {y : DataW H × List MemPlace} (ht : P.underlying t = some (.slice e)) (hf : DataW.trod enc P w base spare held fuel t [v] = some y) : ∃ A n c, v = .slice A n c := by
  rcases open_slice ht hf with ⟨hcs, _⟩ | ⟨x, n, cap, m, k, D, Pl, hcs, _⟩
  · exact ⟨none, 0, 0, by simpa using hcs⟩
  · exact ⟨some x, n, cap, by simpa using hcs⟩
theorem arr6_of_trod {t e : TypeId} {fuel : Nat} {cs : List Value} {y : DataW H × List MemPlace} (ht : P.underlying t = some (.array 6 e)) (he : P.underlying e = some (.int .i64)) (hC : P.cellsOf t = 6) (hCe : P.cellsOf e = 1)
    (hf : DataW.trod enc P w base spare held fuel t cs = some y) : ∃ p : Nat → Int, cs = [.int .i64 (p 0), .int .i64 (p 1), .int .i64 (p 2), .int .i64 (p 3), .int .i64 (p 4), .int .i64 (p 5)] ∧ ∀ k, k < 6 → (Lit.int .i64 (p k)).wf = true := by
  obtain ⟨xs, m, _, _, hl, hlen, hg⟩ := DataW.trod_array ht hf
  rw [hC] at hl
  match cs, hl with
  | [c0, c1, c2, c3, c4, c5], _ =>
    have step : ∀ i, i < 6 → ∃ n, ((([c0, c1, c2, c3, c4, c5] : List Value).drop (i * 1)).take 1) = [.int .i64 n] ∧ (Lit.int .i64 n).wf = true := by
      intro i hi
      have h1 := hg i hi
      rw [hCe] at h1
      have h2 : xs[i]? = some (xs[i]'(by omega)) := List.getElem?_eq_getElem (by omega)
      rw [h2] at h1
      obtain ⟨n, e1, _, wn⟩ := DataW.trod_int he h1
      exact ⟨n, e1, wn⟩
    obtain ⟨n0, e0, w0⟩ := step 0 (by omega)
    obtain ⟨n1, e1, w1⟩ := step 1 (by omega)
    obtain ⟨n2, e2, w2⟩ := step 2 (by omega)
    obtain ⟨n3, e3, w3⟩ := step 3 (by omega)
    obtain ⟨n4, e4, w4⟩ := step 4 (by omega)
    obtain ⟨n5, e5, w5⟩ := step 5 (by omega)
    simp at e0 e1 e2 e3 e4 e5
    subst e0 e1 e2 e3 e4 e5
    refine ⟨OpenC.sel6 n0 n1 n2 n3 n4 n5, rfl, ?_⟩
    intro k hk
    obtain rfl | rfl | rfl | rfl | rfl | rfl : k = 0 ∨ k = 1 ∨ k = 2 ∨ k = 3 ∨ k = 4 ∨ k = 5 := by omega
    all_goals assumption
end
set_option maxRecDepth 100000 in
theorem inv_fields : ∃ f0 f1 f2 f3 f4 : Field, ∃ e, Tryz.prog.underlying 42 = some (.struct #[f0, f1, f2, f3, f4]) ∧
    (Tryz.prog.underlying f0.type = some (.int .i64) ∧ f0.offset = 0 ∧ Tryz.prog.cellsOf f0.type = 1) ∧
    (Tryz.prog.underlying f1.type = some (.array 6 e) ∧ f1.offset = 1 ∧ Tryz.prog.cellsOf f1.type = 6 ∧ Tryz.prog.underlying e = some (.int .i64) ∧ Tryz.prog.cellsOf e = 1) ∧
    (Tryz.prog.underlying f2.type = some (.int .i64) ∧ f2.offset = 7 ∧ Tryz.prog.cellsOf f2.type = 1) ∧
    (Tryz.prog.underlying f3.type = some (.int .i64) ∧ f3.offset = 8 ∧ Tryz.prog.cellsOf f3.type = 1) ∧
    (Tryz.prog.underlying f4.type = some (.int .i64) ∧ f4.offset = 9 ∧ Tryz.prog.cellsOf f4.type = 1) :=
  ⟨_, _, _, _, _, 3, Tryz.underlying42, ⟨by kernel_rfl, by kernel_rfl, by kernel_rfl⟩, ⟨by kernel_rfl, by kernel_rfl, by kernel_rfl, by kernel_rfl, by kernel_rfl⟩, ⟨by kernel_rfl, by kernel_rfl, by kernel_rfl⟩, ⟨by kernel_rfl, by kernel_rfl, by kernel_rfl⟩, ⟨by kernel_rfl, by kernel_rfl, by kernel_rfl⟩⟩
def InvD (v : Inv) (_ : DataW H) : Prop := True
set_option maxRecDepth 100000 in
theorem dec_inv (fuel : Nat) (cs : List Value) (y : DataW H × List MemPlace) (h : DataW.trod enc Tryz.prog w base spare held fuel 42 cs = some y) : ∃ t : Inv, cs = t.cells ∧ InvD t y.1 := by
  obtain ⟨f0, f1, f2, f3, f4, e, hs, ⟨k0, o0, z0⟩, ⟨k1, o1, z1, k1e, z1e⟩, ⟨k2, o2, z2⟩, ⟨k3, o3, z3⟩, ⟨k4, o4, z4⟩⟩ := inv_fields
  obtain ⟨xs, n, _, rfl, hl, hxl, hf⟩ := DataW.trod_struct hs h
  have hC : Tryz.prog.cellsOf 42 = 10 := by kernel_rfl
  rw [hC] at hl
  match cs, hl, xs, hxl, hf with
  | [c0, c1, c2, c3, c4, c5, c6, c7, c8, c9], _, [x0, x1, x2, x3, x4], _, hf =>
    have g0 := hf 0 f0 rfl
    have g1 := hf 1 f1 rfl
    have g2 := hf 2 f2 rfl
    have g3 := hf 3 f3 rfl
    have g4 := hf 4 f4 rfl
    rw [o0, z0] at g0
    rw [o1, z1] at g1
    rw [o2, z2] at g2
    rw [o3, z3] at g3
    rw [o4, z4] at g4
    obtain ⟨a, e0, _, _⟩ := DataW.trod_int k0 g0
    obtain ⟨p, e1, _⟩ := arr6_of_trod k1 k1e z1 z1e g1
    obtain ⟨b, e2, _, _⟩ := DataW.trod_int k2 g2
    obtain ⟨c, e3, _, _⟩ := DataW.trod_int k3 g3
    obtain ⟨d, e4, _, _⟩ := DataW.trod_int k4 g4
    simp at e0 e1 e2 e3 e4
    obtain ⟨r1, r2, r3, r4, r5, r6⟩ := e1
    subst e0 e2 e3 e4 r1 r2 r3 r4 r5 r6
    exact ⟨⟨a, p, b, c, d⟩, rfl, trivial⟩
set_option maxRecDepth 100000 in
theorem open_invs {r : Reach} {b0 : Nat} {v : Value} {d : DataW H} {q : List MemPlace} (hv : Value.okWide Tryz.prog w r b0 32 v) (h : DataW.Trod enc Tryz.prog w base spare held 32 v d q) :
    ∃ l : List Inv, InvS w v l ∧ OpenG.Elems InvD l d := by
  obtain ⟨a, n, cap, rfl⟩ := okWide_slice Tryz.underlying32 hv
  obtain ⟨fuel, hf⟩ := h
  obtain ⟨_, _, l, _, hsl, he⟩ := list_of_trod 10 Inv.cells InvD (by decide) (fun _ => rfl) Tryz.underlying32 (by kernel_rfl) dec_inv hf
  exact ⟨l, hsl, he⟩
end
end Go.Proofs.YthehchdonmmpaaaGreatDoor.OpenQ
namespace Go.Proofs.YthehchdonmmpaaaGreatDoor.OpenR
open Go.ChangeShapes Go.WideShapes Go.ChangeAt Go.RowKit Go.Joins Go.Deep
open Cat Pr Ros St OpenQ
set_option linter.unusedVariables false
set_option linter.unusedSimpArgs false
section
variable {H : Type} {enc : TypeId × Value → H} {w : World} {base : Nat} {spare : Nat → Bool} {held : Bool}
set_option maxRecDepth 100000 in
theorem bidder_fields : ∃ f0 f1 f2 f3 : Field, Tryz.prog.underlying 51 = some (.struct #[f0, f1, f2, f3]) ∧ oneCellFields Tryz.prog #[f0, f1, f2, f3] = true ∧ Tryz.prog.underlying f0.type = some .string ∧ Tryz.prog.underlying f1.type = some (.int .i64) ∧ Tryz.prog.underlying f2.type = some (.int .i64) ∧ Tryz.prog.underlying f3.type = some (.int .i64) :=
  ⟨_, _, _, _, Tryz.underlying51, by kernel_rfl, by kernel_rfl, by kernel_rfl, by kernel_rfl, by kernel_rfl⟩
def BidD (t : Bid) (_ : DataW H) : Prop := t.name.size ≤ maxLen
set_option maxRecDepth 100000 in
theorem dec_bid (fuel : Nat) (cs : List Value) (y : DataW H × List MemPlace) (h : DataW.trod enc Tryz.prog w base spare held fuel 51 cs = some y) : ∃ t : Bid, cs = t.cells ∧ BidD t y.1 := by
  obtain ⟨f0, f1, f2, f3, hs, hone, k0, k1, k2, k3⟩ := bidder_fields
  obtain ⟨xs, n, _, rfl, hl, hxl, hf⟩ := DataW.trod_struct hs h
  have hC : Tryz.prog.cellsOf 51 = 4 := by kernel_rfl
  rw [hC] at hl
  match cs, hl, xs, hxl, hf with
  | [c0, c1, c2, c3], _, [x0, x1, x2, x3], _, hf =>
    obtain ⟨s, e0, _, z1⟩ := DataW.trod_string k0 (OpenG.field_at hone hf 0 f0 rfl (by simp) (by simp))
    obtain ⟨a, e1, _, _⟩ := DataW.trod_int k1 (OpenG.field_at hone hf 1 f1 rfl (by simp) (by simp))
    obtain ⟨b, e2, _, _⟩ := DataW.trod_int k2 (OpenG.field_at hone hf 2 f2 rfl (by simp) (by simp))
    obtain ⟨c, e3, _, _⟩ := DataW.trod_int k3 (OpenG.field_at hone hf 3 f3 rfl (by simp) (by simp))
    simp at e0 e1 e2 e3
    subst e0 e1 e2 e3
    exact ⟨⟨s, a, b, c⟩, rfl, z1⟩
def BunD (p : Nat → Int) (_ : DataW H) : Prop := ∀ k, k < 6 → (Lit.int .i64 (p k)).wf = true
set_option maxRecDepth 100000 in
theorem dec_bun (fuel : Nat) (cs : List Value) (y : DataW H × List MemPlace) (h : DataW.trod enc Tryz.prog w base spare held fuel 40 cs = some y) : ∃ p : Nat → Int, cs = bunCells p ∧ BunD p y.1 := by
  obtain ⟨p, e, hp⟩ := arr6_of_trod (e := 3) Tryz.underlying40 (by kernel_rfl) (by kernel_rfl) (by kernel_rfl) h
  exact ⟨p, e, hp⟩
def FrcD (w : World) (f : Frc) (_ : DataW H) : Prop := Fr.NS w f.v1 f.num ∧ Fr.NS w f.v2 f.den ∧ Fr.Dg f.num ∧ Fr.Dg f.den
set_option maxRecDepth 100000 in
theorem dec_frc (fuel : Nat) (cs : List Value) (y : DataW H × List MemPlace) (h : DataW.trod enc Tryz.prog w base spare held fuel 47 cs = some y) : ∃ f : Frc, cs = f.cells ∧ FrcD w f y.1 := by
  obtain ⟨f0, f1, f2, e, hs, hone, k0, k1, k2, k3, k4⟩ := OpenN.frac_fields
  obtain ⟨xs, n, _, rfl, hl, hxl, hf⟩ := DataW.trod_struct hs h
  have hC : Tryz.prog.cellsOf 47 = 3 := by kernel_rfl
  rw [hC] at hl
  match cs, hl, xs, hxl, hf with
  | [c0, c1, c2], _, [x0, x1, x2], _, hf =>
    obtain ⟨b, e0, _⟩ := DataW.trod_bool k0 (OpenG.field_at hone hf 0 f0 rfl (by simp) (by simp))
    obtain ⟨z1, w1, s1⟩ := OpenN.sl_of_trod k1 k3 k4 (OpenG.field_at hone hf 1 f1 rfl (by simp) (by simp))
    obtain ⟨z2, w2, s2⟩ := OpenN.sl_of_trod k2 k3 k4 (OpenG.field_at hone hf 2 f2 rfl (by simp) (by simp))
    obtain ⟨l1, n1, d1⟩ := OpenN.ns_of_sl w1 s1
    obtain ⟨l2, n2, d2⟩ := OpenN.ns_of_sl w2 s2
    simp at e0
    subst e0
    exact ⟨⟨b, c1, c2, l1, l2⟩, rfl, n1, n2, d1, d2⟩
set_option maxRecDepth 100000 in
theorem setup_fields : ∃ f0 f1 f2 f3 : Field, Tryz.prog.underlying 27 = some (.struct #[f0, f1, f2, f3]) ∧ oneCellFields Tryz.prog #[f0, f1, f2, f3] = true ∧ Tryz.prog.underlying f0.type = some (.slice 49) ∧ Tryz.prog.underlying f1.type = some (.slice 51) :=
  ⟨_, _, _, _, Tryz.underlying27, by kernel_rfl, by kernel_rfl, by kernel_rfl⟩
/-- a sale: its products and bidders -/
structure SaleF (w : World) (v1 v2 : Value) (ps : List Prod) (bs : List Bid) : Prop where
  prods : PS w v1 ps
  names : ∀ p ∈ ps, p.name.size ≤ maxLen
  bids : BidS w v2 bs
  bnames : ∀ p ∈ bs, p.name.size ≤ maxLen
set_option maxRecDepth 100000 in
theorem open_sale {r : Reach} {b0 : Nat} {v : Value} {d : DataW H} {q : List MemPlace} (hv : Value.okWide Tryz.prog w r b0 27 v) (h : DataW.Trod enc Tryz.prog w base spare held 27 v d q) :
    ∃ (v1 v2 v3 v4 : Value) (ps : List Prod) (bs : List Bid), v = .agg #[v1, v2, v3, v4] ∧ SaleF w v1 v2 ps bs := by
  obtain ⟨f0, f1, f2, f3, hs, hone, k0, k1⟩ := setup_fields
  obtain ⟨v0, v1, v2, v3, y0, y1, y2, y3, n, rfl, _, _, h0, h1, h2, h3⟩ := open_agg4 hs hone (by kernel_rfl) hv h
  obtain ⟨A1, c1, ps, rfl, hsl, he⟩ := list_of_trod 5 Prod.cells OpenC.ProdD (by decide) (fun _ => rfl) k0 (by kernel_rfl) OpenC.dec_prod h0
  obtain ⟨A2, c2, bs, rfl, hsb, hb⟩ := list_of_trod 4 Bid.cells BidD (by decide) (fun _ => rfl) k1 (by kernel_rfl) dec_bid h1
  exact ⟨_, _, v2, v3, ps, bs, rfl, hsl, OpenC.elems_all he, hsb, OpenC.elems_all hb⟩
set_option maxRecDepth 100000 in
theorem open_buns {r : Reach} {b0 : Nat} {v : Value} {d : DataW H} {q : List MemPlace} (hv : Value.okWide Tryz.prog w r b0 28 v) (h : DataW.Trod enc Tryz.prog w base spare held 28 v d q) :
    ∃ l : List (Nat → Int), BunS w v l ∧ (∀ p ∈ l, ∀ k, k < 6 → (Lit.int .i64 (p k)).wf = true) := by
  obtain ⟨a, n, cap, rfl⟩ := okWide_slice Tryz.underlying28 hv
  obtain ⟨fuel, hf⟩ := h
  obtain ⟨_, _, l, _, hsl, he⟩ := list_of_trod 6 bunCells BunD (by decide) (fun _ => rfl) Tryz.underlying28 (by kernel_rfl) dec_bun hf
  exact ⟨l, hsl, OpenC.elems_all he⟩
set_option maxRecDepth 100000 in
theorem open_fracs {r : Reach} {b0 : Nat} {v : Value} {d : DataW H} {q : List MemPlace} (hv : Value.okWide Tryz.prog w r b0 29 v) (h : DataW.Trod enc Tryz.prog w base spare held 29 v d q) :
    ∃ l : List Frc, FrcS w v l ∧ FrcOk w l := by
  obtain ⟨a, n, cap, rfl⟩ := okWide_slice Tryz.underlying29 hv
  obtain ⟨fuel, hf⟩ := h
  obtain ⟨_, _, l, _, hsl, he⟩ := list_of_trod 3 Frc.cells (FrcD w) (by decide) (fun _ => rfl) Tryz.underlying29 (by kernel_rfl) dec_frc hf
  exact ⟨l, hsl, OpenC.elems_all he⟩
end
end Go.Proofs.YthehchdonmmpaaaGreatDoor.OpenR
