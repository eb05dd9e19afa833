/- Opening an argument that is a setup, or an event. Printed by gen_openE.py. few; the walk of EventNames. Printed by gen_evb2.py. -/
import Derived.Test.YtaikmgnpfbnjjaaGreatDoorPw12
import Derived.Test.YtaikmgnpfbnjjaaGreatDoorPv17
import Derived.Test.YtaikmgnpfbnjjaaGreatDoorPw00
import Derived.Deep.CutBlock
namespace Go.Proofs.YtaikmgnpfbnjjaaGreatDoor.Ev
open Go.ChangeShapes Go.WideShapes Go.ChangeAt Go.RowKit Gn Cat Lex Ros Se
set_option linter.unusedVariables false
set_option linter.unusedSimpArgs false
structure SetO (w : World) (v1 v2 v3 v4 : Value) (S : SetD) : Prop where
  p : PS w v1 S.ps
  b : BidS w v2 S.bs
  c : CapS w v3 S.cs
  a : AsdS w v4 S.ad
  np : ∀ p ∈ S.ps, p.name.size ≤ maxLen
  nb : ∀ p ∈ S.bs, p.name.size ≤ maxLen
theorem SetO.setW {w : World} {v1 v2 v3 v4 : Value} {S : SetD} (h : SetO w v1 v2 v3 v4 S) (hl : S.ps.length ≤ 50 ∧ S.bs.length ≤ 50 ∧ S.cs.length ≤ 50 ∧ S.ad.length ≤ 50) : SetW w v1 v2 v3 v4 S :=
  ⟨h.p, h.b, h.c, h.a, by omega, by omega, by omega, by omega, h.np, h.nb⟩
theorem SetO.forms {w : World} {v1 v2 v3 v4 : Value} {S : SetD} (h : SetO w v1 v2 v3 v4 S) : ∃ A1 c1 A2 c2 A3 c3 A4 c4, v1 = .slice A1 S.ps.length c1 ∧ v2 = .slice A2 S.bs.length c2 ∧ v3 = .slice A3 S.cs.length c3 ∧ v4 = .slice A4 S.ad.length c4 := by
  obtain ⟨A1, c1, e1, _⟩ := sl_parts h.p
  obtain ⟨A2, c2, e2, _⟩ := sl_parts h.b
  obtain ⟨A3, c3, e3, _⟩ := sl_parts h.c
  obtain ⟨A4, c4, e4, _⟩ := sl_parts h.a
  exact ⟨A1, c1, A2, c2, A3, c3, A4, c4, e1, e2, e3, e4⟩
abbrev greatB (n1 n2 n3 n4 : Nat) : Bool := decide (50 < n1) || decide (50 < n2) || decide (50 < n3) || decide (50 < n4)
/-- an event as an argument can be -/
structure EvO (e : Evt) : Prop where
  text : e.text.size ≤ maxLen
  digest : e.digest < 18446744073709551616
end Go.Proofs.YtaikmgnpfbnjjaaGreatDoor.Ev
namespace Go.Proofs.YtaikmgnpfbnjjaaGreatDoor.OpenV
open Go.ChangeShapes Go.WideShapes Go.ChangeAt Go.RowKit Go.Joins Go.Deep
open Cat Ros Se Ev
set_option linter.unusedVariables false
set_option linter.unusedSimpArgs false
section
variable {H : Type} {enc : TypeId × Value → H} {w : World} {base : Nat} {spare : Nat → Bool} {held : Bool}
section
variable {P : Program}
theorem list_of_trod {T : Type} (K : Nat) (c : T → List Value) (Q : T → DataW H → Prop) (hK : 0 < K) (hc : ∀ t, (c t).length = K) {t e : TypeId} {fuel : Nat} {v : Value} {y : DataW H × List MemPlace} (ht : P.underlying t = some (.slice e)) (hC : P.cellsOf e = K)
    (dec : ∀ fuel cs y, DataW.trod enc P w base spare held fuel e cs = some y → ∃ x : T, cs = c x ∧ Q x y.1)
    (hf : DataW.trod enc P w base spare held fuel t [v] = some y) :
    ∃ (A : Option Addr) (cap : Nat) (L : List T), v = .slice A L.length cap ∧ Sl w K v L.length (L.flatMap c) ∧ OpenG.Elems Q L y.1 := by
  have hlen : ∀ L : List T, (L.flatMap c).length = L.length * K := by
    intro L
    induction L with
    | nil => simp
    | cons a r ih => rw [List.flatMap_cons, List.length_append, hc, ih, List.length_cons, Nat.succ_mul]; omega
  rcases open_slice ht hf with ⟨hcs, hx⟩ | ⟨x, n, cap, m, k, D, Pl, hcs, _, hl, hm, hmm, hx, hi⟩
  · obtain rfl : v = .slice none 0 0 := by simpa using hcs
    subst hx
    exact ⟨none, 0, [], rfl, Sl.nil w K, .inl ⟨rfl, rfl⟩⟩
  · obtain rfl : v = .slice (some x) n cap := by simpa using hcs
    subst hx
    have hstep : ∀ i, i < n → ∃ y : T, w.cells? base (x.add (i * K)) K = some (c y) ∧ Q y (D i) := fun i hin => by
      have him : i < m := by rw [hmm]; split <;> omega
      obtain ⟨cs', h1, h2⟩ := hi i him
      obtain ⟨y, rfl, hq⟩ := dec _ _ _ h2
      rw [hC] at h1
      exact ⟨y, h1, hq⟩
    obtain ⟨L, hll, hL⟩ := OpenG.list_of n hstep
    refine ⟨some x, cap, L, by rw [hll], ⟨hlen L, some x, cap, by rw [hll], by rw [hll]; exact hl, hm, fun hn => ?_⟩, .inr ⟨_, _, rfl, by simp [hll], fun i h1 h2 => ?_⟩⟩
    · have hs : x.spot = none := by
        have := (OpenG.cells_at hK (hL 0 hn).1).1
        simpa [Addr.add] using this
      obtain ⟨b, off, sp⟩ := x
      subst hs
      have hcell : ∀ i (hi : i < L.length) r, r < K → w.cell? ⟨b, off + i * K + r, none⟩ = (c L[i])[r]? := fun i hi r hr => by
        have h1 := (hL i hi).1
        rw [OpenAdd.add_at] at h1
        exact (OpenG.cells_at hK h1).2.2 r hr
      have hfirst : ∃ u, w.cell? ⟨b, off + 0 * K + 0, none⟩ = some u := by
        rw [hcell 0 hn 0 hK]
        exact ⟨_, List.getElem?_eq_getElem (by rw [hc]; exact hK)⟩
      obtain ⟨u0, hu0⟩ := hfirst
      refine ⟨b, off, rfl, block_lt_of_cell hu0, fun j u hj => ?_⟩
      obtain ⟨i, r, hi, hr, e, hu⟩ := OpenG.flat_at hc L j u hj
      rw [e, ← Nat.add_assoc, hcell i hi r hr]
      exact hu
    · have := (hL i h1).2
      simpa using this
theorem arr6_of_trod {t e : TypeId} {fuel : Nat} {cs : List Value} {y : DataW H × List MemPlace} (ht : P.underlying t = some (.array 6 e)) (he : P.underlying e = some (.int .i64)) (hC : P.cellsOf t = 6) (hCe : P.cellsOf e = 1)
    (hf : DataW.trod enc P w base spare held fuel t cs = some y) : ∃ p : Nat → Int, cs = [.int .i64 (p 0), .int .i64 (p 1), .int .i64 (p 2), .int .i64 (p 3), .int .i64 (p 4), .int .i64 (p 5)] ∧ ∀ k, k < 6 → (Lit.int .i64 (p k)).wf = true := by
  obtain ⟨xs, m, _, _, hl, hlen, hg⟩ := DataW.trod_array ht hf
  rw [hC] at hl
  match cs, hl with
  | [c0, c1, c2, c3, c4, c5], _ =>
    have step : ∀ i, i < 6 → ∃ n, ((([c0, c1, c2, c3, c4, c5] : List Value).drop (i * 1)).take 1) = [.int .i64 n] ∧ (Lit.int .i64 n).wf = true := by
      intro i hi
      have h1 := hg i hi
      rw [hCe] at h1
      have h2 : xs[i]? = some (xs[i]'(by omega)) := List.getElem?_eq_getElem (by omega)
      rw [h2] at h1
      obtain ⟨n, e1, _, wn⟩ := DataW.trod_int he h1
      exact ⟨n, e1, wn⟩
    obtain ⟨n0, e0, w0⟩ := step 0 (by omega)
    obtain ⟨n1, e1, w1⟩ := step 1 (by omega)
    obtain ⟨n2, e2, w2⟩ := step 2 (by omega)
    obtain ⟨n3, e3, w3⟩ := step 3 (by omega)
    obtain ⟨n4, e4, w4⟩ := step 4 (by omega)
    obtain ⟨n5, e5, w5⟩ := step 5 (by omega)
    simp at e0 e1 e2 e3 e4 e5
    subst e0 e1 e2 e3 e4 e5
    refine ⟨OpenC.sel6 n0 n1 n2 n3 n4 n5, rfl, ?_⟩
    intro k hk
    obtain rfl | rfl | rfl | rfl | rfl | rfl : k = 0 ∨ k = 1 ∨ k = 2 ∨ k = 3 ∨ k = 4 ∨ k = 5 := by omega
    all_goals assumption
end
set_option maxRecDepth 100000 in
theorem bidder_fields : ∃ f0 f1 f2 f3 : Field, Tryz.prog.underlying 67 = some (.struct #[f0, f1, f2, f3]) ∧ oneCellFields Tryz.prog #[f0, f1, f2, f3] = true ∧ Tryz.prog.underlying f0.type = some .string ∧ Tryz.prog.underlying f1.type = some (.int .i64) ∧ Tryz.prog.underlying f2.type = some (.int .i64) ∧ Tryz.prog.underlying f3.type = some (.int .i64) :=
  ⟨_, _, _, _, Tryz.underlying67, by kernel_rfl, by kernel_rfl, by kernel_rfl, by kernel_rfl, by kernel_rfl⟩
def BidD (t : Bid) (_ : DataW H) : Prop := t.name.size ≤ maxLen
set_option maxRecDepth 100000 in
theorem dec_bid (fuel : Nat) (cs : List Value) (y : DataW H × List MemPlace) (h : DataW.trod enc Tryz.prog w base spare held fuel 67 cs = some y) : ∃ t : Bid, cs = t.cells ∧ BidD t y.1 := by
  obtain ⟨f0, f1, f2, f3, hs, hone, k0, k1, k2, k3⟩ := bidder_fields
  obtain ⟨xs, n, _, rfl, hl, hxl, hf⟩ := DataW.trod_struct hs h
  have hC : Tryz.prog.cellsOf 67 = 4 := by kernel_rfl
  rw [hC] at hl
  match cs, hl, xs, hxl, hf with
  | [c0, c1, c2, c3], _, [x0, x1, x2, x3], _, hf =>
    obtain ⟨s, e0, _, z1⟩ := DataW.trod_string k0 (OpenG.field_at hone hf 0 f0 rfl (by simp) (by simp))
    obtain ⟨a, e1, _, _⟩ := DataW.trod_int k1 (OpenG.field_at hone hf 1 f1 rfl (by simp) (by simp))
    obtain ⟨b, e2, _, _⟩ := DataW.trod_int k2 (OpenG.field_at hone hf 2 f2 rfl (by simp) (by simp))
    obtain ⟨c, e3, _, _⟩ := DataW.trod_int k3 (OpenG.field_at hone hf 3 f3 rfl (by simp) (by simp))
    simp at e0 e1 e2 e3
    subst e0 e1 e2 e3
    exact ⟨⟨s, a, b, c⟩, rfl, z1⟩
theorem cap_fields : ∃ f0 f1 f2 : Field, Tryz.prog.underlying 94 = some (.struct #[f0, f1, f2]) ∧ oneCellFields Tryz.prog #[f0, f1, f2] = true ∧ Tryz.prog.underlying f0.type = some (.int .i64) ∧ Tryz.prog.underlying f1.type = some (.int .i64) ∧ Tryz.prog.underlying f2.type = some (.int .i64) :=
  ⟨_, _, _, Tryz.underlying94, by kernel_rfl, by kernel_rfl, by kernel_rfl, by kernel_rfl⟩
set_option maxRecDepth 100000 in
theorem dec_cap (fuel : Nat) (cs : List Value) (y : DataW H × List MemPlace) (h : DataW.trod enc Tryz.prog w base spare held fuel 94 cs = some y) : ∃ t : Cp, cs = t.cells ∧ (fun (_ : Cp) (_ : DataW H) => True) t y.1 := by
  obtain ⟨f0, f1, f2, hs, hone, k0, k1, k2⟩ := cap_fields
  obtain ⟨xs, n, _, rfl, hl, hxl, hf⟩ := DataW.trod_struct hs h
  have hC : Tryz.prog.cellsOf 94 = 3 := by kernel_rfl
  rw [hC] at hl
  match cs, hl, xs, hxl, hf with
  | [c0, c1, c2], _, [x0, x1, x2], _, hf =>
    obtain ⟨a, e0, _, _⟩ := DataW.trod_int k0 (OpenG.field_at hone hf 0 f0 rfl (by simp) (by simp))
    obtain ⟨b, e1, _, _⟩ := DataW.trod_int k1 (OpenG.field_at hone hf 1 f1 rfl (by simp) (by simp))
    obtain ⟨c, e2, _, _⟩ := DataW.trod_int k2 (OpenG.field_at hone hf 2 f2 rfl (by simp) (by simp))
    simp at e0 e1 e2
    subst e0 e1 e2
    exact ⟨⟨a, b, c⟩, rfl, trivial⟩
theorem asd_fields : ∃ f0 f1 f2 : Field, Tryz.prog.underlying 96 = some (.struct #[f0, f1, f2]) ∧ oneCellFields Tryz.prog #[f0, f1, f2] = true ∧ Tryz.prog.underlying f0.type = some (.int .i64) ∧ Tryz.prog.underlying f1.type = some (.int .i64) ∧ Tryz.prog.underlying f2.type = some (.int .i64) :=
  ⟨_, _, _, Tryz.underlying96, by kernel_rfl, by kernel_rfl, by kernel_rfl, by kernel_rfl⟩
set_option maxRecDepth 100000 in
theorem dec_asd (fuel : Nat) (cs : List Value) (y : DataW H × List MemPlace) (h : DataW.trod enc Tryz.prog w base spare held fuel 96 cs = some y) : ∃ t : Asd, cs = t.cells ∧ (fun (_ : Asd) (_ : DataW H) => True) t y.1 := by
  obtain ⟨f0, f1, f2, hs, hone, k0, k1, k2⟩ := asd_fields
  obtain ⟨xs, n, _, rfl, hl, hxl, hf⟩ := DataW.trod_struct hs h
  have hC : Tryz.prog.cellsOf 96 = 3 := by kernel_rfl
  rw [hC] at hl
  match cs, hl, xs, hxl, hf with
  | [c0, c1, c2], _, [x0, x1, x2], _, hf =>
    obtain ⟨a, e0, _, _⟩ := DataW.trod_int k0 (OpenG.field_at hone hf 0 f0 rfl (by simp) (by simp))
    obtain ⟨b, e1, _, _⟩ := DataW.trod_int k1 (OpenG.field_at hone hf 1 f1 rfl (by simp) (by simp))
    obtain ⟨c, e2, _, _⟩ := DataW.trod_int k2 (OpenG.field_at hone hf 2 f2 rfl (by simp) (by simp))
    simp at e0 e1 e2
    subst e0 e1 e2
    exact ⟨⟨a, b, c⟩, rfl, trivial⟩
set_option maxRecDepth 100000 in
theorem setup_fields : ∃ f0 f1 f2 f3 : Field, Tryz.prog.underlying 42 = some (.struct #[f0, f1, f2, f3]) ∧ oneCellFields Tryz.prog #[f0, f1, f2, f3] = true ∧ Tryz.prog.underlying f0.type = some (.slice 98) ∧ Tryz.prog.underlying f1.type = some (.slice 67) ∧ Tryz.prog.underlying f2.type = some (.slice 94) ∧ Tryz.prog.underlying f3.type = some (.slice 96) :=
  ⟨_, _, _, _, Tryz.underlying42, by kernel_rfl, by kernel_rfl, by kernel_rfl, by kernel_rfl, by kernel_rfl⟩
set_option maxRecDepth 100000 in
theorem open_setup {r : Reach} {b0 : Nat} {v : Value} {d : DataW H} {q : List MemPlace} (hv : Value.okWide Tryz.prog w r b0 42 v) (h : DataW.Trod enc Tryz.prog w base spare held 42 v d q) :
    ∃ (v1 v2 v3 v4 : Value) (S : SetD), v = .agg #[v1, v2, v3, v4] ∧ SetO w v1 v2 v3 v4 S := by
  obtain ⟨f0, f1, f2, f3, hs, hone, k0, k1, k2, k3⟩ := setup_fields
  obtain ⟨v0, v1, v2, v3, y0, y1, y2, y3, n, rfl, _, _, h0, h1, h2, h3⟩ := open_agg4 hs hone (by kernel_rfl) hv h
  obtain ⟨A1, c1, ps, rfl, hsl, he⟩ := list_of_trod 5 Prod.cells OpenC.ProdD (by decide) (fun _ => rfl) k0 (by kernel_rfl) OpenC.dec_prod h0
  obtain ⟨A2, c2, bs, rfl, hsb, hb⟩ := list_of_trod 4 Bid.cells BidD (by decide) (fun _ => rfl) k1 (by kernel_rfl) dec_bid h1
  obtain ⟨A3, c3, cs, rfl, hsc, _⟩ := list_of_trod 3 Cp.cells (fun _ _ => True) (by decide) (fun _ => rfl) k2 (by kernel_rfl) dec_cap h2
  obtain ⟨A4, c4, ad, rfl, hsa, _⟩ := list_of_trod 3 Asd.cells (fun _ _ => True) (by decide) (fun _ => rfl) k3 (by kernel_rfl) dec_asd h3
  exact ⟨_, _, _, _, ⟨ps, bs, cs, ad⟩, rfl, hsl, hsb, hsc, hsa, OpenC.elems_all he, OpenC.elems_all hb⟩
set_option maxRecDepth 100000 in
theorem evt_fields : ∃ f0 f1 f2 f3 f4 f5 : Field, Tryz.prog.underlying 26 = some (.struct #[f0, f1, f2, f3, f4, f5]) ∧ (f0.offset = 0 ∧ f1.offset = 1 ∧ f2.offset = 2 ∧ f3.offset = 3 ∧ f4.offset = 9 ∧ f5.offset = 10) ∧
    (Tryz.prog.cellsOf f0.type = 1 ∧ Tryz.prog.cellsOf f1.type = 1 ∧ Tryz.prog.cellsOf f2.type = 1 ∧ Tryz.prog.cellsOf f3.type = 6 ∧ Tryz.prog.cellsOf f4.type = 1 ∧ Tryz.prog.cellsOf f5.type = 1) ∧
    Tryz.prog.underlying f0.type = some (.int .i64) ∧ Tryz.prog.underlying f1.type = some (.int .i64) ∧ Tryz.prog.underlying f2.type = some (.int .i64) ∧ (∃ e, Tryz.prog.underlying f3.type = some (.array 6 e) ∧ Tryz.prog.underlying e = some (.int .i64) ∧ Tryz.prog.cellsOf e = 1) ∧ Tryz.prog.underlying f4.type = some .string ∧ Tryz.prog.underlying f5.type = some (.int .u64) :=
  ⟨_, _, _, _, _, _, Tryz.underlying26, ⟨by kernel_rfl, by kernel_rfl, by kernel_rfl, by kernel_rfl, by kernel_rfl, by kernel_rfl⟩, ⟨by kernel_rfl, by kernel_rfl, by kernel_rfl, by kernel_rfl, by kernel_rfl, by kernel_rfl⟩, by kernel_rfl, by kernel_rfl, by kernel_rfl, ⟨3, by kernel_rfl, by kernel_rfl, by kernel_rfl⟩, by kernel_rfl, by kernel_rfl⟩
theorem u64_of {n : Int} (h : (Lit.int .u64 n).wf = true) : ∃ k : Nat, n = (k : Int) ∧ k < 18446744073709551616 := by
  have h2 : 0 ≤ n ∧ n < 18446744073709551616 := by
    have h3 : IntKind.u64.min ≤ n ∧ n ≤ IntKind.u64.max := by simpa [Lit.wf] using h
    have e1 : IntKind.u64.min = 0 := rfl
    have e2 : IntKind.u64.max = 18446744073709551615 := rfl
    rw [e1, e2] at h3
    omega
  exact ⟨n.toNat, by omega, by omega⟩
set_option maxRecDepth 100000 in
theorem open_evt {r : Reach} {b0 : Nat} {v : Value} {d : DataW H} {q : List MemPlace} (hv : Value.okWide Tryz.prog w r b0 26 v) (h : DataW.Trod enc Tryz.prog w base spare held 26 v d q) :
    ∃ e : Evt, v = e.val ∧ EvO e := by
  obtain ⟨f0, f1, f2, f3, f4, f5, hs, ⟨o0, o1, o2, o3, o4, o5⟩, ⟨k0, k1, k2, k3, k4, k5⟩, u0, u1, u2, ⟨e3, u3, u31, u32⟩, u4, u5⟩ := evt_fields
  obtain ⟨cs, rfl, hsz⟩ := okWide_struct hs hv
  obtain ⟨fuel, hf⟩ := h
  obtain ⟨xs, n, hfu, _, hl, hxl, hf⟩ := DataW.trod_struct hs hf
  have hC : Tryz.prog.cellsOf 26 = 11 := by kernel_rfl
  rw [hC] at hl
  obtain ⟨l⟩ := cs
  have hl2 : l.length = 11 := by simpa [Value.cells] using hl
  match l, hl2, xs, hxl, hf with
  | [c0, c1, c2, c3, c4, c5, c6, c7, c8, c9, c10], _, [x0, x1, x2, x3, x4, x5], _, hf =>
    have g0 := hf 0 f0 rfl
    have g1 := hf 1 f1 rfl
    have g2 := hf 2 f2 rfl
    have g3 := hf 3 f3 rfl
    have g4 := hf 4 f4 rfl
    have g5 := hf 5 f5 rfl
    rw [o0, k0] at g0
    rw [o1, k1] at g1
    rw [o2, k2] at g2
    rw [o3, k3] at g3
    rw [o4, k4] at g4
    rw [o5, k5] at g5
    obtain ⟨a0, e0, _, _⟩ := DataW.trod_int u0 g0
    obtain ⟨a1, e1, _, _⟩ := DataW.trod_int u1 g1
    obtain ⟨a2, e2, _, _⟩ := DataW.trod_int u2 g2
    obtain ⟨p, ep, _⟩ := arr6_of_trod u3 u31 k3 u32 g3
    obtain ⟨s, e4, _, z4⟩ := DataW.trod_string u4 g4
    obtain ⟨dg, e5, _, w5⟩ := DataW.trod_int u5 g5
    obtain ⟨dn, rfl, hdn⟩ := u64_of w5
    simp [Value.cells] at e0 e1 e2 ep e4 e5
    obtain ⟨q1, q2, q3, q4, q5, q6⟩ := ep
    subst e0 e1 e2 q1 q2 q3 q4 q5 q6 e4 e5
    exact ⟨⟨a0, a1, a2, p, s, dn⟩, rfl, z4, hdn⟩
end
end Go.Proofs.YtaikmgnpfbnjjaaGreatDoor.OpenV
namespace Go.Proofs.YtaikmgnpfbnjjaaGreatDoor.Ev
open Go.ChangeShapes Go.WideShapes Go.ChangeAt Go.RowKit Gn Cat Lex Ros Se
set_option linter.unusedVariables false
set_option linter.unusedSimpArgs false
attribute [local go_sem] later_cell
abbrev TrueP (w : World) : Ending → World → Prop := fun e w' => e = .returned (.bool true) ∧ Below w.heap.size w w'
abbrev fewB (n1 n2 n3 n4 : Nat) : Bool := decide (n1 ≤ 20) && decide (n2 ≤ 20) && decide (n3 ≤ 40) && decide (n4 ≤ 40)
theorem few_yes {n1 n2 n3 n4 : Nat} (h : fewB n1 n2 n3 n4 = true) : n1 ≤ 20 ∧ n2 ≤ 20 ∧ n3 ≤ 40 ∧ n4 ≤ 40 := by
  simp [fewB] at h
  omega
set_option maxHeartbeats 2000000 in
set_option maxRecDepth 100000 in
theorem few_any (A1 A2 A3 A4 : Option Addr) (n1 n2 n3 n4 c1 c2 c3 c4 : Nat) (w : World) : Calls Tryz.prog 18 #[.agg #[.slice A1 n1 c1, .slice A2 n2 c2, .slice A3 n3 c3, .slice A4 n4 c4]] w fun e w' => e = .returned (.bool (fewB n1 n2 n3 n4)) ∧ Below w.heap.size w w' := by
  have BX := Lib.hid (below_new w (.cells #[.slice A1 n1 c1, .slice A2 n2 c2, .slice A3 n3 c3, .slice A4 n4 c4] 42))
  by_cases h1 : n1 ≤ 20
  case neg =>
    have t1 : decide ((n1 : Int) ≤ 20) = false := decide_eq_false (by omega)
    have HV : Hid (fewB n1 n2 n3 n4 = false) := by show _ = _; unfold fewB; simp [h1]
    go_enter Tryz.func18, Tryz.ntmps18
    go_wp2_with fail
    go_ret
    exact ⟨by rw [HV.out]; rfl, BX.out⟩
  have t1 : decide ((n1 : Int) ≤ 20) = true := decide_eq_true (by omega)
  by_cases h2 : n2 ≤ 20
  case neg =>
    have t2 : decide ((n2 : Int) ≤ 20) = false := decide_eq_false (by omega)
    have HV : Hid (fewB n1 n2 n3 n4 = false) := by show _ = _; unfold fewB; simp [h1, h2]
    go_enter Tryz.func18, Tryz.ntmps18
    go_wp2_with fail
    go_ret
    exact ⟨by rw [HV.out]; rfl, BX.out⟩
  have t2 : decide ((n2 : Int) ≤ 20) = true := decide_eq_true (by omega)
  by_cases h3 : n3 ≤ 40
  case neg =>
    have t3 : decide ((n3 : Int) ≤ 40) = false := decide_eq_false (by omega)
    have HV : Hid (fewB n1 n2 n3 n4 = false) := by show _ = _; unfold fewB; simp [h1, h2, h3]
    go_enter Tryz.func18, Tryz.ntmps18
    go_wp2_with fail
    go_ret
    exact ⟨by rw [HV.out]; rfl, BX.out⟩
  have t3 : decide ((n3 : Int) ≤ 40) = true := decide_eq_true (by omega)
  by_cases h4 : n4 ≤ 40
  case neg =>
    have t4 : decide ((n4 : Int) ≤ 40) = false := decide_eq_false (by omega)
    have HV : Hid (fewB n1 n2 n3 n4 = false) := by show _ = _; unfold fewB; simp [h1, h2, h3, h4]
    go_enter Tryz.func18, Tryz.ntmps18
    go_wp2_with fail
    go_ret
    exact ⟨by rw [HV.out]; rfl, BX.out⟩
  have t4 : decide ((n4 : Int) ≤ 40) = true := decide_eq_true (by omega)
  have HV : Hid (fewB n1 n2 n3 n4 = true) := by show _ = _; unfold fewB; simp [h1, h2, h3, h4]
  go_enter Tryz.func18, Tryz.ntmps18
  go_wp2_with fail
  go_ret
  exact ⟨by rw [HV.out]; rfl, BX.out⟩
theorem line_cut {L : ByteArray} {n : ByteArray} {t : List UInt8} (h : L.data.toList = n.data.toList ++ t) : n.size ≤ L.size ∧ L.extract 0 n.size = n ∧ (t = [] → ¬ n.size < L.size) ∧ (t.head? = some 32 → ∃ hl : n.size < L.size, L[n.size].toNat = 32) := by
  have hs : L.size = n.size + t.length := by
    have := congrArg List.length h
    rw [List.length_append] at this
    exact this
  refine ⟨by omega, ?_, ?_, ?_⟩
  · rw [take_ext, h]
    have : n.size = n.data.toList.length := rfl
    rw [this, List.take_left]
  · intro ht
    rw [ht] at hs
    simp at hs
    omega
  · intro ht
    cases t with
    | nil => cases ht
    | cons a t =>
      injection ht with ht
      rw [List.length_cons] at hs
      refine ⟨by omega, ?_⟩
      have h2 : L.data.toList[n.size]? = some a := by
        rw [h]
        have : n.size = n.data.toList.length := rfl
        rw [this, List.getElem?_append_right (Nat.le_refl _)]
        simp
      have h3 : L.data.toList[n.size]? = some (L[n.size]'(by omega)) := by
        rw [List.getElem?_eq_getElem (show n.size < L.data.toList.length by show n.size < L.size; omega)]
        rfl
      rw [h3] at h2
      rw [Option.some.inj h2, ht]
      rfl
theorem ev_want {w : World} {g : Nat} {k b r : Int} {p : Nat → Int} {t : ByteArray} {d : Nat} (h : Blk w g 26 (cells11 k b r p t d)) (j : Nat) (hj : j < 6) : w.cell? ⟨g, 3 + j, none⟩ = some (.int .i64 (p j)) := by
  obtain rfl | rfl | rfl | rfl | rfl | rfl : j = 0 ∨ j = 1 ∨ j = 2 ∨ j = 3 ∨ j = 4 ∨ j = 5 := by omega
  all_goals exact h.cell _
/-- the boxes of the law's arguments -/
abbrev NM (w wx : World) (ge : Nat) (sv cs : Array Value) : Prop := FM w wx ge sv cs
set_option maxHeartbeats 8000000 in
set_option maxRecDepth 100000 in
theorem law_names (S : SetD) (e : Evt) (kind : Int) (v1 v2 v3 v4 : Value) (w : World) (h : SetO w v1 v2 v3 v4 S) (he : EvO e) (hsh : Sh w) : Calls Tryz.prog 8 #[.agg #[v1, v2, v3, v4], e.val, .int .i64 kind] w (TrueP w) := by
  have HAW := Lib.hid (fun W (b : Below w.heap.size w W) => awake_any W (sh_keep hsh b))
  have HO := Lib.hid h
  have HSH := Lib.hid hsh
  obtain ⟨A1, c1, A2, c2, A3, c3, A4, c4, rfl, rfl, rfl, rfl⟩ := h.forms
  have CG := Lib.hid (few_any A1 A2 A3 A4 S.ps.length S.bs.length S.cs.length S.ad.length c1 c2 c3 c4)
  have HDG := Lib.hid he.digest
  have HLPS : Hid (fewB S.ps.length S.bs.length S.cs.length S.ad.length = true → S.ps.length ≤ 20) := fun x => (few_yes x).1
  have HLH := Lib.hid (fun x => line_head (S := S) (e := e) x)
  have HLS := Lib.hid (fun a b c d f g => line_some (S := S) (e := e) a b c d f g)
  have HFV : Hid ((formatV S e).data.toList = formatL S e) := rfl
  have HNE : Hid (formatL S e = [] → formatV S e = ⟨#[]⟩) := fun x => by unfold formatV; rw [x]
  have HN1 := Lib.hid (fun W => name_any e.kind W)
  have HN2 := Lib.hid (fun W => name_any kind W)
  have HINJ := Lib.hid (fun x y => name_inj (a := e.kind) (b := kind) x y)
  have HCF := Lib.hid (fun (ht : e.text.size ≤ 5000) (hl : fewB S.ps.length S.bs.length S.cs.length S.ad.length = true) => fun W (b : Below w.heap.size w W) => format_any S e _ _ _ _ W ((h.setW (by have := few_yes hl; omega)).keep b) (sh_keep hsh b) ht he.digest)
  have HCC := Lib.hid (fun (ht : e.text.size ≤ 5000) => fun W => check_any e W ht he.digest)
  have HCR := Lib.hid (fun (hl : fewB S.ps.length S.bs.length S.cs.length S.ad.length = true) => fun W (b : Below w.heap.size w W) => rcheck_any S _ _ _ _ W ((h.setW (by have := few_yes hl; omega)).keep b))
  generalize formatV S e = L at *
  generalize formatL S e = LL at *
  generalize checkV e = ck at *
  generalize nameK e.kind = na at *
  generalize nameK kind = nb at *
  generalize hEE : S.err = E at *
  obtain ⟨k, b, r, p, t, d⟩ := e
  unfold Evt.val at *
  dsimp only at *
  have M0 := Lib.hid (fm_new w #[.slice A1 S.ps.length c1, .slice A2 S.bs.length c2, .slice A3 S.cs.length c3, .slice A4 S.ad.length c4] (cells11 k b r p t d))
  clear h he hsh hEE
  go_enter Tryz.func8, Tryz.ntmps8
  go_wp2_with fail
  generalize w.heap.size + 1 = ge at *
  refine (CG.out _).mono ?_
  rintro x w1 ⟨rfl, d1⟩
  have M1 := Lib.hid (M0.out.keep d1)
  clear d1 M0 CG
  have su := M1.out.su.c4
  have lu := M1.out.su.lt
  have se := Blk11 M1.out.ev
  have le := M1.out.ev.lt
  have HAWK := Lib.hid (HAW.out w1 M1.out.bl)
  cases hfb : fewB S.ps.length S.bs.length S.cs.length S.ad.length with
  | false =>
    try rw [hfb]
    clear hfb
    go_wp2_with fail
    refine HAWK.out.mono ?_
    rintro x w2 ⟨rfl, d2⟩
    go_wp2_with fail
    go_ret
    exact ⟨rfl, chain0 M1.out.bl d2⟩
  | true =>
    try rw [hfb]
    by_cases ht : 5000 < t.size
    · have dt : decide ((5000 : Int) < (t.size : Int)) = true := decide_eq_true (by omega)
      clear hfb
      go_wp2_with fail
      refine HAWK.out.mono ?_
      rintro x w2 ⟨rfl, d2⟩
      go_wp2_with fail
      go_ret
      exact ⟨rfl, chain0 M1.out.bl d2⟩
    have dt : decide ((5000 : Int) < (t.size : Int)) = false := decide_eq_false (by omega)
    have CF := Lib.hid (HCF.out (by omega) hfb)
    have CC := Lib.hid (HCC.out (by omega))
    have CR := Lib.hid (HCR.out hfb)
    have HLPS := Lib.hid (HLPS.out hfb)
    clear HCF HCC HCR hfb ht HAWK
    go_wp2_with fail
    refine (HN1.out _).mono ?_
    rintro x w2 ⟨rfl, d2⟩
    have M2 := Lib.hid (M1.out.keep d2)
    clear d2
    go_wp2_with fail
    refine (HN2.out _).mono ?_
    rintro x w3 ⟨rfl, d3⟩
    have M3 := Lib.hid (M2.out.keep d3)
    clear d3 M1 M2 su lu se le dt
    have su := M3.out.su.c4
    have lu := M3.out.su.lt
    have se := Blk11 M3.out.ev
    have le := M3.out.ev.lt
    go_upto_region 4 with fail
    go_cut [40] from 28 to 132 (fun v wx => v = .bool false ∧ wx = w3)
    case first =>
      by_cases hab : na = nb
      · have q1 := eqS_yes hab
        by_cases hkk : k = kind
        · have q2 : (k != kind) = false := by rw [hkk]; simp
          have HK := Lib.hid hkk
          clear hab hkk
          go_wp2_with fail
          go_meet
          exact ⟨rfl, rfl⟩
        · have q2 : (k != kind) = true := by simpa using hkk
          have hna : na = ⟨#[]⟩ := Classical.byContradiction fun x => hkk (HINJ.out hab x)
          have q3 : na.toList.isEmpty = true := by rw [hna]; decide +kernel
          clear hab hkk hna
          go_wp2_with fail
          go_meet
          exact ⟨rfl, rfl⟩
      · have q1 := eqS_no hab
        clear hab
        go_wp2_with fail
        go_meet
        exact ⟨rfl, rfl⟩
    case rest =>
      obtain ⟨rfl, rfl⟩ := hcut
      go_wp2_with fail
      have FF := Lib.hid (fun y => CF.out (later wc y) (chain0 M3.out.bl (later_below wc y)))
      have FN := Lib.hid (fun y => HN1.out (later wc y))
      refine wp_region_later (by kernel_rfl) (by kernel_rfl) ?_
      repeat (first | go_big_quiet_step (first | (go_at_call 19; exact calls_later (FF.out _)) | (go_at_call 11; exact calls_later (FN.out _))) | quiet_step (first | (go_at_call 19; exact calls_later (FF.out _)) | (go_at_call 11; exact calls_later (FN.out _))))
      refine wpQuiet_nil ?_
      rintro _ ⟨y, rfl⟩
      have M5 := Lib.hid (M3.out.keep (later_below wc y))
      clear FF FN CF HN1 HN2 HINJ M3 su lu se le
      generalize later wc y = w5 at *
      go_upto_region 7 with fail
      go_cut [77] from 47 to 132 (fun v wx => v = .bool false ∧ wx = w5)
      case first =>
        by_cases h0 : LL = []
        · have hL := HNE.out h0
          have hz : L.toList.isEmpty = true := by rw [hL]; decide +kernel
          clear h0 hL
          go_wp2_with fail
          go_meet
          exact ⟨rfl, rfl⟩
        · obtain ⟨t2, e1, e2⟩ := HLH.out h0
          have hLn : L ≠ ⟨#[]⟩ := fun x => h0 (by rw [← HFV.out, x])
          have hz := ne_empty hLn
          obtain ⟨a1, a2, a3, a4⟩ := line_cut (L := L) (n := na) (t := t2) (by rw [HFV.out, e1])
          have d1 : decide ((L.size : Int) < (na.size : Int)) = false := decide_eq_false (by omega)
          have d1n : ¬ L.size < na.size := by omega
          have d2 := eqS_yes a2
          rcases e2 with e2 | e2
          · have a5 := a3 e2
            have d3 : decide ((na.size : Int) < (L.size : Int)) = false := decide_eq_false (by omega)
            clear h0 e1 e2 hLn a2 a3 a4
            go_wp2_with fail
            go_meet
            exact ⟨rfl, rfl⟩
          · obtain ⟨a5, a6⟩ := a4 e2
            have d3 : decide ((na.size : Int) < (L.size : Int)) = true := decide_eq_true (by omega)
            have d3i : (na.size : Int) < (L.size : Int) := by omega
            have d4 : ((L[na.size].toNat : Int) != 32) = false := by rw [a6]; rfl
            clear h0 e1 e2 hLn a2 a3 a4
            go_wp2_with fail
            go_meet
            exact ⟨rfl, rfl⟩
      case rest =>
        obtain ⟨rfl, rfl⟩ := hcut
        have su := M5.out.su.c4
        have lu := M5.out.su.lt
        have se := Blk11 M5.out.ev
        have le := M5.out.ev.lt
        go_upto_region 9 with fail
        go_cut [11] from 78 to 132 (fun v wx => (∃ f : Bool, v = .bool f ∧ Hid (f = true → E = 0 ∧ b < (S.bs.length : Int))) ∧ Hid (FM w wx ge #[.slice A1 S.ps.length c1, .slice A2 S.bs.length c2, .slice A3 S.cs.length c3, .slice A4 S.ad.length c4] #[.int .i64 k, .int .i64 b, .int .i64 r, .int .i64 (p 0), .int .i64 (p 1), .int .i64 (p 2), .int .i64 (p 3), .int .i64 (p 4), .int .i64 (p 5), .string t, .int .u64 (d : Int)]))
        case first =>
          go_wp2_with fail
          refine (CR.out _ M5.out.bl).mono ?_
          rintro x w6 ⟨rfl, d6⟩
          have M6 := Lib.hid (M5.out.keep d6)
          clear d6 M5 su lu se le CR
          have su := M6.out.su.c4
          have lu := M6.out.su.lt
          have se := Blk11 M6.out.ev
          have le := M6.out.ev.lt
          by_cases hE : E = 0
          · have dE : (E == 0) = true := by rw [hE]; rfl
            by_cases hb : b < (S.bs.length : Int)
            · have db : decide (b < (S.bs.length : Int)) = true := decide_eq_true hb
              have HB := Lib.hid (And.intro hE hb)
              clear hE hb
              go_wp2_with fail
              go_meet
              exact ⟨⟨true, rfl, fun _ => HB.out⟩, M6⟩
            · have db : decide (b < (S.bs.length : Int)) = false := decide_eq_false hb
              clear hE hb
              go_wp2_with fail
              go_meet
              exact ⟨⟨false, rfl, fun h => by cases h⟩, M6⟩
          · have dE : (E == 0) = false := by simpa using hE
            clear hE
            go_wp2_with fail
            go_meet
            exact ⟨⟨false, rfl, fun h => by cases h⟩, M6⟩
        case rest =>
          obtain ⟨⟨f0, rfl, HF0⟩, M6⟩ := hcut
          clear M5 su lu se le CR
          generalize wc = w7 at *
          have su := M6.out.su.c4
          have lu := M6.out.su.lt
          have se := Blk11 M6.out.ev
          have le := M6.out.ev.lt
          have HEV := Lib.hid (fun j hj => ev_want M6.out.ev j hj)
          go_wp2_with fail
          go_loop [11, 12] (fun fv kv => ∃ (f : Bool) (j : Nat), fv = .bool f ∧ kv = .int .i64 (j : Int) ∧ S.ps.length ≤ j ∧ j ≤ 5006 ∧ Hid (f = true → (E = 0 ∧ b < (S.bs.length : Int)) ∧ ∀ i, S.ps.length ≤ i → i < j → p i = 0) ∧ Hid (6 ≤ j ∨ j < 6)) (fun _ kv => 6 - (intOf kv).toNat)
          case atStart => exact ⟨f0, S.ps.length, rfl, rfl, Nat.le_refl _, by have := HLPS.out; omega, fun h => ⟨HF0.out h, fun i h1 h2 => by omega⟩, by show _ ∨ _; omega⟩
          case round =>
            obtain ⟨f, j, rfl, rfl, hj1, hj2, HF, HJ⟩ := hrel
            by_cases hj : j < 6
            · have dj : decide ((j : Int) < 6) = true := decide_eq_true (by omega)
              have dji : (j : Int) < 6 := by omega
              have hj0 : (0 : Int) ≤ (j : Int) := by omega
              have hcl := HEV.out j hj
              have HJ6 := Lib.hid hj
              cases f with
              | false =>
                go_wp2_with fail
                refine ⟨⟨false, j + 1, rfl, by simp, by omega, by omega, (fun h => by cases h), by show _ ∨ _; omega⟩, ?_⟩
                simp [intOf]; omega
              | true =>
                by_cases hp : p j = 0
                · have dp : (p j == 0) = true := by rw [hp]; rfl
                  have HP := Lib.hid hp
                  clear hp
                  go_wp2_with fail
                  refine ⟨⟨true, j + 1, rfl, by simp, by omega, by omega, fun h => ⟨(HF.out h).1, fun i h1 h2 => ?_⟩, by show _ ∨ _; omega⟩, ?_⟩
                  · by_cases hij : i < j
                    · exact (HF.out h).2 i h1 hij
                    · obtain rfl : i = j := by omega
                      exact HP.out
                  · simp [intOf]; omega
                · have dp : (p j == 0) = false := by simpa using hp
                  clear hp
                  go_wp2_with fail
                  refine ⟨⟨false, j + 1, rfl, by simp, by omega, by omega, (fun h => by cases h), by show _ ∨ _; omega⟩, ?_⟩
                  simp [intOf]; omega
            · have dj : decide ((j : Int) < 6) = false := decide_eq_false (by omega)
              have HJ6 := Lib.hid (show 6 ≤ j by omega)
              have hjn : ¬ j < 6 := hj
              by_cases h0 : LL = []
              case neg =>
                have hz := ne_empty (fun x => h0 (by rw [← HFV.out, x]) : L ≠ ⟨#[]⟩)
                clear h0
                go_wp2_with fail
                refine (HAW.out _ M6.out.bl).mono ?_
                rintro x w12 ⟨rfl, d12⟩
                go_wp2_with fail
                go_ret
                exact ⟨rfl, chain0 M6.out.bl d12⟩
              have hL := HNE.out h0
              have hz : L.toList.isEmpty = true := by rw [hL]; decide +kernel
              have H0 := Lib.hid h0
              clear h0 hL
              by_cases ht0 : t = ⟨#[]⟩
              case neg =>
                have htz := ne_empty ht0
                clear ht0
                go_wp2_with fail
                refine (HAW.out _ M6.out.bl).mono ?_
                rintro x w12 ⟨rfl, d12⟩
                go_wp2_with fail
                go_ret
                exact ⟨rfl, chain0 M6.out.bl d12⟩
              have htz : t.toList.isEmpty = true := by rw [ht0]; decide +kernel
              clear ht0
              cases f with
              | false =>
                go_wp2_with fail
                refine (HAW.out _ M6.out.bl).mono ?_
                rintro x w12 ⟨rfl, d12⟩
                go_wp2_with fail
                go_ret
                exact ⟨rfl, chain0 M6.out.bl d12⟩
              | true =>
                go_wp2_with fail
                refine (CC.out _).mono ?_
                rintro x w8 ⟨rfl, d8⟩
                have M8 := Lib.hid (M6.out.keep d8)
                clear d8 M6 su lu se le HEV
                have su := M8.out.su.c4
                have lu := M8.out.su.lt
                have se := Blk11 M8.out.ev
                have le := M8.out.ev.lt
                by_cases hck : ck = 0
                case neg =>
                  have dc : (ck != 0) = true := by simpa using hck
                  clear hck
                  go_wp2_with fail
                  refine (HAW.out _ M8.out.bl).mono ?_
                  rintro x w12 ⟨rfl, d12⟩
                  go_wp2_with fail
                  go_ret
                  exact ⟨rfl, chain0 M8.out.bl d12⟩
                have dc : (ck != 0) = false := by rw [hck]; rfl
                by_cases hk1 : k = 1
                · have dk : (k == 1) = true := by rw [hk1]; rfl
                  clear hck hk1
                  go_wp2_with fail
                  refine (HAW.out _ M8.out.bl).mono ?_
                  rintro x w12 ⟨rfl, d12⟩
                  go_wp2_with fail
                  go_ret
                  exact ⟨rfl, chain0 M8.out.bl d12⟩
                have dk1 : (k == 1) = false := by simpa using hk1
                by_cases hk5 : k = 5
                · have dk : (k == 5) = true := by rw [hk5]; rfl
                  clear hck hk1 hk5
                  go_wp2_with fail
                  refine (HAW.out _ M8.out.bl).mono ?_
                  rintro x w12 ⟨rfl, d12⟩
                  go_wp2_with fail
                  go_ret
                  exact ⟨rfl, chain0 M8.out.bl d12⟩
                exact absurd H0.out (HLS.out hck (HF.out (by first | rfl | trivial)).1.1 (HF.out (by first | rfl | trivial)).1.2 (fun i h1 h2 => (HF.out (by first | rfl | trivial)).2 i h1 (by have := HJ6.out; omega)) hk1 hk5)
end Go.Proofs.YtaikmgnpfbnjjaaGreatDoor.Ev
