/- Opening an argument that is a sale with its bidders, a list of bundles, of payments, of invoices. -/
import Derived.Test.YthehchdonmmpaaaDoorOpenQ
import Derived.Test.YthehchdonmmpaaaDoorStT
namespace Go.Proofs.YthehchdonmmpaaaDoor.OpenR
open Go.ChangeShapes Go.WideShapes Go.ChangeAt Go.RowKit Go.Joins Go.Deep
open Cat Pr Ros St OpenQ
set_option linter.unusedVariables false
set_option linter.unusedSimpArgs false
section
variable {H : Type} {enc : TypeId × Value → H} {w : World} {base : Nat} {spare : Nat → Bool} {held : Bool}
set_option maxRecDepth 100000 in
theorem bidder_fields : ∃ f0 f1 f2 f3 : Field, Tryd.prog.underlying 64 = some (.struct #[f0, f1, f2, f3]) ∧ oneCellFields Tryd.prog #[f0, f1, f2, f3] = true ∧ Tryd.prog.underlying f0.type = some .string ∧ Tryd.prog.underlying f1.type = some (.int .i64) ∧ Tryd.prog.underlying f2.type = some (.int .i64) ∧ Tryd.prog.underlying f3.type = some (.int .i64) :=
  ⟨_, _, _, _, Tryd.underlying64, by kernel_rfl, by kernel_rfl, by kernel_rfl, by kernel_rfl, by kernel_rfl⟩
def BidD (t : Bid) (_ : DataW H) : Prop := t.name.size ≤ maxLen
set_option maxRecDepth 100000 in
theorem dec_bid (fuel : Nat) (cs : List Value) (y : DataW H × List MemPlace) (h : DataW.trod enc Tryd.prog w base spare held fuel 64 cs = some y) : ∃ t : Bid, cs = t.cells ∧ BidD t y.1 := by
  obtain ⟨f0, f1, f2, f3, hs, hone, k0, k1, k2, k3⟩ := bidder_fields
  obtain ⟨xs, n, _, rfl, hl, hxl, hf⟩ := DataW.trod_struct hs h
  have hC : Tryd.prog.cellsOf 64 = 4 := by kernel_rfl
  rw [hC] at hl
  match cs, hl, xs, hxl, hf with
  | [c0, c1, c2, c3], _, [x0, x1, x2, x3], _, hf =>
    obtain ⟨s, e0, _, z1⟩ := DataW.trod_string k0 (OpenG.field_at hone hf 0 f0 rfl (by simp) (by simp))
    obtain ⟨a, e1, _, _⟩ := DataW.trod_int k1 (OpenG.field_at hone hf 1 f1 rfl (by simp) (by simp))
    obtain ⟨b, e2, _, _⟩ := DataW.trod_int k2 (OpenG.field_at hone hf 2 f2 rfl (by simp) (by simp))
    obtain ⟨c, e3, _, _⟩ := DataW.trod_int k3 (OpenG.field_at hone hf 3 f3 rfl (by simp) (by simp))
    simp at e0 e1 e2 e3
    subst e0 e1 e2 e3
    exact ⟨⟨s, a, b, c⟩, rfl, z1⟩
def BunD (p : Nat → Int) (_ : DataW H) : Prop := ∀ k, k < 6 → (Lit.int .i64 (p k)).wf = true
set_option maxRecDepth 100000 in
theorem dec_bun (fuel : Nat) (cs : List Value) (y : DataW H × List MemPlace) (h : DataW.trod enc Tryd.prog w base spare held fuel 42 cs = some y) : ∃ p : Nat → Int, cs = bunCells p ∧ BunD p y.1 := by
  obtain ⟨p, e, hp⟩ := arr6_of_trod (e := 3) Tryd.underlying42 (by kernel_rfl) (by kernel_rfl) (by kernel_rfl) h
  exact ⟨p, e, hp⟩
def FrcD (w : World) (f : Frc) (_ : DataW H) : Prop := Fr.NS w f.v1 f.num ∧ Fr.NS w f.v2 f.den ∧ Fr.Dg f.num ∧ Fr.Dg f.den
set_option maxRecDepth 100000 in
theorem dec_frc (fuel : Nat) (cs : List Value) (y : DataW H × List MemPlace) (h : DataW.trod enc Tryd.prog w base spare held fuel 39 cs = some y) : ∃ f : Frc, cs = f.cells ∧ FrcD w f y.1 := by
  obtain ⟨f0, f1, f2, e, hs, hone, k0, k1, k2, k3, k4⟩ := OpenN.frac_fields
  obtain ⟨xs, n, _, rfl, hl, hxl, hf⟩ := DataW.trod_struct hs h
  have hC : Tryd.prog.cellsOf 39 = 3 := by kernel_rfl
  rw [hC] at hl
  match cs, hl, xs, hxl, hf with
  | [c0, c1, c2], _, [x0, x1, x2], _, hf =>
    obtain ⟨b, e0, _⟩ := DataW.trod_bool k0 (OpenG.field_at hone hf 0 f0 rfl (by simp) (by simp))
    obtain ⟨z1, w1, s1⟩ := OpenN.sl_of_trod k1 k3 k4 (OpenG.field_at hone hf 1 f1 rfl (by simp) (by simp))
    obtain ⟨z2, w2, s2⟩ := OpenN.sl_of_trod k2 k3 k4 (OpenG.field_at hone hf 2 f2 rfl (by simp) (by simp))
    obtain ⟨l1, n1, d1⟩ := OpenN.ns_of_sl w1 s1
    obtain ⟨l2, n2, d2⟩ := OpenN.ns_of_sl w2 s2
    simp at e0
    subst e0
    exact ⟨⟨b, c1, c2, l1, l2⟩, rfl, n1, n2, d1, d2⟩
set_option maxRecDepth 100000 in
theorem setup_fields : ∃ f0 f1 f2 f3 : Field, Tryd.prog.underlying 27 = some (.struct #[f0, f1, f2, f3]) ∧ oneCellFields Tryd.prog #[f0, f1, f2, f3] = true ∧ Tryd.prog.underlying f0.type = some (.slice 62) ∧ Tryd.prog.underlying f1.type = some (.slice 64) :=
  ⟨_, _, _, _, Tryd.underlying27, by kernel_rfl, by kernel_rfl, by kernel_rfl⟩
/-- a sale: its products and bidders -/
structure SaleF (w : World) (v1 v2 : Value) (ps : List Prod) (bs : List Bid) : Prop where
  prods : PS w v1 ps
  names : ∀ p ∈ ps, p.name.size ≤ maxLen
  bids : BidS w v2 bs
  bnames : ∀ p ∈ bs, p.name.size ≤ maxLen
set_option maxRecDepth 100000 in
theorem open_sale {r : Reach} {b0 : Nat} {v : Value} {d : DataW H} {q : List MemPlace} (hv : Value.okWide Tryd.prog w r b0 27 v) (h : DataW.Trod enc Tryd.prog w base spare held 27 v d q) :
    ∃ (v1 v2 v3 v4 : Value) (ps : List Prod) (bs : List Bid), v = .agg #[v1, v2, v3, v4] ∧ SaleF w v1 v2 ps bs := by
  obtain ⟨f0, f1, f2, f3, hs, hone, k0, k1⟩ := setup_fields
  obtain ⟨v0, v1, v2, v3, y0, y1, y2, y3, n, rfl, _, _, h0, h1, h2, h3⟩ := open_agg4 hs hone (by kernel_rfl) hv h
  obtain ⟨A1, c1, ps, rfl, hsl, he⟩ := list_of_trod 5 Prod.cells OpenC.ProdD (by decide) (fun _ => rfl) k0 (by kernel_rfl) OpenC.dec_prod h0
  obtain ⟨A2, c2, bs, rfl, hsb, hb⟩ := list_of_trod 4 Bid.cells BidD (by decide) (fun _ => rfl) k1 (by kernel_rfl) dec_bid h1
  exact ⟨_, _, v2, v3, ps, bs, rfl, hsl, OpenC.elems_all he, hsb, OpenC.elems_all hb⟩
set_option maxRecDepth 100000 in
theorem open_buns {r : Reach} {b0 : Nat} {v : Value} {d : DataW H} {q : List MemPlace} (hv : Value.okWide Tryd.prog w r b0 28 v) (h : DataW.Trod enc Tryd.prog w base spare held 28 v d q) :
    ∃ l : List (Nat → Int), BunS w v l ∧ (∀ p ∈ l, ∀ k, k < 6 → (Lit.int .i64 (p k)).wf = true) := by
  obtain ⟨a, n, cap, rfl⟩ := okWide_slice Tryd.underlying28 hv
  obtain ⟨fuel, hf⟩ := h
  obtain ⟨_, _, l, _, hsl, he⟩ := list_of_trod 6 bunCells BunD (by decide) (fun _ => rfl) Tryd.underlying28 (by kernel_rfl) dec_bun hf
  exact ⟨l, hsl, OpenC.elems_all he⟩
set_option maxRecDepth 100000 in
theorem open_fracs {r : Reach} {b0 : Nat} {v : Value} {d : DataW H} {q : List MemPlace} (hv : Value.okWide Tryd.prog w r b0 29 v) (h : DataW.Trod enc Tryd.prog w base spare held 29 v d q) :
    ∃ l : List Frc, FrcS w v l ∧ FrcOk w l := by
  obtain ⟨a, n, cap, rfl⟩ := okWide_slice Tryd.underlying29 hv
  obtain ⟨fuel, hf⟩ := h
  obtain ⟨_, _, l, _, hsl, he⟩ := list_of_trod 3 Frc.cells (FrcD w) (by decide) (fun _ => rfl) Tryd.underlying29 (by kernel_rfl) dec_frc hf
  exact ⟨l, hsl, OpenC.elems_all he⟩
end
end Go.Proofs.YthehchdonmmpaaaDoor.OpenR
