/- Opening an argument that is a slice of integers, or a fraction. -/
import Derived.WalkKit
import Derived.ProofKit
import Derived.OpenShut
import Derived.Lib.SmallJoins
import Derived.Deep.Slices
import Derived.Test.YthehchdonmmpaaaGreatDoorPs00
import Derived.Test.YthehchdonmmpaaaGreatDoorPs07
namespace Go.Proofs.YthehchdonmmpaaaGreatDoor.OpenN
open Go.ChangeShapes Go.WideShapes Go.ChangeAt Go.RowKit Go.Joins Go.Deep
section
variable {H : Type} {enc : TypeId × Value → H} {P : Program} {w : World} {base : Nat} {spare : Nat → Bool} {held : Bool}
theorem sl_of_trod {t e : TypeId} {k : IntKind} {fuel : Nat} {v : Value} {x : DataW H × List MemPlace} (ht : P.underlying t = some (.slice e)) (he : P.underlying e = some (.int k)) (hc : P.cellsOf e = 1) (h : DataW.trod enc P w base spare held fuel t [v] = some x) :
    ∃ xs : List Int, (∀ z ∈ xs, (Lit.int k z).wf = true) ∧ Sl w 1 v xs.length (xs.map (Value.int k)) := by
  rcases open_ints ht he hc h with ⟨hv, _⟩ | ⟨a, len, cap, zs, hv, _, hlc, hcm, hzl, _, hcell, hwf⟩
  · obtain rfl : v = .slice none 0 0 := by simpa using hv
    exact ⟨[], (fun z h => by cases h), Sl.nil w 1⟩
  · obtain rfl : v = .slice (some a) len cap := by simpa using hv
    have hle : len ≤ zs.length := by rw [hzl]; split <;> omega
    have hl : (zs.take len).length = len := by rw [List.length_take]; omega
    refine ⟨zs.take len, fun z hz => hwf z (List.mem_of_mem_take hz), by simp, some a, cap, by rw [hl], by rw [hl]; exact hlc, hcm, fun h0 => ?_⟩
    rw [hl] at h0
    have hs : a.spot = none := by
      have h1 := hcell 0 (by omega)
      have h2 := World.cell?_spot h1
      simpa [Addr.add] using h2
    obtain ⟨b, off, sp⟩ := a
    subst hs
    have hh : ∀ i, i < len → w.cell? ⟨b, off + i, none⟩ = some (.int k (zs.getD i 0)) := fun i hi => by
      have h1 := hcell i (by omega)
      rw [OpenAdd.add_at] at h1
      exact h1
    refine ⟨b, off, rfl, block_lt_of_cell (hh 0 h0), fun j u hu => ?_⟩
    obtain ⟨hj, e⟩ := List.getElem?_eq_some_iff.1 hu
    have hj' : j < len := by simp at hj; omega
    rw [hh j hj', ← e]
    simp [List.getD, show j < zs.length by omega]
theorem open_sl {r : Reach} {b0 : Nat} {t e : TypeId} {k : IntKind} {v : Value} {d : DataW H} {ps : List MemPlace} (ht : P.underlying t = some (.slice e)) (he : P.underlying e = some (.int k)) (hc : P.cellsOf e = 1) (hv : Value.okWide P w r b0 t v) (h : DataW.Trod enc P w base spare held t v d ps) :
    ∃ xs : List Int, (∀ z ∈ xs, (Lit.int k z).wf = true) ∧ Sl w 1 v xs.length (xs.map (Value.int k)) := by
  obtain ⟨a, n, cap, rfl⟩ := okWide_slice ht hv
  obtain ⟨fuel, hf⟩ := h
  exact sl_of_trod ht he hc hf
theorem ns_of_sl {v : Value} {xs : List Int} (hwf : ∀ z ∈ xs, (Lit.int .u32 z).wf = true) (h : Sl w 1 v xs.length (xs.map (Value.int .u32))) : ∃ l : List Nat, Fr.NS w v l ∧ Fr.Dg l := by
  have hb : ∀ z ∈ xs, 0 ≤ z ∧ z < 4294967296 := fun z hz => by
    have h1 := hwf z hz
    simp [Lit.wf, IntKind.min, IntKind.max, IntKind.signed, IntKind.bits] at h1
    omega
  have e : (xs.map Int.toNat).map (fun (n : Nat) => (n : Int)) = xs := by
    rw [List.map_map]
    conv => rhs; rw [← List.map_id xs]
    refine List.map_congr_left fun z hz => ?_
    have := hb z hz
    simp only [Function.comp_apply, id]
    omega
  refine ⟨xs.map Int.toNat, ?_, fun d hd => ?_⟩
  · unfold Fr.NS Fr.u32s
    have e2 : (xs.map Int.toNat).map (fun n => Value.int .u32 ((n : Nat) : Int)) = xs.map (Value.int .u32) := by
      conv => rhs; rw [← e]
      simp only [List.map_map]
      rfl
    rw [e2, List.length_map]
    exact h
  · obtain ⟨z, hz, rfl⟩ := List.mem_map.1 hd
    have := hb z hz
    unfold Fr.B
    omega
end
section
variable {H : Type} {enc : TypeId × Value → H} {w : World} {base : Nat} {spare : Nat → Bool} {held : Bool}
set_option maxRecDepth 100000 in
theorem open_i64s {r : Reach} {b0 : Nat} {v : Value} {d : DataW H} {ps : List MemPlace} (hv : Value.okWide Tryz.prog w r b0 54 v) (h : DataW.Trod enc Tryz.prog w base spare held 54 v d ps) :
    ∃ xs : List Int, So.IS w v xs := by
  obtain ⟨xs, _, h2⟩ := open_sl Tryz.underlying54 (by kernel_rfl) (by kernel_rfl) hv h
  exact ⟨xs, h2⟩
set_option maxRecDepth 100000 in
theorem frac_fields : ∃ f0 f1 f2 : Field, ∃ e : TypeId, Tryz.prog.underlying 47 = some (.struct #[f0, f1, f2]) ∧ oneCellFields Tryz.prog #[f0, f1, f2] = true ∧ Tryz.prog.underlying f0.type = some .bool ∧ Tryz.prog.underlying f1.type = some (.slice e) ∧ Tryz.prog.underlying f2.type = some (.slice e) ∧ Tryz.prog.underlying e = some (.int .u32) ∧ Tryz.prog.cellsOf e = 1 :=
  ⟨_, _, _, 53, Tryz.underlying47, by kernel_rfl, by kernel_rfl, by kernel_rfl, by kernel_rfl, by kernel_rfl, by kernel_rfl⟩
set_option maxRecDepth 100000 in
theorem open_frac {r : Reach} {b0 : Nat} {v : Value} {d : DataW H} {ps : List MemPlace} (hv : Value.okWide Tryz.prog w r b0 47 v) (h : DataW.Trod enc Tryz.prog w base spare held 47 v d ps) :
    ∃ (s : Bool) (v1 v2 : Value) (l1 l2 : List Nat), v = .agg #[.bool s, v1, v2] ∧ Fr.NS w v1 l1 ∧ Fr.NS w v2 l2 ∧ Fr.Dg l1 ∧ Fr.Dg l2 := by
  obtain ⟨f0, f1, f2, e, hs, hone, k0, k1, k2, k3, k4⟩ := frac_fields
  obtain ⟨v0, v1, v2, y0, y1, y2, n, rfl, _, _, h0, h1, h2⟩ := open_agg3 hs hone (by kernel_rfl) hv h
  obtain ⟨b, e0, _⟩ := DataW.trod_bool k0 h0
  obtain rfl : v0 = .bool b := by simpa using e0
  obtain ⟨x1, w1, s1⟩ := sl_of_trod k1 k3 k4 h1
  obtain ⟨x2, w2, s2⟩ := sl_of_trod k2 k3 k4 h2
  obtain ⟨l1, n1, d1⟩ := ns_of_sl w1 s1
  obtain ⟨l2, n2, d2⟩ := ns_of_sl w2 s2
  exact ⟨b, v1, v2, l1, l2, rfl, n1, n2, d1, d2⟩
end
end Go.Proofs.YthehchdonmmpaaaGreatDoor.OpenN
