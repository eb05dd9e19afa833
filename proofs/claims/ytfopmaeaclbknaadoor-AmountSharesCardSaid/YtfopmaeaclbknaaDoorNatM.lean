/- Rows of digits of the call's own that are filled place by place. -/
import Derived.Test.YtfopmaeaclbknaaDoorNatW
namespace Go.Proofs.YtfopmaeaclbknaaDoor
open Go.ChangeShapes Go.WideShapes Go.ChangeAt Go.RowKit
set_option linter.unusedVariables false
namespace Fr
/-- a row of the call's own, in block g, that reads as the digits l -/
def Row (w : World) (base g : Nat) (e : TypeId) (n : Nat) (l : List Nat) : Prop := l.length = n ∧ w.ownsRow base e 1 (.slice (some ⟨g, 0, none⟩) n n) n (u32s l)
section
variable {w w' : World} {base g n : Nat} {e : TypeId} {l : List Nat}
theorem u32s_get (l : List Nat) (i : Nat) (h : i < l.length) : (u32s l)[i]? = some (.int .u32 ((dg l i : Nat) : Int)) := by simp [u32s, h, dg_in]
theorem u32s_set (l : List Nat) (i d : Nat) : (u32s l).set i (.int .u32 (d : Int)) = u32s (l.set i d) := by simp [u32s, List.map_set]
theorem Row.cell (h : Row w base g e n l) {i : Nat} (hi : i < n) : w.cell? ⟨g, i, none⟩ = some (.int .u32 ((dg l i : Nat) : Int)) :=
  (h.2.cellAt i (by omega)).trans (u32s_get l i (by have := h.1; omega))
theorem Row.drew (h : Row w base g e n l) : Row w.drew base g e n l := ⟨h.1, h.2.drew⟩
theorem Row.free (h : Row w base g e n l) (i : Nat) : w.frozen? ⟨g, i, none⟩ = false := h.2.frozenAt i
theorem Row.put (h : Row w base g e n l) (i d : Nat) : Row (w.setCell ⟨g, i, none⟩ (.int .u32 (d : Int))) base g e n (l.set i d) := by
  refine ⟨by simpa using h.1, ?_⟩
  have := (h.2.stored i (.int .u32 (d : Int))).1
  rwa [u32s_set] at this
theorem Row.far (h : Row w base g e n l) : base ≤ g := own_far h.2 g (by simp [Value.ownBlock])
theorem Row.lt (h : Row w base g e n l) : g < w.heap.size := by
  rcases h.2.2 with ⟨hv, _⟩ | ⟨g', cap, cur, hv, _, hh, _⟩
  · cases hv
  · injection hv with hv
    injection hv with hv
    injection hv with hv
    subst hv
    exact (Array.getElem?_eq_some_iff.1 hh).1
theorem Row.rebase {base' : Nat} (h : Row w base g e n l) (hb : base' ≤ base) : Row w base' g e n l := by
  refine ⟨h.1, h.2.1, ?_⟩
  rcases h.2.2 with hv | ⟨g', cap, cur, hv, h1, h2⟩
  · exact .inl hv
  · exact .inr ⟨g', cap, cur, hv, Nat.le_trans hb h1, h2⟩
theorem Row.ns (h : Row w base g e n l) : NS w (.slice (some ⟨g, 0, none⟩) n n) l := ns_own h.2
theorem Row.keep (h : Row w base g e n l) (b : Below w.heap.size w w') : Row w' base g e n l := ⟨h.1, own_below h.2 b⟩
theorem Row.made (h : w.ownsRow base e 1 (.slice (some ⟨g, 0, none⟩) n n) n (madeCells (Value.int .u32 0).cells (n * 1)).toList) : Row w base g e n (List.replicate n 0) := by
  refine ⟨by simp, ?_⟩
  have e1 : (madeCells (Value.int .u32 0).cells (n * 1)).toList = u32s (List.replicate n 0) := by
    refine List.ext_getElem (by simp [madeCells, u32s]) fun i h1 h2 => ?_
    simp [madeCells, u32s, Value.cells, Nat.mod_one]
  rwa [e1] at h
theorem Row.made' (h : w.ownsRow base e 1 (.slice (some ⟨g, 0, none⟩) n n) n (madeCells #[Value.int .u32 0] n).toList) : Row w base g e n (List.replicate n 0) := by
  refine Row.made ?_
  rw [Nat.mul_one]
  exact h
/-- below the base a store into the row changes nothing -/
theorem Row.below {B : Nat} {w0 : World} (h : Row w base g e n l) (hb : Below B w0 w) (hB : B ≤ base) (i : Nat) (u : Value) : Below B w0 (w.setCell ⟨g, i, none⟩ u) :=
  hb.setCell (by have := h.far; show B ≤ g; omega) u
end
/-- w' is w but for block g -/
structure OnlyG (g : Nat) (w w' : World) : Prop where
  os : w'.os = w.os
  tape : w'.tape = w.tape
  output : w'.output = w.output
  size : w'.heap.size = w.heap.size
  block : ∀ k, k ≠ g → w'.heap[k]? = w.heap[k]?
section
variable {g : Nat} {w w1 w2 : World}
theorem OnlyG.refl (g : Nat) (w : World) : OnlyG g w w := ⟨rfl, rfl, rfl, rfl, fun _ _ => rfl⟩
theorem OnlyG.put (h : OnlyG g w w1) (o : Nat) (u : Value) : OnlyG g w (w1.setCell ⟨g, o, none⟩ u) :=
  ⟨h.os, h.tape, h.output, by have := h.size; simpa [World.setCell] using this, fun k hne => (Below.heap_setCell _ _ _ _ hne).trans (h.block k hne)⟩
theorem OnlyG.drewN (h : OnlyG g w w1) (n : Nat) : OnlyG g w (w1.drewN n) := ⟨h.os, h.tape, h.output, h.size, h.block⟩
theorem OnlyG.drew (h : OnlyG g w w1) : OnlyG g w w1.drew := ⟨h.os, h.tape, h.output, h.size, h.block⟩
theorem OnlyG.below {B : Nat} {w0 : World} (h : OnlyG g w w1) (b : Below B w0 w) (hB : B ≤ g) : Below B w0 w1 :=
  ⟨h.os.trans b.os, h.tape.trans b.tape, h.output.trans b.output, by rw [h.size]; exact b.size, fun k hk => (h.block k (by omega)).trans (b.block k hk)⟩
theorem OnlyG.cell (h : OnlyG g w w1) {b : Nat} (o : Nat) (hb : b ≠ g) : w1.cell? ⟨b, o, none⟩ = w.cell? ⟨b, o, none⟩ := by
  simp only [World.cell?, h.block b hb]
theorem Row.only {base g2 n : Nat} {e : TypeId} {l : List Nat} (h : Row w base g2 e n l) (o : OnlyG g w w1) (hg : g2 ≠ g) : Row w1 base g2 e n l := by
  refine ⟨h.1, h.2.kept (row := some g) ⟨o.os, o.tape, o.output, by rw [o.size]; exact Nat.le_refl _, fun k _ hk => o.block k (fun e => hk (by rw [e]))⟩ ?_⟩
  simpa [Value.ownBlock] using hg
end
theorem dg_drop (l : List Nat) (j i : Nat) : dg (l.drop j) i = dg l (j + i) := by simp [dg, List.getD]
theorem dg_app_lt {o k : List Nat} {i : Nat} (h : i < o.length) : dg (o ++ k) i = dg o i := by simp [dg, List.getD, List.getElem?_append_left h]
theorem dg_app_ge {o k : List Nat} {i : Nat} (h : o.length ≤ i) : dg (o ++ k) i = dg k (i - o.length) := by simp [dg, List.getD, List.getElem?_append_right h]
theorem dg_zeros (m i : Nat) : dg (List.replicate m 0) i = 0 := by
  by_cases h : i < m
  · simp [dg, List.getD, h]
  · exact dg_out (by simp; omega)
theorem set_fill (o : List Nat) (m d : Nat) : (o ++ List.replicate (m + 1) 0).set o.length d = (o ++ [d]) ++ List.replicate m 0 := by
  rw [List.set_append_right _ _ (Nat.le_refl _), Nat.sub_self, List.replicate_succ, List.set_cons_zero]
  simp
theorem set_top (k d : Nat) (o : List Nat) : (List.replicate (k + 1) 0 ++ o).set k d = List.replicate k 0 ++ (d :: o) := by
  rw [List.replicate_succ', List.append_assoc, List.set_append_right _ _ (by simp)]
  simp
theorem set_fill' {o : List Nat} {n k : Nat} (hk : k < n) (ho : o.length = k) (d : Nat) : (o ++ List.replicate (n - k) 0).set k d = (o ++ [d]) ++ List.replicate (n - (k + 1)) 0 := by
  obtain ⟨m, hm⟩ : ∃ m, n - k = m + 1 := ⟨n - k - 1, by omega⟩
  have : n - (k + 1) = m := by omega
  rw [hm, this, ← ho]
  exact set_fill o m d
theorem nat_fill (o : List Nat) (m : Nat) : nat (o ++ List.replicate m 0) = nat o := by rw [nat_append, nat_zeros, Nat.mul_zero, Nat.add_zero]
theorem nat_top (k : Nat) (o : List Nat) : nat (List.replicate k 0 ++ o) = B ^ k * nat o := by rw [nat_append, nat_zeros, Nat.zero_add, List.length_replicate]
theorem Dg.zeros (m : Nat) : Dg (List.replicate m 0) := fun d h => by
  rw [(List.mem_replicate.1 h).2]
  exact B_pos
theorem Dg.set {l : List Nat} (h : Dg l) {d : Nat} (hd : d < B) (i : Nat) : Dg (l.set i d) := fun x hx => by
  rcases List.mem_or_eq_of_mem_set hx with h1 | h1
  · exact h x h1
  · rw [h1]; exact hd
theorem dg_set_same {l : List Nat} {i d : Nat} (h : i < l.length) : dg (l.set i d) i = d := by simp [dg, List.getD, h]
theorem dg_set_ne {l : List Nat} {i j d : Nat} (h : i ≠ j) : dg (l.set i d) j = dg l j := by simp [dg, List.getD, List.getElem?_set_ne h]
theorem val_congr {l k : List Nat} {m : Nat} (h : ∀ i, i < m → dg l i = dg k i) : val l m = val k m := val_same h
end Fr
end Go.Proofs.YtfopmaeaclbknaaDoor
