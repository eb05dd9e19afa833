/- Plain: what a stable sort of indices computes; rows of integers of the call's own. -/
import Derived.Test.YtfopmaeaclbknaaDoorNatM
namespace Go.Proofs.YtfopmaeaclbknaaDoor
open Go.ChangeShapes Go.WideShapes Go.ChangeAt Go.RowKit
set_option linter.unusedVariables false
namespace So
/-- a row of the call's own, in block g, whose one-cell elements are xs -/
def RowV (w : World) (base g : Nat) (e : TypeId) (n : Nat) (xs : List Value) : Prop := xs.length = n ∧ w.ownsRow base e 1 (.slice (some ⟨g, 0, none⟩) n n) n xs
/-- w' is w but for block g and new blocks -/
structure Far (g : Nat) (w w' : World) : Prop where
  os : w'.os = w.os
  tape : w'.tape = w.tape
  output : w'.output = w.output
  size : w.heap.size ≤ w'.heap.size
  block : ∀ k, k < w.heap.size → k ≠ g → w'.heap[k]? = w.heap[k]?
section
variable {w w1 w2 : World} {base g n : Nat} {e : TypeId} {xs : List Value}
theorem Far.refl (g : Nat) (w : World) : Far g w w := ⟨rfl, rfl, rfl, Nat.le_refl _, fun _ _ _ => rfl⟩
theorem Far.trans (h : Far g w w1) (k : Far g w1 w2) : Far g w w2 :=
  ⟨k.os.trans h.os, k.tape.trans h.tape, k.output.trans h.output, Nat.le_trans h.size k.size, fun i hi hne => (k.block i (Nat.lt_of_lt_of_le hi h.size) hne).trans (h.block i hi hne)⟩
theorem Far.drewN (h : Far g w w1) (m : Nat) : Far g w (w1.drewN m) := ⟨h.os, h.tape, h.output, h.size, h.block⟩
theorem Far.drew (h : Far g w w1) : Far g w w1.drew := ⟨h.os, h.tape, h.output, h.size, h.block⟩
theorem Far.put (h : Far g w w1) (o : Nat) (u : Value) : Far g w (w1.setCell ⟨g, o, none⟩ u) :=
  h.trans ⟨rfl, rfl, rfl, by simp [World.setCell], fun k _ hne => Below.heap_setCell _ _ _ _ hne⟩
theorem Far.of_below (g : Nat) (h : Below w.heap.size w w1) : Far g w w1 := ⟨h.os, h.tape, h.output, h.size, fun k hk _ => h.block k hk⟩
theorem Far.below {B : Nat} {w0 : World} (h : Far g w w1) (b : Below B w0 w) (hB : B ≤ g) (hs : B ≤ w.heap.size) : Below B w0 w1 :=
  ⟨h.os.trans b.os, h.tape.trans b.tape, h.output.trans b.output, Nat.le_trans b.size h.size, fun k hk => (h.block k (by omega) (by omega)).trans (b.block k hk)⟩
theorem Far.cell (h : Far g w w1) {b : Nat} (o : Nat) (hb : b ≠ g) (hl : b < w.heap.size) : w1.cell? ⟨b, o, none⟩ = w.cell? ⟨b, o, none⟩ := by
  simp only [World.cell?, h.block b hl hb]
theorem RowV.cell (h : RowV w base g e n xs) {i : Nat} (hi : i < n) : w.cell? ⟨g, i, none⟩ = xs[i]? := h.2.cellAt i (by omega)
theorem RowV.free (h : RowV w base g e n xs) (i : Nat) : w.frozen? ⟨g, i, none⟩ = false := h.2.frozenAt i
theorem RowV.put (h : RowV w base g e n xs) (i : Nat) (u : Value) : RowV (w.setCell ⟨g, i, none⟩ u) base g e n (xs.set i u) := ⟨by simpa using h.1, (h.2.stored i u).1⟩
theorem RowV.far (h : RowV w base g e n xs) : base ≤ g := Fr.own_far h.2 g (by simp [Value.ownBlock])
theorem RowV.lt (h : RowV w base g e n xs) : g < w.heap.size := by
  rcases h.2.2 with ⟨hv, _⟩ | ⟨g', cap, cur, hv, _, hh, _⟩
  · cases hv
  · injection hv with hv
    injection hv with hv
    injection hv with hv
    subst hv
    exact (Array.getElem?_eq_some_iff.1 hh).1
theorem RowV.keep (h : RowV w base g e n xs) (b : Below w.heap.size w w1) : RowV w1 base g e n xs := ⟨h.1, own_below h.2 b⟩
theorem RowV.drewN (h : RowV w base g e n xs) (m : Nat) : RowV (w.drewN m) base g e n xs := h.keep (⟨rfl, rfl, rfl, Nat.le_refl _, fun _ _ => rfl⟩)
theorem RowV.drew (h : RowV w base g e n xs) : RowV w.drew base g e n xs := h.drewN 1
theorem RowV.other {g2 : Nat} (h : RowV w base g2 e n xs) (o : Far g w w1) (hg : g2 ≠ g) : RowV w1 base g2 e n xs := by
  refine ⟨h.1, h.2.kept (row := some g) ⟨o.os, o.tape, o.output, o.size, fun k hk hne => o.block k hk (fun e => hne (by rw [e]))⟩ ?_⟩
  simpa [Value.ownBlock] using hg
theorem RowV.sl (h : RowV w base g e n xs) : Sl w 1 (.slice (some ⟨g, 0, none⟩) n n) n xs := Sl.of_own h.2
theorem RowV.made {z : Value} (h : w.ownsRow base e 1 (.slice (some ⟨g, 0, none⟩) n n) n (madeCells #[z] n).toList) : RowV w base g e n (List.replicate n z) := by
  have e1 : (madeCells #[z] n).toList = List.replicate n z := by
    refine List.ext_getElem (by simp [madeCells]) fun i h1 h2 => ?_
    simp [madeCells, Nat.mod_one]
  rw [e1] at h
  exact ⟨by simp, h⟩
theorem RowV.rebase {base' : Nat} (h : RowV w base g e n xs) (hb : base' ≤ base) : RowV w base' g e n xs := by
  refine ⟨h.1, h.2.1, ?_⟩
  rcases h.2.2 with hv | ⟨g', cap, cur, hv, h1, h2⟩
  · exact .inl hv
  · exact .inr ⟨g', cap, cur, hv, Nat.le_trans hb h1, h2⟩
end
def ints (l : List Nat) : List Value := l.map fun (n : Nat) => Value.int .i64 (n : Int)
theorem ints_len (l : List Nat) : (ints l).length = l.length := by simp [ints]
theorem ints_set (l : List Nat) (i x : Nat) : (ints l).set i (.int .i64 (x : Int)) = ints (l.set i x) := by simp [ints, List.map_set]
theorem ints_at {l : List Nat} {i x : Nat} (h : l[i]? = some x) : (ints l)[i]? = some (.int .i64 (x : Int)) := by simp [ints, h]
/-- x is to stand before y -/
def LT (r : Nat → Nat) (x y : Nat) : Prop := r y < r x ∨ (r x = r y ∧ x < y)
theorem LT.trans {r : Nat → Nat} {x y z : Nat} (h : LT r x y) (k : LT r y z) : LT r x z := by
  unfold LT at *
  omega
theorem LT.irrefl {r : Nat → Nat} {x : Nat} (h : LT r x x) : False := by unfold LT at h; omega
theorem LT.total {r : Nat → Nat} {x y : Nat} (h : x ≠ y) : LT r x y ∨ LT r y x := by unfold LT; omega
/-- what the comparison answers -/
def cmpv (a b : Nat) : Int := if b < a then -1 else if a < b then 1 else 0
theorem cmpv_lt {a b : Nat} : decide (cmpv a b < 0) = decide (b < a) := by
  unfold cmpv
  split
  · rename_i h; simp [h]
  · rename_i h
    split <;> simp [h]
theorem set_two {A C : List Nat} {x y : Nat} {j : Nat} (hj : A.length = j) : ((A ++ y :: x :: C).set (j + 1) y).set j x = A ++ x :: y :: C := by
  subst hj
  rw [List.set_append_right _ _ (by omega), show A.length + 1 - A.length = 1 by omega, List.set_cons_succ, List.set_cons_zero, List.set_append_right _ _ (Nat.le_refl _), Nat.sub_self, List.set_cons_zero]
theorem get_two {A C : List Nat} {x y : Nat} {j : Nat} (hj : A.length = j) : (A ++ y :: x :: C)[j]? = some y ∧ (A ++ y :: x :: C)[j + 1]? = some x := by
  subst hj
  constructor
  · simp
  · rw [List.getElem?_append_right (by omega), show A.length + 1 - A.length = 1 by omega]; rfl
/-- the place of an inserted element is found -/
theorem ins_sorted {r : Nat → Nat} {L R : List Nat} {x : Nat} (hs : (L ++ R).Pairwise (LT r)) (hlt : ∀ y ∈ L ++ R, y < x) (hR : ∀ y ∈ R, r y < r x) (hL : L = [] ∨ ∃ L' y, L = L' ++ [y] ∧ r x ≤ r y) : (L ++ x :: R).Pairwise (LT r) := by
  rw [List.pairwise_append] at hs ⊢
  obtain ⟨h1, h2, h3⟩ := hs
  have h4 : ∀ y ∈ L, LT r y x := by
    rcases hL with rfl | ⟨L', y, rfl, hy⟩
    · intro y h; cases h
    · intro z hz
      have hzx := hlt z (List.mem_append_left _ hz)
      rcases List.mem_append.1 hz with hz' | hz'
      · have := (List.pairwise_append.1 h1).2.2 z hz' y (by simp)
        unfold LT at this ⊢
        rcases this with h | h <;> omega
      · obtain rfl : z = y := by simpa using hz'
        unfold LT
        omega
  refine ⟨h1, List.pairwise_cons.2 ⟨fun y hy => .inl (hR y hy), h2⟩, fun y hy z hz => ?_⟩
  rcases List.mem_cons.1 hz with rfl | hz
  · exact h4 y hy
  · exact h3 y hy z hz
theorem ins_perm {L R D : List Nat} {x : Nat} (h : L ++ R = D) : (L ++ x :: R).Perm (D ++ [x]) := by
  subst h
  have h1 : (L ++ x :: R).Perm (x :: (L ++ R)) := List.perm_middle
  have h2 : (L ++ R ++ [x]).Perm (x :: (L ++ R)) := List.perm_append_comm
  exact h1.trans h2.symm
end So
end Go.Proofs.YtfopmaeaclbknaaDoor
