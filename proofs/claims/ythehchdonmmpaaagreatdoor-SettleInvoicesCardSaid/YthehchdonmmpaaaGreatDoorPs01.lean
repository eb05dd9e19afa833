/- Rows of digits that a call makes, plain and in memory. Plain: products by digits. Rows of digits of the call's own that are filled place by place. Plain: digits put together by bits. Contracts of natural.trim, FromUint, Uint. Contracts of the reference's Cmp and Add. Printed by gen_nat2.py. -/
import Derived.Test.YthehchdonmmpaaaGreatDoorPs00
import Derived.Laws.BitsAllLaws
import Derived.Deep.QuietTactic
namespace Go.Proofs.YthehchdonmmpaaaGreatDoor
open Go.ChangeShapes Go.WideShapes Go.ChangeAt Go.RowKit
set_option linter.unusedVariables false
namespace Fr
theorem own_far {w : World} {base : Nat} {e : TypeId} {size n : Nat} {v : Value} {xs : List Value} (h : w.ownsRow base e size v n xs) : ∀ g, v.ownBlock = some g → base ≤ g := by
  rcases h.2 with ⟨rfl, _⟩ | ⟨g', cap, cur, rfl, hb, hh, _⟩
  · intro g hg
    simp [Value.ownBlock] at hg
  · intro g hg
    have : g' = g := by simpa [Value.ownBlock] using hg
    subst this
    exact hb
theorem ns_new1 (w : World) (a : Nat) (t : TypeId) : NS (w.alloc (.cells #[.int .u32 (a : Int)] t)) (.slice (some ⟨w.heap.size, 0, none⟩) 1 1) [a] := by
  refine ns_mk (by simp) (Nat.le_refl _) (by unfold maxLen; simp) fun i hi => ?_
  obtain rfl : i = 0 := by simp at hi; omega
  exact (Blk.new w t _).cell 0
theorem ns_own {w : World} {base : Nat} {e : TypeId} {v : Value} {n : Nat} {o : List Nat} (h : w.ownsRow base e 1 v n (u32s o)) : NS w v o := by
  have := Sl.of_own h
  have hl := this.1
  rw [u32s_len, Nat.mul_one] at hl
  rw [← hl] at this
  exact this
/-- the two parts of a sum below B * B -/
theorem parts {s : Nat} : s % B < B ∧ IntKind.u32.wrap ((s : Int) % 4294967296) = ((s % B : Nat) : Int) := by
  refine ⟨Nat.mod_lt _ B_pos, ?_⟩
  rw [IntWalk.u32_in _ (by omega)]
  unfold B
  omega
theorem part_hi {s : Nat} (h : s < B * B) : s / B < B ∧ IntKind.u64.wrap ((s : Int) / 4294967296) = ((s / B : Nat) : Int) := by
  refine ⟨Nat.div_lt_of_lt_mul h, ?_⟩
  rw [BB_eq] at h
  rw [IntWalk.u64_in _ (by omega)]
  unfold B
  omega
theorem u64_sum {x y : Nat} (h : x + y < B * B) : IntKind.u64.wrap ((x : Int) + (y : Int)) = ((x + y : Nat) : Int) := by
  rw [BB_eq] at h
  rw [IntWalk.u64_in _ (by omega)]
  omega
theorem lt_BB {s : Nat} (h : s < 4 * B) : s < B * B := by
  have : 4 * B ≤ B * B := Nat.mul_le_mul_right _ (by decide)
  omega
/-- one place of a sum -/
theorem sum_facts {x y c : Nat} (hx : x < B) (hy : y < B) (hc : c ≤ 1) : ∃ t s lo hi : Nat, (s = x + y + c ∧ lo = s % B ∧ hi = s / B) ∧ IntKind.u64.wrap ((x : Int) + (y : Int)) = ((t : Nat) : Int) ∧ IntKind.u64.wrap ((t : Int) + (c : Int)) = ((s : Nat) : Int) ∧ IntKind.u32.wrap ((s : Int) % 4294967296) = ((lo : Nat) : Int) ∧ IntKind.u64.wrap ((s : Int) / 4294967296) = ((hi : Nat) : Int) ∧ hi ≤ 1 ∧ lo < B := by
  have hs4 : x + y + c < 4 * B := by have := B_two; omega
  have h2 : (x + y + c) / B < 2 := Nat.div_lt_of_lt_mul (by have := B_two; omega)
  exact ⟨x + y, x + y + c, _, _, ⟨rfl, rfl, rfl⟩, u64_sum (by have := lt_BB hs4; omega), u64_sum (lt_BB hs4), parts.2, (part_hi (lt_BB hs4)).2, by omega, parts.1⟩
/-- the sum's last carry is none -/
theorem add_end {a b o : List Nat} {c M : Nat} (ha : Dg a) (hb : Dg b) (h1 : a.length ≤ M) (h2 : b.length ≤ M) (h : nat o + c * B ^ (M + 1) = val a (M + 1) + val b (M + 1)) : nat o = nat a + nat b := by
  rw [val_nat (by omega), val_nat (by omega)] at h
  have e1 := nat_lt_len ha h1
  have e2 := nat_lt_len hb h2
  have e3 : 2 * B ^ M ≤ B ^ (M + 1) := by
    rw [Nat.pow_succ, Nat.mul_comm]
    exact Nat.mul_le_mul_left _ (by decide)
  cases c with
  | zero => omega
  | succ c =>
    rw [Nat.succ_mul] at h
    omega
/-- one place of a difference -/
theorem sub_facts {x y c : Nat} (hx : x < B) (hy : y < B) (hc : c ≤ 1) : ∃ t1 t2 s lo q br : Nat, (lo + y + c = x + br * B) ∧ IntKind.u64.wrap (4294967296 + (x : Int)) = ((t1 : Nat) : Int) ∧ IntKind.u64.wrap ((t1 : Int) - (y : Int)) = ((t2 : Nat) : Int) ∧ IntKind.u64.wrap ((t2 : Int) - (c : Int)) = ((s : Nat) : Int) ∧ IntKind.u32.wrap ((s : Int) % 4294967296) = ((lo : Nat) : Int) ∧ IntKind.u64.wrap ((s : Int) / 4294967296) = ((q : Nat) : Int) ∧ IntKind.u64.wrap (1 - (q : Int)) = ((br : Nat) : Int) ∧ br ≤ 1 ∧ lo < B := by
  have hbx := hx
  have hby := hy
  unfold B at hbx hby
  have hs : B + x - y - c < 2 * B := by unfold B; omega
  have hq : (B + x - y - c) / B < 2 := Nat.div_lt_of_lt_mul (by omega)
  have hm := Nat.mod_add_div (B + x - y - c) B
  have hsB : B + x - y - c < B * B := lt_BB (by omega)
  refine ⟨B + x, B + x - y, B + x - y - c, _, (B + x - y - c) / B, 1 - (B + x - y - c) / B, ?_, ?_, ?_, ?_, parts.2, (part_hi hsB).2, ?_, Nat.sub_le _ _, parts.1⟩
  · generalize (B + x - y - c) / B = q at *
    generalize (B + x - y - c) % B = r at *
    rcases (show q = 0 ∨ q = 1 by omega) with rfl | rfl
    · unfold B at *; omega
    · unfold B at *; omega
  · rw [IntWalk.u64_in _ (by omega)]; unfold B; omega
  · rw [IntWalk.u64_in _ (by unfold B; omega)]; unfold B; omega
  · rw [IntWalk.u64_in _ (by unfold B; omega)]; unfold B; omega
  · generalize (B + x - y - c) / B = q at *
    rw [IntWalk.u64_in _ (by omega)]; omega
theorem sub_step {o : List Nat} {x y c k lo br A Bv : Nat} (hk : o.length = k) (h : A + c * B ^ k = nat o + Bv) (hs : lo + y + c = x + br * B) : (A + x * B ^ k) + br * B ^ (k + 1) = nat (o ++ [lo]) + (Bv + y * B ^ k) := by
  rw [nat_append, hk]
  simp only [nat, Nat.mul_zero, Nat.add_zero]
  have e : (lo + y + c) * B ^ k = (x + br * B) * B ^ k := by rw [hs]
  simp only [Nat.add_mul] at e
  rw [Nat.pow_succ, Nat.mul_comm (B ^ k) B, ← Nat.mul_assoc, Nat.mul_comm (B ^ k) lo]
  omega
theorem sub_end {a b o : List Nat} {c : Nat} (ha : Dg a) (hb : Dg b) (ho : Dg o) (hl : o.length = a.length) (hle : nat b ≤ nat a) (h : val a a.length + c * B ^ a.length = nat o + val b a.length) : nat o = nat a - nat b := by
  have e1 := nat_lt ha
  have e2 := nat_lt ho
  rw [hl] at e2
  rw [val_nat (Nat.le_refl _), val_of_lt hb (by omega)] at h
  cases c with
  | zero => omega
  | succ c =>
    rw [Nat.succ_mul] at h
    omega
end Fr
end Go.Proofs.YthehchdonmmpaaaGreatDoor
namespace Go.Proofs.YthehchdonmmpaaaGreatDoor
open Go.ChangeShapes Go.WideShapes Go.ChangeAt Go.RowKit
set_option linter.unusedVariables false
namespace Fr
theorem mul_lt_BB {x d c : Nat} (hx : x < B) (hd : d < B) (hc : c < B) : x * d + c < B * B := by
  have h1 : x * d ≤ (B - 1) * (B - 1) := Nat.mul_le_mul (by omega) (by omega)
  have h2 : (B - 1) * (B - 1) + (B - 1) < B * B := by decide
  omega
theorem u64_mul {x d : Nat} (h : x * d < B * B) : IntKind.u64.wrap ((x : Int) * (d : Int)) = ((x * d : Nat) : Int) := by
  rw [BB_eq] at h
  have e : (x : Int) * (d : Int) = ((x * d : Nat) : Int) := by simp
  rw [e, IntWalk.u64_in _ (by omega)]
/-- one place of a product with a digit -/
theorem mul_facts {x d c : Nat} (hx : x < B) (hd : d < B) (hc : c < B) : ∃ t s lo hi : Nat, (s = x * d + c ∧ lo = s % B ∧ hi = s / B) ∧ IntKind.u64.wrap ((x : Int) * (d : Int)) = ((t : Nat) : Int) ∧ IntKind.u64.wrap ((t : Int) + (c : Int)) = ((s : Nat) : Int) ∧ IntKind.u32.wrap ((s : Int) % 4294967296) = ((lo : Nat) : Int) ∧ IntKind.u64.wrap ((s : Int) / 4294967296) = ((hi : Nat) : Int) ∧ hi < B ∧ lo < B := by
  have h := mul_lt_BB hx hd hc
  exact ⟨x * d, x * d + c, _, _, ⟨rfl, rfl, rfl⟩, u64_mul (by omega), u64_sum h, parts.2, (part_hi h).2, (part_hi h).1, parts.1⟩
theorem scale_step {o : List Nat} {x d c k s A : Nat} (hk : o.length = k) (h : nat o + c * B ^ k = A * d) (hs : s = x * d + c) : nat (o ++ [s % B]) + s / B * B ^ (k + 1) = (A + x * B ^ k) * d := by
  rw [nat_append, hk]
  simp only [nat, Nat.mul_zero, Nat.add_zero]
  have e : s % B + s / B * B = s := by rw [Nat.mul_comm]; exact Nat.mod_add_div s B
  have e2 : B ^ k * (s % B) + s / B * B ^ (k + 1) = s * B ^ k := by
    rw [Nat.pow_succ, Nat.mul_comm (B ^ k) (s % B), ← Nat.mul_assoc, Nat.mul_right_comm, ← Nat.add_mul, e]
  rw [Nat.add_assoc, e2, hs, Nat.add_mul, Nat.add_mul, Nat.mul_right_comm x (B ^ k) d]
  omega
theorem mul_lt_pow {x y m k : Nat} (hx : x < B ^ m) (hy : y < B ^ k) : x * y < B ^ (m + k) := by
  rw [Nat.pow_add]
  rcases Nat.eq_zero_or_pos y with rfl | h
  · rw [Nat.mul_zero]
    exact Nat.mul_pos (Nat.pow_pos B_pos) (Nat.pow_pos B_pos)
  · exact Nat.lt_of_lt_of_le (Nat.mul_lt_mul_of_pos_right hx h) (Nat.mul_le_mul_left _ (by omega))
theorem scale_end {a o : List Nat} {c d M : Nat} (ha : Dg a) (hd : d < B) (h1 : a.length = M) (h : nat o + c * B ^ (M + 1) = val a (M + 1) * d) : nat o = nat a * d := by
  rw [val_nat (by omega)] at h
  have e1 := nat_lt_len ha (Nat.le_of_eq h1)
  have e2 : nat a * d < B ^ (M + 1) := mul_lt_pow e1 (k := 1) (by rw [Nat.pow_one]; exact hd)
  cases c with
  | zero => omega
  | succ c =>
    rw [Nat.succ_mul] at h
    omega
theorem digs_mul_len {x y m k : Nat} (hx : x < B ^ m) (hy : y < B ^ k) : (digs (x * y)).length ≤ m + k := digs_len_le (mul_lt_pow hx hy)
end Fr
end Go.Proofs.YthehchdonmmpaaaGreatDoor
namespace Go.Proofs.YthehchdonmmpaaaGreatDoor
open Go.ChangeShapes Go.WideShapes Go.ChangeAt Go.RowKit
set_option linter.unusedVariables false
namespace Fr
/-- a row of the call's own, in block g, that reads as the digits l -/
def Row (w : World) (base g : Nat) (e : TypeId) (n : Nat) (l : List Nat) : Prop := l.length = n ∧ w.ownsRow base e 1 (.slice (some ⟨g, 0, none⟩) n n) n (u32s l)
section
variable {w w' : World} {base g n : Nat} {e : TypeId} {l : List Nat}
theorem u32s_get (l : List Nat) (i : Nat) (h : i < l.length) : (u32s l)[i]? = some (.int .u32 ((dg l i : Nat) : Int)) := by simp [u32s, h, dg_in]
theorem u32s_set (l : List Nat) (i d : Nat) : (u32s l).set i (.int .u32 (d : Int)) = u32s (l.set i d) := by simp [u32s, List.map_set]
theorem Row.cell (h : Row w base g e n l) {i : Nat} (hi : i < n) : w.cell? ⟨g, i, none⟩ = some (.int .u32 ((dg l i : Nat) : Int)) :=
  (h.2.cellAt i (by omega)).trans (u32s_get l i (by have := h.1; omega))
theorem Row.drew (h : Row w base g e n l) : Row w.drew base g e n l := ⟨h.1, h.2.drew⟩
theorem Row.free (h : Row w base g e n l) (i : Nat) : w.frozen? ⟨g, i, none⟩ = false := h.2.frozenAt i
theorem Row.put (h : Row w base g e n l) (i d : Nat) : Row (w.setCell ⟨g, i, none⟩ (.int .u32 (d : Int))) base g e n (l.set i d) := by
  refine ⟨by simpa using h.1, ?_⟩
  have := (h.2.stored i (.int .u32 (d : Int))).1
  rwa [u32s_set] at this
theorem Row.far (h : Row w base g e n l) : base ≤ g := own_far h.2 g (by simp [Value.ownBlock])
theorem Row.lt (h : Row w base g e n l) : g < w.heap.size := by
  rcases h.2.2 with ⟨hv, _⟩ | ⟨g', cap, cur, hv, _, hh, _⟩
  · cases hv
  · injection hv with hv
    injection hv with hv
    injection hv with hv
    subst hv
    exact (Array.getElem?_eq_some_iff.1 hh).1
theorem Row.rebase {base' : Nat} (h : Row w base g e n l) (hb : base' ≤ base) : Row w base' g e n l := by
  refine ⟨h.1, h.2.1, ?_⟩
  rcases h.2.2 with hv | ⟨g', cap, cur, hv, h1, h2⟩
  · exact .inl hv
  · exact .inr ⟨g', cap, cur, hv, Nat.le_trans hb h1, h2⟩
theorem Row.ns (h : Row w base g e n l) : NS w (.slice (some ⟨g, 0, none⟩) n n) l := ns_own h.2
theorem Row.keep (h : Row w base g e n l) (b : Below w.heap.size w w') : Row w' base g e n l := ⟨h.1, own_below h.2 b⟩
theorem Row.made (h : w.ownsRow base e 1 (.slice (some ⟨g, 0, none⟩) n n) n (madeCells (Value.int .u32 0).cells (n * 1)).toList) : Row w base g e n (List.replicate n 0) := by
  refine ⟨by simp, ?_⟩
  have e1 : (madeCells (Value.int .u32 0).cells (n * 1)).toList = u32s (List.replicate n 0) := by
    refine List.ext_getElem (by simp [madeCells, u32s]) fun i h1 h2 => ?_
    simp [madeCells, u32s, Value.cells, Nat.mod_one]
  rwa [e1] at h
theorem Row.made' (h : w.ownsRow base e 1 (.slice (some ⟨g, 0, none⟩) n n) n (madeCells #[Value.int .u32 0] n).toList) : Row w base g e n (List.replicate n 0) := by
  refine Row.made ?_
  rw [Nat.mul_one]
  exact h
/-- below the base a store into the row changes nothing -/
theorem Row.below {B : Nat} {w0 : World} (h : Row w base g e n l) (hb : Below B w0 w) (hB : B ≤ base) (i : Nat) (u : Value) : Below B w0 (w.setCell ⟨g, i, none⟩ u) :=
  hb.setCell (by have := h.far; show B ≤ g; omega) u
end
/-- w' is w but for block g -/
structure OnlyG (g : Nat) (w w' : World) : Prop where
  os : w'.os = w.os
  tape : w'.tape = w.tape
  output : w'.output = w.output
  size : w'.heap.size = w.heap.size
  block : ∀ k, k ≠ g → w'.heap[k]? = w.heap[k]?
section
variable {g : Nat} {w w1 w2 : World}
theorem OnlyG.refl (g : Nat) (w : World) : OnlyG g w w := ⟨rfl, rfl, rfl, rfl, fun _ _ => rfl⟩
theorem OnlyG.put (h : OnlyG g w w1) (o : Nat) (u : Value) : OnlyG g w (w1.setCell ⟨g, o, none⟩ u) :=
  ⟨h.os, h.tape, h.output, by have := h.size; simpa [World.setCell] using this, fun k hne => (Below.heap_setCell _ _ _ _ hne).trans (h.block k hne)⟩
theorem OnlyG.drewN (h : OnlyG g w w1) (n : Nat) : OnlyG g w (w1.drewN n) := ⟨h.os, h.tape, h.output, h.size, h.block⟩
theorem OnlyG.drew (h : OnlyG g w w1) : OnlyG g w w1.drew := ⟨h.os, h.tape, h.output, h.size, h.block⟩
theorem OnlyG.below {B : Nat} {w0 : World} (h : OnlyG g w w1) (b : Below B w0 w) (hB : B ≤ g) : Below B w0 w1 :=
  ⟨h.os.trans b.os, h.tape.trans b.tape, h.output.trans b.output, by rw [h.size]; exact b.size, fun k hk => (h.block k (by omega)).trans (b.block k hk)⟩
theorem OnlyG.cell (h : OnlyG g w w1) {b : Nat} (o : Nat) (hb : b ≠ g) : w1.cell? ⟨b, o, none⟩ = w.cell? ⟨b, o, none⟩ := by
  simp only [World.cell?, h.block b hb]
theorem Row.only {base g2 n : Nat} {e : TypeId} {l : List Nat} (h : Row w base g2 e n l) (o : OnlyG g w w1) (hg : g2 ≠ g) : Row w1 base g2 e n l := by
  refine ⟨h.1, h.2.kept (row := some g) ⟨o.os, o.tape, o.output, by rw [o.size]; exact Nat.le_refl _, fun k _ hk => o.block k (fun e => hk (by rw [e]))⟩ ?_⟩
  simpa [Value.ownBlock] using hg
end
theorem dg_drop (l : List Nat) (j i : Nat) : dg (l.drop j) i = dg l (j + i) := by simp [dg, List.getD]
theorem dg_app_lt {o k : List Nat} {i : Nat} (h : i < o.length) : dg (o ++ k) i = dg o i := by simp [dg, List.getD, List.getElem?_append_left h]
theorem dg_app_ge {o k : List Nat} {i : Nat} (h : o.length ≤ i) : dg (o ++ k) i = dg k (i - o.length) := by simp [dg, List.getD, List.getElem?_append_right h]
theorem dg_zeros (m i : Nat) : dg (List.replicate m 0) i = 0 := by
  by_cases h : i < m
  · simp [dg, List.getD, h]
  · exact dg_out (by simp; omega)
theorem set_fill (o : List Nat) (m d : Nat) : (o ++ List.replicate (m + 1) 0).set o.length d = (o ++ [d]) ++ List.replicate m 0 := by
  rw [List.set_append_right _ _ (Nat.le_refl _), Nat.sub_self, List.replicate_succ, List.set_cons_zero]
  simp
theorem set_top (k d : Nat) (o : List Nat) : (List.replicate (k + 1) 0 ++ o).set k d = List.replicate k 0 ++ (d :: o) := by
  rw [List.replicate_succ', List.append_assoc, List.set_append_right _ _ (by simp)]
  simp
theorem set_fill' {o : List Nat} {n k : Nat} (hk : k < n) (ho : o.length = k) (d : Nat) : (o ++ List.replicate (n - k) 0).set k d = (o ++ [d]) ++ List.replicate (n - (k + 1)) 0 := by
  obtain ⟨m, hm⟩ : ∃ m, n - k = m + 1 := ⟨n - k - 1, by omega⟩
  have : n - (k + 1) = m := by omega
  rw [hm, this, ← ho]
  exact set_fill o m d
theorem nat_fill (o : List Nat) (m : Nat) : nat (o ++ List.replicate m 0) = nat o := by rw [nat_append, nat_zeros, Nat.mul_zero, Nat.add_zero]
theorem nat_top (k : Nat) (o : List Nat) : nat (List.replicate k 0 ++ o) = B ^ k * nat o := by rw [nat_append, nat_zeros, Nat.zero_add, List.length_replicate]
theorem Dg.zeros (m : Nat) : Dg (List.replicate m 0) := fun d h => by
  rw [(List.mem_replicate.1 h).2]
  exact B_pos
theorem Dg.set {l : List Nat} (h : Dg l) {d : Nat} (hd : d < B) (i : Nat) : Dg (l.set i d) := fun x hx => by
  rcases List.mem_or_eq_of_mem_set hx with h1 | h1
  · exact h x h1
  · rw [h1]; exact hd
theorem dg_set_same {l : List Nat} {i d : Nat} (h : i < l.length) : dg (l.set i d) i = d := by simp [dg, List.getD, h]
theorem dg_set_ne {l : List Nat} {i j d : Nat} (h : i ≠ j) : dg (l.set i d) j = dg l j := by simp [dg, List.getD, List.getElem?_set_ne h]
theorem val_congr {l k : List Nat} {m : Nat} (h : ∀ i, i < m → dg l i = dg k i) : val l m = val k m := val_same h
end Fr
end Go.Proofs.YthehchdonmmpaaaGreatDoor
namespace Go.Proofs.YthehchdonmmpaaaGreatDoor
open Go.RowKit
set_option linter.unusedVariables false
namespace Fr
/-- two digits put together -/
theorem or_hi {x y : Nat} (hx : x < B) (hy : y < B) : bits BinOp.or IntKind.u64 (IntKind.u64.wrap ((y : Int) * 4294967296)) (x : Int) = ((x + B * y : Nat) : Int) := by
  have hb : B = 2 ^ 32 := rfl
  unfold B at hx hy
  rw [IntWalk.u64_in _ (by omega)]
  have e : (y : Int) * 4294967296 = ((y * 2 ^ 32 : Nat) : Int) := by omega
  rw [e, u64_or_nat _ _ (by omega) (by omega), nat_join 32 _ _ (by omega) (by omega), hb, Nat.add_comm, Nat.mul_comm]
theorem wrap_hi {x : Nat} (hx : x < B) : IntKind.u64.wrap ((x : Int) * 4294967296) = ((B * x : Nat) : Int) := by
  unfold B at *
  rw [IntWalk.u64_in _ (by omega)]
  omega
theorem or_hi' {x y : Nat} (hx : x < B) (hy : y < B) : bits BinOp.or IntKind.u64 ((B * y : Nat) : Int) (x : Int) = ((x + B * y : Nat) : Int) := by
  rw [← wrap_hi hy, or_hi hx hy]
/-- one place of a number shifted left by fewer than 32 bits -/
theorem shift_facts {x c s : Nat} (hx : x < B) (hs : s < 32) (hc : c < 2 ^ s) : ∃ t lo hi z : Nat, (z + hi * B = x * 2 ^ s + c) ∧ IntKind.u64.wrap ((x : Int) * 2 ^ s) = ((t : Nat) : Int) ∧ (t : Int) % 4294967296 = ((lo : Nat) : Int) ∧ bits BinOp.or IntKind.u32 (c : Int) (lo : Int) = ((z : Nat) : Int) ∧ (t : Int) / 4294967296 % 4294967296 = ((hi : Nat) : Int) ∧ (t : Int) / 4294967296 = ((hi : Nat) : Int) ∧ (hi : Int) % 4294967296 = ((hi : Nat) : Int) ∧ hi < 2 ^ s ∧ z < B := by
  have hb : B = 2 ^ (32 - s) * 2 ^ s := by rw [← Nat.pow_add, show 32 - s + s = 32 by omega]; rfl
  have h2 : 2 ^ s < B := by
    have : 2 ^ s ≤ 2 ^ 31 := Nat.pow_le_pow_right (by decide) (by omega)
    unfold B
    omega
  have ht : x * 2 ^ s < B * B := by
    have h3 : x * 2 ^ s ≤ x * B := Nat.mul_le_mul_left _ (by omega)
    have h4 : x * B < B * B := Nat.mul_lt_mul_of_pos_right hx B_pos
    omega
  have h1 : x * 2 ^ s / B < 2 ^ s := Nat.div_lt_of_lt_mul (Nat.mul_lt_mul_of_pos_right hx (Nat.two_pow_pos s))
  have hlo : x * 2 ^ s % B = x % 2 ^ (32 - s) * 2 ^ s := by rw [hb, Nat.mul_mod_mul_right]
  have hm : x * 2 ^ s % B % 2 ^ s = 0 := by rw [hlo]; exact Nat.mul_mod_left _ _
  have hz : x * 2 ^ s % B + c < B := by
    have h5 : x % 2 ^ (32 - s) < 2 ^ (32 - s) := Nat.mod_lt _ (Nat.two_pow_pos _)
    have h6 : (x % 2 ^ (32 - s) + 1) * 2 ^ s ≤ 2 ^ (32 - s) * 2 ^ s := Nat.mul_le_mul_right _ h5
    rw [hlo]
    rw [Nat.succ_mul, ← hb] at h6
    omega
  have hd := Nat.mod_add_div (x * 2 ^ s) B
  have hl : x * 2 ^ s % B < B := Nat.mod_lt _ B_pos
  have e0 : (x : Int) * 2 ^ s = ((x * 2 ^ s : Nat) : Int) := by simp
  generalize hT : x * 2 ^ s = t at *
  clear hlo hb
  refine ⟨t, t % B, t / B, t % B + c, ?_, ?_, ?_, ?_, ?_, ?_, ?_, h1, hz⟩
  · rw [Nat.mul_comm]; omega
  · rw [e0]
    rw [BB_eq] at ht
    exact IntWalk.u64_in _ (by omega)
  · unfold B; omega
  · have hcB : c < B := by omega
    rw [u32_or_nat _ _ (by unfold B at hcB; omega) (by unfold B at hl ⊢; omega), Nat.or_comm, nat_join s _ _ hm hc]
  · generalize 2 ^ s = p at *
    unfold B at *
    omega
  · unfold B; omega
  · generalize 2 ^ s = p at *
    unfold B at *
    omega
end Fr
end Go.Proofs.YthehchdonmmpaaaGreatDoor
namespace Go.Proofs.YthehchdonmmpaaaGreatDoor
open Go.ChangeShapes Go.WideShapes Go.ChangeAt Go.RowKit
set_option linter.unusedVariables false
set_option linter.unusedSimpArgs false
namespace Fr
theorem drewN_below (w : World) (n : Nat) : Below w.heap.size w (w.drewN n) := ⟨rfl, rfl, rfl, Nat.le_refl _, fun _ _ => rfl⟩
/-- what trim answers: the front of the slice, without leading zeros -/
def TrimPost (l : List Nat) (v : Value) (w : World) (e : Ending) (w' : World) : Prop := ∃ A c, v = .slice A l.length c ∧ e = .returned (.slice A (digs (nat l)).length (digs (nat l)).length) ∧ NS w (.slice A (digs (nat l)).length (digs (nat l)).length) (digs (nat l)) ∧ w = w'
theorem ns_digs {w : World} {A : Option Addr} {l : List Nat} {c : Nat} (h : NS w (.slice A l.length c) l) (hd : Dg l) : NS w (.slice A (digs (nat l)).length (digs (nat l)).length) (digs (nat l)) := by
  have h1 := (digs_split hd).2
  have h2 := ns_take h h1 (Nat.le_refl _) (by obtain ⟨_, _, c', e, h3, h4, _⟩ := h; omega)
  rwa [digs_take hd] at h2
theorem len_of_take {l : List Nat} {k : Nat} (hk : k ≤ l.length) (h : l.take k = digs (nat l)) : k = (digs (nat l)).length := by rw [← h, List.length_take]; omega
set_option maxHeartbeats 1000000 in
theorem ntrim_any (l : List Nat) (v : Value) (w : World) (hl : l.length ≤ 100000) (hd : Dg l) (h : NS w v l) : Calls Tryz.prog 87 #[v] w (TrimPost l v w) := by
  obtain ⟨A, c, rfl, hlc, hcm, ha⟩ := ns_cases h
  have HR := Lib.hid (ns_digs h hd)
  have HD := Lib.hid hd
  have HC := Lib.hid ha
  clear h hd ha
  unfold maxLen at hcm
  go_enter Tryz.func87, Tryz.ntmps87
  go_wp2_with fail
  go_loop [3] (fun v => ∃ k : Nat, k ≤ l.length ∧ v = .int .i64 (k : Int) ∧ Hid (nat (l.take k) = nat l)) (fun v => (intOf v).toNat)
  case atStart => exact ⟨l.length, Nat.le_refl _, rfl, by show nat _ = _; rw [List.take_length]⟩
  case round =>
    obtain ⟨k, hk, rfl, HN⟩ := hrel
    cases k with
    | zero =>
      have HT : Hid (l.take 0 = digs (nat l)) := take_digs HD.out HN.out (.inl rfl)
      have HL : Hid ((digs (nat l)).length = 0) := (len_of_take hk HT.out).symm
      go_wp2_with fail
      go_ret
      refine ⟨A, c, rfl, ?_, HR.out, rfl⟩
      rw [HL.out]
      first | rfl | simp
    | succ j =>
      obtain ⟨b, o, rfl, hb, hc⟩ := HC.out (by omega)
      have hck := hc j (by omega)
      clear hc
      have hp0 : decide ((0 : Int) < ((j + 1 : Nat) : Int)) = true := by simp
      have hp1 : decide ((0 : Int) < (j : Int) + 1) = true := decide_eq_true (by omega)
      have hj0 : (0 : Int) ≤ (j : Int) := by omega
      by_cases hz : dg l j = 0
      · have HN2 : Hid (nat (l.take j) = nat l) := (nat_take_zero (by omega) hz).symm.trans HN.out
        rw [hz] at hck
        clear hz
        go_wp2_with fail
        go_round
        case rel => exact ⟨j, by omega, by go_num, HN2⟩
        case measure => simp [intOf]
      · have HT : Hid (l.take (j + 1) = digs (nat l)) := take_digs HD.out HN.out (.inr ⟨j, by omega, rfl, hz⟩)
        have HL : Hid ((digs (nat l)).length = j + 1) := (len_of_take hk HT.out).symm
        have qz : (((dg l j : Nat) : Int) == 0) = false := beq_eq_false_iff_ne.2 (by omega)
        clear hz
        go_wp2_with fail
        go_ret
        refine ⟨_, c, rfl, ?_, HR.out, rfl⟩
        rw [HL.out]
        first | rfl | simp
theorem nfromUint_any (x : Nat) (w : World) (hx : x < B * B) : Calls Tryz.prog 64 #[.int .u64 (x : Int)] w (NatPost x w) := by
  obtain ⟨h1, h2⟩ := nat_two x hx
  obtain ⟨lo, hlo⟩ : ∃ lo, lo = x % B := ⟨_, rfl⟩
  obtain ⟨hi, hhi⟩ : ∃ hi, hi = x / B := ⟨_, rfl⟩
  rw [← hlo, ← hhi] at h1 h2
  have CT := Lib.hid (ntrim_any [lo, hi] _ _ (by simp) h2 (ns_new2 w lo hi 53))
  unfold TrimPost at CT
  rw [h1] at CT
  have b1 : lo < B := by rw [hlo]; exact Nat.mod_lt _ B_pos
  have b2 : hi < B := by rw [hhi]; exact Nat.div_lt_of_lt_mul hx
  have e1 : IntKind.u32.wrap ((x : Int)) = ((lo : Nat) : Int) := by rw [hlo]; unfold B; simp [IntKind.wrap, IntKind.signed, IntKind.bits]
  have e2 : IntKind.u64.wrap ((x : Int) / 4294967296) = ((hi : Nat) : Int) := by
    rw [BB_eq] at hx
    rw [IntWalk.u64_in _ (by omega), hhi]; unfold B; omega
  have e4 : (x : Int) / 4294967296 % 4294967296 = ((hi : Nat) : Int) := by
    rw [BB_eq] at hx
    rw [hhi]; unfold B; omega
  have h0 : (0 : Int) ≤ (x : Int) := by omega
  clear h1 h2 hx hlo hhi b1 b2
  go_enter Tryz.func64, Tryz.ntmps64
  go_wp2_with fail
  refine CT.out.mono ?_
  rintro e w1 ⟨A, c, hv, rfl, hs, rfl⟩
  have HS := Lib.hid hs
  clear hs hv
  go_wp2_with fail
  go_ret
  exact ⟨_, rfl, HS.out, below_new _ _⟩
theorem digs_one {n : Nat} (h : (digs n).length = 1) : n = dg (digs n) 0 := by
  have h1 := nat_digs n
  generalize digs n = l at *
  match l, h with
  | [d], _ => simpa [nat, dg] using h1.symm
theorem digs_two {n : Nat} (h : (digs n).length = 2) : n = dg (digs n) 0 + B * dg (digs n) 1 := by
  have h1 := nat_digs n
  generalize digs n = l at *
  match l, h with
  | [d, k], _ => simpa [nat, dg] using h1.symm
theorem digs_zero_of {n : Nat} (h : (digs n).length = 0) : n = 0 := digs_nil_iff.1 (List.eq_nil_of_length_eq_zero h)
theorem ns_cell {w : World} {A : Option Addr} {l : List Nat} {n c : Nat} (h : NS w (.slice A n c) l) (hn : 0 < l.length) : ∃ b o, A = some ⟨b, o, none⟩ ∧ b < w.heap.size ∧ ∀ i, i < l.length → w.cell? ⟨b, o + i, none⟩ = some (.int .u32 ((dg l i : Nat) : Int)) := by
  obtain ⟨A', c', e, _, _, h5⟩ := ns_cases h
  injection e with e1 _ e2
  subst e1
  exact h5 hn
set_option maxHeartbeats 1000000 in
theorem nuint_yes (l : List Nat) (v : Value) (w : World) (hl : l.length ≤ 100000) (hd : Dg l) (h : NS w v l) (hn : nat l < B * B) : Calls Tryz.prog 103 #[v] w fun e w' => e = .returned (.tuple #[.int .u64 ((nat l : Nat) : Int), .bool true]) ∧ Below w.heap.size w w' := by
  have CT := Lib.hid (ntrim_any l v w hl hd h)
  unfold TrimPost at CT
  obtain ⟨A, c, rfl, _, _, _⟩ := ns_cases h
  have hk : (digs (nat l)).length ≤ 2 := digs_len_le (by rw [Nat.pow_succ, Nat.pow_one]; exact hn)
  clear h hn
  obtain ⟨k, hkk⟩ : ∃ k, k = (digs (nat l)).length := ⟨_, rfl⟩
  rw [← hkk] at hk CT
  have DL := Dg.digs (nat l)
  match k, hk with
  | 0, _ =>
    have HN := Lib.hid (digs_zero_of hkk.symm)
    clear hkk
    go_enter Tryz.func103, Tryz.ntmps103
    go_wp2_with fail
    refine CT.out.mono ?_
    rintro e w1 ⟨A, c, hv, rfl, hs, rfl⟩
    injection hv with h1 _ _
    subst h1
    clear hs
    go_wp2_with fail
    go_ret2
    exact ⟨by rw [HN.out]; rfl, Below.refl _ _⟩
  | 1, _ =>
    have HN := Lib.hid (digs_one hkk.symm)
    have hk0 : 0 < (digs (nat l)).length := by omega
    clear hkk
    go_enter Tryz.func103, Tryz.ntmps103
    go_wp2_with fail
    refine CT.out.mono ?_
    rintro e w1 ⟨A, c, hv, rfl, hs, rfl⟩
    injection hv with h1 _ _
    subst h1
    obtain ⟨b, o, rfl, hb, hc⟩ := ns_cell hs hk0
    have c0 : w.cell? ⟨b, o, none⟩ = some (.int .u32 ((dg (digs (nat l)) 0 : Nat) : Int)) := hc 0 hk0
    have uw := u64w (dg_lt DL 0)
    clear hs hc
    go_wp2_with fail
    go_ret2
    exact ⟨by rw [← HN.out]; rfl, Below.refl _ _⟩
  | 2, _ =>
    have HN := Lib.hid (digs_two hkk.symm)
    have hk0 : 0 < (digs (nat l)).length := by omega
    have hk1 : 1 < (digs (nat l)).length := by omega
    clear hkk
    go_enter Tryz.func103, Tryz.ntmps103
    go_wp2_with fail
    refine CT.out.mono ?_
    rintro e w1 ⟨A, c, hv, rfl, hs, rfl⟩
    injection hv with h1 _ _
    subst h1
    obtain ⟨b, o, rfl, hb, hc⟩ := ns_cell hs hk0
    have c0 : w.cell? ⟨b, o, none⟩ = some (.int .u32 ((dg (digs (nat l)) 0 : Nat) : Int)) := hc 0 hk0
    have c1 := hc 1 hk1
    have u0 := u64w (dg_lt DL 0)
    have u1 := u64w (dg_lt DL 1)
    have uo : bits BinOp.or IntKind.u64 (IntKind.u64.wrap (((dg (digs (nat l)) 1 : Nat) : Int) * 4294967296)) ((dg (digs (nat l)) 0 : Nat) : Int) = ((nat l : Nat) : Int) := by rw [or_hi (dg_lt DL 0) (dg_lt DL 1), ← HN.out]
    clear hs hc
    go_wp2_with fail
    go_quiet (fail)
    go_wp2_with fail
    go_ret2
    exact ⟨rfl, drewN_below _ _⟩
theorem nuint_no (l : List Nat) (v : Value) (w : World) (hl : l.length ≤ 100000) (hd : Dg l) (h : NS w v l) (hn : B * B ≤ nat l) : Calls Tryz.prog 103 #[v] w fun e w' => e = .returned (.tuple #[.int .u64 0, .bool false]) ∧ w = w' := by
  have CT := Lib.hid (ntrim_any l v w hl hd h)
  unfold TrimPost at CT
  obtain ⟨A, c, rfl, _, _, _⟩ := ns_cases h
  have hk : 2 < (digs (nat l)).length := digs_len_ge (by rw [Nat.pow_succ, Nat.pow_one]; exact hn)
  have hk2 : (digs (nat l)).length ≤ 100000 := Nat.le_trans (digs_split hd).2 hl
  obtain ⟨k, hkk⟩ : ∃ k, k = (digs (nat l)).length := ⟨_, rfl⟩
  rw [← hkk] at hk hk2 CT
  have q0 : ((k : Int) == 0) = false := beq_eq_false_iff_ne.2 (by omega)
  have q1 : ((k : Int) == 1) = false := beq_eq_false_iff_ne.2 (by omega)
  have q2 : ((k : Int) == 2) = false := beq_eq_false_iff_ne.2 (by omega)
  clear h hn hkk
  go_enter Tryz.func103, Tryz.ntmps103
  go_wp2_with fail
  refine CT.out.mono ?_
  rintro e w1 ⟨A, c, hv, rfl, hs, rfl⟩
  clear hs hv
  go_wp2_with fail
  go_ret2
  exact ⟨rfl, rfl⟩
end Fr
end Go.Proofs.YthehchdonmmpaaaGreatDoor
namespace Go.Proofs.YthehchdonmmpaaaGreatDoor
open Go.ChangeShapes Go.WideShapes Go.ChangeAt Go.RowKit
set_option linter.unusedVariables false
set_option linter.unusedSimpArgs false
namespace Fr
theorem cmp_lt {x y : Nat} (h : x < y) : cmp x y = -1 := by unfold cmp; rw [if_pos h]
theorem cmp_gt {x y : Nat} (h : y < x) : cmp x y = 1 := by unfold cmp; rw [if_neg (by omega), if_pos h]
theorem cmp_eq {x y : Nat} (h : x = y) : cmp x y = 0 := by unfold cmp; rw [if_neg (by omega), if_neg (by omega)]
set_option maxHeartbeats 1000000 in
theorem rcmp_any (a b : List Nat) (va vb : Value) (w : World) (hla : a.length ≤ 50000) (hlb : b.length ≤ 50000) (hda : Dg a) (hdb : Dg b) (ha : NS w va a) (hb : NS w vb b) : Calls Tryz.prog 79 #[va, vb] w fun e w' => e = .returned (.int .i64 (cmp (nat a) (nat b))) ∧ w = w' := by
  have CA := Lib.hid (fun i (hi : i ≤ 100000) => digit_any a va i w (by omega) hi hda ha)
  have CB := Lib.hid (fun i (hi : i ≤ 100000) => digit_any b vb i w (by omega) hi hdb hb)
  have HDA := Lib.hid hda
  have HDB := Lib.hid hdb
  obtain ⟨A1, c1, rfl, _, _, _⟩ := ns_cases ha
  obtain ⟨A2, c2, rfl, _, _, _⟩ := ns_cases hb
  clear ha hb hda hdb
  by_cases hab : a.length < b.length
  · go_enter Tryz.func79, Tryz.ntmps79
    go_wp2_with fail
    go_loop [5] (fun v => ∃ m : Nat, m ≤ b.length ∧ v = .int .i64 ((m : Int) - 1) ∧ Hid (∀ j, m ≤ j → j < b.length → dg a j = dg b j)) (fun v => (intOf v + 1).toNat)
    case atStart => exact ⟨b.length, Nat.le_refl _, rfl, fun j h1 h2 => by omega⟩
    case round =>
      obtain ⟨m, hm, rfl, HE⟩ := hrel
      cases m with
      | zero =>
        have HF : Hid (cmp (nat a) (nat b) = 0) := cmp_eq (nat_same (M := b.length) (by omega) (by omega) (fun j h => HE.out j (by omega) h))
        go_wp2_with fail
        go_ret
        exact ⟨by rw [HF.out]; rfl, rfl⟩
      | succ j =>
        rw [show (((j + 1 : Nat) : Int) - 1) = (j : Int) by omega]
        have hj0 : (0 : Int) ≤ (j : Int) := by omega
        have hj1 : (j : Int) ≤ 100000 := by omega
        have hdec : decide ((0 : Int) ≤ (j : Int)) = true := decide_eq_true hj0
        rcases Nat.lt_trichotomy (dg a j) (dg b j) with hx | hx | hx
        · have HF : Hid (cmp (nat a) (nat b) = -1) := cmp_lt (nat_less HDA.out (M := b.length) (by omega) (by omega) (by omega) (fun i h1 h2 => HE.out i (by omega) h2) hx)
          have q1 : decide (dg a j < dg b j) = true := decide_eq_true hx
          clear hx
          go_wp2_with fail
          refine (CA.out j (by omega)).mono ?_
          rintro e w1 ⟨rfl, rfl⟩
          go_wp2_with fail
          refine (CB.out j (by omega)).mono ?_
          rintro e w1' ⟨rfl, rfl⟩
          go_wp2_with fail
          go_ret
          exact ⟨by rw [HF.out]; rfl, rfl⟩
        · have HE2 : Hid (∀ i, j ≤ i → i < b.length → dg a i = dg b i) := fun i h1 h2 => by
            by_cases e : i = j
            · rw [e]; exact hx
            · exact HE.out i (by omega) h2
          have q1 : decide (dg a j < dg b j) = false := decide_eq_false (by omega)
          have q2 : decide (dg b j < dg a j) = false := decide_eq_false (by omega)
          clear hx
          go_wp2_with fail
          refine (CA.out j (by omega)).mono ?_
          rintro e w1 ⟨rfl, rfl⟩
          go_wp2_with fail
          refine (CB.out j (by omega)).mono ?_
          rintro e w1' ⟨rfl, rfl⟩
          go_wp2_with fail
          refine (CA.out j (by omega)).mono ?_
          rintro e w2 ⟨rfl, rfl⟩
          go_wp2_with fail
          refine (CB.out j (by omega)).mono ?_
          rintro e w2' ⟨rfl, rfl⟩
          go_wp2_with fail
          go_round
          case rel => exact ⟨j, by omega, by go_num, HE2⟩
          case measure => simp [intOf]
        · have HF : Hid (cmp (nat a) (nat b) = 1) := cmp_gt (nat_less HDB.out (M := b.length) (by omega) (by omega) (by omega) (fun i h1 h2 => (HE.out i (by omega) h2).symm) hx)
          have q1 : decide (dg a j < dg b j) = false := decide_eq_false (by omega)
          have q2 : decide (dg b j < dg a j) = true := decide_eq_true hx
          clear hx
          go_wp2_with fail
          refine (CA.out j (by omega)).mono ?_
          rintro e w1 ⟨rfl, rfl⟩
          go_wp2_with fail
          refine (CB.out j (by omega)).mono ?_
          rintro e w1' ⟨rfl, rfl⟩
          go_wp2_with fail
          refine (CA.out j (by omega)).mono ?_
          rintro e w2 ⟨rfl, rfl⟩
          go_wp2_with fail
          refine (CB.out j (by omega)).mono ?_
          rintro e w2' ⟨rfl, rfl⟩
          go_wp2_with fail
          go_ret
          exact ⟨by rw [HF.out]; rfl, rfl⟩
  · go_enter Tryz.func79, Tryz.ntmps79
    go_wp2_with fail
    go_loop [5] (fun v => ∃ m : Nat, m ≤ a.length ∧ v = .int .i64 ((m : Int) - 1) ∧ Hid (∀ j, m ≤ j → j < a.length → dg a j = dg b j)) (fun v => (intOf v + 1).toNat)
    case atStart => exact ⟨a.length, Nat.le_refl _, rfl, fun j h1 h2 => by omega⟩
    case round =>
      obtain ⟨m, hm, rfl, HE⟩ := hrel
      cases m with
      | zero =>
        have HF : Hid (cmp (nat a) (nat b) = 0) := cmp_eq (nat_same (M := a.length) (by omega) (by omega) (fun j h => HE.out j (by omega) h))
        go_wp2_with fail
        go_ret
        exact ⟨by rw [HF.out]; rfl, rfl⟩
      | succ j =>
        rw [show (((j + 1 : Nat) : Int) - 1) = (j : Int) by omega]
        have hj0 : (0 : Int) ≤ (j : Int) := by omega
        have hj1 : (j : Int) ≤ 100000 := by omega
        have hdec : decide ((0 : Int) ≤ (j : Int)) = true := decide_eq_true hj0
        rcases Nat.lt_trichotomy (dg a j) (dg b j) with hx | hx | hx
        · have HF : Hid (cmp (nat a) (nat b) = -1) := cmp_lt (nat_less HDA.out (M := a.length) (by omega) (by omega) (by omega) (fun i h1 h2 => HE.out i (by omega) h2) hx)
          have q1 : decide (dg a j < dg b j) = true := decide_eq_true hx
          clear hx
          go_wp2_with fail
          refine (CA.out j (by omega)).mono ?_
          rintro e w1 ⟨rfl, rfl⟩
          go_wp2_with fail
          refine (CB.out j (by omega)).mono ?_
          rintro e w1' ⟨rfl, rfl⟩
          go_wp2_with fail
          go_ret
          exact ⟨by rw [HF.out]; rfl, rfl⟩
        · have HE2 : Hid (∀ i, j ≤ i → i < a.length → dg a i = dg b i) := fun i h1 h2 => by
            by_cases e : i = j
            · rw [e]; exact hx
            · exact HE.out i (by omega) h2
          have q1 : decide (dg a j < dg b j) = false := decide_eq_false (by omega)
          have q2 : decide (dg b j < dg a j) = false := decide_eq_false (by omega)
          clear hx
          go_wp2_with fail
          refine (CA.out j (by omega)).mono ?_
          rintro e w1 ⟨rfl, rfl⟩
          go_wp2_with fail
          refine (CB.out j (by omega)).mono ?_
          rintro e w1' ⟨rfl, rfl⟩
          go_wp2_with fail
          refine (CA.out j (by omega)).mono ?_
          rintro e w2 ⟨rfl, rfl⟩
          go_wp2_with fail
          refine (CB.out j (by omega)).mono ?_
          rintro e w2' ⟨rfl, rfl⟩
          go_wp2_with fail
          go_round
          case rel => exact ⟨j, by omega, by go_num, HE2⟩
          case measure => simp [intOf]
        · have HF : Hid (cmp (nat a) (nat b) = 1) := cmp_gt (nat_less HDB.out (M := a.length) (by omega) (by omega) (by omega) (fun i h1 h2 => (HE.out i (by omega) h2).symm) hx)
          have q1 : decide (dg a j < dg b j) = false := decide_eq_false (by omega)
          have q2 : decide (dg b j < dg a j) = true := decide_eq_true hx
          clear hx
          go_wp2_with fail
          refine (CA.out j (by omega)).mono ?_
          rintro e w1 ⟨rfl, rfl⟩
          go_wp2_with fail
          refine (CB.out j (by omega)).mono ?_
          rintro e w1' ⟨rfl, rfl⟩
          go_wp2_with fail
          refine (CA.out j (by omega)).mono ?_
          rintro e w2 ⟨rfl, rfl⟩
          go_wp2_with fail
          refine (CB.out j (by omega)).mono ?_
          rintro e w2' ⟨rfl, rfl⟩
          go_wp2_with fail
          go_ret
          exact ⟨by rw [HF.out]; rfl, rfl⟩
end Fr
end Go.Proofs.YthehchdonmmpaaaGreatDoor
