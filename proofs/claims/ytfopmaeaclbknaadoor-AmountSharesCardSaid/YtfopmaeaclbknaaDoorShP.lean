/- Plain: the parts of a total, what is left, and to whom it goes. -/
import Derived.Test.YtfopmaeaclbknaaDoorSh2
namespace Go.Proofs.YtfopmaeaclbknaaDoor
set_option linter.unusedVariables false
namespace So
/-- a part, rounded down -/
def prt (T : Nat) (W : List Nat) (S i : Nat) : Nat := T * at_ W i / S
def pl (T : Nat) (W : List Nat) (S k : Nat) : List Nat := (List.range k).map (prt T W S)
def psum (T : Nat) (W : List Nat) (S k : Nat) : Nat := (pl T W S k).sum
def rsum (T : Nat) (W : List Nat) (S k : Nat) : Nat := ((List.range k).map (rst T W S)).sum
section
variable {T : Nat} {W : List Nat} {S k : Nat}
theorem pl_len : (pl T W S k).length = k := by simp [pl]
theorem pl_succ : pl T W S (k + 1) = pl T W S k ++ [prt T W S k] := by simp [pl, List.range_succ]
theorem psum_succ : psum T W S (k + 1) = psum T W S k + prt T W S k := by
  unfold psum
  rw [pl_succ, List.sum_append, List.sum_cons, List.sum_nil, Nat.add_zero]
theorem rsum_succ : rsum T W S (k + 1) = rsum T W S k + rst T W S k := by
  unfold rsum
  rw [List.range_succ, List.map_append, List.sum_append, List.map_cons, List.map_nil, List.sum_cons, List.sum_nil, Nat.add_zero]
theorem parts_sum (hk : k ≤ W.length) : S * psum T W S k + rsum T W S k = T * sumN W k := by
  induction k with
  | zero => simp [psum, pl, rsum, sumN]
  | succ k ih =>
    have h1 := ih (by omega)
    have h2 : S * prt T W S k + rst T W S k = T * at_ W k := Nat.div_add_mod _ _
    rw [psum_succ, rsum_succ, sumN_succ (by omega), Nat.mul_add, Nat.mul_add]
    omega
theorem rsum_le (hS : 0 < S) : rsum T W S k + k ≤ k * S := by
  induction k with
  | zero => simp [rsum]
  | succ k ih =>
    have h : rst T W S k < S := Nat.mod_lt _ hS
    rw [rsum_succ, Nat.succ_mul]
    omega
theorem psum_le (hk : k ≤ W.length) (hS : 0 < S) (hW : sumN W k ≤ S) : psum T W S k ≤ T := by
  have h1 := parts_sum (T := T) (S := S) hk
  have h2 : T * sumN W k ≤ T * S := Nat.mul_le_mul_left _ hW
  have h3 : S * psum T W S k ≤ S * T := by rw [Nat.mul_comm S T]; omega
  exact Nat.le_of_mul_le_mul_left h3 hS
theorem left_lt (hS : 0 < S) (hSS : S = sumN W W.length) : T - psum T W S W.length < W.length := by
  have h1 := parts_sum (T := T) (S := S) (Nat.le_refl W.length)
  rw [← hSS] at h1
  have h2 := rsum_le (T := T) (W := W) (k := W.length) hS
  have h3 := psum_le (T := T) (Nat.le_refl W.length) hS (Nat.le_of_eq hSS.symm)
  have hn : 0 < W.length := by
    rcases Nat.eq_zero_or_pos W.length with h | h
    · rw [List.eq_nil_of_length_eq_zero h] at hSS
      simp [sumN] at hSS
      omega
    · exact h
  have h4 : (T - psum T W S W.length) * S < W.length * S := by
    rw [Nat.sub_mul, Nat.mul_comm (psum T W S W.length)]
    omega
  exact Nat.lt_of_mul_lt_mul_right h4
theorem sumN_mono (k : Nat) : sumN W k ≤ sumN W W.length := by
  unfold sumN
  rw [List.take_length]
  have := List.take_append_drop k W
  conv => rhs; rw [← this]
  rw [List.sum_append]
  omega
end
/-- the parts when the first m of the order have got one more -/
def fin (T : Nat) (W : List Nat) (S : Nat) (order : List Nat) (m : Nat) : List Nat := (List.range W.length).map fun i => prt T W S i + if i ∈ order.take m then 1 else 0
section
variable {T : Nat} {W : List Nat} {S m : Nat} {order : List Nat}
theorem fin_len : (fin T W S order m).length = W.length := by simp [fin]
theorem fin_zero : fin T W S order 0 = pl T W S W.length := by simp [fin, pl]
theorem fin_at {i : Nat} (h : i < W.length) : (fin T W S order m)[i]? = some (prt T W S i + if i ∈ order.take m then 1 else 0) := by simp [fin, h]
theorem fin_step (hnd : order.Nodup) (hm : m < order.length) (ho : order[m] < W.length) : (fin T W S order m)[order[m]]? = some (prt T W S order[m]) ∧ (fin T W S order m).set order[m] (prt T W S order[m] + 1) = fin T W S order (m + 1) := by
  have h1 : order[m] ∉ order.take m := by
    intro h
    obtain ⟨j, hj, e⟩ := List.mem_iff_getElem.1 h
    rw [List.getElem_take] at e
    have hj' : j < m := by simp at hj; omega
    have := (List.nodup_iff_pairwise_ne.1 hnd)
    exact (List.pairwise_iff_getElem.1 this) j m (by omega) hm hj' e
  have h2 : order.take (m + 1) = order.take m ++ [order[m]] := List.take_succ_eq_append_getElem hm
  refine ⟨by rw [fin_at ho, if_neg h1, Nat.add_zero], ?_⟩
  refine List.ext_getElem (by simp [fin]) fun i hi1 hi2 => ?_
  have hi : i < W.length := by simpa [fin] using hi2
  by_cases e : order[m] = i
  · have hmem : i ∈ order.take (m + 1) := by
      rw [h2, ← e]
      exact List.mem_append_right _ (List.mem_singleton.2 rfl)
    rw [List.getElem_set, if_pos e]
    simp only [fin, List.getElem_map, List.getElem_range]
    rw [if_pos hmem, e]
  · rw [List.getElem_set_ne e]
    simp only [fin, List.getElem_map, List.getElem_range]
    have h3 : i ∈ order.take (m + 1) ↔ i ∈ order.take m := by
      rw [h2, List.mem_append, List.mem_singleton]
      exact ⟨fun h => h.elim id (fun h => absurd h.symm e), .inl⟩
    by_cases h4 : i ∈ order.take m
    · rw [if_pos h4, if_pos (h3.2 h4)]
    · rw [if_neg h4, if_neg (fun h => h4 (h3.1 h))]
end
/-- the order in which what is left goes round -/
def IsOrder (T : Nat) (W : List Nat) (S : Nat) (order : List Nat) : Prop := order.Perm (List.range W.length) ∧ order.Pairwise (LT (rst T W S))
theorem IsOrder.nodup {T : Nat} {W : List Nat} {S : Nat} {order : List Nat} (h : IsOrder T W S order) : order.Nodup := h.1.nodup_iff.2 List.nodup_range
theorem IsOrder.len {T : Nat} {W : List Nat} {S : Nat} {order : List Nat} (h : IsOrder T W S order) : order.length = W.length := by rw [h.1.length_eq, List.length_range]
theorem IsOrder.lt {T : Nat} {W : List Nat} {S : Nat} {order : List Nat} (h : IsOrder T W S order) {x : Nat} (hx : x ∈ order) : x < W.length := List.mem_range.1 (h.1.mem_iff.1 hx)
/-- the parts of a total -/
def shares (T : Nat) (W : List Nat) (S : Nat) (order : List Nat) : List Nat := fin T W S order (T - psum T W S W.length)
theorem range_rise (n : Nat) : (List.range n).Pairwise (· < ·) := List.pairwise_lt_range
end So
end Go.Proofs.YtfopmaeaclbknaaDoor
