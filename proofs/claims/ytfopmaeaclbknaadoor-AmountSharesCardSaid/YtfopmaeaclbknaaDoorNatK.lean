/- Plain: the guess of one digit of a quotient, and what the digit loops of a long division compute. -/
import Derived.Test.YtfopmaeaclbknaaDoorNatW
namespace Go.Proofs.YtfopmaeaclbknaaDoor
set_option linter.unusedVariables false
namespace Fr
/-- a number by its two highest digits and the rest -/
theorem val_two (l : List Nat) (n : Nat) : val l (n + 2) = val l n + (dg l (n + 1) * B + dg l n) * B ^ n := by
  have e1 : val l (n + 1) = val l n + dg l n * B ^ n := rfl
  have e2 : val l (n + 2) = val l (n + 1) + dg l (n + 1) * B ^ (n + 1) := rfl
  have e3 : B ^ (n + 1) = B ^ n * B := Nat.pow_succ ..
  grind
/-- a number by its three highest digits and the rest -/
theorem val_three (l : List Nat) (n : Nat) : val l (n + 3) = val l n + ((dg l (n + 2) * B + dg l (n + 1)) * B + dg l n) * B ^ n := by
  have e1 := val_two l n
  have e2 : val l (n + 3) = val l (n + 2) + dg l (n + 2) * B ^ (n + 2) := rfl
  have e3 : B ^ (n + 2) = B ^ n * B * B := by rw [Nat.pow_succ, Nat.pow_succ]
  grind
/-- the first guess is not too low: P = B ^ (n - 1) -/
theorem guess_low {U V q v1 top P u0 v0 : Nat} (h : q * V ≤ U) (hV : V = v0 + v1 * P) (hU : U = u0 + top * P) (hu : u0 < P) : q * v1 ≤ top := by
  rcases Nat.lt_or_ge top (q * v1) with hlt | hle
  · exfalso
    have h1 : (top + 1) * P ≤ q * v1 * P := Nat.mul_le_mul_right _ hlt
    rw [Nat.succ_mul] at h1
    have h2 : q * v1 * P ≤ q * V := by
      have : q * V = q * v0 + q * v1 * P := by grind
      omega
    omega
  · exact hle
/-- a guess that fails the test is too high: P = B ^ (n - 2) -/
theorem guess_dec {U V g rest v1 v2 u2 top P u0 v0 : Nat} (ht : g * v1 + rest = top) (h : rest * B + u2 < g * v2) (hV : V = v0 + (v1 * B + v2) * P) (hU : U = u0 + (top * B + u2) * P) (hu : u0 < P) : U < g * V := by
  have e : top * B = g * v1 * B + rest * B := by rw [← ht, Nat.add_mul]
  have h1 : top * B + u2 + 1 ≤ g * (v1 * B + v2) := by
    rw [Nat.mul_add, ← Nat.mul_assoc]
    omega
  have h2 : (top * B + u2 + 1) * P ≤ g * (v1 * B + v2) * P := Nat.mul_le_mul_right _ h1
  rw [Nat.succ_mul] at h2
  have h3 : g * (v1 * B + v2) * P ≤ g * V := by
    have : g * V = g * v0 + g * (v1 * B + v2) * P := by grind
    omega
  omega
/-- a guess that passes the test is too high by one at most -/
theorem guess_up {U V g rest v1 v2 u2 top P u0 v0 : Nat} (ht : g * v1 + rest = top) (h : g * v2 ≤ rest * B + u2) (hg : g ≤ B) (hv1 : 0 < v1) (hV : V = v0 + (v1 * B + v2) * P) (hv : v0 < P) (hU : U = u0 + (top * B + u2) * P) : g * V < U + V := by
  have hP : 0 < P := by omega
  have e : top * B = g * v1 * B + rest * B := by rw [← ht, Nat.add_mul]
  have h1 : g * (v1 * B + v2) ≤ top * B + u2 := by
    rw [Nat.mul_add, ← Nat.mul_assoc]
    omega
  have h2 : g * (v1 * B + v2) * P ≤ (top * B + u2) * P := Nat.mul_le_mul_right _ h1
  have h3 : B * P ≤ (v1 * B + v2) * P := Nat.mul_le_mul_right _ (by have := Nat.mul_le_mul_right B hv1; omega)
  rcases Nat.eq_zero_or_pos g with rfl | hg0
  · rw [Nat.zero_mul]
    have := Nat.mul_pos B_pos hP
    omega
  · have h4 : g * v0 < g * P := Nat.mul_lt_mul_of_pos_left hv hg0
    have h5 : g * P ≤ B * P := Nat.mul_le_mul_right _ hg
    have h6 : g * V = g * v0 + g * (v1 * B + v2) * P := by grind
    omega
/-- what is between the bounds is the quotient or one more -/
theorem guess_two {U V g : Nat} (hV : 0 < V) (h1 : U / V ≤ g) (h2 : g * V < U + V) : g = U / V ∨ g = U / V + 1 := by
  have h3 := Nat.mod_lt U hV
  have h4 := Nat.mod_add_div U V
  generalize U / V = q at *
  generalize U % V = r at *
  have h5 : g < q + 2 := by
    rcases Nat.lt_or_ge g (q + 2) with h | h
    · exact h
    · exfalso
      have := Nat.mul_le_mul_right V h
      rw [Nat.add_mul, Nat.mul_comm q V] at this
      omega
  omega
/-- a place of the product that is taken away -/
theorem take_step {U W Vv g x y c b p lo br k : Nat} (hp : p = g * y + c) (h : U + (c + b) * B ^ k = W + g * Vv) (hs : lo + p % B + b = x + br * B) : (U + x * B ^ k) + (p / B + br) * B ^ (k + 1) = (W + lo * B ^ k) + g * (Vv + y * B ^ k) := by
  have e2 : p % B + p / B * B = p := by rw [Nat.mul_comm]; exact Nat.mod_add_div p B
  have e3 : B ^ (k + 1) = B ^ k * B := Nat.pow_succ ..
  generalize p % B = d at *
  generalize p / B = q at *
  grind
/-- the last place, no borrow -/
theorem take_last_no {U W V g x c b k d : Nat} (h : U + (c + b) * B ^ k = W + g * V) (hd : d + c + b = x) : U + x * B ^ k = (W + d * B ^ k) + g * V := by
  grind
/-- the last place, with a borrow -/
theorem take_last_yes {U W V g x c b k d : Nat} (h : U + (c + b) * B ^ k = W + g * V) (hd : d + c + b = x + B) : (U + x * B ^ k) + B ^ (k + 1) = (W + d * B ^ k) + g * V := by
  have e3 : B ^ (k + 1) = B ^ k * B := Nat.pow_succ ..
  grind
/-- no borrow: the guess is the quotient -/
theorem take_no {U V W g : Nat} (hV : 0 < V) (hg : g = U / V ∨ g = U / V + 1) (h : U = W + g * V) : g = U / V ∧ W = U % V := by
  have h3 := Nat.mod_lt U hV
  have h4 := Nat.mod_add_div U V
  rcases hg with e | e
  · refine ⟨e, ?_⟩
    rw [← e, Nat.mul_comm] at h4
    omega
  · exfalso
    generalize U / V = q at *
    rw [e, Nat.succ_mul, Nat.mul_comm q V] at h
    omega
/-- a borrow: the guess is one too high, and the divisor is given back -/
theorem take_yes {U V W W2 g M c : Nat} (hV : 0 < V) (hg : g = U / V ∨ g = U / V + 1) (hW : W < M) (hW2 : W2 < M) (hVM : V ≤ M) (h : U + M = W + g * V) (h2 : W2 + c * M = W + V) : g = U / V + 1 ∧ W2 = U % V := by
  have h3 := Nat.mod_lt U hV
  have h4 := Nat.mod_add_div U V
  generalize U / V = q at *
  generalize U % V = r at *
  rcases hg with e | e
  · exfalso
    rw [e, Nat.mul_comm] at h
    omega
  · refine ⟨e, ?_⟩
    rw [e, Nat.succ_mul, Nat.mul_comm q V] at h
    rcases c with _ | _ | c
    · omega
    · omega
    · rw [Nat.succ_mul, Nat.succ_mul] at h2
      omega
end Fr
end Go.Proofs.YtfopmaeaclbknaaDoor
