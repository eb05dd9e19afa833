/- Plain: the guess of one digit of a quotient, and what the digit loops of a long division compute. Plain: a window of digits that is written place by place; the machine's numbers of a long division. -/
import Derived.Test.YtfopmaeaclbknaaDoorPk01
import Derived.Test.YtfopmaeaclbknaaDoorPk02
namespace Go.Proofs.YtfopmaeaclbknaaDoor
set_option linter.unusedVariables false
namespace Fr
/-- a number by its two highest digits and the rest -/
theorem val_two (l : List Nat) (n : Nat) : val l (n + 2) = val l n + (dg l (n + 1) * B + dg l n) * B ^ n := by
  have e1 : val l (n + 1) = val l n + dg l n * B ^ n := rfl
  have e2 : val l (n + 2) = val l (n + 1) + dg l (n + 1) * B ^ (n + 1) := rfl
  have e3 : B ^ (n + 1) = B ^ n * B := Nat.pow_succ ..
  grind
/-- a number by its three highest digits and the rest -/
theorem val_three (l : List Nat) (n : Nat) : val l (n + 3) = val l n + ((dg l (n + 2) * B + dg l (n + 1)) * B + dg l n) * B ^ n := by
  have e1 := val_two l n
  have e2 : val l (n + 3) = val l (n + 2) + dg l (n + 2) * B ^ (n + 2) := rfl
  have e3 : B ^ (n + 2) = B ^ n * B * B := by rw [Nat.pow_succ, Nat.pow_succ]
  grind
/-- the first guess is not too low: P = B ^ (n - 1) -/
theorem guess_low {U V q v1 top P u0 v0 : Nat} (h : q * V ≤ U) (hV : V = v0 + v1 * P) (hU : U = u0 + top * P) (hu : u0 < P) : q * v1 ≤ top := by
  rcases Nat.lt_or_ge top (q * v1) with hlt | hle
  · exfalso
    have h1 : (top + 1) * P ≤ q * v1 * P := Nat.mul_le_mul_right _ hlt
    rw [Nat.succ_mul] at h1
    have h2 : q * v1 * P ≤ q * V := by
      have : q * V = q * v0 + q * v1 * P := by grind
      omega
    omega
  · exact hle
/-- a guess that fails the test is too high: P = B ^ (n - 2) -/
theorem guess_dec {U V g rest v1 v2 u2 top P u0 v0 : Nat} (ht : g * v1 + rest = top) (h : rest * B + u2 < g * v2) (hV : V = v0 + (v1 * B + v2) * P) (hU : U = u0 + (top * B + u2) * P) (hu : u0 < P) : U < g * V := by
  have e : top * B = g * v1 * B + rest * B := by rw [← ht, Nat.add_mul]
  have h1 : top * B + u2 + 1 ≤ g * (v1 * B + v2) := by
    rw [Nat.mul_add, ← Nat.mul_assoc]
    omega
  have h2 : (top * B + u2 + 1) * P ≤ g * (v1 * B + v2) * P := Nat.mul_le_mul_right _ h1
  rw [Nat.succ_mul] at h2
  have h3 : g * (v1 * B + v2) * P ≤ g * V := by
    have : g * V = g * v0 + g * (v1 * B + v2) * P := by grind
    omega
  omega
/-- a guess that passes the test is too high by one at most -/
theorem guess_up {U V g rest v1 v2 u2 top P u0 v0 : Nat} (ht : g * v1 + rest = top) (h : g * v2 ≤ rest * B + u2) (hg : g ≤ B) (hv1 : 0 < v1) (hV : V = v0 + (v1 * B + v2) * P) (hv : v0 < P) (hU : U = u0 + (top * B + u2) * P) : g * V < U + V := by
  have hP : 0 < P := by omega
  have e : top * B = g * v1 * B + rest * B := by rw [← ht, Nat.add_mul]
  have h1 : g * (v1 * B + v2) ≤ top * B + u2 := by
    rw [Nat.mul_add, ← Nat.mul_assoc]
    omega
  have h2 : g * (v1 * B + v2) * P ≤ (top * B + u2) * P := Nat.mul_le_mul_right _ h1
  have h3 : B * P ≤ (v1 * B + v2) * P := Nat.mul_le_mul_right _ (by have := Nat.mul_le_mul_right B hv1; omega)
  rcases Nat.eq_zero_or_pos g with rfl | hg0
  · rw [Nat.zero_mul]
    have := Nat.mul_pos B_pos hP
    omega
  · have h4 : g * v0 < g * P := Nat.mul_lt_mul_of_pos_left hv hg0
    have h5 : g * P ≤ B * P := Nat.mul_le_mul_right _ hg
    have h6 : g * V = g * v0 + g * (v1 * B + v2) * P := by grind
    omega
/-- what is between the bounds is the quotient or one more -/
theorem guess_two {U V g : Nat} (hV : 0 < V) (h1 : U / V ≤ g) (h2 : g * V < U + V) : g = U / V ∨ g = U / V + 1 := by
  have h3 := Nat.mod_lt U hV
  have h4 := Nat.mod_add_div U V
  generalize U / V = q at *
  generalize U % V = r at *
  have h5 : g < q + 2 := by
    rcases Nat.lt_or_ge g (q + 2) with h | h
    · exact h
    · exfalso
      have := Nat.mul_le_mul_right V h
      rw [Nat.add_mul, Nat.mul_comm q V] at this
      omega
  omega
/-- a place of the product that is taken away -/
theorem take_step {U W Vv g x y c b p lo br k : Nat} (hp : p = g * y + c) (h : U + (c + b) * B ^ k = W + g * Vv) (hs : lo + p % B + b = x + br * B) : (U + x * B ^ k) + (p / B + br) * B ^ (k + 1) = (W + lo * B ^ k) + g * (Vv + y * B ^ k) := by
  have e2 : p % B + p / B * B = p := by rw [Nat.mul_comm]; exact Nat.mod_add_div p B
  have e3 : B ^ (k + 1) = B ^ k * B := Nat.pow_succ ..
  generalize p % B = d at *
  generalize p / B = q at *
  grind
/-- the last place, no borrow -/
theorem take_last_no {U W V g x c b k d : Nat} (h : U + (c + b) * B ^ k = W + g * V) (hd : d + c + b = x) : U + x * B ^ k = (W + d * B ^ k) + g * V := by
  grind
/-- the last place, with a borrow -/
theorem take_last_yes {U W V g x c b k d : Nat} (h : U + (c + b) * B ^ k = W + g * V) (hd : d + c + b = x + B) : (U + x * B ^ k) + B ^ (k + 1) = (W + d * B ^ k) + g * V := by
  have e3 : B ^ (k + 1) = B ^ k * B := Nat.pow_succ ..
  grind
/-- no borrow: the guess is the quotient -/
theorem take_no {U V W g : Nat} (hV : 0 < V) (hg : g = U / V ∨ g = U / V + 1) (h : U = W + g * V) : g = U / V ∧ W = U % V := by
  have h3 := Nat.mod_lt U hV
  have h4 := Nat.mod_add_div U V
  rcases hg with e | e
  · refine ⟨e, ?_⟩
    rw [← e, Nat.mul_comm] at h4
    omega
  · exfalso
    generalize U / V = q at *
    rw [e, Nat.succ_mul, Nat.mul_comm q V] at h
    omega
/-- a borrow: the guess is one too high, and the divisor is given back -/
theorem take_yes {U V W W2 g M c : Nat} (hV : 0 < V) (hg : g = U / V ∨ g = U / V + 1) (hW : W < M) (hW2 : W2 < M) (hVM : V ≤ M) (h : U + M = W + g * V) (h2 : W2 + c * M = W + V) : g = U / V + 1 ∧ W2 = U % V := by
  have h3 := Nat.mod_lt U hV
  have h4 := Nat.mod_add_div U V
  generalize U / V = q at *
  generalize U % V = r at *
  rcases hg with e | e
  · exfalso
    rw [e, Nat.mul_comm] at h
    omega
  · refine ⟨e, ?_⟩
    rw [e, Nat.succ_mul, Nat.mul_comm q V] at h
    rcases c with _ | _ | c
    · omega
    · omega
    · rw [Nat.succ_mul, Nat.succ_mul] at h2
      omega
end Fr
end Go.Proofs.YtfopmaeaclbknaaDoor
namespace Go.Proofs.YtfopmaeaclbknaaDoor
open Go.RowKit
set_option linter.unusedVariables false
namespace Fr
/-- the number of m + 3 digits from place j on -/
def win (U : List Nat) (j m : Nat) : Nat := val (U.drop j) (m + 3)
theorem val_set_below (X : List Nat) (j k d : Nat) : val ((X.set (j + k) d).drop j) k = val (X.drop j) k := by
  refine val_same fun i hi => ?_
  rw [dg_drop, dg_drop, dg_set_ne (by omega)]
theorem val_set_at {X : List Nat} {j k d : Nat} (h : j + k < X.length) : val ((X.set (j + k) d).drop j) (k + 1) = val (X.drop j) k + d * B ^ k := by
  show val _ k + dg _ k * B ^ k = _
  rw [val_set_below, dg_drop, dg_set_same h]
/-- the window while the product is taken away -/
structure SubSt (U V X : List Nat) (j k G c b : Nat) : Prop where
  dgs : Dg X
  same : ∀ i, i < j ∨ j + k ≤ i → dg X i = dg U i
  sum : val (U.drop j) k + (c + b) * B ^ k = val (X.drop j) k + G * val V k
theorem SubSt.start {U V : List Nat} (j G : Nat) (h : Dg U) : SubSt U V U j 0 G 0 0 := ⟨h, fun _ _ => rfl, by simp [val]⟩
theorem SubSt.step {U V X : List Nat} {j k G c b p lo br : Nat} (h : SubSt U V X j k G c b) (hl : j + k < X.length) (hp : p = G * dg V k + c) (hs : lo + p % B + b = dg U (j + k) + br * B) (hlo : lo < B) : SubSt U V (X.set (j + k) lo) j (k + 1) G (p / B) br := by
  refine ⟨h.dgs.set hlo _, fun i hi => ?_, ?_⟩
  · rw [dg_set_ne (by omega)]
    exact h.same i (by omega)
  · rw [val_set_at hl]
    show (val (U.drop j) k + dg (U.drop j) k * B ^ k) + _ = _ + G * (val V k + dg V k * B ^ k)
    rw [dg_drop]
    exact take_step hp h.sum hs
/-- the window while the divisor is given back -/
structure AddSt (X V Y : List Nat) (j k c : Nat) : Prop where
  dgs : Dg Y
  same : ∀ i, i < j ∨ j + k ≤ i → dg Y i = dg X i
  sum : val (Y.drop j) k + c * B ^ k = val (X.drop j) k + val V k
theorem AddSt.start {X V : List Nat} (j : Nat) (h : Dg X) : AddSt X V X j 0 0 := ⟨h, fun _ _ => rfl, by simp [val]⟩
theorem add_place {S A C c x y s lo hi k : Nat} (h : S + c * B ^ k = A + C) (hs : lo + hi * B = x + y + c) : (S + lo * B ^ k) + hi * B ^ (k + 1) = (A + x * B ^ k) + (C + y * B ^ k) := by
  rw [Nat.pow_succ]
  generalize B ^ k = P at *
  grind
theorem back_end {S A C c x z c2 n K : Nat} (hK : K = n + 1) (h : S + c * B ^ n = A + C) (hz : z + c2 * B = x + c) : (S + z * B ^ n) + c2 * B ^ K = (A + x * B ^ n) + C := by
  subst hK
  rw [Nat.pow_succ]
  generalize B ^ n = P at *
  grind
theorem AddSt.step {X V Y : List Nat} {j k c lo hi : Nat} (h : AddSt X V Y j k c) (hl : j + k < Y.length) (hs : lo + hi * B = dg X (j + k) + dg V k + c) (hlo : lo < B) : AddSt X V (Y.set (j + k) lo) j (k + 1) hi := by
  refine ⟨h.dgs.set hlo _, fun i hi => ?_, ?_⟩
  · rw [dg_set_ne (by omega)]
    exact h.same i (by omega)
  · rw [val_set_at hl]
    show _ = (val (X.drop j) k + dg (X.drop j) k * B ^ k) + (val V k + dg V k * B ^ k)
    rw [dg_drop]
    exact add_place (s := 0) h.sum hs
/-- a difference that may fall below zero -/
theorem less_facts {x a b : Nat} (hx : x < B) (ha : a < B) (hb : b ≤ 1) : ∃ e d lo br : Nat, (lo + a + b = x + br * B) ∧ IntKind.u64.wrap ((x : Int) - (a : Int)) = ((e : Nat) : Int) ∧ IntKind.u64.wrap ((e : Int) - (b : Int)) = ((d : Nat) : Int) ∧ (d : Int) % 4294967296 = ((lo : Nat) : Int) ∧ IntKind.u32.wrap (d : Int) = ((lo : Nat) : Int) ∧ (d : Int) / 9223372036854775808 = ((br : Nat) : Int) ∧ (0 : Int) ≤ (d : Int) ∧ br ≤ 1 ∧ lo < B := by
  have hw : ∀ n : Int, IntKind.u64.wrap n = n % 18446744073709551616 := fun n => by simp [IntKind.wrap, IntKind.bits, IntKind.signed]
  by_cases h : a + b ≤ x
  · refine ⟨x - a, x - a - b, x - a - b, 0, by omega, ?_, ?_, ?_, ?_, ?_, by omega, by omega, by omega⟩
    · rw [hw]; unfold B at *; omega
    · rw [hw]; unfold B at *; omega
    · unfold B at *; omega
    · rw [IntKind.wrap_u32']; unfold B at *; omega
    · unfold B at *; omega
  · by_cases h2 : a ≤ x
    · refine ⟨x - a, 18446744073709551616 + x - a - b, B + x - a - b, 1, by unfold B at *; omega, ?_, ?_, ?_, ?_, ?_, by omega, by omega, by unfold B at *; omega⟩
      · rw [hw]; unfold B at *; omega
      · rw [hw]; unfold B at *; omega
      · unfold B at *; omega
      · rw [IntKind.wrap_u32']; unfold B at *; omega
      · unfold B at *; omega
    · refine ⟨18446744073709551616 + x - a, 18446744073709551616 + x - a - b, B + x - a - b, 1, by unfold B at *; omega, ?_, ?_, ?_, ?_, ?_, by omega, by omega, by unfold B at *; omega⟩
      · rw [hw]; unfold B at *; omega
      · rw [hw]; unfold B at *; omega
      · unfold B at *; omega
      · rw [IntKind.wrap_u32']; unfold B at *; omega
      · unfold B at *; omega
/-- a place of a product, cut -/
theorem prod_facts {G y c : Nat} (hG : G < B) (hy : y < B) (hc : c < B) : ∃ t p c2 pl : Nat, (p = G * y + c ∧ c2 = p / B ∧ pl = p % B) ∧ IntKind.u64.wrap ((G : Int) * (y : Int)) = ((t : Nat) : Int) ∧ IntKind.u64.wrap ((t : Int) + (c : Int)) = ((p : Nat) : Int) ∧ (p : Int) / 4294967296 = ((c2 : Nat) : Int) ∧ bits BinOp.and IntKind.u64 (p : Int) 4294967295 = ((pl : Nat) : Int) ∧ (0 : Int) ≤ (p : Int) ∧ c2 < B ∧ pl < B := by
  have h := mul_lt_BB hG hy hc
  refine ⟨G * y, G * y + c, _, _, ⟨rfl, rfl, rfl⟩, u64_mul (by omega), u64_sum h, by unfold B; omega, ?_, by omega, Nat.div_lt_of_lt_mul h, Nat.mod_lt _ B_pos⟩
  generalize G * y + c = p at *
  rw [BB_eq] at h
  have e : (4294967295 : Int) = ((4294967295 : Nat) : Int) := rfl
  rw [e, u64_and_nat _ _ h (by decide)]
  have := Nat.and_two_pow_sub_one_eq_mod p 32
  have e2 : (2 : Nat) ^ 32 = B := rfl
  rw [e2] at this
  have e3 : B - 1 = 4294967295 := rfl
  rw [e3] at this
  rw [this]
/-- a place of a sum, cut -/
theorem back_facts {x y c : Nat} (hx : x < B) (hy : y < B) (hc : c ≤ 1) : ∃ t s lo hi : Nat, (lo + hi * B = x + y + c) ∧ IntKind.u64.wrap ((x : Int) + (y : Int)) = ((t : Nat) : Int) ∧ IntKind.u64.wrap ((t : Int) + (c : Int)) = ((s : Nat) : Int) ∧ IntKind.u32.wrap (s : Int) = ((lo : Nat) : Int) ∧ (s : Int) % 4294967296 = ((lo : Nat) : Int) ∧ (s : Int) / 4294967296 = ((hi : Nat) : Int) ∧ (0 : Int) ≤ (s : Int) ∧ hi ≤ 1 ∧ lo < B := by
  obtain ⟨t, s, lo, hi, h1, h2, h3, h4, h5, h6, h7⟩ := sum_facts hx hy hc
  have hm := Nat.mod_add_div s B
  refine ⟨t, s, lo, hi, ?_, h2, h3, ?_, ?_, ?_, by omega, h6, h7⟩
  · rw [h1.2.1, h1.2.2, Nat.mul_comm, hm]; exact h1.1
  · rw [IntKind.wrap_u32', h1.2.1]; unfold B; omega
  · rw [h1.2.1]; unfold B; omega
  · rw [h1.2.2]; unfold B; omega
/-- the last place of the sum, in 32 bits -/
theorem back_last {x c : Nat} (hx : x < B) (hc : c ≤ 1) : ∃ z c2 : Nat, (z + c2 * B = x + c) ∧ IntKind.u32.wrap ((x : Int) + (c : Int)) = ((z : Nat) : Int) ∧ z < B := by
  by_cases h : x + c < B
  · exact ⟨x + c, 0, by omega, by rw [IntKind.wrap_u32']; unfold B at *; omega, h⟩
  · exact ⟨0, 1, by unfold B at *; omega, by rw [IntKind.wrap_u32']; unfold B at *; omega, B_pos⟩
end Fr
end Go.Proofs.YtfopmaeaclbknaaDoor
