/- Plain: sums of digits by places; what the digit loops compute. -/
import Derived.Test.YtfopmaeaclbknaaDoorNat1
namespace Go.Proofs.YtfopmaeaclbknaaDoor
namespace Fr
/-- the number of the first m digits -/
def val (l : List Nat) : Nat → Nat
  | 0 => 0
  | m + 1 => val l m + dg l m * B ^ m
theorem val_take (l : List Nat) : ∀ m, val l m = nat (l.take m)
  | 0 => by simp [val, nat]
  | m + 1 => by
    unfold val
    rw [val_take l m]
    by_cases h : m < l.length
    · rw [take_dg h, nat_append]
      simp only [nat, Nat.mul_zero, Nat.add_zero, List.length_take, Nat.min_eq_left (Nat.le_of_lt h)]
      rw [Nat.mul_comm]
    · rw [dg_out (by omega), List.take_of_length_le (by omega), List.take_of_length_le (by omega)]
      simp
theorem val_nat {l : List Nat} {m : Nat} (h : l.length ≤ m) : val l m = nat l := by rw [val_take, List.take_of_length_le h]
theorem val_lt {l : List Nat} (hd : Dg l) (m : Nat) : val l m < B ^ m := by
  induction m with
  | zero => simp [val]
  | succ m ih =>
    unfold val
    have h := dg_lt hd m
    have h2 : dg l m * B ^ m + B ^ m ≤ B * B ^ m := by
      rw [← Nat.succ_mul]
      exact Nat.mul_le_mul_right _ h
    rw [Nat.pow_succ, Nat.mul_comm (B ^ m) B]
    omega
theorem val_mod {l : List Nat} (hd : Dg l) (m : Nat) : nat l % B ^ m = val l m := by
  have h : nat l = val l m + B ^ m * nat (l.drop m) := by
    by_cases hm : m ≤ l.length
    · have := nat_append (l.take m) (l.drop m)
      rw [List.take_append_drop, List.length_take, Nat.min_eq_left hm] at this
      rw [val_take]
      exact this
    · rw [val_nat (by omega), List.drop_eq_nil_of_le (by omega)]
      simp [nat]
  rw [h, Nat.add_mul_mod_self_left]
  exact Nat.mod_eq_of_lt (val_lt hd m)
theorem val_of_lt {l : List Nat} (hd : Dg l) {m : Nat} (h : nat l < B ^ m) : val l m = nat l := by
  rw [← val_mod hd m]
  exact Nat.mod_eq_of_lt h
theorem nat_lt_len {l : List Nat} (hd : Dg l) {m : Nat} (h : l.length ≤ m) : nat l < B ^ m :=
  Nat.lt_of_lt_of_le (nat_lt hd) (Nat.pow_le_pow_right B_pos h)
/-- a digit by its place -/
theorem dg_div {l : List Nat} (hd : Dg l) (i : Nat) : dg l i = nat l / B ^ i % B := by
  have h1 := val_mod hd (i + 1)
  unfold val at h1
  have h2 : nat l / B ^ i % B = nat l % B ^ (i + 1) / B ^ i := by
    rw [Nat.pow_succ, Nat.mod_mul_right_div_self]
  rw [h2, h1, Nat.add_mul_div_right _ _ (Nat.pow_pos B_pos), Nat.div_eq_of_lt (val_lt hd i), Nat.zero_add]
/-- the first difference from the top decides -/
theorem val_up {a b : List Nat} {i : Nat} : ∀ {M : Nat}, i < M → (∀ j, i < j → j < M → dg a j = dg b j) → val a (i + 1) < val b (i + 1) → val a M < val b M
  | 0, h, _, _ => by omega
  | M + 1, h, he, hl => by
    by_cases e : i = M
    · subst e; exact hl
    · have := val_up (M := M) (by omega) (fun j h1 h2 => he j h1 (by omega)) hl
      unfold val
      rw [he M (by omega) (by omega)]
      omega
theorem val_same {a b : List Nat} : ∀ {M : Nat}, (∀ j, j < M → dg a j = dg b j) → val a M = val b M
  | 0, _ => rfl
  | M + 1, he => by
    unfold val
    rw [val_same (M := M) (fun j h => he j (by omega)), he M (by omega)]
theorem val_step {a b : List Nat} (ha : Dg a) {i : Nat} (h : dg a i < dg b i) : val a (i + 1) < val b (i + 1) := by
  unfold val
  have h1 := val_lt ha i
  have h2 : dg a i * B ^ i + B ^ i ≤ dg b i * B ^ i := by
    rw [← Nat.succ_mul]
    exact Nat.mul_le_mul_right _ h
  omega
theorem nat_less {a b : List Nat} (ha : Dg a) {i M : Nat} (h1 : a.length ≤ M) (h2 : b.length ≤ M) (hi : i < M) (he : ∀ j, i < j → j < M → dg a j = dg b j) (h : dg a i < dg b i) : nat a < nat b := by
  have := val_up hi he (val_step ha h)
  rwa [val_nat h1, val_nat h2] at this
theorem nat_same {a b : List Nat} {M : Nat} (h1 : a.length ≤ M) (h2 : b.length ≤ M) (he : ∀ j, j < M → dg a j = dg b j) : nat a = nat b := by
  have := val_same he
  rwa [val_nat h1, val_nat h2] at this
/-- one number against another -/
def cmp (x y : Nat) : Int := if x < y then -1 else if y < x then 1 else 0
/-- the sum's digits and carry -/
theorem add_step {o : List Nat} {a b c k s : Nat} {A Bv : Nat} (hk : o.length = k) (h : nat o + c * B ^ k = A + Bv) (hs : s = a + b + c) : nat (o ++ [s % B]) + s / B * B ^ (k + 1) = (A + a * B ^ k) + (Bv + b * B ^ k) := by
  rw [nat_append, hk]
  simp only [nat, Nat.mul_zero, Nat.add_zero]
  have e : s % B + s / B * B = s := by rw [Nat.mul_comm]; exact Nat.mod_add_div s B
  have e2 : B ^ k * (s % B) + s / B * B ^ (k + 1) = s * B ^ k := by
    rw [Nat.pow_succ, Nat.mul_comm (B ^ k) (s % B), ← Nat.mul_assoc, Nat.mul_right_comm, ← Nat.add_mul, e]
  rw [Nat.add_assoc, e2, hs, Nat.add_mul, Nat.add_mul]
  omega
end Fr
end Go.Proofs.YtfopmaeaclbknaaDoor
