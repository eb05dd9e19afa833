/- Rows of digits that a call makes, plain and in memory. -/
import Derived.Test.YtfopmaeaclbknaaDoorNatU
namespace Go.Proofs.YtfopmaeaclbknaaDoor
open Go.ChangeShapes Go.WideShapes Go.ChangeAt Go.RowKit
set_option linter.unusedVariables false
namespace Fr
theorem own_far {w : World} {base : Nat} {e : TypeId} {size n : Nat} {v : Value} {xs : List Value} (h : w.ownsRow base e size v n xs) : ∀ g, v.ownBlock = some g → base ≤ g := by
  rcases h.2 with ⟨rfl, _⟩ | ⟨g', cap, cur, rfl, hb, hh, _⟩
  · intro g hg
    simp [Value.ownBlock] at hg
  · intro g hg
    have : g' = g := by simpa [Value.ownBlock] using hg
    subst this
    exact hb
theorem ns_new1 (w : World) (a : Nat) (t : TypeId) : NS (w.alloc (.cells #[.int .u32 (a : Int)] t)) (.slice (some ⟨w.heap.size, 0, none⟩) 1 1) [a] := by
  refine ns_mk (by simp) (Nat.le_refl _) (by unfold maxLen; simp) fun i hi => ?_
  obtain rfl : i = 0 := by simp at hi; omega
  exact (Blk.new w t _).cell 0
theorem ns_own {w : World} {base : Nat} {e : TypeId} {v : Value} {n : Nat} {o : List Nat} (h : w.ownsRow base e 1 v n (u32s o)) : NS w v o := by
  have := Sl.of_own h
  have hl := this.1
  rw [u32s_len, Nat.mul_one] at hl
  rw [← hl] at this
  exact this
/-- the two parts of a sum below B * B -/
theorem parts {s : Nat} : s % B < B ∧ IntKind.u32.wrap ((s : Int) % 4294967296) = ((s % B : Nat) : Int) := by
  refine ⟨Nat.mod_lt _ B_pos, ?_⟩
  rw [IntWalk.u32_in _ (by omega)]
  unfold B
  omega
theorem part_hi {s : Nat} (h : s < B * B) : s / B < B ∧ IntKind.u64.wrap ((s : Int) / 4294967296) = ((s / B : Nat) : Int) := by
  refine ⟨Nat.div_lt_of_lt_mul h, ?_⟩
  rw [BB_eq] at h
  rw [IntWalk.u64_in _ (by omega)]
  unfold B
  omega
theorem u64_sum {x y : Nat} (h : x + y < B * B) : IntKind.u64.wrap ((x : Int) + (y : Int)) = ((x + y : Nat) : Int) := by
  rw [BB_eq] at h
  rw [IntWalk.u64_in _ (by omega)]
  omega
theorem lt_BB {s : Nat} (h : s < 4 * B) : s < B * B := by
  have : 4 * B ≤ B * B := Nat.mul_le_mul_right _ (by decide)
  omega
/-- one place of a sum -/
theorem sum_facts {x y c : Nat} (hx : x < B) (hy : y < B) (hc : c ≤ 1) : ∃ t s lo hi : Nat, (s = x + y + c ∧ lo = s % B ∧ hi = s / B) ∧ IntKind.u64.wrap ((x : Int) + (y : Int)) = ((t : Nat) : Int) ∧ IntKind.u64.wrap ((t : Int) + (c : Int)) = ((s : Nat) : Int) ∧ IntKind.u32.wrap ((s : Int) % 4294967296) = ((lo : Nat) : Int) ∧ IntKind.u64.wrap ((s : Int) / 4294967296) = ((hi : Nat) : Int) ∧ hi ≤ 1 ∧ lo < B := by
  have hs4 : x + y + c < 4 * B := by have := B_two; omega
  have h2 : (x + y + c) / B < 2 := Nat.div_lt_of_lt_mul (by have := B_two; omega)
  exact ⟨x + y, x + y + c, _, _, ⟨rfl, rfl, rfl⟩, u64_sum (by have := lt_BB hs4; omega), u64_sum (lt_BB hs4), parts.2, (part_hi (lt_BB hs4)).2, by omega, parts.1⟩
/-- the sum's last carry is none -/
theorem add_end {a b o : List Nat} {c M : Nat} (ha : Dg a) (hb : Dg b) (h1 : a.length ≤ M) (h2 : b.length ≤ M) (h : nat o + c * B ^ (M + 1) = val a (M + 1) + val b (M + 1)) : nat o = nat a + nat b := by
  rw [val_nat (by omega), val_nat (by omega)] at h
  have e1 := nat_lt_len ha h1
  have e2 := nat_lt_len hb h2
  have e3 : 2 * B ^ M ≤ B ^ (M + 1) := by
    rw [Nat.pow_succ, Nat.mul_comm]
    exact Nat.mul_le_mul_left _ (by decide)
  cases c with
  | zero => omega
  | succ c =>
    rw [Nat.succ_mul] at h
    omega
/-- one place of a difference -/
theorem sub_facts {x y c : Nat} (hx : x < B) (hy : y < B) (hc : c ≤ 1) : ∃ t1 t2 s lo q br : Nat, (lo + y + c = x + br * B) ∧ IntKind.u64.wrap (4294967296 + (x : Int)) = ((t1 : Nat) : Int) ∧ IntKind.u64.wrap ((t1 : Int) - (y : Int)) = ((t2 : Nat) : Int) ∧ IntKind.u64.wrap ((t2 : Int) - (c : Int)) = ((s : Nat) : Int) ∧ IntKind.u32.wrap ((s : Int) % 4294967296) = ((lo : Nat) : Int) ∧ IntKind.u64.wrap ((s : Int) / 4294967296) = ((q : Nat) : Int) ∧ IntKind.u64.wrap (1 - (q : Int)) = ((br : Nat) : Int) ∧ br ≤ 1 ∧ lo < B := by
  have hbx := hx
  have hby := hy
  unfold B at hbx hby
  have hs : B + x - y - c < 2 * B := by unfold B; omega
  have hq : (B + x - y - c) / B < 2 := Nat.div_lt_of_lt_mul (by omega)
  have hm := Nat.mod_add_div (B + x - y - c) B
  have hsB : B + x - y - c < B * B := lt_BB (by omega)
  refine ⟨B + x, B + x - y, B + x - y - c, _, (B + x - y - c) / B, 1 - (B + x - y - c) / B, ?_, ?_, ?_, ?_, parts.2, (part_hi hsB).2, ?_, Nat.sub_le _ _, parts.1⟩
  · generalize (B + x - y - c) / B = q at *
    generalize (B + x - y - c) % B = r at *
    rcases (show q = 0 ∨ q = 1 by omega) with rfl | rfl
    · unfold B at *; omega
    · unfold B at *; omega
  · rw [IntWalk.u64_in _ (by omega)]; unfold B; omega
  · rw [IntWalk.u64_in _ (by unfold B; omega)]; unfold B; omega
  · rw [IntWalk.u64_in _ (by unfold B; omega)]; unfold B; omega
  · generalize (B + x - y - c) / B = q at *
    rw [IntWalk.u64_in _ (by omega)]; omega
theorem sub_step {o : List Nat} {x y c k lo br A Bv : Nat} (hk : o.length = k) (h : A + c * B ^ k = nat o + Bv) (hs : lo + y + c = x + br * B) : (A + x * B ^ k) + br * B ^ (k + 1) = nat (o ++ [lo]) + (Bv + y * B ^ k) := by
  rw [nat_append, hk]
  simp only [nat, Nat.mul_zero, Nat.add_zero]
  have e : (lo + y + c) * B ^ k = (x + br * B) * B ^ k := by rw [hs]
  simp only [Nat.add_mul] at e
  rw [Nat.pow_succ, Nat.mul_comm (B ^ k) B, ← Nat.mul_assoc, Nat.mul_comm (B ^ k) lo]
  omega
theorem sub_end {a b o : List Nat} {c : Nat} (ha : Dg a) (hb : Dg b) (ho : Dg o) (hl : o.length = a.length) (hle : nat b ≤ nat a) (h : val a a.length + c * B ^ a.length = nat o + val b a.length) : nat o = nat a - nat b := by
  have e1 := nat_lt ha
  have e2 := nat_lt ho
  rw [hl] at e2
  rw [val_nat (Nat.le_refl _), val_of_lt hb (by omega)] at h
  cases c with
  | zero => omega
  | succ c =>
    rw [Nat.succ_mul] at h
    omega
end Fr
end Go.Proofs.YtfopmaeaclbknaaDoor
