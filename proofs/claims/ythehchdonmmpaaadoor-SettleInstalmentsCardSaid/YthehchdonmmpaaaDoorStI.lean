/- Plain: the instalments add up, and differ by at most one. -/
import Derived.Test.YthehchdonmmpaaaDoorStT
namespace Go.Proofs.YthehchdonmmpaaaDoor.St
open Go.ChangeShapes Go.WideShapes Go.ChangeAt Go.RowKit Gn Cat Lex Pr Ros Fr
set_option linter.unusedVariables false
set_option linter.unusedSimpArgs false
theorem inst_take_sum {d : Int} {n : Nat} (h0 : 0 ≤ d) (h1 : d ≤ 1000000) (hn : 1 ≤ n) : ∀ k : Nat, k ≤ n → ((instL d n).take k).sum = (k : Int) * d.tdiv (n : Int) + min (k : Int) (d.tmod (n : Int))
  | 0, _ => by
    have := tdiv_facts h0 h1 (show (1 : Int) ≤ (n : Int) by omega)
    simp
    omega
  | k + 1, hk => by
    have h := tdiv_facts h0 h1 (show (1 : Int) ≤ (n : Int) by omega)
    rw [instL_take (show k < n by omega), List.sum_append, inst_take_sum h0 h1 hn k (by omega)]
    have e : ((k + 1 : Nat) : Int) * d.tdiv (n : Int) = (k : Int) * d.tdiv (n : Int) + d.tdiv (n : Int) := by
      rw [Int.natCast_add, Int.add_mul]
      simp
    rw [e]
    simp only [List.sum_cons, List.sum_nil, Int.add_zero]
    unfold partI
    generalize (k : Int) * d.tdiv (n : Int) = p
    split <;> omega
theorem inst_all {d : Int} {n : Nat} (h0 : 0 ≤ d) (h1 : d ≤ 1000000) (hn : 1 ≤ n) : (instL d n).sum = d := by
  have h := tdiv_facts h0 h1 (show (1 : Int) ≤ (n : Int) by omega)
  have e := inst_take_sum h0 h1 hn n (Nat.le_refl _)
  rw [List.take_of_length_le (by rw [instL_len]; exact Nat.le_refl _)] at e
  rw [e, Int.mul_comm]
  omega
theorem inst_near {d : Int} {n : Nat} (i j : Nat) : partI d (n : Int) i - partI d (n : Int) j ≤ 1 := by
  unfold partI
  split <;> split <;> omega
theorem inst_range {d : Int} {n : Nat} (h0 : 0 ≤ d) (h1 : d ≤ 1000000) (hn : 1 ≤ n) (i : Nat) : 0 ≤ partI d (n : Int) i ∧ partI d (n : Int) i ≤ 1000001 := by
  have h := tdiv_facts h0 h1 (show (1 : Int) ≤ (n : Int) by omega)
  unfold partI
  split <;> omega
end Go.Proofs.YthehchdonmmpaaaDoor.St
