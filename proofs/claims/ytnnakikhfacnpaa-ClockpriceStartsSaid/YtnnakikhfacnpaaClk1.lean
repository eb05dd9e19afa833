/- Contracts of the small functions of clockprice and amount. -/
import Derived.Test.YtnnakikhfacnpaaRows
import Derived.WalkKit
import Derived.ProofKit
import Derived.OpenShut
import Derived.Handy
import Derived.BigQuiet
import Derived.Lib.Hide
namespace Go.Proofs.Ytnnakikhfacnpaa
open Go.ChangeShapes Go.WideShapes Go.ChangeAt Go.RowKit
namespace Clk

/-- an amount of money -/
def amt (v : Int) : Bool := decide (0 ≤ v) && decide (v ≤ 1000000)

theorem is_yes (v : Int) (w : World) (h0 : 0 ≤ v) (h1 : v ≤ 1000000) :
    Calls Try.prog 53 #[.int .i64 v] w fun e w' => e = .returned (.bool true) ∧ w = w' := by
  go_enter Try.func53, Try.ntmps53
  go_wp2
  go_ret
  exact ⟨rfl, rfl⟩

theorem is_no (v : Int) (w : World) (h : v < 0 ∨ 1000000 < v) :
    Calls Try.prog 53 #[.int .i64 v] w fun e w' => e = .returned (.bool false) ∧ w = w' := by
  rcases h with h | h
  · go_enter Try.func53, Try.ntmps53
    go_wp2
    go_ret
    exact ⟨rfl, rfl⟩
  · have h' : 0 ≤ v := by omega
    have hf : decide (v ≤ 1000000) = false := by simp; omega
    go_enter Try.func53, Try.ntmps53
    go_wp2
    go_ret
    exact ⟨rfl, rfl⟩

theorem amtCheck_yes (v : Int) (w : World) (h0 : 0 ≤ v) (h1 : v ≤ 1000000) :
    Calls Try.prog 52 #[.int .i64 v] w fun e w' => e = .returned (.int .i64 0) ∧ w = w' := by
  go_enter Try.func52, Try.ntmps52
  go_wp2_with (go_at_call 53; refine (is_yes v _ h0 h1).mono ?_; rintro e w' ⟨rfl, rfl⟩)
  go_ret
  exact ⟨rfl, rfl⟩

theorem amtCheck_no (v : Int) (w : World) (h : v < 0 ∨ 1000000 < v) :
    Calls Try.prog 52 #[.int .i64 v] w fun e w' => e = .returned (.int .i64 4) ∧ w = w' := by
  go_enter Try.func52, Try.ntmps52
  go_wp2_with (go_at_call 53; refine (is_no v _ h).mono ?_; rintro e w' ⟨rfl, rfl⟩)
  go_ret
  exact ⟨rfl, rfl⟩

/-- the policies that Check accepts -/
structure Pol (s p u r : Int) : Prop where
  s0 : 1 ≤ s
  s1 : s ≤ 1000000
  p0 : 0 ≤ p
  p1 : p ≤ 100
  u0 : 1 ≤ u
  u1 : u ≤ 3
  r0 : 1 ≤ r
  r1 : r ≤ 3

theorem check_yes (s p u r : Int) (w : World) (h : Pol s p u r) :
    Calls Try.prog 18 #[.agg #[.int .i64 s, .int .i64 p, .int .i64 u, .int .i64 r]] w fun e w' => e = .returned (.int .i64 0) ∧ Below w.heap.size w w' := by
  obtain ⟨a, b, c, d, e, f, g, h⟩ := h
  go_enter Try.func18, Try.ntmps18
  go_wp2
  go_ret
  exact ⟨rfl, by go_grown⟩

set_option maxHeartbeats 400000 in
theorem check_no (s p u r : Int) (w : World) (h : ¬ Pol s p u r) :
    Calls Try.prog 18 #[.agg #[.int .i64 s, .int .i64 p, .int .i64 u, .int .i64 r]] w fun e w' => e = .returned (.int .i64 4) ∧ Below w.heap.size w w' := by
  go_enter Try.func18, Try.ntmps18
  go_wp2
  all_goals first
    | (go_ret; exact ⟨rfl, by go_grown⟩)
    | (exfalso; exact h ⟨by omega, by omega, by omega, by omega, by omega, by omega, by omega, by omega⟩)

end Clk
end Go.Proofs.Ytnnakikhfacnpaa
