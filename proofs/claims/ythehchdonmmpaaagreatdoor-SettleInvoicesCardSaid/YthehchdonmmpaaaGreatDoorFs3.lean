/- The program's Sign of fractions, exactly. -/
import Derived.Test.YthehchdonmmpaaaGreatDoorPs14
import Derived.Test.YthehchdonmmpaaaGreatDoorFs0
namespace Go.Proofs.YthehchdonmmpaaaGreatDoor
open Go.ChangeShapes Go.WideShapes Go.ChangeAt Go.RowKit
set_option linter.unusedVariables false
set_option linter.unusedSimpArgs false
namespace Fr
def signF (s : Bool) (n : Nat) : Int := if n = 0 then 0 else if s then -1 else 1
theorem nsign_any (s : Bool) (A1 : Option Addr) (c1 n' : Nat) (v2 : Value) (w : World) : Calls Tryz.prog 39 #[.agg #[.bool s, .slice A1 n' c1, v2]] w fun e w' => e = .returned (.int .i64 (signF s n')) ∧ Below w.heap.size w w' := by
  have B1 : Hid (Below w.heap.size w (w.alloc (.cells #[.bool s, .slice A1 n' c1, v2] 47))) := below_new w _
  by_cases h : n' = 0
  · subst h
    have HV : Hid (signF s 0 = 0) := rfl
    go_enter Tryz.func39, Tryz.ntmps39
    go_wp2_with fail
    go_ret
    exact ⟨by rw [HV.out]; rfl, B1.out⟩
  · have q : ((n' : Int) == 0) = false := beq_eq_false_iff_ne.2 (by omega)
    cases s
    · have HV := Lib.hid (show signF false n' = 1 by unfold signF; rw [if_neg h]; rfl)
      clear h
      go_enter Tryz.func39, Tryz.ntmps39
      go_wp2_with fail
      go_ret
      exact ⟨by rw [HV.out]; rfl, B1.out⟩
    · have HV := Lib.hid (show signF true n' = -1 by unfold signF; rw [if_neg h]; rfl)
      clear h
      go_enter Tryz.func39, Tryz.ntmps39
      go_wp2_with fail
      go_ret
      exact ⟨by rw [HV.out]; rfl, B1.out⟩
end Fr
end Go.Proofs.YthehchdonmmpaaaGreatDoor
