/- great; the walk of SetupChecks. Printed by gen_seC.py. -/
import Derived.Test.YtjjlhihocllgjaaDoorSeB
namespace Go.Proofs.YtjjlhihocllgjaaDoor.Se
open Go.ChangeShapes Go.WideShapes Go.ChangeAt Go.RowKit Gn Cat Lex Ros
set_option linter.unusedVariables false
set_option linter.unusedSimpArgs false
/-- a setup of any lengths -/
structure SetO (w : World) (v1 v2 v3 v4 : Value) (S : SetD) : Prop where
  p : PS w v1 S.ps
  b : BidS w v2 S.bs
  c : CapS w v3 S.cs
  a : AsdS w v4 S.ad
  np : ∀ p ∈ S.ps, p.name.size ≤ maxLen
  nb : ∀ p ∈ S.bs, p.name.size ≤ maxLen
theorem SetO.setW {w : World} {v1 v2 v3 v4 : Value} {S : SetD} (h : SetO w v1 v2 v3 v4 S) (hl : S.ps.length ≤ 50 ∧ S.bs.length ≤ 50 ∧ S.cs.length ≤ 50 ∧ S.ad.length ≤ 50) : SetW w v1 v2 v3 v4 S :=
  ⟨h.p, h.b, h.c, h.a, by omega, by omega, by omega, by omega, h.np, h.nb⟩
theorem SetO.forms {w : World} {v1 v2 v3 v4 : Value} {S : SetD} (h : SetO w v1 v2 v3 v4 S) : ∃ A1 c1 A2 c2 A3 c3 A4 c4, v1 = .slice A1 S.ps.length c1 ∧ v2 = .slice A2 S.bs.length c2 ∧ v3 = .slice A3 S.cs.length c3 ∧ v4 = .slice A4 S.ad.length c4 := by
  obtain ⟨A1, c1, e1, _⟩ := sl_parts h.p
  obtain ⟨A2, c2, e2, _⟩ := sl_parts h.b
  obtain ⟨A3, c3, e3, _⟩ := sl_parts h.c
  obtain ⟨A4, c4, e4, _⟩ := sl_parts h.a
  exact ⟨A1, c1, A2, c2, A3, c3, A4, c4, e1, e2, e3, e4⟩
abbrev greatB (n1 n2 n3 n4 : Nat) : Bool := decide (50 < n1) || decide (50 < n2) || decide (50 < n3) || decide (50 < n4)
theorem great_no {n1 n2 n3 n4 : Nat} (h : greatB n1 n2 n3 n4 = false) : n1 ≤ 50 ∧ n2 ≤ 50 ∧ n3 ≤ 50 ∧ n4 ≤ 50 := by
  simp [greatB] at h
  omega
abbrev TrueP (w : World) : Ending → World → Prop := fun e w' => e = .returned (.bool true) ∧ Below w.heap.size w w'
set_option maxHeartbeats 2000000 in
set_option maxRecDepth 100000 in
theorem great_any (A1 A2 A3 A4 : Option Addr) (n1 n2 n3 n4 c1 c2 c3 c4 : Nat) (w : World) : Calls Tryd.prog 16 #[.agg #[.slice A1 n1 c1, .slice A2 n2 c2, .slice A3 n3 c3, .slice A4 n4 c4]] w fun e w' => e = .returned (.bool (greatB n1 n2 n3 n4)) ∧ Below w.heap.size w w' := by
  have BX := Lib.hid (below_new w (.cells #[.slice A1 n1 c1, .slice A2 n2 c2, .slice A3 n3 c3, .slice A4 n4 c4] 43))

  by_cases h1 : 50 < n1
  · have t1 : decide ((50 : Int) < (n1 : Int)) = true := decide_eq_true (by omega)
    have HV : Hid (greatB n1 n2 n3 n4 = true) := by show _ = _; unfold greatB; simp [h1]
    clear h1
    go_enter Tryd.func16, Tryd.ntmps16
    go_wp2_with fail
    go_ret
    exact ⟨by rw [HV.out]; rfl, BX.out⟩
  have t1 : decide ((50 : Int) < (n1 : Int)) = false := decide_eq_false (by omega)
  by_cases h2 : 50 < n2
  · have t2 : decide ((50 : Int) < (n2 : Int)) = true := decide_eq_true (by omega)
    have HV : Hid (greatB n1 n2 n3 n4 = true) := by show _ = _; unfold greatB; simp [h1, h2]
    clear h1 h2
    go_enter Tryd.func16, Tryd.ntmps16
    go_wp2_with fail
    go_ret
    exact ⟨by rw [HV.out]; rfl, BX.out⟩
  have t2 : decide ((50 : Int) < (n2 : Int)) = false := decide_eq_false (by omega)
  by_cases h3 : 50 < n3
  · have t3 : decide ((50 : Int) < (n3 : Int)) = true := decide_eq_true (by omega)
    have HV : Hid (greatB n1 n2 n3 n4 = true) := by show _ = _; unfold greatB; simp [h1, h2, h3]
    clear h1 h2 h3
    go_enter Tryd.func16, Tryd.ntmps16
    go_wp2_with fail
    go_ret
    exact ⟨by rw [HV.out]; rfl, BX.out⟩
  have t3 : decide ((50 : Int) < (n3 : Int)) = false := decide_eq_false (by omega)
  by_cases h4 : 50 < n4
  · have t4 : decide ((50 : Int) < (n4 : Int)) = true := decide_eq_true (by omega)
    have HV : Hid (greatB n1 n2 n3 n4 = true) := by show _ = _; unfold greatB; simp [h1, h2, h3, h4]
    clear h1 h2 h3 h4
    go_enter Tryd.func16, Tryd.ntmps16
    go_wp2_with fail
    go_ret
    exact ⟨by rw [HV.out]; rfl, BX.out⟩
  have t4 : decide ((50 : Int) < (n4 : Int)) = false := decide_eq_false (by omega)
  have HV : Hid (greatB n1 n2 n3 n4 = false) := by show _ = _; unfold greatB; simp [h1, h2, h3, h4]
  clear h1 h2 h3 h4
  go_enter Tryd.func16, Tryd.ntmps16
  go_wp2_with fail
  go_ret
  exact ⟨by rw [HV.out]; rfl, BX.out⟩
end Go.Proofs.YtjjlhihocllgjaaDoor.Se
