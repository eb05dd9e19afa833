/- Plain: the chapter's examples. -/
import Derived.Test.YthehchdonmmpaaaGreatDoorSt8
import Derived.Test.YthehchdonmmpaaaGreatDoorStF
namespace Go.Proofs.YthehchdonmmpaaaGreatDoor.St
open Go.ChangeShapes Go.WideShapes Go.ChangeAt Go.RowKit Gn Cat Lex Pr Ros Fr
set_option linter.unusedVariables false
set_option linter.unusedSimpArgs false
def wonQ : Nat → Int := fun k => if k = 0 then 1 else 0
def invQ : Inv := ⟨0, wonQ, 3, 5, 8⟩
theorem live_check : checkE saleQ = 0 := by kernel_rfl
theorem live_ros : rosE bidQ = 0 := by kernel_rfl
theorem live_one (va vb : Value) : invR saleQ 0 0 wonQ ⟨false, va, vb, [9], [2]⟩ = .ok invQ := by
  unfold invR upN
  have a : validB wonQ = true ∧ within6 wonQ (supP saleQ) = true := ⟨by kernel_rfl, by kernel_rfl⟩
  have b : validF false [9] [2] = true := by kernel_rfl
  have c : ceilN (nat [9]) (nat [2]) = 5 := by kernel_rfl
  have d : sumE Prod.reserve wonQ saleQ = 3 := by kernel_rfl
  have e : eq6 wonQ zero6 = false := by kernel_rfl
  dsimp only
  rw [if_pos a, if_pos b, c, d, e, if_pos ⟨rfl, by omega, fun h => by cases h⟩]
  rfl
theorem live_two (va vb : Value) : invR saleQ 0 1 zero6 ⟨false, va, vb, [], [1]⟩ = .ok ⟨1, zero6, 0, 0, 0⟩ := by
  unfold invR upN
  have a : validB zero6 = true ∧ within6 zero6 (supP saleQ) = true := ⟨by kernel_rfl, by kernel_rfl⟩
  have b : validF false [] [1] = true := by kernel_rfl
  have c : ceilN (nat []) (nat [1]) = 0 := by kernel_rfl
  have d : sumE Prod.reserve zero6 saleQ = 0 := by kernel_rfl
  dsimp only
  rw [if_pos a, if_pos b, c, d, if_pos ⟨rfl, by omega, fun _ => rfl⟩]
  rfl
theorem live_invs (va vb vc vd : Value) : invsR saleQ bidQ [wonQ, zero6] [⟨false, va, vb, [9], [2]⟩, ⟨false, vc, vd, [], [1]⟩] = .ok [invQ] := by
  unfold invsR
  rw [live_check, live_ros]
  have e : eq6 wonQ zero6 = false := by kernel_rfl
  have e2 : eq6 zero6 zero6 = true := by kernel_rfl
  have h1 : invAt saleQ bidQ [wonQ, zero6] [⟨false, va, vb, [9], [2]⟩, ⟨false, vc, vd, [], [1]⟩] 0 = .ok invQ := live_one va vb
  have h2 : invAt saleQ bidQ [wonQ, zero6] [⟨false, va, vb, [9], [2]⟩, ⟨false, vc, vd, [], [1]⟩] 1 = .ok ⟨1, zero6, 0, 0, 0⟩ := live_two vc vd
  have s1 : invsGo saleQ bidQ [wonQ, zero6] [⟨false, va, vb, [9], [2]⟩, ⟨false, vc, vd, [], [1]⟩] 1 = .ok [invQ] := by
    rw [invsGo_step (show invsGo saleQ bidQ [wonQ, zero6] [⟨false, va, vb, [9], [2]⟩, ⟨false, vc, vd, [], [1]⟩] 0 = .ok [] from rfl), h1]
    show Except.ok (if eq6 wonQ zero6 = true then _ else _) = _
    rw [e]
    rfl
  show (if (0 : Int) ≠ 0 then _ else if (0 : Int) ≠ 0 then _ else if _ then _ else invsGo saleQ bidQ [wonQ, zero6] [⟨false, va, vb, [9], [2]⟩, ⟨false, vc, vd, [], [1]⟩] 2) = _
  rw [if_neg (by decide), if_neg (by decide), if_neg (by simp [bidQ]), invsGo_step s1, h2]
  show Except.ok (if eq6 zero6 zero6 = true then _ else _) = _
  rw [e2]
  rfl
theorem live_dues : (dues [invQ]).sum = 8 := by kernel_rfl
theorem live_text : ((setFmt saleQ bidQ [invQ]).toList == [120, 32, 123, 97, 58, 49, 125, 32, 51, 32, 53, 32, 56, 10, 116, 111, 116, 97, 108, 32, 56, 10]) = true := by kernel_rfl
theorem live_inst : instR 10 3 = .ok [4, 3, 3] := by kernel_rfl
end Go.Proofs.YthehchdonmmpaaaGreatDoor.St
