/- The law SettleInstalments: walk. Printed by gen_stn.py. -/
import Derived.Test.YthehchdonmmpaaaDoorStL
import Derived.Test.YthehchdonmmpaaaDoorStI
namespace Go.Proofs.YthehchdonmmpaaaDoor.St
open Go.ChangeShapes Go.WideShapes Go.ChangeAt Go.RowKit Gn Cat Lex Pr Ros Fr
set_option linter.unusedVariables false
set_option linter.unusedSimpArgs false
set_option maxHeartbeats 4000000 in
set_option maxRecDepth 100000 in
theorem law_inst (d n : Int) (w : World) (ht : Am.Tab w) : Calls Tryd.prog 5 #[.int .i64 d, .int .i64 n] w (TruePost w) := by
  have CL := Lib.hid (fun W (b : Below w.heap.size w W) => lives_any W (tab_keep ht b))
  clear ht
  by_cases hr : 0 ≤ d ∧ d ≤ 1000000 ∧ 1 ≤ n ∧ n ≤ 12
  case neg =>
    have C1 : Hid (∀ w, Calls Tryd.prog 18 #[.int .i64 d, .int .i64 n] w fun e w' => ∃ v', e = .returned (.tuple #[v', .int .i64 4]) ∧ So.IS w' v' [] ∧ Below w.heap.size w w') := fun w => by
      have h := inst_any d n w
      rw [inst_no hr] at h
      exact h
    have C2 : Hid (∀ w, Calls Tryd.prog 19 #[.int .i64 d, .int .i64 n] w fun e w' => ∃ v', e = .returned (.tuple #[v', .int .i64 4]) ∧ So.IS w' v' [] ∧ Below w.heap.size w w') := fun w => by
      have h := rinst_any d n w
      rw [inst_no hr] at h
      exact h
    clear hr
    go_enter Tryd.func5, Tryd.ntmps5
    go_wp2_with fail
    refine (C1.out w).mono ?_
    rintro e w1 ⟨v1, rfl, i1, d1⟩
    have B1 := Lib.hid d1
    obtain ⟨A1, c1, rfl, _⟩ := sl_parts i1
    clear i1 d1
    rw [show ([] : List Int).length = 0 from rfl]
    go_wp2_with fail
    refine (C2.out w1).mono ?_
    rintro e w2 ⟨v2, rfl, i2, d2⟩
    have B2 := Lib.hid (chain0 B1.out d2)
    obtain ⟨A2, c2, rfl, _⟩ := sl_parts i2
    clear i2 d2
    rw [show ([] : List Int).length = 0 from rfl]
    go_wp2_with fail
    refine wp_loop_rounds 1 ?_
    rw [rounds_succ]
    go_wp2_with fail
    refine (CL.out w2 B2.out).mono ?_
    rintro e w3 ⟨rfl, d3⟩
    have B3 := Lib.hid (chain0 B2.out d3)
    clear d3
    go_wp2_with fail
    go_ret
    exact ⟨rfl, B3.out⟩
  obtain ⟨m, rfl⟩ : ∃ m : Nat, n = (m : Int) := ⟨n.toNat, by omega⟩
  have hm1 : 1 ≤ m := by omega
  have hm12 : m ≤ 12 := by omega
  have C1 : Hid (∀ w, Calls Tryd.prog 18 #[.int .i64 d, .int .i64 (m : Int)] w fun e w' => ∃ v', e = .returned (.tuple #[v', .int .i64 0]) ∧ So.IS w' v' (instL d m) ∧ Below w.heap.size w w') := fun w => by
    have h := inst_any d m w
    rw [inst_yes hr, Int.toNat_natCast] at h
    exact h
  have C2 : Hid (∀ w, Calls Tryd.prog 19 #[.int .i64 d, .int .i64 (m : Int)] w fun e w' => ∃ v', e = .returned (.tuple #[v', .int .i64 0]) ∧ So.IS w' v' (instL d m) ∧ Below w.heap.size w w') := fun w => by
    have h := rinst_any d m w
    rw [inst_yes hr, Int.toNat_natCast] at h
    exact h
  have HN := Lib.hid (fun i j => inst_near (d := d) (n := m) i j)
  have HRG := Lib.hid (fun i => inst_range (n := m) hr.1 hr.2.1 hm1 i)
  have HALL := Lib.hid (inst_all hr.1 hr.2.1 hm1)
  have HSUM : Hid (∀ k, k < m → ((instL d m).take (k + 1)).sum = ((instL d m).take k).sum + partI d m k) := fun k hk => by
    rw [instL_take hk, List.sum_append]; simp
  have HSR : Hid (∀ k, k ≤ m → 0 ≤ ((instL d m).take k).sum ∧ ((instL d m).take k).sum ≤ 12000012) := fun k hk => by
    have h := sum_range_of (M := 1000001) (by omega) ((instL d m).take k) (fun x hx => by
      obtain ⟨i, hi, rfl⟩ := List.getElem_of_mem (List.mem_of_mem_take hx)
      rw [instL_at hi]
      exact inst_range hr.1 hr.2.1 hm1 i)
    have hl : ((instL d m).take k).length ≤ 12 := by rw [List.length_take, instL_len]; omega
    have h4 : ((((instL d m).take k).length : Nat) : Int) * 1000001 ≤ 12 * 1000001 := Int.mul_le_mul_of_nonneg_right (by omega) (by omega)
    omega
  have HM : Hid (m ≤ 12) := hm12
  have HM1 : Hid (1 ≤ m) := hm1
  clear hr hm12
  go_enter Tryd.func5, Tryd.ntmps5
  go_wp2_with fail
  refine (C1.out w).mono ?_
  rintro e w1 ⟨v1, rfl, i1, d1⟩
  have B1 := Lib.hid d1
  obtain ⟨A1, c1, rfl, _, _, h1⟩ := sl_parts i1
  rw [instL_len] at h1
  rw [instL_len]
  have H1 := Lib.hid h1
  clear i1 h1 d1
  go_wp2_with fail
  refine (C2.out w1).mono ?_
  rintro e w2 ⟨v2, rfl, i2, d2⟩
  have B2 := Lib.hid (chain0 B1.out d2)
  have D2 := Lib.hid d2
  obtain ⟨A2, c2, rfl, _, _, h2⟩ := sl_parts i2
  rw [instL_len] at h2
  rw [instL_len]
  have H2 := Lib.hid h2
  clear i2 h2 d2
  have q0 : ((m : Int) != (m : Int)) = false := by simp
  go_wp2_with fail
  go_loopw [10, 9] (fun iv sv wr => ∃ k : Nat, k ≤ m ∧ iv = .int .i64 (k : Int) ∧ sv = .int .i64 ((instL d m).take k).sum ∧ Hid (Below w2.heap.size w2 wr)) (fun iv _ _ => m - (intOf iv).toNat)
  case atStart => exact ⟨0, Nat.zero_le _, rfl, rfl, Below.refl _ _⟩
  case round =>
    obtain ⟨k, hk, rfl, rfl, HW⟩ := hrel
    have hk0 : (0 : Int) ≤ (k : Int) := by omega
    have hk5 : (k : Int) ≤ 12 := by have := HM.out; omega
    by_cases hkn : k < m
    · have hd2 : decide ((k : Int) < (m : Int)) = true := decide_eq_true (by omega)
      have hkn1 : (k : Int) < (m : Int) := by omega
      have h0m : (0 : Int) < (m : Int) := by omega
      obtain ⟨b1, o1, e1, hb1, hr1⟩ := H1.out (by omega)
      obtain ⟨b2, o2, e2, hb2, hr2⟩ := H2.out (by omega)
      subst e1 e2
      have hc1 := (hr1.below hb1 (chain0 D2.out HW.out)) k (.int .i64 (partI d m k)) (by simp [instL, hkn])
      have hm0 : 0 < m := by omega
      have hc0 := (hr1.below hb1 (chain0 D2.out HW.out)) 0 (.int .i64 (partI d m 0)) (by simp [instL, hm0])
      rw [Nat.add_zero] at hc0
      have hc2 := (hr2.below hb2 HW.out) k (.int .i64 (partI d m k)) (by simp [instL, hkn])
      have n1 := HN.out 0 k
      have g0 := HRG.out 0
      have g1 := HRG.out k
      have HS1 := Lib.hid (HSUM.out k hkn)
      have hsr := HSR.out k hk
      clear hr1 hr2 hb1 hb2
      generalize partI d m k = pk at *
      generalize partI d m 0 = p0 at *
      generalize ((instL d m).take k).sum = s at *
      have z1 : (pk != pk) = false := by simp
      have z2 : IntKind.i64.wrap (p0 - pk) = p0 - pk := IntWalk.i64_in _ (by omega)
      have z3 : decide (1 < p0 - pk) = false := decide_eq_false (by omega)
      have z4 : IntKind.i64.wrap (s + pk) = s + pk := IntWalk.i64_in _ (by omega)
      go_wp2_with fail
      go_quiet (fail)
      go_wp2_with fail
      go_roundw
      case rel => exact ⟨k + 1, hkn, by go_num, by rw [HS1.out], by show Below _ _ _; first | exact HW.out | exact chain0 HW.out (Fr.drewN_below _ _) | exact chain0 HW.out (Lex.drewN_below _ _) | exact chain0 HW.out (drewN_below _ _)⟩
      case measure => simp [intOf]; omega
    · obtain rfl : k = m := by omega
      have hd2 : decide ((k : Int) < (k : Int)) = false := decide_eq_false (Int.lt_irrefl _)
      rw [List.take_of_length_le (by rw [instL_len]; exact Nat.le_refl _), HALL.out]
      have q5 : (d == d) = true := beq_self_eq_true _
      have BW := Lib.hid (chain0 B2.out HW.out)
      go_wp2_with fail
      refine (CL.out wr BW.out).mono ?_
      rintro e w3 ⟨rfl, d3⟩
      have B3 := Lib.hid (chain0 BW.out d3)
      clear d3
      go_wp2_with fail
      go_ret
      exact ⟨rfl, B3.out⟩
end Go.Proofs.YthehchdonmmpaaaDoor.St
