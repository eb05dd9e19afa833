/- The reference's Digits. Printed by gen_seK.py. -/
import Derived.Test.YtjjlhihocllgjaaGreatDoorSeJ
namespace Go.Proofs.YtjjlhihocllgjaaGreatDoor.Se
open Go.ChangeShapes Go.WideShapes Go.ChangeAt Go.RowKit Gn Cat Lex Ros
set_option linter.unusedVariables false
set_option linter.unusedSimpArgs false
theorem tl_nil0 {s : ByteArray} (h : s.size = 0) : s.toList.isEmpty = true := by
  have e : s = ⟨#[]⟩ := size_nil h
  subst e
  rw [ByteArray.toList_eq]
  rfl
theorem numE_lead {s : ByteArray} (h : s.size = 0 ∨ (1 < s.size ∧ s.data.toList.head? = some 48)) : numE s = 2 := by
  unfold numE
  split <;> first | rfl | rw [if_pos h]
theorem valF_take {s : ByteArray} {k : Nat} (hk : k < s.size) : valF 0 (s.data.toList.take (k + 1)) = valF 0 (s.data.toList.take k) * 10 + (s[k].toNat - 48) := by
  have h2 : k < s.data.toList.length := hk
  unfold valF
  rw [List.take_succ_eq_append_getElem h2, List.foldl_append]
  rfl
theorem valF_small {s : ByteArray} (hd : ∀ j (hj : j < s.size), dig s[j] = true) : ∀ k, k ≤ s.size → valF 0 (s.data.toList.take k) < 10 ^ k
  | 0, _ => by rw [List.take_zero]; decide
  | k + 1, h => by
    have ih := valF_small hd k (by omega)
    have hx := hd k (by omega)
    unfold dig at hx
    simp at hx
    rw [valF_take (by omega), Nat.pow_succ]
    omega
set_option maxHeartbeats 1000000 in
set_option maxRecDepth 100000 in
theorem rdig_any (s : ByteArray) (w : World) (hs : s.size ≤ 5000) : Calls Tryz.prog 147 #[.string s] w (NumPost s w) := by
  have HB := Lib.hid (fun k h hd => numE_bad (s := s) (k := k) h hd)
  have HA := Lib.hid (numE_all (s := s))
  have HH := Lib.hid (head_at (s := s))
  have HN := Lib.hid (size_nil (s := s))
  have HL := Lib.hid (numE_lead (s := s))
  have HNV : Hid (numV s = (valF 0 (s.data.toList.take s.size) : Nat)) := by
    show _ = _
    rw [List.take_of_length_le (show s.data.toList.length ≤ s.size from Nat.le_refl _)]
    rfl
  have HSM := Lib.hid (valF_small (s := s))
  have HST := Lib.hid (fun k (hk : k < s.size) => valF_take hk)
  obtain ⟨R, hR⟩ : ∃ R, R = numE s := ⟨_, rfl⟩
  obtain ⟨V, hV⟩ : ∃ V, V = numR s := ⟨_, rfl⟩
  have HR := Lib.hid hR
  have HVV := Lib.hid hV
  unfold NumPost
  rw [← hR, ← hV]
  clear hR hV
  have hs5 : (s.size : Int) ≤ 5000 := by omega
  by_cases h0 : s.size = 0
  · have HV2 : Hid (R = 2) := HR.out.trans (HL.out (.inl h0))
    have HV3 : Hid (V = 0) := HVV.out.trans (if_neg (by rw [← HR.out, HV2.out]; decide))
    have e00 : s.toList.isEmpty = true := tl_nil0 h0
    clear h0
    go_enter Tryz.func147, Tryz.ntmps147
    go_wp2_with fail
    go_ret2
    exact ⟨by rw [HV2.out, HV3.out]; rfl, Below.refl _ _⟩
  have hp : 0 < s.size := by omega
  have e00 : s.toList.isEmpty = false := bytes_isEmpty hp
  have hh := HH.out hp
  by_cases hld : 1 < s.size ∧ s[0] = 48
  · have HV2 : Hid (R = 2) := HR.out.trans (HL.out (.inr ⟨hld.1, by rw [hh, hld.2]⟩))
    have HV3 : Hid (V = 0) := HVV.out.trans (if_neg (by rw [← HR.out, HV2.out]; decide))
    have t3 : decide ((1 : Int) < (s.size : Int)) = true := decide_eq_true (by omega)
    have t2 : (((s[0].toNat : Nat) : Int) == 48) = true := by rw [hld.2]; rfl
    clear hh hld
    go_enter Tryz.func147, Tryz.ntmps147
    go_wp2_with fail
    go_ret2
    exact ⟨by rw [HV2.out, HV3.out]; rfl, Below.refl _ _⟩
  have hcond : Hid (¬ (s.size = 0 ∨ (1 < s.size ∧ s.data.toList.head? = some 48))) := by
    rintro (e | ⟨e1, e⟩)
    · omega
    · rw [hh] at e; exact hld ⟨e1, Option.some.inj e⟩
  by_cases q3 : 1 < s.size
  · have t3 : decide ((1 : Int) < (s.size : Int)) = true := decide_eq_true (by omega)
    have t2 : (((s[0].toNat : Nat) : Int) == 48) = false := by
      refine beq_eq_false_iff_ne.2 (fun e => hld ⟨q3, ?_⟩)
      apply UInt8.toNat_inj.1
      show s[0].toNat = 48
      omega
    clear hh hld
    go_enter Tryz.func147, Tryz.ntmps147
    go_wp2_with fail
    go_loop [4] (fun iv => ∃ k : Nat, k ≤ s.size ∧ iv = .int .i64 (k : Int) ∧ Hid (∀ j (hj : j < s.size), j < k → dig s[j] = true)) (fun iv => s.size - (intOf iv).toNat)
    case atStart => exact ⟨0, Nat.zero_le _, rfl, fun j _ h => absurd h (Nat.not_lt_zero _)⟩
    case round =>
      obtain ⟨k, hk, rfl, HI⟩ := hrel
      have hk0 : (0 : Int) ≤ (k : Int) := by omega
      by_cases hlt : k < s.size
      · have hd2 : decide ((k : Int) < (s.size : Int)) = true := by simp; omega
        have hkl : (k : Int) < (s.size : Int) := by omega
        by_cases q0 : ((s[k].toNat : Nat) : Int) < 48
        · have t0 : decide (((s[k].toNat : Nat) : Int) < 48) = true := decide_eq_true q0
          have HV2 : Hid (R = 2) := HR.out.trans (HB.out k hlt (by unfold dig; rw [decide_eq_false (by omega)]; rfl))
          have HV3 : Hid (V = 0) := HVV.out.trans (if_neg (by rw [← HR.out, HV2.out]; decide))
          go_wp2_with fail
          go_ret2
          exact ⟨by rw [HV2.out, HV3.out]; rfl, Below.refl _ _⟩
        · have t0 : decide (((s[k].toNat : Nat) : Int) < 48) = false := decide_eq_false q0
          by_cases q1 : 57 < ((s[k].toNat : Nat) : Int)
          · have t1 : decide ((57 : Int) < ((s[k].toNat : Nat) : Int)) = true := decide_eq_true q1
            have HV2 : Hid (R = 2) := HR.out.trans (HB.out k hlt (by unfold dig; rw [decide_eq_false (show ¬ s[k].toNat ≤ 57 by omega), Bool.and_false]))
            have HV3 : Hid (V = 0) := HVV.out.trans (if_neg (by rw [← HR.out, HV2.out]; decide))
            go_wp2_with fail
            go_ret2
            exact ⟨by rw [HV2.out, HV3.out]; rfl, Below.refl _ _⟩
          · have t1 : decide ((57 : Int) < ((s[k].toNat : Nat) : Int)) = false := decide_eq_false q1
            have HI2 : Hid (∀ j (hj : j < s.size), j < k + 1 → dig s[j] = true) := by
              intro j hj hjk
              by_cases e : j = k
              · subst e; unfold dig; rw [decide_eq_true (by omega), decide_eq_true (by omega)]; rfl
              · exact HI.out j hj (by omega)
            clear q0 q1
            go_wp2_with fail
            go_round
            case rel => exact ⟨k + 1, hlt, by go_num, HI2.out⟩
            case measure => simp [intOf]; omega
      · obtain rfl : k = s.size := by omega
        have hd2 : decide ((s.size : Int) < (s.size : Int)) = false := by simp
        have HE := Lib.hid (HR.out.trans (HA.out fun j hj => HI.out j hj hj))
        by_cases q4 : 9 < s.size
        · have t4 : decide ((9 : Int) < (s.size : Int)) = true := decide_eq_true (by omega)
          have HV2 : Hid (R = 4) := HE.out.trans (by rw [if_neg hcond.out, if_pos q4])
          have HV3 : Hid (V = 0) := HVV.out.trans (if_neg (by rw [← HR.out, HV2.out]; decide))
          go_wp2_with fail
          go_ret2
          exact ⟨by rw [HV2.out, HV3.out]; rfl, Below.refl _ _⟩
        · have t4 : decide ((9 : Int) < (s.size : Int)) = false := decide_eq_false (by omega)
          have HV2 : Hid (R = 0) := HE.out.trans (by rw [if_neg hcond.out, if_neg q4])
          have HV3 : Hid (V = (valF 0 (s.data.toList.take s.size) : Nat)) := (HVV.out.trans (if_pos (by rw [← HR.out, HV2.out]))).trans HNV.out
          have HDG : Hid (∀ j (hj : j < s.size), dig s[j] = true) := fun j hj => HI.out j hj hj
          clear HI
          go_wp2_with fail
          go_loop [6, 5] (fun iv xv => ∃ k n : Nat, k ≤ s.size ∧ iv = .int .i64 (k : Int) ∧ xv = .int .i64 (n : Int) ∧ Hid (n = valF 0 (s.data.toList.take k))) (fun iv _ => s.size - (intOf iv).toNat)
          case atStart => exact ⟨0, 0, Nat.zero_le _, rfl, rfl, by show _ = _; rw [List.take_zero]; rfl⟩
          case round =>
            obtain ⟨k, n, hk, rfl, rfl, HX⟩ := hrel
            have hk0 : (0 : Int) ≤ (k : Int) := by omega
            by_cases hlt : k < s.size
            · have hd3 : decide ((k : Int) < (s.size : Int)) = true := by simp; omega
              have hkl : (k : Int) < (s.size : Int) := by omega
              have hn9 : n < 1000000000 := by
                rw [HX.out]
                exact Nat.lt_of_lt_of_le (HSM.out HDG.out k hk) (Nat.pow_le_pow_right (by decide) (show k ≤ 9 by omega))
              have hdg := HDG.out k hlt
              unfold dig at hdg
              simp at hdg
              have HX2 := Lib.hid (HST.out k hlt)
              rw [← HX.out] at HX2
              obtain ⟨y, hy⟩ : ∃ y, y = s[k].toNat := ⟨_, rfl⟩
              rw [← hy] at HX2
              have hyk : s[k].toNat = y := hy.symm
              have hy1 : 48 ≤ y ∧ y ≤ 57 := by omega
              have w1 : IntKind.u8.wrap ((y : Int) - 48) = (y : Int) - 48 := by rw [IntKind.wrap_u8]; omega
              have w2 : IntKind.i64.wrap (10 * (n : Int)) = 10 * (n : Int) := IntWalk.i64_in _ (by omega)
              have w4 : IntKind.i64.wrap ((y : Int) - 48) = (y : Int) - 48 := IntWalk.i64_in _ (by omega)
              have w3 : IntKind.i64.wrap (10 * (n : Int) + ((y : Int) - 48)) = 10 * (n : Int) + ((y : Int) - 48) := IntWalk.i64_in _ (by omega)
              clear hy hdg
              go_wp2_with fail
              go_round
              case rel => exact ⟨k + 1, n * 10 + (y - 48), hlt, by go_num, by congr 1; omega, HX2.out.symm⟩
              case measure => simp [intOf]; omega
            · obtain rfl : k = s.size := by omega
              have hd3 : decide ((s.size : Int) < (s.size : Int)) = false := by simp
              have HX4 : Hid (V = (n : Int)) := by show _ = _; rw [HV3.out, ← HX.out]
              go_wp2_with fail
              go_ret2
              exact ⟨by rw [HV2.out, HX4.out]; rfl, Below.refl _ _⟩
  · have t3 : decide ((1 : Int) < (s.size : Int)) = false := decide_eq_false (by omega)
    clear hh hld
    go_enter Tryz.func147, Tryz.ntmps147
    go_wp2_with fail
    go_loop [4] (fun iv => ∃ k : Nat, k ≤ s.size ∧ iv = .int .i64 (k : Int) ∧ Hid (∀ j (hj : j < s.size), j < k → dig s[j] = true)) (fun iv => s.size - (intOf iv).toNat)
    case atStart => exact ⟨0, Nat.zero_le _, rfl, fun j _ h => absurd h (Nat.not_lt_zero _)⟩
    case round =>
      obtain ⟨k, hk, rfl, HI⟩ := hrel
      have hk0 : (0 : Int) ≤ (k : Int) := by omega
      by_cases hlt : k < s.size
      · have hd2 : decide ((k : Int) < (s.size : Int)) = true := by simp; omega
        have hkl : (k : Int) < (s.size : Int) := by omega
        by_cases q0 : ((s[k].toNat : Nat) : Int) < 48
        · have t0 : decide (((s[k].toNat : Nat) : Int) < 48) = true := decide_eq_true q0
          have HV2 : Hid (R = 2) := HR.out.trans (HB.out k hlt (by unfold dig; rw [decide_eq_false (by omega)]; rfl))
          have HV3 : Hid (V = 0) := HVV.out.trans (if_neg (by rw [← HR.out, HV2.out]; decide))
          go_wp2_with fail
          go_ret2
          exact ⟨by rw [HV2.out, HV3.out]; rfl, Below.refl _ _⟩
        · have t0 : decide (((s[k].toNat : Nat) : Int) < 48) = false := decide_eq_false q0
          by_cases q1 : 57 < ((s[k].toNat : Nat) : Int)
          · have t1 : decide ((57 : Int) < ((s[k].toNat : Nat) : Int)) = true := decide_eq_true q1
            have HV2 : Hid (R = 2) := HR.out.trans (HB.out k hlt (by unfold dig; rw [decide_eq_false (show ¬ s[k].toNat ≤ 57 by omega), Bool.and_false]))
            have HV3 : Hid (V = 0) := HVV.out.trans (if_neg (by rw [← HR.out, HV2.out]; decide))
            go_wp2_with fail
            go_ret2
            exact ⟨by rw [HV2.out, HV3.out]; rfl, Below.refl _ _⟩
          · have t1 : decide ((57 : Int) < ((s[k].toNat : Nat) : Int)) = false := decide_eq_false q1
            have HI2 : Hid (∀ j (hj : j < s.size), j < k + 1 → dig s[j] = true) := by
              intro j hj hjk
              by_cases e : j = k
              · subst e; unfold dig; rw [decide_eq_true (by omega), decide_eq_true (by omega)]; rfl
              · exact HI.out j hj (by omega)
            clear q0 q1
            go_wp2_with fail
            go_round
            case rel => exact ⟨k + 1, hlt, by go_num, HI2.out⟩
            case measure => simp [intOf]; omega
      · obtain rfl : k = s.size := by omega
        have hd2 : decide ((s.size : Int) < (s.size : Int)) = false := by simp
        have HE := Lib.hid (HR.out.trans (HA.out fun j hj => HI.out j hj hj))
        by_cases q4 : 9 < s.size
        · have t4 : decide ((9 : Int) < (s.size : Int)) = true := decide_eq_true (by omega)
          have HV2 : Hid (R = 4) := HE.out.trans (by rw [if_neg hcond.out, if_pos q4])
          have HV3 : Hid (V = 0) := HVV.out.trans (if_neg (by rw [← HR.out, HV2.out]; decide))
          go_wp2_with fail
          go_ret2
          exact ⟨by rw [HV2.out, HV3.out]; rfl, Below.refl _ _⟩
        · have t4 : decide ((9 : Int) < (s.size : Int)) = false := decide_eq_false (by omega)
          have HV2 : Hid (R = 0) := HE.out.trans (by rw [if_neg hcond.out, if_neg q4])
          have HV3 : Hid (V = (valF 0 (s.data.toList.take s.size) : Nat)) := (HVV.out.trans (if_pos (by rw [← HR.out, HV2.out]))).trans HNV.out
          have HDG : Hid (∀ j (hj : j < s.size), dig s[j] = true) := fun j hj => HI.out j hj hj
          clear HI
          go_wp2_with fail
          go_loop [6, 5] (fun iv xv => ∃ k n : Nat, k ≤ s.size ∧ iv = .int .i64 (k : Int) ∧ xv = .int .i64 (n : Int) ∧ Hid (n = valF 0 (s.data.toList.take k))) (fun iv _ => s.size - (intOf iv).toNat)
          case atStart => exact ⟨0, 0, Nat.zero_le _, rfl, rfl, by show _ = _; rw [List.take_zero]; rfl⟩
          case round =>
            obtain ⟨k, n, hk, rfl, rfl, HX⟩ := hrel
            have hk0 : (0 : Int) ≤ (k : Int) := by omega
            by_cases hlt : k < s.size
            · have hd3 : decide ((k : Int) < (s.size : Int)) = true := by simp; omega
              have hkl : (k : Int) < (s.size : Int) := by omega
              have hn9 : n < 1000000000 := by
                rw [HX.out]
                exact Nat.lt_of_lt_of_le (HSM.out HDG.out k hk) (Nat.pow_le_pow_right (by decide) (show k ≤ 9 by omega))
              have hdg := HDG.out k hlt
              unfold dig at hdg
              simp at hdg
              have HX2 := Lib.hid (HST.out k hlt)
              rw [← HX.out] at HX2
              obtain ⟨y, hy⟩ : ∃ y, y = s[k].toNat := ⟨_, rfl⟩
              rw [← hy] at HX2
              have hyk : s[k].toNat = y := hy.symm
              have hy1 : 48 ≤ y ∧ y ≤ 57 := by omega
              have w1 : IntKind.u8.wrap ((y : Int) - 48) = (y : Int) - 48 := by rw [IntKind.wrap_u8]; omega
              have w2 : IntKind.i64.wrap (10 * (n : Int)) = 10 * (n : Int) := IntWalk.i64_in _ (by omega)
              have w4 : IntKind.i64.wrap ((y : Int) - 48) = (y : Int) - 48 := IntWalk.i64_in _ (by omega)
              have w3 : IntKind.i64.wrap (10 * (n : Int) + ((y : Int) - 48)) = 10 * (n : Int) + ((y : Int) - 48) := IntWalk.i64_in _ (by omega)
              clear hy hdg
              go_wp2_with fail
              go_round
              case rel => exact ⟨k + 1, n * 10 + (y - 48), hlt, by go_num, by congr 1; omega, HX2.out.symm⟩
              case measure => simp [intOf]; omega
            · obtain rfl : k = s.size := by omega
              have hd3 : decide ((s.size : Int) < (s.size : Int)) = false := by simp
              have HX4 : Hid (V = (n : Int)) := by show _ = _; rw [HV3.out, ← HX.out]
              go_wp2_with fail
              go_ret2
              exact ⟨by rw [HV2.out, HX4.out]; rfl, Below.refl _ _⟩
end Go.Proofs.YtjjlhihocllgjaaGreatDoor.Se
