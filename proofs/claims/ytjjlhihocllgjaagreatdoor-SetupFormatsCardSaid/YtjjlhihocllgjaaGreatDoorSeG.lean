/- The reference's digits, Number. Printed by gen_seG.py. -/
import Derived.Test.YtjjlhihocllgjaaGreatDoorSe6
namespace Go.Proofs.YtjjlhihocllgjaaGreatDoor.Se
open Go.ChangeShapes Go.WideShapes Go.ChangeAt Go.RowKit Gn Cat Lex Ros
set_option linter.unusedVariables false
set_option linter.unusedSimpArgs false
theorem dec_small {u : Nat} (h : u < 10) : Lib.decDigits u = [UInt8.ofNat (48 + u)] := by rw [Lib.decDigits, dif_pos h]
theorem dec_big {u : Nat} (h : ¬ u < 10) : Lib.decDigits u = Lib.decDigits (u / 10) ++ [UInt8.ofNat (48 + u % 10)] := by
  conv => lhs; rw [Lib.decDigits]
  rw [dif_neg h]
theorem dec_len : ∀ (k u : Nat), u < 10 ^ (k + 1) → (Lib.decDigits u).length ≤ k + 1
  | 0, u, h => by
    rw [Nat.zero_add, Nat.pow_one] at h
    rw [dec_small h]
    exact Nat.le_refl _
  | k + 1, u, h => by
    by_cases h9 : u < 10
    · rw [dec_small h9]; simp
    · rw [dec_big h9, List.length_append]
      have := dec_len k (u / 10) (Nat.div_lt_of_lt_mul (by rw [Nat.pow_succ, Nat.mul_comm] at h; exact h))
      simp only [List.length_cons, List.length_nil]
      omega
abbrev tenB : ByteArray := ⟨#[48, 49, 50, 51, 52, 53, 54, 55, 56, 57]⟩
theorem dig_cut : ∀ d : Fin 10, tenB.extract d.1 (d.1 + 1) = ⟨#[UInt8.ofNat (48 + d.1)]⟩ := by decide
theorem dig_slice {d : Nat} (hd : d < 10) (W : World) : (Instr.slice 9 (.string tenB) (some (.int .u64 (d : Int))) (some (.int .u64 ((d : Int) + 1))) none).run Tryz.prog W = .ok (.string ⟨#[UInt8.ofNat (48 + d)]⟩) W := by
  have h := run_slice_string (P := Tryz.prog) W 9 tenB .u64 .u64 (d : Int) ((d : Int) + 1) (by kernel_rfl) (by omega) (by omega) (by show (d : Int) + 1 ≤ 10; omega)
  have e : tenB.extract (d : Int).toNat ((d : Int) + 1).toNat = ⟨#[UInt8.ofNat (48 + d)]⟩ := by
    rw [show (d : Int).toNat = d by omega, show ((d : Int) + 1).toNat = d + 1 by omega]
    exact dig_cut ⟨d, hd⟩
  rw [e] at h
  exact h
set_option maxHeartbeats 1000000 in
set_option maxRecDepth 100000 in
theorem rdigits_any (n : Nat) : ∀ (w : World), n < 1000000000 → Calls Tryz.prog 107 #[.int .u64 (n : Int)] w fun e w' => e = .returned (.string ⟨(Lib.decDigits n).toArray⟩) ∧ w' = w := by
  induction n using Nat.strongRecOn with
  | ind n ih =>
    intro w hn
    obtain ⟨d, hd⟩ : ∃ d, d = n % 10 := ⟨_, rfl⟩
    have hd9 : d < 10 := by omega
    have er : (n : Int) % 10 = (d : Int) := by omega
    have hsl : ∀ W, (Instr.slice 9 (.string ⟨#[48, 49, 50, 51, 52, 53, 54, 55, 56, 57]⟩) (some (.int .u64 (d : Int))) (some (.int .u64 ((d : Int) + 1))) none).run Tryz.prog W = .ok (.string ⟨#[UInt8.ofNat (48 + d)]⟩) W := fun W => dig_slice hd9 W
    obtain ⟨x, hx⟩ : ∃ x, x = UInt8.ofNat (48 + d) := ⟨_, rfl⟩
    rw [← hx] at hsl
    have HX := Lib.hid hx
    clear hx
    have HD := Lib.hid hd
    have hd1 : (d : Int) ≤ 9 := by omega
    have hd0 : (0 : Int) ≤ (d : Int) := by omega
    have hn1 : (n : Int) < 1000000000 := by omega
    have hn0 : (0 : Int) ≤ (n : Int) := by omega
    have wd1 : IntKind.u64.wrap ((d : Int) + 1) = (d : Int) + 1 := IntWalk.u64_in _ (by omega)
    have tn : ((d : Int) + 1).toNat = d + 1 := by omega
    clear hd
    by_cases h9 : n < 10
    · have t1 : decide ((n : Int) < 10) = true := decide_eq_true (by omega)
      go_enter Tryz.func107, Tryz.ntmps107
      go_wp2_with fail
      go_ret
      exact ⟨by rw [dec_small h9, HX.out, HD.out, Nat.mod_eq_of_lt h9]; rfl, rfl⟩
    · have t1 : decide ((n : Int) < 10) = false := decide_eq_false (by omega)
      obtain ⟨m, hm⟩ : ∃ m, m = n / 10 := ⟨_, rfl⟩
      have HM := Lib.hid hm
      have hq : (n : Int) / 10 = (m : Int) := by omega
      have wq : IntKind.u64.wrap (m : Int) = (m : Int) := IntWalk.u64_in _ (by omega)
      have HI := Lib.hid (ih m (by omega))
      clear ih hm
      go_enter Tryz.func107, Tryz.ntmps107
      go_wp2_with fail
      have hm := HM.out
      refine (HI.out _ (by omega)).mono ?_
      rintro e w1 ⟨rfl, rfl⟩
      have HS : Hid (Lib.decDigits n = Lib.decDigits m ++ [x]) := by show _ = _; rw [dec_big h9, hm, HX.out, HD.out]
      have hsz : (⟨(Lib.decDigits m).toArray⟩ : ByteArray).size ≤ 2000 := by
        have h := dec_len 8 m (by omega)
        show ((Lib.decDigits m).toArray).size ≤ 2000
        rw [List.size_toArray]
        omega
      have had := add_small ⟨(Lib.decDigits m).toArray⟩ ⟨#[x]⟩ (by show _ + 1 ≤ _; omega)
      have HB : Hid ((⟨(Lib.decDigits m).toArray⟩ : ByteArray) ++ ⟨#[x]⟩ = ⟨(Lib.decDigits n).toArray⟩) := by
        show _ = _
        apply ByteArray.ext
        rw [HS.out, ByteArray.data_append]
        simp
      rw [HB.out] at had
      clear hsz hm
      generalize (⟨(Lib.decDigits m).toArray⟩ : ByteArray) = D at *
      go_wp2_with fail
      go_ret
      exact ⟨rfl, rfl⟩
set_option maxRecDepth 100000 in
theorem rnumber_any (v : Int) (w : World) (h : 0 ≤ v ∧ v < 1000000000) : Calls Tryz.prog 52 #[.int .i64 v] w fun e w' => e = .returned (.string (decS v)) ∧ w' = w := by
  obtain ⟨n, rfl⟩ : ∃ n : Nat, v = (n : Int) := ⟨v.toNat, by omega⟩
  have CD := Lib.hid (rdigits_any n w (by omega))
  have hn0 : (0 : Int) ≤ (n : Int) := by omega
  have t1 : decide ((n : Int) < 0) = false := decide_eq_false (by omega)
  have wn : IntKind.u64.wrap (n : Int) = (n : Int) := IntWalk.u64_in _ (by omega)
  have e := decS_pos n
  rw [← e] at CD
  clear e h
  go_enter Tryz.func52, Tryz.ntmps52
  go_wp2_with fail
  refine CD.out.mono ?_
  rintro e w1 ⟨rfl, rfl⟩
  go_wp2_with fail
  go_ret
  exact ⟨rfl, rfl⟩

end Go.Proofs.YtjjlhihocllgjaaGreatDoor.Se
