/- Contracts of the reference's Bits and high. Printed by gen_nat7.py. -/
import Derived.Test.YtfopmaeaclbknaaDoorNat6
namespace Go.Proofs.YtfopmaeaclbknaaDoor
open Go.ChangeShapes Go.WideShapes Go.ChangeAt Go.RowKit
set_option linter.unusedVariables false
set_option linter.unusedSimpArgs false
namespace Fr
/-- n is the number of binary digits of N -/
def IsLen (N n : Nat) : Prop := N < 2 ^ n ∧ (n = 0 ∨ 2 ^ (n - 1) ≤ N)
def BitsPost (N m : Nat) (w : World) (e : Ending) (w' : World) : Prop := ∃ n : Nat, e = .returned (.int .i64 (n : Int)) ∧ IsLen N n ∧ n ≤ m ∧ Below w.heap.size w w'
theorem lt_two32 {a : List Nat} (h : Dg a) : nat a < 2 ^ (32 * a.length) := by
  rw [Nat.pow_mul]
  exact nat_lt h
theorem bit_zero {N m : Nat} (h : N < 2 ^ (m + 1)) (hb : N / 2 ^ m % 2 = 0) : N < 2 ^ m := by
  have hp : 0 < 2 ^ m := Nat.pow_pos (by decide)
  have h1 : N / 2 ^ m < 2 := Nat.div_lt_of_lt_mul (by rw [Nat.pow_succ] at h; exact h)
  have h2 : N / 2 ^ m = 0 := by
    generalize N / 2 ^ m = y at *
    omega
  rcases Nat.div_eq_zero_iff.1 h2 with h3 | h3
  · exact absurd h3 (Nat.pos_iff_ne_zero.1 hp)
  · exact h3
theorem bit_one {N m : Nat} (hb : N / 2 ^ m % 2 ≠ 0) : 2 ^ m ≤ N := by
  have hp : 0 < 2 ^ m := Nat.pow_pos (by decide)
  rcases Nat.lt_or_ge N (2 ^ m) with h | h
  · rw [Nat.div_eq_of_lt h] at hb
    exact absurd rfl hb
  · exact h
set_option maxHeartbeats 1000000 in
set_option maxRecDepth 100000 in
theorem bits_any (a : List Nat) (va : Value) (w : World) (hla : a.length ≤ 50000) (hda : Dg a) (ha : NS w va a) : Calls Tryd.prog 97 #[va] w (BitsPost (nat a) (32 * a.length) w) := by
  have CA := Lib.hid (fun i (hi : i ≤ 3000000) w' (k : Below w.heap.size w w') => bit_any a va i w' (by omega) hi hda (Sl.keep ha k))
  have HN := Lib.hid (lt_two32 hda)
  obtain ⟨A1, c1, rfl, _, _, _⟩ := ns_cases ha
  clear ha hda
  go_enter Tryd.func97, Tryd.ntmps97
  go_wp2_with fail
  go_loopw [3] (fun v wr => ∃ n : Nat, n ≤ 32 * a.length ∧ v = .int .i64 (n : Int) ∧ Hid (nat a < 2 ^ n) ∧ Hid (Below w.heap.size w wr)) (fun v _ => (intOf v).toNat)
  case atStart => exact ⟨32 * a.length, Nat.le_refl _, by go_num, HN, Below.refl _ _⟩
  case round =>
    obtain ⟨n, hn, rfl, HL, HB⟩ := hrel
    cases n with
    | zero =>
      go_wp2_with fail
      go_ret
      exact ⟨0, rfl, ⟨HL.out, .inl rfl⟩, by omega, HB.out⟩
    | succ m =>
      have hp0 : decide ((0 : Int) < ((m + 1 : Nat) : Int)) = true := by simp
      have hp1 : decide ((0 : Int) < (m : Int) + 1) = true := decide_eq_true (by omega)
      have hm0 : (0 : Int) ≤ (m : Int) := by omega
      have hm1 : (m : Int) ≤ 3000000 := by omega
      by_cases hz : nat a / 2 ^ m % 2 = 0
      · have HL2 := Lib.hid (bit_zero HL.out hz)
        have CZ := Lib.hid (CA.out m (by omega) _ HB.out)
        rw [hz] at CZ
        clear hz
        go_wp2_with fail
        refine CZ.out.mono ?_
        rintro e w1 ⟨rfl, b1⟩
        have B1 := Lib.hid (chain0 HB.out b1)
        clear b1
        go_wp2_with fail
        go_roundw
        case rel => exact ⟨m, by omega, by go_num, HL2, B1⟩
        case measure => simp [intOf]
      · have HG := Lib.hid (bit_one hz)
        have CZ := Lib.hid (CA.out m (by omega) _ HB.out)
        have qz : (((nat a / 2 ^ m % 2 : Nat) : Int) == 0) = false := beq_eq_false_iff_ne.2 (by omega)
        obtain ⟨z, hzz⟩ : ∃ z, z = nat a / 2 ^ m % 2 := ⟨_, rfl⟩
        rw [← hzz] at CZ qz
        clear hz hzz
        go_wp2_with fail
        refine CZ.out.mono ?_
        rintro e w1 ⟨rfl, b1⟩
        have B1 := Lib.hid (chain0 HB.out b1)
        clear b1
        go_wp2_with fail
        go_ret
        exact ⟨m + 1, rfl, ⟨HL.out, .inr HG.out⟩, by omega, B1.out⟩
theorem high_digit {N k t q r : Nat} (hq : q = k / 32) (hr : r = k % 32) {d0 d1 : Nat} (h0 : d0 = N / B ^ (q + t) % B) (h1 : d1 = N / B ^ (q + t + 1) % B) : (d0 + d1 * B) / 2 ^ r % B = N / 2 ^ k / B ^ t % B := by
  have hr32 : r < 32 := by omega
  have hk : k = 32 * q + r := by omega
  have e1 : d0 + d1 * B = N / B ^ (q + t) % (B * B) := by
    rw [Nat.mod_mul, h0, h1, Nat.pow_succ, ← Nat.div_div_eq_div_mul, Nat.mul_comm B]
  have hBB : B * B = 2 ^ r * (B * 2 ^ (32 - r)) := by
    have hB : B = 2 ^ 32 := rfl
    rw [hB, ← Nat.pow_add, ← Nat.pow_add, ← Nat.pow_add]
    congr 1
    omega
  rw [e1, hBB, Nat.mod_mul_right_div_self, Nat.mod_mul_right_mod]
  congr 1
  have hB : (2 : Nat) ^ 32 = B := rfl
  rw [Nat.div_div_eq_div_mul, Nat.div_div_eq_div_mul, hk, Nat.pow_add 2, Nat.pow_mul 2, hB, Nat.pow_add B, Nat.mul_right_comm]
theorem high_step {M t : Nat} {o : List Nat} (hl : o.length = t) (h : nat o = M % B ^ t) {lo : Nat} (hlo : lo = M / B ^ t % B) : nat (o ++ [lo]) = M % B ^ (t + 1) := by
  rw [nat_append, hl, h, hlo, Nat.mod_pow_succ]
  simp [nat]
theorem high_end {a : List Nat} (ha : Dg a) {k q t : Nat} (hq : q = k / 32) (ht : a.length ≤ q + t) : nat a / 2 ^ k % B ^ t = nat a / 2 ^ k := by
  refine Nat.mod_eq_of_lt (Nat.div_lt_of_lt_mul ?_)
  have h1 := nat_lt_len ha ht
  have h2 : B ^ (q + t) ≤ 2 ^ k * B ^ t := by
    rw [Nat.pow_add]
    refine Nat.mul_le_mul_right _ ?_
    have hB : B = 2 ^ 32 := rfl
    rw [hB, ← Nat.pow_mul]
    exact Nat.pow_le_pow_right (by decide) (by omega)
  exact Nat.lt_of_lt_of_le h1 h2
/-- one place of a number shifted right -/
theorem high_facts {x y p : Nat} (hx : x < B) (hy : y < B) : ∃ m s v lo : Nat, (v = (x + y * B) / p ∧ lo = v % B) ∧ IntKind.u64.wrap ((y : Int) * 4294967296) = ((m : Nat) : Int) ∧ IntKind.u64.wrap ((x : Int) + (m : Int)) = ((s : Nat) : Int) ∧ IntKind.u64.wrap ((s : Int) / (p : Int)) = ((v : Nat) : Int) ∧ IntKind.u32.wrap ((v : Int) % 4294967296) = ((lo : Nat) : Int) ∧ lo < B := by
  have h := mul_lt_BB hy (show B - 1 < B by decide) hx
  have hs : x + y * B < B * B := by
    have : y * B + B ≤ B * B := by rw [← Nat.succ_mul]; exact Nat.mul_le_mul_right _ hy
    omega
  have e : (y : Int) * 4294967296 = ((y * B : Nat) : Int) := by unfold B; omega
  have hb := hs
  rw [BB_eq] at hb
  refine ⟨y * B, x + y * B, (x + y * B) / p, _, ⟨rfl, rfl⟩, ?_, u64_sum hs, u64_div hs rfl, parts.2, parts.1⟩
  rw [e, IntWalk.u64_in _ (by omega)]
set_option maxHeartbeats 2000000 in
set_option maxRecDepth 100000 in
theorem high_any (a : List Nat) (va : Value) (k : Nat) (w : World) (hla : a.length ≤ 50000) (hk : k ≤ 3000000) (hda : Dg a) (ha : NS w va a) : Calls Tryd.prog 98 #[va, .int .i64 (k : Int)] w (NatPost (nat a / 2 ^ k) w) := by
  obtain ⟨i0, hi0, hz0, hz1, hz2⟩ := info_parts u32_info
  have CA := Lib.hid (fun i (hi : i ≤ 100000) w' (k : Below w.heap.size w w') => digit_any a va i w' (by omega) hi hda (Sl.keep ha k))
  have HDA := Lib.hid hda
  obtain ⟨q, hq⟩ : ∃ q, q = k / 32 := ⟨_, rfl⟩
  obtain ⟨r, hr⟩ : ∃ r, r = k % 32 := ⟨_, rfl⟩
  obtain ⟨p, hp⟩ : ∃ p, p = 2 ^ r := ⟨_, rfl⟩
  have HQ := Lib.hid hq
  have HR := Lib.hid hr
  have HP := Lib.hid hp
  have e1 : (k : Int) / 32 = ((q : Nat) : Int) := by omega
  have e2 : (k : Int) % 32 = ((r : Nat) : Int) := by omega
  have e3 := shl_one (show r < 32 by omega) hp
  have hpp := (pow32 (show r < 32 by omega)).1
  rw [← hp] at hpp
  have hp0 : (0 : Int) < (p : Int) := by omega
  have hpn : ((p : Int) == 0) = false := beq_eq_false_iff_ne.2 (by omega)
  have hr1 : (r : Int) < 32 := by omega
  have hr0 : (0 : Int) ≤ (r : Int) := by omega
  have hk0 : (0 : Int) ≤ (k : Int) := by omega
  have hk1 : (k : Int) ≤ 3000000 := by omega
  have hq1 : q ≤ 93750 := by omega
  obtain ⟨A1, c1, rfl, _, _, _⟩ := ns_cases ha
  clear ha hda hq hr hp hpp
  go_enter Tryd.func98, Tryd.ntmps98
  go_wp2_with fail
  go_loopw [6, 5] (fun i v wr => ∃ t : Nat, ∃ o : List Nat, t ≤ a.length ∧ (q + t ≤ a.length ∨ t = 0) ∧ i = .int .i64 ((q + t : Nat) : Int) ∧ Hid (o.length = t ∧ Dg o ∧ nat o = nat a / 2 ^ k % B ^ t) ∧ Hid (wr.ownsRow w.heap.size 92 1 v t (u32s o)) ∧ Hid (Below w.heap.size w wr)) (fun i _ _ => a.length - (intOf i).toNat)
  case atStart => exact ⟨0, [], by omega, .inr rfl, by go_num, ⟨rfl, Dg.nil, by simp [nat, Nat.mod_one]⟩, ⟨rfl, .inl ⟨rfl, rfl⟩⟩, Below.refl _ _⟩
  case round =>
    obtain ⟨t, o, ht, hqt, rfl, HI, HO, HB⟩ := hrel
    obtain ⟨A5, c5, rfl⟩ := own_form HO.out
    obtain ⟨i, hi⟩ : ∃ i, i = q + t := ⟨_, rfl⟩
    rw [← hi]
    rw [← hi] at hqt
    have HII := Lib.hid hi
    have hii0 : (0 : Int) ≤ (i : Int) := by omega
    have hi9 : i ≤ 100000 := by omega
    clear hi
    by_cases hlt : i < a.length
    · have hdec : decide (i < a.length) = true := decide_eq_true hlt
      have hdec2 : decide ((i : Int) < (a.length : Int)) = true := decide_eq_true (by omega)
      have hi1 : (i : Int) ≤ 100000 := by omega
      obtain ⟨m, s, v, lo, hv, f1, f2, f3, f4, p1⟩ := high_facts (p := p) (dg_lt HDA.out i) (dg_lt HDA.out (i + 1))
      have HN : Hid (nat (o ++ [lo]) = nat a / 2 ^ k % B ^ (t + 1)) := high_step HI.out.1 HI.out.2.2 (by
        rw [hv.2, hv.1, HP.out]
        exact high_digit HQ.out HR.out (by rw [dg_div HDA.out, HII.out]) (by rw [dg_div HDA.out, HII.out]))
      have P1 := Lib.hid p1
      have hs0 : (0 : Int) ≤ (s : Int) := by omega
      have hv0 : (0 : Int) ≤ (v : Int) := by omega
      clear hv p1
      go_wp2_with fail
      refine (CA.out i (by omega) _ HB.out).mono ?_
      rintro e w1 ⟨rfl, rfl⟩
      go_wp2_with fail
      refine (CA.out (i + 1) (by omega) _ HB.out).mono ?_
      rintro e w1 ⟨rfl, rfl⟩
      go_wp2_with (at_builtin; refine wpList_append_sl _ rfl (.tmp 25) (.tmp 33) _ rfl (w.heap.size) 92 i0 _ 1 4 Tryd.underlying36 hi0 hz0 hz1 hz2 rfl (by decide) (.slice A5 (t) c5) (t) (u32s o) rfl (own_below HO.out (below_new _ _)) (.slice (some ⟨wr.heap.size, 0, none⟩) 1 1) 1 (u32s [lo]) rfl (ns_new1 wr lo 92) (u32s_one _) (by unfold maxLen; omega) (by omega) (by have := HB.out.size; simp; omega) ?_)
      intro v' w1 hown hgr
      obtain ⟨A6, c6, rfl⟩ := own_form hown
      have HO1 := Lib.hid hown
      have HB1 := Lib.hid ((HB.out.alloc HB.out.size (.cells #[.int .u32 ((lo : Nat) : Int)] 92)).grown hgr (by have := HB.out.size; simp; omega) (fun q hq => own_far HO.out q hq))
      clear hown hgr
      go_wp2_with fail
      go_roundw
      case rel => exact ⟨t + 1, o ++ [lo], by have := HII.out; omega, .inl (by have := HII.out; omega), (by have := HII.out; congr 1; omega), ⟨by simp [HI.out.1], HI.out.2.1.append (Dg.cons P1.out Dg.nil), HN.out⟩, (by rw [u32s_append]; exact HO1.out), HB1.out⟩
      case measure => simp [intOf]; omega
    · have hdec : decide (i < a.length) = false := decide_eq_false hlt
      have hdec2 : decide ((i : Int) < (a.length : Int)) = false := decide_eq_false (by omega)
      have HE := Lib.hid (HI.out.2.2.trans (high_end HDA.out HQ.out (t := t) (by have := HII.out; omega)))
      have CT := Lib.hid (trim_any o _ wr (by rw [HI.out.1]; omega) HI.out.2.1 (ns_own HO.out))
      rw [HE.out] at CT
      go_wp2_with fail
      refine CT.out.mono ?_
      rintro e w1 ⟨v1, rfl, hs1, hb1⟩
      have HS1 := Lib.hid hs1
      have HB1 := Lib.hid (chain0 HB.out hb1)
      obtain ⟨A6, c6, rfl, _⟩ := ns_cases hs1
      clear hs1 hb1
      go_wp2_with fail
      go_ret
      exact ⟨_, rfl, HS1.out, HB1.out⟩
end Fr
end Go.Proofs.YtfopmaeaclbknaaDoor
