/- Contract of the reference's DivMod. Printed by gen_nat8.py. -/
import Derived.Test.YthehchdonmmpaaaGreatDoorPs03
import Derived.Test.YthehchdonmmpaaaGreatDoorPs04
namespace Go.Proofs.YthehchdonmmpaaaGreatDoor
open Go.ChangeShapes Go.WideShapes Go.ChangeAt Go.RowKit
set_option linter.unusedVariables false
set_option linter.unusedSimpArgs false
namespace Fr
theorem IsLen.pos {N n : Nat} (h : IsLen N n) (hN : N ≠ 0) : 1 ≤ n := by
  rcases Nat.eq_zero_or_pos n with rfl | h1
  · have := h.1
    simp at this
    omega
  · exact h1
/-- so far shifted, a number is below the divisor -/
theorem shifted_lt {N D na nb : Nat} (ha : IsLen N na) (hb : IsLen D nb) (hD : D ≠ 0) : N / 2 ^ (na + 1 - nb) < D := by
  have h1 := hb.pos hD
  have h2 : 2 ^ (nb - 1) ≤ D := by
    rcases hb.2 with h | h
    · omega
    · exact h
  refine Nat.lt_of_lt_of_le (Nat.div_lt_of_lt_mul ?_) h2
  rw [← Nat.pow_add]
  exact Nat.lt_of_lt_of_le ha.1 (Nat.pow_le_pow_right (by decide) (by omega))
theorem shift_bit (N j : Nat) : N / 2 ^ j = N / 2 ^ (j + 1) + N / 2 ^ (j + 1) + N / 2 ^ j % 2 := by
  have h1 : N / 2 ^ (j + 1) = N / 2 ^ j / 2 := by rw [Nat.pow_succ, Nat.div_div_eq_div_mul]
  rw [h1]
  omega
/-- one step of the division -/
theorem div_step {M D b : Nat} (hD : 0 < D) (hb : b < 2) : (D ≤ M % D + M % D + b → (M + M + b) / D = M / D + M / D + 1 ∧ (M + M + b) % D = M % D + M % D + b - D) ∧ (M % D + M % D + b < D → (M + M + b) / D = M / D + M / D ∧ (M + M + b) % D = M % D + M % D + b) := by
  have h0 := Nat.mod_lt M hD
  have h1 := Nat.mod_add_div M D
  generalize hq : M / D = q at *
  generalize hr : M % D = r at *
  have e : M + M + b = r + r + b + D * (q + q) := by rw [Nat.mul_add]; omega
  refine ⟨fun h => ?_, fun h => ?_⟩
  · have e2 : M + M + b = (r + r + b - D) + D * (q + q + 1) := by rw [e, Nat.mul_add D (q + q) 1]; omega
    rw [e2, Nat.add_mul_div_left _ _ hD, Nat.add_mul_mod_self_left, Nat.div_eq_of_lt (by omega), Nat.mod_eq_of_lt (by omega)]
    exact ⟨by omega, rfl⟩
  · rw [e, Nat.add_mul_div_left _ _ hD, Nat.add_mul_mod_self_left, Nat.div_eq_of_lt (by omega), Nat.mod_eq_of_lt (by omega)]
    exact ⟨by omega, rfl⟩
def DivPost (N D : Nat) (w : World) (e : Ending) (w' : World) : Prop := ∃ vq vr, e = .returned (.tuple #[vq, vr, .int .i64 0]) ∧ NS w' vq (digs (N / D)) ∧ NS w' vr (digs (N % D)) ∧ Below w.heap.size w w'
theorem B_two' : 2 < B := by decide
theorem digs_add_len {x y m : Nat} (hx : (digs x).length ≤ m) (hy : (digs y).length ≤ m) : (digs (x + y)).length ≤ m + 1 := by
  have h1 := Nat.lt_of_lt_of_le (lt_digs_len x) (Nat.pow_le_pow_right B_pos hx)
  have h2 := Nat.lt_of_lt_of_le (lt_digs_len y) (Nat.pow_le_pow_right B_pos hy)
  refine digs_len_le ?_
  have h3 : 2 * B ^ m ≤ B ^ (m + 1) := by rw [Nat.pow_succ, Nat.mul_comm]; exact Nat.mul_le_mul_left _ (by decide)
  omega
theorem cmp_ge {x y : Nat} (h : y ≤ x) : 0 ≤ cmp x y := by unfold cmp; rw [if_neg (by omega)]; split <;> decide
set_option maxHeartbeats 4000000 in
set_option maxRecDepth 100000 in
theorem rdiv_any (a b : List Nat) (va vb : Value) (w : World) (hla : a.length ≤ 10000) (hlb : b.length ≤ 10000) (hda : Dg a) (hdb : Dg b) (hb0 : nat b ≠ 0) (ha : NS w va a) (hb : NS w vb b) : Calls Tryz.prog 48 #[va, vb] w (DivPost (nat a) (nat b) w) := by
  have C1 := Lib.hid (fun w' (k : Below w.heap.size w w') => bits_any a va w' (by omega) hda (Sl.keep ha k))
  have C2 := Lib.hid (fun w' (k : Below w.heap.size w w') => bits_any b vb w' (by omega) hdb (Sl.keep hb k))
  have C3 := Lib.hid (fun i (hi : i ≤ 3000000) w' (k : Below w.heap.size w w') => high_any a va i w' (by omega) hi hda (Sl.keep ha k))
  have C4 := Lib.hid (fun i (hi : i ≤ 3000000) w' (k : Below w.heap.size w w') => bit_any a va i w' (by omega) hi hda (Sl.keep ha k))
  have HDA := Lib.hid hda
  have HDB := Lib.hid hdb
  have HB0 := Lib.hid hb0
  have HLA := Lib.hid (nat_lt hda)
  have HLB := Lib.hid (nat_lt hdb)
  have HKB := Lib.hid (fun w' (k : Below w.heap.size w w') => Sl.keep hb k)
  have hbl : 0 < b.length := by
    rcases Nat.eq_zero_or_pos b.length with h | h
    · exact absurd (by rw [List.eq_nil_of_length_eq_zero h]; rfl) hb0
    · exact h
  obtain ⟨A1, c1, rfl, _, _, _⟩ := ns_cases ha
  obtain ⟨A2, c2, rfl, _, _, _⟩ := ns_cases hb
  have HKB2 : Hid (∀ w', Below w.heap.size w w' → NS w' (.slice A2 b.length c2) b) := HKB.out
  have hbz : ((b.length : Int) == 0) = false := beq_eq_false_iff_ne.2 (by omega)
  clear ha hb hda hdb hb0 HKB
  go_enter Tryz.func48, Tryz.ntmps48
  go_wp2_with fail
  refine (C1.out _ (Below.refl _ _)).mono ?_
  rintro e w1 ⟨na, rfl, hna, hna2, b1⟩
  have HNA := Lib.hid hna
  have B1 := Lib.hid b1
  have hna0 : (0 : Int) ≤ (na : Int) := by omega
  have hna3 : (na : Int) ≤ 3000000 := by omega
  clear b1 hna
  go_wp2_with fail
  refine (C2.out _ B1.out).mono ?_
  rintro e w2 ⟨nb, rfl, hnb, hnb2, b2⟩
  have HNB := Lib.hid hnb
  have hnb1 := hnb.pos HB0.out
  have B2 := Lib.hid (chain0 B1.out b2)
  have hnb0 : (0 : Int) ≤ (nb : Int) := by omega
  have hnb3 : (nb : Int) ≤ 3000000 := by omega
  clear b2 hnb
  have HSL := Lib.hid (shifted_lt HNA.out HNB.out HB0.out)
  by_cases hkk : nb < na + 1
  · obtain ⟨k, hk⟩ : ∃ k, k = na + 1 - nb := ⟨_, rfl⟩
    rw [← hk] at HSL
    have HLT := HSL
    by_cases h1 : 1 < nb
    · have h1i : (1 : Int) < (nb : Int) := by omega
      have h2i : (0 : Int) < (na : Int) - (nb : Int) + 1 := by omega
      have e2 : (na : Int) - (nb : Int) + 1 = ((k : Nat) : Int) := by omega
      have E2 := Lib.hid e2
      have hk0 : (0 : Int) ≤ (k : Int) := by omega
      have hk3 : (k : Int) ≤ 3000000 := by omega
      have hk9 : k ≤ 3000000 := by omega
      clear e2 hk
      go_wp2_with fail
      rw [E2.out]
      refine (C3.out k (by omega) _ B2.out).mono ?_
      rintro e w3 ⟨v3, rfl, s3, b3⟩
      have S3 : Hid (NS w3 v3 (digs (nat a / 2 ^ k % nat b))) := by
        show NS w3 v3 _
        rw [Nat.mod_eq_of_lt HLT.out]
        exact s3
      have HQ0 : Hid (NS w3 (.slice none 0 0) (digs (nat a / 2 ^ k / nat b))) := by
        show NS w3 _ _
        rw [Nat.div_eq_of_lt HLT.out]
        exact Sl.nil _ _
      have B3 := Lib.hid (chain0 B2.out b3)
      obtain ⟨A3, c3, rfl, _⟩ := ns_cases s3
      clear s3 b3
      go_wp2_with fail
      go_loopw [8, 9, 10] (fun q r i wr => ∃ j : Nat, j ≤ k ∧ i = .int .i64 ((j : Int) - 1) ∧ Hid (NS wr q (digs (nat a / 2 ^ j / nat b))) ∧ Hid (NS wr r (digs (nat a / 2 ^ j % nat b))) ∧ Hid (Below w.heap.size w wr)) (fun _ _ i _ => (intOf i + 1).toNat)
      case atStart => exact ⟨k, Nat.le_refl _, by go_num, HQ0, S3, B3⟩
      case round =>
        obtain ⟨j, hj, rfl, HQ, HR, HB⟩ := hrel
        obtain ⟨A5, c5, rfl, _⟩ := ns_cases HQ.out
        obtain ⟨A6, c6, rfl, _⟩ := ns_cases HR.out
        cases j with
        | zero =>
          go_wp2_with fail
          go_ret3
          refine ⟨.slice A5 (digs (nat a / 2 ^ 0 / nat b)).length c5, .slice A6 (digs (nat a / 2 ^ 0 % nat b)).length c6, rfl, ?_, ?_, HB.out⟩
          · have h := HQ.out
            simpa only [Nat.pow_zero, Nat.div_one] using h
          · have h := HR.out
            simpa only [Nat.pow_zero, Nat.div_one] using h
        | succ m =>
          rw [show (((m + 1 : Nat) : Int) - 1) = (m : Int) by omega]
          have hm0 : (0 : Int) ≤ (m : Int) := by omega
          have hm1 : (m : Int) ≤ 3000000 := by omega
          have hdec : decide ((0 : Int) ≤ (m : Int)) = true := decide_eq_true hm0
          obtain ⟨β, hβ⟩ : ∃ β, β = nat a / 2 ^ m % 2 := ⟨_, rfl⟩
          have hβ2 : β < 2 := by rw [hβ]; exact Nat.mod_lt _ (by decide)
          have CB : Hid (∀ w', Below w.heap.size w w' → Calls Tryz.prog 78 #[.slice A1 a.length c1, .int .i64 (m : Int)] w' fun e w2 => e = .returned (.int .u64 (β : Int)) ∧ Below w'.heap.size w' w2) := fun w' h => by rw [hβ]; exact C4.out m (by omega) w' h
          have HS := Lib.hid (shift_bit (nat a) m)
          rw [← hβ] at HS
          have HMl : Hid (nat a / 2 ^ (m + 1) ≤ nat a) := Nat.div_le_self _ _
          obtain ⟨M, hM⟩ : ∃ M, M = nat a / 2 ^ (m + 1) := ⟨_, rfl⟩
          rw [← hM] at HQ HR HS HMl
          rw [← hM]
          have HLq : Hid ((digs (M / nat b)).length ≤ 10000) := Nat.le_trans (digs_len_le (Nat.lt_of_le_of_lt (Nat.le_trans (Nat.div_le_self _ _) HMl.out) HLA.out)) hla
          have HLr : Hid ((digs (M % nat b)).length ≤ 10000) := Nat.le_trans (digs_len_le (Nat.lt_trans (Nat.mod_lt _ (Nat.pos_of_ne_zero HB0.out)) HLB.out)) hlb
          have HLr2 : Hid ((digs (M % nat b + M % nat b)).length ≤ 10001) := digs_add_len HLr.out HLr.out
          have HLq2 : Hid ((digs (M / nat b + M / nat b)).length ≤ 10001) := digs_add_len HLq.out HLq.out
          have HLb : Hid ((digs β).length ≤ 1) := digs_len_le (by rw [Nat.pow_one]; exact Nat.lt_trans hβ2 B_two') 
          have HDS := Lib.hid (div_step (M := M) (Nat.pos_of_ne_zero HB0.out) hβ2)
          have HBB : Hid (β < B * B) := Nat.lt_trans hβ2 (by decide)
          clear hβ hβ2 hM
          go_wp2_with fail
          refine (radd_any _ _ _ _ wr (by have := HLq.out; omega) (by have := HLq.out; omega) (Dg.digs _) (Dg.digs _) HQ.out HQ.out).mono ?_
          rintro e x1 ⟨v1, rfl, s1, d1⟩
          rw [nat_digs] at s1
          have S1 := Lib.hid s1
          obtain ⟨A1x, c1x, rfl, _⟩ := ns_cases s1
          clear s1
          have D1 := Lib.hid (chain0 HB.out d1)
          have R1 := Lib.hid (Sl.keep HR.out d1)
          clear d1
          go_wp2_with fail
          refine (radd_any _ _ _ _ x1 (by have := HLr.out; omega) (by have := HLr.out; omega) (Dg.digs _) (Dg.digs _) R1.out R1.out).mono ?_
          rintro e x2 ⟨v2, rfl, s2, d2⟩
          rw [nat_digs] at s2
          have S2 := Lib.hid s2
          obtain ⟨A2x, c2x, rfl, _⟩ := ns_cases s2
          clear s2
          have D2 := Lib.hid (chain0 D1.out d2)
          have Q2 := Lib.hid (Sl.keep S1.out d2)
          clear d2
          go_wp2_with fail
          refine (CB.out _ D2.out).mono ?_
          rintro e x3 ⟨rfl, d3⟩
          have D3 := Lib.hid (chain0 D2.out d3)
          have Q3 := Lib.hid (Sl.keep Q2.out d3)
          have R3 := Lib.hid (Sl.keep S2.out d3)
          clear d3
          go_wp2_with fail
          refine (fromUint_any β x3 HBB.out).mono ?_
          rintro e x4 ⟨v4, rfl, s4, d4⟩
          have S4 := Lib.hid s4
          obtain ⟨A4x, c4x, rfl, _⟩ := ns_cases s4
          clear s4
          have D4 := Lib.hid (chain0 D3.out d4)
          have Q4 := Lib.hid (Sl.keep Q3.out d4)
          have R4 := Lib.hid (Sl.keep R3.out d4)
          clear d4
          go_wp2_with fail
          refine (radd_any _ _ _ _ x4 (by have := HLr2.out; omega) (by have := HLb.out; omega) (Dg.digs _) (Dg.digs _) R4.out S4.out).mono ?_
          rintro e x5 ⟨v5, rfl, s5, d5⟩
          rw [nat_digs, nat_digs] at s5
          have S5 := Lib.hid s5
          obtain ⟨A5x, c5x, rfl, _⟩ := ns_cases s5
          clear s5
          have D5 := Lib.hid (chain0 D4.out d5)
          have Q5 := Lib.hid (Sl.keep Q4.out d5)
          clear d5
          have HLr5 : Hid ((digs (M % nat b + M % nat b + β)).length ≤ 10002) := digs_add_len HLr2.out (Nat.le_trans HLb.out (by decide))
          have HBN := Lib.hid (HKB2.out _ D5.out)
          by_cases hge : nat b ≤ M % nat b + M % nat b + β
          · obtain ⟨hd1, hd2⟩ := HDS.out.1 hge
            have HD1 := Lib.hid hd1
            have HD2 := Lib.hid hd2
            obtain ⟨cv, CC, hcv⟩ : ∃ cv : Int, Hid (Calls Tryz.prog 79 #[.slice A5x (digs (M % nat b + M % nat b + β)).length c5x, .slice A2 b.length c2] x5 fun e w' => e = .returned (.int .i64 cv) ∧ x5 = w') ∧ 0 ≤ cv := by
              have h := rcmp_any _ _ _ _ x5 (by have := HLr5.out; omega) (by omega) (Dg.digs _) HDB.out S5.out HBN.out
              rw [nat_digs] at h
              exact ⟨_, h, cmp_ge hge⟩
            have hcd : decide ((0 : Int) ≤ cv) = true := decide_eq_true hcv
            have CS := Lib.hid (rsub_yes _ _ _ _ x5 (by have := HLr5.out; omega) (by omega) (Dg.digs _) HDB.out S5.out HBN.out (by rw [nat_digs]; exact hge))
            rw [nat_digs] at CS
            clear hge hd1 hd2
            go_wp2_with fail
            refine CC.out.mono ?_
            rintro e x6 ⟨rfl, rfl⟩
            go_wp2_with fail
            refine (CS.out).mono ?_
            rintro e x7 ⟨v7, rfl, s7, d7⟩
            have S7 := Lib.hid s7
            obtain ⟨A7x, c7x, rfl, _⟩ := ns_cases s7
            clear s7
            have D7 := Lib.hid (chain0 D5.out d7)
            have Q7 := Lib.hid (Sl.keep Q5.out d7)
            clear d7
            go_wp2_with fail
            refine (fromUint_any 1 x7 (by decide)).mono ?_
            rintro e x8 ⟨v8, rfl, s8, d8⟩
            have S8 := Lib.hid s8
            obtain ⟨A8x, c8x, rfl, _⟩ := ns_cases s8
            clear s8
            have D8 := Lib.hid (chain0 D7.out d8)
            have Q8 := Lib.hid (Sl.keep Q7.out d8)
            have R8 := Lib.hid (Sl.keep S7.out d8)
            clear d8
            go_wp2_with fail
            refine (radd_any _ _ _ _ x8 (by have := HLq2.out; omega) (by decide) (Dg.digs _) (Dg.digs _) Q8.out S8.out).mono ?_
            rintro e x9 ⟨v9, rfl, s9, d9⟩
            rw [nat_digs, nat_digs] at s9
            have S9 := Lib.hid s9
            obtain ⟨A9x, c9x, rfl, _⟩ := ns_cases s9
            clear s9
            have D9 := Lib.hid (chain0 D8.out d9)
            have R9 := Lib.hid (Sl.keep R8.out d9)
            clear d9
            go_wp2_with fail
            go_roundw
            case rel => exact ⟨m, by omega, by go_num, (by show NS _ _ _; rw [HS.out, HD1.out]; exact S9.out), (by show NS _ _ _; rw [HS.out, HD2.out]; exact R9.out), D9⟩
            case measure => simp [intOf]
          · obtain ⟨hd1, hd2⟩ := HDS.out.2 (by omega)
            have HD1 := Lib.hid hd1
            have HD2 := Lib.hid hd2
            have CC : Hid (Calls Tryz.prog 79 #[.slice A5x (digs (M % nat b + M % nat b + β)).length c5x, .slice A2 b.length c2] x5 fun e w' => e = .returned (.int .i64 (-1)) ∧ x5 = w') := by
              have h := rcmp_any _ _ _ _ x5 (by have := HLr5.out; omega) (by omega) (Dg.digs _) HDB.out S5.out HBN.out
              rw [nat_digs, cmp_lt (by omega)] at h
              exact h
            clear hge hd1 hd2
            go_wp2_with fail
            refine CC.out.mono ?_
            rintro e x6 ⟨rfl, rfl⟩
            go_wp2_with fail
            go_roundw
            case rel => exact ⟨m, by omega, by go_num, (by show NS _ _ _; rw [HS.out, HD1.out]; exact Q5.out), (by show NS _ _ _; rw [HS.out, HD2.out]; exact S5.out), D5⟩
            case measure => simp [intOf]
    · obtain rfl : nb = 1 := by omega
      have h2i : (0 : Int) < (na : Int) := by omega
      obtain rfl : k = na := by omega
      have hk9 : k ≤ 3000000 := by omega
      clear hk
      go_wp2_with fail
      refine (C3.out k (by omega) _ B2.out).mono ?_
      rintro e w3 ⟨v3, rfl, s3, b3⟩
      have S3 : Hid (NS w3 v3 (digs (nat a / 2 ^ k % nat b))) := by
        show NS w3 v3 _
        rw [Nat.mod_eq_of_lt HLT.out]
        exact s3
      have HQ0 : Hid (NS w3 (.slice none 0 0) (digs (nat a / 2 ^ k / nat b))) := by
        show NS w3 _ _
        rw [Nat.div_eq_of_lt HLT.out]
        exact Sl.nil _ _
      have B3 := Lib.hid (chain0 B2.out b3)
      obtain ⟨A3, c3, rfl, _⟩ := ns_cases s3
      clear s3 b3
      go_wp2_with fail
      go_loopw [8, 9, 10] (fun q r i wr => ∃ j : Nat, j ≤ k ∧ i = .int .i64 ((j : Int) - 1) ∧ Hid (NS wr q (digs (nat a / 2 ^ j / nat b))) ∧ Hid (NS wr r (digs (nat a / 2 ^ j % nat b))) ∧ Hid (Below w.heap.size w wr)) (fun _ _ i _ => (intOf i + 1).toNat)
      case atStart => exact ⟨k, Nat.le_refl _, by go_num, HQ0, S3, B3⟩
      case round =>
        obtain ⟨j, hj, rfl, HQ, HR, HB⟩ := hrel
        obtain ⟨A5, c5, rfl, _⟩ := ns_cases HQ.out
        obtain ⟨A6, c6, rfl, _⟩ := ns_cases HR.out
        cases j with
        | zero =>
          go_wp2_with fail
          go_ret3
          refine ⟨.slice A5 (digs (nat a / 2 ^ 0 / nat b)).length c5, .slice A6 (digs (nat a / 2 ^ 0 % nat b)).length c6, rfl, ?_, ?_, HB.out⟩
          · have h := HQ.out
            simpa only [Nat.pow_zero, Nat.div_one] using h
          · have h := HR.out
            simpa only [Nat.pow_zero, Nat.div_one] using h
        | succ m =>
          rw [show (((m + 1 : Nat) : Int) - 1) = (m : Int) by omega]
          have hm0 : (0 : Int) ≤ (m : Int) := by omega
          have hm1 : (m : Int) ≤ 3000000 := by omega
          have hdec : decide ((0 : Int) ≤ (m : Int)) = true := decide_eq_true hm0
          obtain ⟨β, hβ⟩ : ∃ β, β = nat a / 2 ^ m % 2 := ⟨_, rfl⟩
          have hβ2 : β < 2 := by rw [hβ]; exact Nat.mod_lt _ (by decide)
          have CB : Hid (∀ w', Below w.heap.size w w' → Calls Tryz.prog 78 #[.slice A1 a.length c1, .int .i64 (m : Int)] w' fun e w2 => e = .returned (.int .u64 (β : Int)) ∧ Below w'.heap.size w' w2) := fun w' h => by rw [hβ]; exact C4.out m (by omega) w' h
          have HS := Lib.hid (shift_bit (nat a) m)
          rw [← hβ] at HS
          have HMl : Hid (nat a / 2 ^ (m + 1) ≤ nat a) := Nat.div_le_self _ _
          obtain ⟨M, hM⟩ : ∃ M, M = nat a / 2 ^ (m + 1) := ⟨_, rfl⟩
          rw [← hM] at HQ HR HS HMl
          rw [← hM]
          have HLq : Hid ((digs (M / nat b)).length ≤ 10000) := Nat.le_trans (digs_len_le (Nat.lt_of_le_of_lt (Nat.le_trans (Nat.div_le_self _ _) HMl.out) HLA.out)) hla
          have HLr : Hid ((digs (M % nat b)).length ≤ 10000) := Nat.le_trans (digs_len_le (Nat.lt_trans (Nat.mod_lt _ (Nat.pos_of_ne_zero HB0.out)) HLB.out)) hlb
          have HLr2 : Hid ((digs (M % nat b + M % nat b)).length ≤ 10001) := digs_add_len HLr.out HLr.out
          have HLq2 : Hid ((digs (M / nat b + M / nat b)).length ≤ 10001) := digs_add_len HLq.out HLq.out
          have HLb : Hid ((digs β).length ≤ 1) := digs_len_le (by rw [Nat.pow_one]; exact Nat.lt_trans hβ2 B_two') 
          have HDS := Lib.hid (div_step (M := M) (Nat.pos_of_ne_zero HB0.out) hβ2)
          have HBB : Hid (β < B * B) := Nat.lt_trans hβ2 (by decide)
          clear hβ hβ2 hM
          go_wp2_with fail
          refine (radd_any _ _ _ _ wr (by have := HLq.out; omega) (by have := HLq.out; omega) (Dg.digs _) (Dg.digs _) HQ.out HQ.out).mono ?_
          rintro e x1 ⟨v1, rfl, s1, d1⟩
          rw [nat_digs] at s1
          have S1 := Lib.hid s1
          obtain ⟨A1x, c1x, rfl, _⟩ := ns_cases s1
          clear s1
          have D1 := Lib.hid (chain0 HB.out d1)
          have R1 := Lib.hid (Sl.keep HR.out d1)
          clear d1
          go_wp2_with fail
          refine (radd_any _ _ _ _ x1 (by have := HLr.out; omega) (by have := HLr.out; omega) (Dg.digs _) (Dg.digs _) R1.out R1.out).mono ?_
          rintro e x2 ⟨v2, rfl, s2, d2⟩
          rw [nat_digs] at s2
          have S2 := Lib.hid s2
          obtain ⟨A2x, c2x, rfl, _⟩ := ns_cases s2
          clear s2
          have D2 := Lib.hid (chain0 D1.out d2)
          have Q2 := Lib.hid (Sl.keep S1.out d2)
          clear d2
          go_wp2_with fail
          refine (CB.out _ D2.out).mono ?_
          rintro e x3 ⟨rfl, d3⟩
          have D3 := Lib.hid (chain0 D2.out d3)
          have Q3 := Lib.hid (Sl.keep Q2.out d3)
          have R3 := Lib.hid (Sl.keep S2.out d3)
          clear d3
          go_wp2_with fail
          refine (fromUint_any β x3 HBB.out).mono ?_
          rintro e x4 ⟨v4, rfl, s4, d4⟩
          have S4 := Lib.hid s4
          obtain ⟨A4x, c4x, rfl, _⟩ := ns_cases s4
          clear s4
          have D4 := Lib.hid (chain0 D3.out d4)
          have Q4 := Lib.hid (Sl.keep Q3.out d4)
          have R4 := Lib.hid (Sl.keep R3.out d4)
          clear d4
          go_wp2_with fail
          refine (radd_any _ _ _ _ x4 (by have := HLr2.out; omega) (by have := HLb.out; omega) (Dg.digs _) (Dg.digs _) R4.out S4.out).mono ?_
          rintro e x5 ⟨v5, rfl, s5, d5⟩
          rw [nat_digs, nat_digs] at s5
          have S5 := Lib.hid s5
          obtain ⟨A5x, c5x, rfl, _⟩ := ns_cases s5
          clear s5
          have D5 := Lib.hid (chain0 D4.out d5)
          have Q5 := Lib.hid (Sl.keep Q4.out d5)
          clear d5
          have HLr5 : Hid ((digs (M % nat b + M % nat b + β)).length ≤ 10002) := digs_add_len HLr2.out (Nat.le_trans HLb.out (by decide))
          have HBN := Lib.hid (HKB2.out _ D5.out)
          by_cases hge : nat b ≤ M % nat b + M % nat b + β
          · obtain ⟨hd1, hd2⟩ := HDS.out.1 hge
            have HD1 := Lib.hid hd1
            have HD2 := Lib.hid hd2
            obtain ⟨cv, CC, hcv⟩ : ∃ cv : Int, Hid (Calls Tryz.prog 79 #[.slice A5x (digs (M % nat b + M % nat b + β)).length c5x, .slice A2 b.length c2] x5 fun e w' => e = .returned (.int .i64 cv) ∧ x5 = w') ∧ 0 ≤ cv := by
              have h := rcmp_any _ _ _ _ x5 (by have := HLr5.out; omega) (by omega) (Dg.digs _) HDB.out S5.out HBN.out
              rw [nat_digs] at h
              exact ⟨_, h, cmp_ge hge⟩
            have hcd : decide ((0 : Int) ≤ cv) = true := decide_eq_true hcv
            have CS := Lib.hid (rsub_yes _ _ _ _ x5 (by have := HLr5.out; omega) (by omega) (Dg.digs _) HDB.out S5.out HBN.out (by rw [nat_digs]; exact hge))
            rw [nat_digs] at CS
            clear hge hd1 hd2
            go_wp2_with fail
            refine CC.out.mono ?_
            rintro e x6 ⟨rfl, rfl⟩
            go_wp2_with fail
            refine (CS.out).mono ?_
            rintro e x7 ⟨v7, rfl, s7, d7⟩
            have S7 := Lib.hid s7
            obtain ⟨A7x, c7x, rfl, _⟩ := ns_cases s7
            clear s7
            have D7 := Lib.hid (chain0 D5.out d7)
            have Q7 := Lib.hid (Sl.keep Q5.out d7)
            clear d7
            go_wp2_with fail
            refine (fromUint_any 1 x7 (by decide)).mono ?_
            rintro e x8 ⟨v8, rfl, s8, d8⟩
            have S8 := Lib.hid s8
            obtain ⟨A8x, c8x, rfl, _⟩ := ns_cases s8
            clear s8
            have D8 := Lib.hid (chain0 D7.out d8)
            have Q8 := Lib.hid (Sl.keep Q7.out d8)
            have R8 := Lib.hid (Sl.keep S7.out d8)
            clear d8
            go_wp2_with fail
            refine (radd_any _ _ _ _ x8 (by have := HLq2.out; omega) (by decide) (Dg.digs _) (Dg.digs _) Q8.out S8.out).mono ?_
            rintro e x9 ⟨v9, rfl, s9, d9⟩
            rw [nat_digs, nat_digs] at s9
            have S9 := Lib.hid s9
            obtain ⟨A9x, c9x, rfl, _⟩ := ns_cases s9
            clear s9
            have D9 := Lib.hid (chain0 D8.out d9)
            have R9 := Lib.hid (Sl.keep R8.out d9)
            clear d9
            go_wp2_with fail
            go_roundw
            case rel => exact ⟨m, by omega, by go_num, (by show NS _ _ _; rw [HS.out, HD1.out]; exact S9.out), (by show NS _ _ _; rw [HS.out, HD2.out]; exact R9.out), D9⟩
            case measure => simp [intOf]
          · obtain ⟨hd1, hd2⟩ := HDS.out.2 (by omega)
            have HD1 := Lib.hid hd1
            have HD2 := Lib.hid hd2
            have CC : Hid (Calls Tryz.prog 79 #[.slice A5x (digs (M % nat b + M % nat b + β)).length c5x, .slice A2 b.length c2] x5 fun e w' => e = .returned (.int .i64 (-1)) ∧ x5 = w') := by
              have h := rcmp_any _ _ _ _ x5 (by have := HLr5.out; omega) (by omega) (Dg.digs _) HDB.out S5.out HBN.out
              rw [nat_digs, cmp_lt (by omega)] at h
              exact h
            clear hge hd1 hd2
            go_wp2_with fail
            refine CC.out.mono ?_
            rintro e x6 ⟨rfl, rfl⟩
            go_wp2_with fail
            go_roundw
            case rel => exact ⟨m, by omega, by go_num, (by show NS _ _ _; rw [HS.out, HD1.out]; exact Q5.out), (by show NS _ _ _; rw [HS.out, HD2.out]; exact S5.out), D5⟩
            case measure => simp [intOf]
  · have hk0 : na + 1 - nb = 0 := by omega
    rw [hk0] at HSL
    have HLT := HSL
    clear hk0
    by_cases h1 : 1 < nb
    · have h1i : (1 : Int) < (nb : Int) := by omega
      have h2i : ¬ (0 : Int) < (na : Int) - (nb : Int) + 1 := by omega
      go_wp2_with fail
      refine (C3.out 0 (by omega) _ B2.out).mono ?_
      rintro e w3 ⟨v3, rfl, s3, b3⟩
      rw [Nat.pow_zero, Nat.div_one] at s3
      have S3 : Hid (NS w3 v3 (digs (nat a / 2 ^ 0 % nat b))) := by
        show NS w3 v3 _
        rw [Nat.mod_eq_of_lt HLT.out, Nat.pow_zero, Nat.div_one]
        exact s3
      have HQ0 : Hid (NS w3 (.slice none 0 0) (digs (nat a / 2 ^ 0 / nat b))) := by
        show NS w3 _ _
        rw [Nat.div_eq_of_lt HLT.out]
        exact Sl.nil _ _
      have B3 := Lib.hid (chain0 B2.out b3)
      obtain ⟨A3, c3, rfl, _⟩ := ns_cases s3
      clear s3 b3
      go_wp2_with fail
      go_loopw [8, 9, 10] (fun q r i wr => ∃ j : Nat, j ≤ 0 ∧ i = .int .i64 ((j : Int) - 1) ∧ Hid (NS wr q (digs (nat a / 2 ^ j / nat b))) ∧ Hid (NS wr r (digs (nat a / 2 ^ j % nat b))) ∧ Hid (Below w.heap.size w wr)) (fun _ _ i _ => (intOf i + 1).toNat)
      case atStart => exact ⟨0, Nat.le_refl _, by go_num, HQ0, S3, B3⟩
      case round =>
        obtain ⟨j, hj, rfl, HQ, HR, HB⟩ := hrel
        obtain ⟨A5, c5, rfl, _⟩ := ns_cases HQ.out
        obtain ⟨A6, c6, rfl, _⟩ := ns_cases HR.out
        cases j with
        | zero =>
          go_wp2_with fail
          go_ret3
          refine ⟨.slice A5 (digs (nat a / 2 ^ 0 / nat b)).length c5, .slice A6 (digs (nat a / 2 ^ 0 % nat b)).length c6, rfl, ?_, ?_, HB.out⟩
          · have h := HQ.out
            simpa only [Nat.pow_zero, Nat.div_one] using h
          · have h := HR.out
            simpa only [Nat.pow_zero, Nat.div_one] using h
        | succ m =>
          rw [show (((m + 1 : Nat) : Int) - 1) = (m : Int) by omega]
          have hm0 : (0 : Int) ≤ (m : Int) := by omega
          have hm1 : (m : Int) ≤ 3000000 := by omega
          have hdec : decide ((0 : Int) ≤ (m : Int)) = true := decide_eq_true hm0
          obtain ⟨β, hβ⟩ : ∃ β, β = nat a / 2 ^ m % 2 := ⟨_, rfl⟩
          have hβ2 : β < 2 := by rw [hβ]; exact Nat.mod_lt _ (by decide)
          have CB : Hid (∀ w', Below w.heap.size w w' → Calls Tryz.prog 78 #[.slice A1 a.length c1, .int .i64 (m : Int)] w' fun e w2 => e = .returned (.int .u64 (β : Int)) ∧ Below w'.heap.size w' w2) := fun w' h => by rw [hβ]; exact C4.out m (by omega) w' h
          have HS := Lib.hid (shift_bit (nat a) m)
          rw [← hβ] at HS
          have HMl : Hid (nat a / 2 ^ (m + 1) ≤ nat a) := Nat.div_le_self _ _
          obtain ⟨M, hM⟩ : ∃ M, M = nat a / 2 ^ (m + 1) := ⟨_, rfl⟩
          rw [← hM] at HQ HR HS HMl
          rw [← hM]
          have HLq : Hid ((digs (M / nat b)).length ≤ 10000) := Nat.le_trans (digs_len_le (Nat.lt_of_le_of_lt (Nat.le_trans (Nat.div_le_self _ _) HMl.out) HLA.out)) hla
          have HLr : Hid ((digs (M % nat b)).length ≤ 10000) := Nat.le_trans (digs_len_le (Nat.lt_trans (Nat.mod_lt _ (Nat.pos_of_ne_zero HB0.out)) HLB.out)) hlb
          have HLr2 : Hid ((digs (M % nat b + M % nat b)).length ≤ 10001) := digs_add_len HLr.out HLr.out
          have HLq2 : Hid ((digs (M / nat b + M / nat b)).length ≤ 10001) := digs_add_len HLq.out HLq.out
          have HLb : Hid ((digs β).length ≤ 1) := digs_len_le (by rw [Nat.pow_one]; exact Nat.lt_trans hβ2 B_two') 
          have HDS := Lib.hid (div_step (M := M) (Nat.pos_of_ne_zero HB0.out) hβ2)
          have HBB : Hid (β < B * B) := Nat.lt_trans hβ2 (by decide)
          clear hβ hβ2 hM
          go_wp2_with fail
          refine (radd_any _ _ _ _ wr (by have := HLq.out; omega) (by have := HLq.out; omega) (Dg.digs _) (Dg.digs _) HQ.out HQ.out).mono ?_
          rintro e x1 ⟨v1, rfl, s1, d1⟩
          rw [nat_digs] at s1
          have S1 := Lib.hid s1
          obtain ⟨A1x, c1x, rfl, _⟩ := ns_cases s1
          clear s1
          have D1 := Lib.hid (chain0 HB.out d1)
          have R1 := Lib.hid (Sl.keep HR.out d1)
          clear d1
          go_wp2_with fail
          refine (radd_any _ _ _ _ x1 (by have := HLr.out; omega) (by have := HLr.out; omega) (Dg.digs _) (Dg.digs _) R1.out R1.out).mono ?_
          rintro e x2 ⟨v2, rfl, s2, d2⟩
          rw [nat_digs] at s2
          have S2 := Lib.hid s2
          obtain ⟨A2x, c2x, rfl, _⟩ := ns_cases s2
          clear s2
          have D2 := Lib.hid (chain0 D1.out d2)
          have Q2 := Lib.hid (Sl.keep S1.out d2)
          clear d2
          go_wp2_with fail
          refine (CB.out _ D2.out).mono ?_
          rintro e x3 ⟨rfl, d3⟩
          have D3 := Lib.hid (chain0 D2.out d3)
          have Q3 := Lib.hid (Sl.keep Q2.out d3)
          have R3 := Lib.hid (Sl.keep S2.out d3)
          clear d3
          go_wp2_with fail
          refine (fromUint_any β x3 HBB.out).mono ?_
          rintro e x4 ⟨v4, rfl, s4, d4⟩
          have S4 := Lib.hid s4
          obtain ⟨A4x, c4x, rfl, _⟩ := ns_cases s4
          clear s4
          have D4 := Lib.hid (chain0 D3.out d4)
          have Q4 := Lib.hid (Sl.keep Q3.out d4)
          have R4 := Lib.hid (Sl.keep R3.out d4)
          clear d4
          go_wp2_with fail
          refine (radd_any _ _ _ _ x4 (by have := HLr2.out; omega) (by have := HLb.out; omega) (Dg.digs _) (Dg.digs _) R4.out S4.out).mono ?_
          rintro e x5 ⟨v5, rfl, s5, d5⟩
          rw [nat_digs, nat_digs] at s5
          have S5 := Lib.hid s5
          obtain ⟨A5x, c5x, rfl, _⟩ := ns_cases s5
          clear s5
          have D5 := Lib.hid (chain0 D4.out d5)
          have Q5 := Lib.hid (Sl.keep Q4.out d5)
          clear d5
          have HLr5 : Hid ((digs (M % nat b + M % nat b + β)).length ≤ 10002) := digs_add_len HLr2.out (Nat.le_trans HLb.out (by decide))
          have HBN := Lib.hid (HKB2.out _ D5.out)
          by_cases hge : nat b ≤ M % nat b + M % nat b + β
          · obtain ⟨hd1, hd2⟩ := HDS.out.1 hge
            have HD1 := Lib.hid hd1
            have HD2 := Lib.hid hd2
            obtain ⟨cv, CC, hcv⟩ : ∃ cv : Int, Hid (Calls Tryz.prog 79 #[.slice A5x (digs (M % nat b + M % nat b + β)).length c5x, .slice A2 b.length c2] x5 fun e w' => e = .returned (.int .i64 cv) ∧ x5 = w') ∧ 0 ≤ cv := by
              have h := rcmp_any _ _ _ _ x5 (by have := HLr5.out; omega) (by omega) (Dg.digs _) HDB.out S5.out HBN.out
              rw [nat_digs] at h
              exact ⟨_, h, cmp_ge hge⟩
            have hcd : decide ((0 : Int) ≤ cv) = true := decide_eq_true hcv
            have CS := Lib.hid (rsub_yes _ _ _ _ x5 (by have := HLr5.out; omega) (by omega) (Dg.digs _) HDB.out S5.out HBN.out (by rw [nat_digs]; exact hge))
            rw [nat_digs] at CS
            clear hge hd1 hd2
            go_wp2_with fail
            refine CC.out.mono ?_
            rintro e x6 ⟨rfl, rfl⟩
            go_wp2_with fail
            refine (CS.out).mono ?_
            rintro e x7 ⟨v7, rfl, s7, d7⟩
            have S7 := Lib.hid s7
            obtain ⟨A7x, c7x, rfl, _⟩ := ns_cases s7
            clear s7
            have D7 := Lib.hid (chain0 D5.out d7)
            have Q7 := Lib.hid (Sl.keep Q5.out d7)
            clear d7
            go_wp2_with fail
            refine (fromUint_any 1 x7 (by decide)).mono ?_
            rintro e x8 ⟨v8, rfl, s8, d8⟩
            have S8 := Lib.hid s8
            obtain ⟨A8x, c8x, rfl, _⟩ := ns_cases s8
            clear s8
            have D8 := Lib.hid (chain0 D7.out d8)
            have Q8 := Lib.hid (Sl.keep Q7.out d8)
            have R8 := Lib.hid (Sl.keep S7.out d8)
            clear d8
            go_wp2_with fail
            refine (radd_any _ _ _ _ x8 (by have := HLq2.out; omega) (by decide) (Dg.digs _) (Dg.digs _) Q8.out S8.out).mono ?_
            rintro e x9 ⟨v9, rfl, s9, d9⟩
            rw [nat_digs, nat_digs] at s9
            have S9 := Lib.hid s9
            obtain ⟨A9x, c9x, rfl, _⟩ := ns_cases s9
            clear s9
            have D9 := Lib.hid (chain0 D8.out d9)
            have R9 := Lib.hid (Sl.keep R8.out d9)
            clear d9
            go_wp2_with fail
            go_roundw
            case rel => exact ⟨m, by omega, by go_num, (by show NS _ _ _; rw [HS.out, HD1.out]; exact S9.out), (by show NS _ _ _; rw [HS.out, HD2.out]; exact R9.out), D9⟩
            case measure => simp [intOf]
          · obtain ⟨hd1, hd2⟩ := HDS.out.2 (by omega)
            have HD1 := Lib.hid hd1
            have HD2 := Lib.hid hd2
            have CC : Hid (Calls Tryz.prog 79 #[.slice A5x (digs (M % nat b + M % nat b + β)).length c5x, .slice A2 b.length c2] x5 fun e w' => e = .returned (.int .i64 (-1)) ∧ x5 = w') := by
              have h := rcmp_any _ _ _ _ x5 (by have := HLr5.out; omega) (by omega) (Dg.digs _) HDB.out S5.out HBN.out
              rw [nat_digs, cmp_lt (by omega)] at h
              exact h
            clear hge hd1 hd2
            go_wp2_with fail
            refine CC.out.mono ?_
            rintro e x6 ⟨rfl, rfl⟩
            go_wp2_with fail
            go_roundw
            case rel => exact ⟨m, by omega, by go_num, (by show NS _ _ _; rw [HS.out, HD1.out]; exact Q5.out), (by show NS _ _ _; rw [HS.out, HD2.out]; exact S5.out), D5⟩
            case measure => simp [intOf]
    · obtain rfl : nb = 1 := by omega
      obtain rfl : na = 0 := by omega
      go_wp2_with fail
      refine (C3.out 0 (by omega) _ B2.out).mono ?_
      rintro e w3 ⟨v3, rfl, s3, b3⟩
      rw [Nat.pow_zero, Nat.div_one] at s3
      have S3 : Hid (NS w3 v3 (digs (nat a / 2 ^ 0 % nat b))) := by
        show NS w3 v3 _
        rw [Nat.mod_eq_of_lt HLT.out, Nat.pow_zero, Nat.div_one]
        exact s3
      have HQ0 : Hid (NS w3 (.slice none 0 0) (digs (nat a / 2 ^ 0 / nat b))) := by
        show NS w3 _ _
        rw [Nat.div_eq_of_lt HLT.out]
        exact Sl.nil _ _
      have B3 := Lib.hid (chain0 B2.out b3)
      obtain ⟨A3, c3, rfl, _⟩ := ns_cases s3
      clear s3 b3
      go_wp2_with fail
      go_loopw [8, 9, 10] (fun q r i wr => ∃ j : Nat, j ≤ 0 ∧ i = .int .i64 ((j : Int) - 1) ∧ Hid (NS wr q (digs (nat a / 2 ^ j / nat b))) ∧ Hid (NS wr r (digs (nat a / 2 ^ j % nat b))) ∧ Hid (Below w.heap.size w wr)) (fun _ _ i _ => (intOf i + 1).toNat)
      case atStart => exact ⟨0, Nat.le_refl _, by go_num, HQ0, S3, B3⟩
      case round =>
        obtain ⟨j, hj, rfl, HQ, HR, HB⟩ := hrel
        obtain ⟨A5, c5, rfl, _⟩ := ns_cases HQ.out
        obtain ⟨A6, c6, rfl, _⟩ := ns_cases HR.out
        cases j with
        | zero =>
          go_wp2_with fail
          go_ret3
          refine ⟨.slice A5 (digs (nat a / 2 ^ 0 / nat b)).length c5, .slice A6 (digs (nat a / 2 ^ 0 % nat b)).length c6, rfl, ?_, ?_, HB.out⟩
          · have h := HQ.out
            simpa only [Nat.pow_zero, Nat.div_one] using h
          · have h := HR.out
            simpa only [Nat.pow_zero, Nat.div_one] using h
        | succ m =>
          rw [show (((m + 1 : Nat) : Int) - 1) = (m : Int) by omega]
          have hm0 : (0 : Int) ≤ (m : Int) := by omega
          have hm1 : (m : Int) ≤ 3000000 := by omega
          have hdec : decide ((0 : Int) ≤ (m : Int)) = true := decide_eq_true hm0
          obtain ⟨β, hβ⟩ : ∃ β, β = nat a / 2 ^ m % 2 := ⟨_, rfl⟩
          have hβ2 : β < 2 := by rw [hβ]; exact Nat.mod_lt _ (by decide)
          have CB : Hid (∀ w', Below w.heap.size w w' → Calls Tryz.prog 78 #[.slice A1 a.length c1, .int .i64 (m : Int)] w' fun e w2 => e = .returned (.int .u64 (β : Int)) ∧ Below w'.heap.size w' w2) := fun w' h => by rw [hβ]; exact C4.out m (by omega) w' h
          have HS := Lib.hid (shift_bit (nat a) m)
          rw [← hβ] at HS
          have HMl : Hid (nat a / 2 ^ (m + 1) ≤ nat a) := Nat.div_le_self _ _
          obtain ⟨M, hM⟩ : ∃ M, M = nat a / 2 ^ (m + 1) := ⟨_, rfl⟩
          rw [← hM] at HQ HR HS HMl
          rw [← hM]
          have HLq : Hid ((digs (M / nat b)).length ≤ 10000) := Nat.le_trans (digs_len_le (Nat.lt_of_le_of_lt (Nat.le_trans (Nat.div_le_self _ _) HMl.out) HLA.out)) hla
          have HLr : Hid ((digs (M % nat b)).length ≤ 10000) := Nat.le_trans (digs_len_le (Nat.lt_trans (Nat.mod_lt _ (Nat.pos_of_ne_zero HB0.out)) HLB.out)) hlb
          have HLr2 : Hid ((digs (M % nat b + M % nat b)).length ≤ 10001) := digs_add_len HLr.out HLr.out
          have HLq2 : Hid ((digs (M / nat b + M / nat b)).length ≤ 10001) := digs_add_len HLq.out HLq.out
          have HLb : Hid ((digs β).length ≤ 1) := digs_len_le (by rw [Nat.pow_one]; exact Nat.lt_trans hβ2 B_two') 
          have HDS := Lib.hid (div_step (M := M) (Nat.pos_of_ne_zero HB0.out) hβ2)
          have HBB : Hid (β < B * B) := Nat.lt_trans hβ2 (by decide)
          clear hβ hβ2 hM
          go_wp2_with fail
          refine (radd_any _ _ _ _ wr (by have := HLq.out; omega) (by have := HLq.out; omega) (Dg.digs _) (Dg.digs _) HQ.out HQ.out).mono ?_
          rintro e x1 ⟨v1, rfl, s1, d1⟩
          rw [nat_digs] at s1
          have S1 := Lib.hid s1
          obtain ⟨A1x, c1x, rfl, _⟩ := ns_cases s1
          clear s1
          have D1 := Lib.hid (chain0 HB.out d1)
          have R1 := Lib.hid (Sl.keep HR.out d1)
          clear d1
          go_wp2_with fail
          refine (radd_any _ _ _ _ x1 (by have := HLr.out; omega) (by have := HLr.out; omega) (Dg.digs _) (Dg.digs _) R1.out R1.out).mono ?_
          rintro e x2 ⟨v2, rfl, s2, d2⟩
          rw [nat_digs] at s2
          have S2 := Lib.hid s2
          obtain ⟨A2x, c2x, rfl, _⟩ := ns_cases s2
          clear s2
          have D2 := Lib.hid (chain0 D1.out d2)
          have Q2 := Lib.hid (Sl.keep S1.out d2)
          clear d2
          go_wp2_with fail
          refine (CB.out _ D2.out).mono ?_
          rintro e x3 ⟨rfl, d3⟩
          have D3 := Lib.hid (chain0 D2.out d3)
          have Q3 := Lib.hid (Sl.keep Q2.out d3)
          have R3 := Lib.hid (Sl.keep S2.out d3)
          clear d3
          go_wp2_with fail
          refine (fromUint_any β x3 HBB.out).mono ?_
          rintro e x4 ⟨v4, rfl, s4, d4⟩
          have S4 := Lib.hid s4
          obtain ⟨A4x, c4x, rfl, _⟩ := ns_cases s4
          clear s4
          have D4 := Lib.hid (chain0 D3.out d4)
          have Q4 := Lib.hid (Sl.keep Q3.out d4)
          have R4 := Lib.hid (Sl.keep R3.out d4)
          clear d4
          go_wp2_with fail
          refine (radd_any _ _ _ _ x4 (by have := HLr2.out; omega) (by have := HLb.out; omega) (Dg.digs _) (Dg.digs _) R4.out S4.out).mono ?_
          rintro e x5 ⟨v5, rfl, s5, d5⟩
          rw [nat_digs, nat_digs] at s5
          have S5 := Lib.hid s5
          obtain ⟨A5x, c5x, rfl, _⟩ := ns_cases s5
          clear s5
          have D5 := Lib.hid (chain0 D4.out d5)
          have Q5 := Lib.hid (Sl.keep Q4.out d5)
          clear d5
          have HLr5 : Hid ((digs (M % nat b + M % nat b + β)).length ≤ 10002) := digs_add_len HLr2.out (Nat.le_trans HLb.out (by decide))
          have HBN := Lib.hid (HKB2.out _ D5.out)
          by_cases hge : nat b ≤ M % nat b + M % nat b + β
          · obtain ⟨hd1, hd2⟩ := HDS.out.1 hge
            have HD1 := Lib.hid hd1
            have HD2 := Lib.hid hd2
            obtain ⟨cv, CC, hcv⟩ : ∃ cv : Int, Hid (Calls Tryz.prog 79 #[.slice A5x (digs (M % nat b + M % nat b + β)).length c5x, .slice A2 b.length c2] x5 fun e w' => e = .returned (.int .i64 cv) ∧ x5 = w') ∧ 0 ≤ cv := by
              have h := rcmp_any _ _ _ _ x5 (by have := HLr5.out; omega) (by omega) (Dg.digs _) HDB.out S5.out HBN.out
              rw [nat_digs] at h
              exact ⟨_, h, cmp_ge hge⟩
            have hcd : decide ((0 : Int) ≤ cv) = true := decide_eq_true hcv
            have CS := Lib.hid (rsub_yes _ _ _ _ x5 (by have := HLr5.out; omega) (by omega) (Dg.digs _) HDB.out S5.out HBN.out (by rw [nat_digs]; exact hge))
            rw [nat_digs] at CS
            clear hge hd1 hd2
            go_wp2_with fail
            refine CC.out.mono ?_
            rintro e x6 ⟨rfl, rfl⟩
            go_wp2_with fail
            refine (CS.out).mono ?_
            rintro e x7 ⟨v7, rfl, s7, d7⟩
            have S7 := Lib.hid s7
            obtain ⟨A7x, c7x, rfl, _⟩ := ns_cases s7
            clear s7
            have D7 := Lib.hid (chain0 D5.out d7)
            have Q7 := Lib.hid (Sl.keep Q5.out d7)
            clear d7
            go_wp2_with fail
            refine (fromUint_any 1 x7 (by decide)).mono ?_
            rintro e x8 ⟨v8, rfl, s8, d8⟩
            have S8 := Lib.hid s8
            obtain ⟨A8x, c8x, rfl, _⟩ := ns_cases s8
            clear s8
            have D8 := Lib.hid (chain0 D7.out d8)
            have Q8 := Lib.hid (Sl.keep Q7.out d8)
            have R8 := Lib.hid (Sl.keep S7.out d8)
            clear d8
            go_wp2_with fail
            refine (radd_any _ _ _ _ x8 (by have := HLq2.out; omega) (by decide) (Dg.digs _) (Dg.digs _) Q8.out S8.out).mono ?_
            rintro e x9 ⟨v9, rfl, s9, d9⟩
            rw [nat_digs, nat_digs] at s9
            have S9 := Lib.hid s9
            obtain ⟨A9x, c9x, rfl, _⟩ := ns_cases s9
            clear s9
            have D9 := Lib.hid (chain0 D8.out d9)
            have R9 := Lib.hid (Sl.keep R8.out d9)
            clear d9
            go_wp2_with fail
            go_roundw
            case rel => exact ⟨m, by omega, by go_num, (by show NS _ _ _; rw [HS.out, HD1.out]; exact S9.out), (by show NS _ _ _; rw [HS.out, HD2.out]; exact R9.out), D9⟩
            case measure => simp [intOf]
          · obtain ⟨hd1, hd2⟩ := HDS.out.2 (by omega)
            have HD1 := Lib.hid hd1
            have HD2 := Lib.hid hd2
            have CC : Hid (Calls Tryz.prog 79 #[.slice A5x (digs (M % nat b + M % nat b + β)).length c5x, .slice A2 b.length c2] x5 fun e w' => e = .returned (.int .i64 (-1)) ∧ x5 = w') := by
              have h := rcmp_any _ _ _ _ x5 (by have := HLr5.out; omega) (by omega) (Dg.digs _) HDB.out S5.out HBN.out
              rw [nat_digs, cmp_lt (by omega)] at h
              exact h
            clear hge hd1 hd2
            go_wp2_with fail
            refine CC.out.mono ?_
            rintro e x6 ⟨rfl, rfl⟩
            go_wp2_with fail
            go_roundw
            case rel => exact ⟨m, by omega, by go_num, (by show NS _ _ _; rw [HS.out, HD1.out]; exact Q5.out), (by show NS _ _ _; rw [HS.out, HD2.out]; exact S5.out), D5⟩
            case measure => simp [intOf]
end Fr
end Go.Proofs.YthehchdonmmpaaaGreatDoor
