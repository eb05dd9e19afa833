/- Contracts of the reference's scale, shift and Mul. Printed by gen_nat5.py. -/
import Derived.Test.YtfopmaeaclbknaaDoorNatW
import Derived.Test.YtfopmaeaclbknaaDoorNat3
namespace Go.Proofs.YtfopmaeaclbknaaDoor
open Go.ChangeShapes Go.WideShapes Go.ChangeAt Go.RowKit
set_option linter.unusedVariables false
set_option linter.unusedSimpArgs false
namespace Fr
set_option maxHeartbeats 2000000 in
set_option maxRecDepth 100000 in
theorem scale_any (a : List Nat) (va : Value) (d : Nat) (w : World) (hla : a.length ≤ 50000) (hd : d < B) (hda : Dg a) (ha : NS w va a) : Calls Tryd.prog 135 #[va, .int .u64 (d : Int)] w (NatPost (nat a * d) w) := by
  obtain ⟨i0, hi0, hz0, hz1, hz2⟩ := info_parts u32_info
  have CA := Lib.hid (fun i (hi : i ≤ 100000) w' (k : Below w.heap.size w w') => digit_any a va i w' (by omega) hi hda (Sl.keep ha k))
  have HDA := Lib.hid hda
  have HD := Lib.hid hd
  obtain ⟨A1, c1, rfl, _, _, _⟩ := ns_cases ha
  clear ha hda hd
  go_enter Tryd.func135, Tryd.ntmps135
  go_wp2_with fail
  go_loopw [7, 5, 6] (fun i v cv wr => ∃ k c : Nat, ∃ o : List Nat, k ≤ a.length + 1 ∧ i = .int .i64 (k : Int) ∧ cv = .int .u64 (c : Int) ∧ Hid (c < B) ∧ Hid (o.length = k ∧ Dg o ∧ nat o + c * B ^ k = val a k * d) ∧ Hid (wr.ownsRow w.heap.size 92 1 v k (u32s o)) ∧ Hid (Below w.heap.size w wr)) (fun i _ _ _ => a.length + 1 - (intOf i).toNat)
  case atStart => exact ⟨0, 0, [], by omega, rfl, rfl, B_pos, ⟨rfl, Dg.nil, by simp [nat, val]⟩, ⟨rfl, .inl ⟨rfl, rfl⟩⟩, Below.refl _ _⟩
  case round =>
    obtain ⟨k, c, o, hk, rfl, rfl, HC, HI, HO, HB⟩ := hrel
    obtain ⟨A5, c5, rfl⟩ := own_form HO.out
    have hk0 : (0 : Int) ≤ (k : Int) := by omega
    by_cases hlt : k ≤ a.length
    · have hdec : decide (k ≤ a.length) = true := decide_eq_true hlt
      have hk1 : (k : Int) ≤ 100000 := by omega
      obtain ⟨t, s, lo, hi, hq, f1, f2, p2, p4, hi1, p1⟩ := mul_facts (dg_lt HDA.out k) HD.out HC.out
      have HN := Lib.hid (scale_step (k := k) HI.out.1 HI.out.2.2 hq.1)
      rw [← hq.2.1, ← hq.2.2] at HN
      have P1 := Lib.hid p1
      have P2 := Lib.hid hi1
      have hs0 : (0 : Int) ≤ (s : Int) := by omega
      clear hq p1 hi1
      go_wp2_with fail
      refine (CA.out k (by omega) _ HB.out).mono ?_
      rintro e w1 ⟨rfl, rfl⟩
      go_wp2_with (at_builtin; refine wpList_append_sl _ rfl (.tmp 22) (.tmp 26) _ rfl (w.heap.size) 92 i0 _ 1 4 Tryd.underlying36 hi0 hz0 hz1 hz2 rfl (by decide) (.slice A5 (k) c5) (k) (u32s o) rfl (own_below HO.out (below_new _ _)) (.slice (some ⟨wr.heap.size, 0, none⟩) 1 1) 1 (u32s [lo]) rfl (ns_new1 wr lo 92) (u32s_one _) (by unfold maxLen; omega) (by omega) (by have := HB.out.size; simp; omega) ?_)
      intro v' w1 hown hgr
      obtain ⟨A6, c6, rfl⟩ := own_form hown
      have HO1 := Lib.hid hown
      have HB1 := Lib.hid ((HB.out.alloc HB.out.size (.cells #[.int .u32 ((lo : Nat) : Int)] 92)).grown hgr (by have := HB.out.size; simp; omega) (fun q hq => own_far HO.out q hq))
      clear hown hgr
      go_wp2_with fail
      go_roundw
      case rel => exact ⟨k + 1, hi, o ++ [lo], by omega, by go_num, rfl, P2, ⟨by simp [HI.out.1], HI.out.2.1.append (Dg.cons P1.out Dg.nil), HN.out⟩, (by rw [u32s_append]; exact HO1.out), HB1.out⟩
      case measure => simp [intOf]; omega
    · have hdec : decide (k ≤ a.length) = false := decide_eq_false hlt
      obtain rfl : k = a.length + 1 := by omega
      have HE := Lib.hid (scale_end HDA.out HD.out rfl HI.out.2.2)
      have CT := Lib.hid (trim_any o _ wr (by rw [HI.out.1]; omega) HI.out.2.1 (ns_own HO.out))
      rw [HE.out] at CT
      go_wp2_with fail
      refine CT.out.mono ?_
      rintro e w1 ⟨v1, rfl, hs1, hb1⟩
      have HS1 := Lib.hid hs1
      have HB1 := Lib.hid (chain0 HB.out hb1)
      obtain ⟨A6, c6, rfl, _⟩ := ns_cases hs1
      clear hs1 hb1
      go_wp2_with fail
      go_ret
      exact ⟨_, rfl, HS1.out, HB1.out⟩
theorem rep_dg (k : Nat) : Dg (List.replicate k 0) := fun d h => by
  rw [(List.mem_replicate.1 h).2]
  exact B_pos
theorem shift_nat (k : Nat) (a : List Nat) : nat (List.replicate k 0 ++ a) = B ^ k * nat a := by
  rw [nat_append, nat_zeros, List.length_replicate, Nat.zero_add]
set_option maxHeartbeats 2000000 in
set_option maxRecDepth 100000 in
theorem shift_any (a : List Nat) (va : Value) (n : Nat) (w : World) (hla : a.length ≤ 50000) (hn : n ≤ 50000) (hda : Dg a) (ha : NS w va a) : Calls Tryd.prog 134 #[va, .int .i64 (n : Int)] w (NatPost (B ^ n * nat a) w) := by
  obtain ⟨i0, hi0, hz0, hz1, hz2⟩ := info_parts u32_info
  have HDA := Lib.hid hda
  have HA := Lib.hid ha
  obtain ⟨A1, c1, rfl, _, _, _⟩ := ns_cases ha
  clear ha hda
  go_enter Tryd.func134, Tryd.ntmps134
  go_wp2_with fail
  go_loopw [6, 5] (fun i v wr => ∃ k : Nat, k ≤ n ∧ i = .int .i64 (k : Int) ∧ Hid (wr.ownsRow w.heap.size 92 1 v k (u32s (List.replicate k 0))) ∧ Hid (Below w.heap.size w wr)) (fun i _ _ => n - (intOf i).toNat)
  case atStart => exact ⟨0, by omega, rfl, ⟨rfl, .inl ⟨rfl, rfl⟩⟩, Below.refl _ _⟩
  case round =>
    obtain ⟨k, hk, rfl, HO, HB⟩ := hrel
    obtain ⟨A5, c5, rfl⟩ := own_form HO.out
    have hk0 : (0 : Int) ≤ (k : Int) := by omega
    by_cases hlt : k < n
    · have hdec : decide (k < n) = true := decide_eq_true hlt
      have hk1 : (k : Int) ≤ 100000 := by omega
      have HR : Hid (List.replicate (k + 1) 0 = List.replicate k 0 ++ [0]) := List.replicate_succ'
      generalize List.replicate k 0 = o at *
      go_wp2_with (at_builtin; refine wpList_append_sl _ rfl (.tmp 12) (.tmp 13) _ rfl (w.heap.size) 92 i0 _ 1 4 Tryd.underlying36 hi0 hz0 hz1 hz2 rfl (by decide) (.slice A5 (k) c5) (k) (u32s o) rfl (own_below HO.out (below_new _ _)) (.slice (some ⟨wr.heap.size, 0, none⟩) 1 1) 1 (u32s [0]) rfl (ns_new1 wr 0 92) (u32s_one _) (by unfold maxLen; omega) (by omega) (by have := HB.out.size; simp; omega) ?_)
      intro v' w1 hown hgr
      obtain ⟨A6, c6, rfl⟩ := own_form hown
      have HO1 := Lib.hid hown
      have HB1 := Lib.hid ((HB.out.alloc HB.out.size (.cells #[.int .u32 ((0 : Nat) : Int)] 92)).grown hgr (by have := HB.out.size; simp; omega) (fun q hq => own_far HO.out q hq))
      clear hown hgr
      go_wp2_with fail
      go_roundw
      case rel => exact ⟨k + 1, by omega, by go_num, (by show World.ownsRow _ _ _ _ _ _ _; rw [HR.out, u32s_append]; exact HO1.out), HB1.out⟩
      case measure => simp [intOf]; omega
    · have hdec : decide (k < n) = false := decide_eq_false hlt
      obtain rfl : k = n := by omega
      have HRD := Lib.hid (rep_dg k)
      have HSN := Lib.hid (shift_nat k a)
      have HRL : Hid ((List.replicate k 0).length = k) := List.length_replicate
      have HA2 := Lib.hid (Sl.keep HA.out HB.out)
      generalize List.replicate k 0 = o at *
      go_wp2_with (at_builtin; refine wpList_append_sl _ rfl (.tmp 15) (.tmp 16) _ rfl w.heap.size 92 i0 _ 1 4 Tryd.underlying36 hi0 hz0 hz1 hz2 rfl (by decide) (.slice A5 k c5) k (u32s o) rfl HO.out (.slice A1 a.length c1) a.length (u32s a) rfl HA2.out (u32s_one _) (by unfold maxLen; omega) (by omega) HB.out.size ?_)
      intro v' w2 hown hgr
      obtain ⟨A7, c7, rfl⟩ := own_form hown
      rw [← u32s_append] at hown
      have CT := Lib.hid (trim_any (o ++ a) _ w2 (by rw [List.length_append, HRL.out]; omega) (HRD.out.append HDA.out) (ns_own hown))
      rw [HSN.out] at CT
      have HB3 := Lib.hid (HB.out.grown hgr HB.out.size (fun q hq => own_far HO.out q hq))
      clear hown hgr
      go_wp2_with fail
      refine CT.out.mono ?_
      rintro e w1 ⟨v1, rfl, hs1, hb1⟩
      have HS1 := Lib.hid hs1
      have HB1 := Lib.hid (chain0 HB3.out hb1)
      obtain ⟨A6, c6, rfl, _⟩ := ns_cases hs1
      clear hs1 hb1
      go_wp2_with fail
      go_ret
      exact ⟨_, rfl, HS1.out, HB1.out⟩
set_option maxHeartbeats 2000000 in
set_option maxRecDepth 100000 in
theorem rmul_any (a b : List Nat) (va vb : Value) (w : World) (hla : a.length ≤ 20000) (hlb : b.length ≤ 20000) (hda : Dg a) (hdb : Dg b) (ha : NS w va a) (hb : NS w vb b) : Calls Tryd.prog 108 #[va, vb] w (NatPost (nat a * nat b) w) := by
  have CS := Lib.hid (fun d (hd : d < B) w' (k : Below w.heap.size w w') => scale_any a va d w' (by omega) hd hda (Sl.keep ha k))
  have HDB := Lib.hid hdb
  have HLA := Lib.hid (nat_lt hda)
  have HBB := Lib.hid (fun w' (k : Below w.heap.size w w') => Sl.keep hb k)
  obtain ⟨A1, c1, rfl, _, _, _⟩ := ns_cases ha
  obtain ⟨A2, c2, rfl, _, _, _⟩ := ns_cases hb
  have HBB2 : Hid (∀ w', Below w.heap.size w w' → NS w' (.slice A2 b.length c2) b) := HBB.out
  clear ha hb hda hdb HBB
  go_enter Tryd.func108, Tryd.ntmps108
  go_wp2_with fail
  go_loopw [6, 5] (fun i v wr => ∃ k : Nat, k ≤ b.length ∧ i = .int .i64 (k : Int) ∧ Hid (NS wr v (digs (nat a * val b k))) ∧ Hid (Below w.heap.size w wr)) (fun i _ _ => b.length - (intOf i).toNat)
  case atStart => exact ⟨0, by omega, rfl, Sl.nil _ _, Below.refl _ _⟩
  case round =>
    obtain ⟨k, hk, rfl, HO, HB⟩ := hrel
    obtain ⟨A5, c5, rfl, _⟩ := ns_cases HO.out
    have hk0 : (0 : Int) ≤ (k : Int) := by omega
    by_cases hlt : k < b.length
    · have hdec : decide (k < b.length) = true := decide_eq_true hlt
      have hdec2 : decide ((k : Int) < (b.length : Int)) = true := decide_eq_true (by omega)
      have hk1 : (k : Int) ≤ 100000 := by omega
      have hk2 : (k : Int) < (b.length : Int) := by omega
      obtain ⟨A3, c3, e3, _, _, hcc⟩ := ns_cases (HBB2.out _ HB.out)
      injection e3 with e3 _ e4
      subst e3 e4
      obtain ⟨b2, o2, rfl, hb2, hcell⟩ := hcc (by omega)
      have hcell := hcell k hlt
      clear hcc
      have hdg := dg_lt HDB.out k
      have ww := u64w hdg
      have HDG := Lib.hid hdg
      have HL1 : Hid ((digs (nat a * dg b k)).length ≤ a.length + 1) := digs_mul_len HLA.out (k := 1) (by rw [Nat.pow_one]; exact hdg)
      have HL2 : Hid ((digs (B ^ k * (nat a * dg b k))).length ≤ k + (a.length + 1)) := digs_len_le (by
        rw [Nat.pow_add]
        exact Nat.mul_lt_mul_of_pos_left (mul_lt_pow HLA.out (k := 1) (by rw [Nat.pow_one]; exact hdg)) (Nat.pow_pos B_pos))
      have HL3 : Hid ((digs (nat a * val b k)).length ≤ a.length + k) := digs_mul_len HLA.out (val_lt HDB.out k)
      have HV : Hid (nat a * val b k + B ^ k * (nat a * dg b k) = nat a * val b (k + 1)) := by
        show nat a * val b k + B ^ k * (nat a * dg b k) = nat a * (val b k + dg b k * B ^ k)
        rw [Nat.mul_add, Nat.mul_left_comm, Nat.mul_comm (B ^ k)]
      clear hdg
      go_wp2_with fail
      refine (CS.out (dg b k) HDG.out _ HB.out).mono ?_
      rintro e x1 ⟨v1, rfl, s1, b1⟩
      have S1 := Lib.hid s1
      have B1 := Lib.hid (chain0 HB.out b1)
      have O1 := Lib.hid (Sl.keep HO.out b1)
      obtain ⟨A6, c6, rfl, _⟩ := ns_cases s1
      clear s1 b1
      go_wp2_with fail
      refine (shift_any _ _ k x1 (by have := HL1.out; omega) (by omega) (Dg.digs _) S1.out).mono ?_
      rintro e x2 ⟨v2, rfl, s2, b2⟩
      rw [nat_digs] at s2
      have S2 := Lib.hid s2
      have B2 := Lib.hid (chain0 B1.out b2)
      have O2 := Lib.hid (Sl.keep O1.out b2)
      obtain ⟨A7, c7, rfl, _⟩ := ns_cases s2
      clear s2 b2
      go_wp2_with fail
      refine (radd_any _ _ _ _ x2 (by have := HL3.out; omega) (by have := HL2.out; omega) (Dg.digs _) (Dg.digs _) O2.out S2.out).mono ?_
      rintro e x3 ⟨v3, rfl, s3, b3⟩
      rw [nat_digs, nat_digs, HV.out] at s3
      have S3 := Lib.hid s3
      have B3 := Lib.hid (chain0 B2.out b3)
      obtain ⟨A8, c8, rfl, _⟩ := ns_cases s3
      clear s3 b3
      go_wp2_with fail
      go_roundw
      case rel => exact ⟨k + 1, by omega, by go_num, S3, B3⟩
      case measure => simp [intOf]; omega
    · have hdec : decide (k < b.length) = false := decide_eq_false hlt
      have hdec2 : decide ((k : Int) < (b.length : Int)) = false := decide_eq_false (by omega)
      obtain rfl : k = b.length := by omega
      have HE : Hid (val b b.length = nat b) := val_nat (Nat.le_refl _)
      go_wp2_with fail
      go_ret
      refine ⟨.slice A5 (digs (nat a * val b b.length)).length c5, rfl, ?_, HB.out⟩
      rw [← HE.out]
      exact HO.out
end Fr
end Go.Proofs.YtfopmaeaclbknaaDoor
