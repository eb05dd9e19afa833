/- Contracts of natural.Cmp, Add and small. Printed by gen_nb2.py. Contract of natural.shifted. Plain: the guess of one digit of a quotient, and what the digit loops of a long division compute. Plain: a window of digits that is written place by place; the machine's numbers of a long division. -/
import Derived.Test.YthehchdonmmpaaaGreatDoorPs01
namespace Go.Proofs.YthehchdonmmpaaaGreatDoor
open Go.ChangeShapes Go.WideShapes Go.ChangeAt Go.RowKit
set_option linter.unusedVariables false
set_option linter.unusedSimpArgs false
namespace Fr
theorem cmp_len {x y : Nat} : ((digs x).length < (digs y).length → cmp x y = -1) ∧ ((digs y).length < (digs x).length → cmp x y = 1) := by
  constructor
  · intro h
    refine cmp_lt ?_
    rcases Nat.lt_or_ge x y with h1 | h1
    · exact h1
    · have := digs_len_mono h1; omega
  · intro h
    refine cmp_gt ?_
    rcases Nat.lt_or_ge y x with h1 | h1
    · exact h1
    · have := digs_len_mono h1; omega
set_option maxHeartbeats 1000000 in
theorem ncmp_any (a b : List Nat) (va vb : Value) (w : World) (hla : a.length ≤ 50000) (hlb : b.length ≤ 50000) (hda : Dg a) (hdb : Dg b) (ha : NS w va a) (hb : NS w vb b) : Calls Tryz.prog 62 #[va, vb] w fun e w' => e = .returned (.int .i64 (cmp (nat a) (nat b))) ∧ Below w.heap.size w w' := by
  have CA := Lib.hid (ntrim_any a va w (by omega) hda ha)
  have CB := Lib.hid (ntrim_any b vb w (by omega) hdb hb)
  unfold TrimPost at CA CB
  obtain ⟨A1, c1, rfl, _, _, _⟩ := ns_cases ha
  obtain ⟨A2, c2, rfl, _, _, _⟩ := ns_cases hb
  have la := (digs_split hda).2
  have lb := (digs_split hdb).2
  clear ha hb hda hdb
  obtain ⟨n, hn⟩ : ∃ n, n = nat a := ⟨_, rfl⟩
  obtain ⟨m, hm⟩ : ∃ m, m = nat b := ⟨_, rfl⟩
  rw [← hn] at CA la ⊢
  rw [← hm] at CB lb ⊢
  clear hn hm
  have HP := Lib.hid (nat_digs n)
  have HQ := Lib.hid (nat_digs m)
  have HCL := Lib.hid (@cmp_len n m)
  have DA := Lib.hid (Dg.digs n)
  have DB := Lib.hid (Dg.digs m)
  generalize digs n = p at *
  generalize digs m = q at *
  by_cases hlt : p.length < q.length
  · have HF := Lib.hid (HCL.out.1 hlt)
    have q1 : ((p.length : Int) != (q.length : Int)) = true := bne_iff_ne.2 (by omega)
    have q2 : decide (p.length < q.length) = true := decide_eq_true hlt
    have q3 : decide ((p.length : Int) < (q.length : Int)) = true := decide_eq_true (by omega)
    go_enter Tryz.func62, Tryz.ntmps62
    go_wp2_with fail
    refine CA.out.mono ?_
    rintro e w1 ⟨_, _, _, rfl, s1, rfl⟩
    clear s1
    go_wp2_with fail
    refine CB.out.mono ?_
    rintro e w1 ⟨_, _, _, rfl, s2, rfl⟩
    clear s2
    go_wp2_with fail
    go_ret
    exact ⟨by rw [HF.out]; rfl, Below.refl _ _⟩
  by_cases hgt : q.length < p.length
  · have HF := Lib.hid (HCL.out.2 hgt)
    have q1 : ((p.length : Int) != (q.length : Int)) = true := bne_iff_ne.2 (by omega)
    have q2 : decide (p.length < q.length) = false := decide_eq_false hlt
    have q3 : decide ((p.length : Int) < (q.length : Int)) = false := decide_eq_false (by omega)
    go_enter Tryz.func62, Tryz.ntmps62
    go_wp2_with fail
    refine CA.out.mono ?_
    rintro e w1 ⟨_, _, _, rfl, s1, rfl⟩
    clear s1
    go_wp2_with fail
    refine CB.out.mono ?_
    rintro e w1 ⟨_, _, _, rfl, s2, rfl⟩
    clear s2
    go_wp2_with fail
    go_ret
    exact ⟨by rw [HF.out]; rfl, Below.refl _ _⟩
  have hpq : p.length = q.length := by omega
  have HPQ := Lib.hid hpq
  obtain ⟨k, hk⟩ : ∃ k, k = p.length := ⟨_, rfl⟩
  have HK := Lib.hid hk
  rw [← hpq, ← hk] at CB
  rw [← hk] at CA
  have hk9 : k ≤ 50000 := by omega
  have q1 : ((k : Int) != (k : Int)) = false := by simp
  clear hlt hgt hpq hk la lb
  go_enter Tryz.func62, Tryz.ntmps62
  go_wp2_with fail
  refine CA.out.mono ?_
  rintro e w1 ⟨A3, _, h1, rfl, s1, rfl⟩
  injection h1 with h1 _ _
  subst h1
  have S1 := Lib.hid s1
  clear s1
  go_wp2_with fail
  refine CB.out.mono ?_
  rintro e w1 ⟨A4, _, h1, rfl, s2, rfl⟩
  injection h1 with h1 _ _
  subst h1
  have S2 := Lib.hid s2
  clear s2
  go_wp2_with fail
  go_loopw [23] (fun v wr => ∃ i : Nat, i ≤ k ∧ v = .int .i64 (i : Int) ∧ Hid (∀ j, k - i ≤ j → j < k → dg p j = dg q j) ∧ Hid (Below w.heap.size w wr)) (fun v _ => k - (intOf v).toNat)
  case atStart => exact ⟨0, Nat.zero_le _, rfl, (fun j h1 h2 => by omega), Below.refl _ _⟩
  case round =>
    obtain ⟨i, hi, rfl, HE, HB⟩ := hrel
    by_cases hik : i < k
    · have hdec : decide (i < k) = true := decide_eq_true hik
      have hdec2 : decide ((i : Int) < (k : Int)) = true := decide_eq_true (by omega)
      obtain ⟨b1, o1, e1, hb1, hc1⟩ := ns_cell (S1.out.keep HB.out) (by rw [← HK.out]; omega)
      obtain ⟨b2, o2, e2, hb2, hc2⟩ := ns_cell (S2.out.keep HB.out) (by rw [← HPQ.out, ← HK.out]; omega)
      subst e1 e2
      obtain ⟨j, hj⟩ : ∃ j, j = k - 1 - i := ⟨_, rfl⟩
      have hj1 : (k : Int) - 1 - (i : Int) = ((j : Nat) : Int) := by omega
      have d1 := hc1 j (by rw [← HK.out]; omega)
      have d2 := hc2 j (by rw [← HPQ.out, ← HK.out]; omega)
      have hj0 : (0 : Int) ≤ (j : Int) := by omega
      have hj2 : (j : Int) < (k : Int) := by omega
      have hi0 : (0 : Int) ≤ (i : Int) := by omega
      have hi5 : (i : Int) < 50000 := by omega
      have HJ : Hid (j = k - 1 - i ∧ i < k) := ⟨hj, hik⟩
      clear hc1 hc2 hj
      rcases Nat.lt_trichotomy (dg p j) (dg q j) with hx | hx | hx
      · have HF : Hid (cmp n m = -1) := by
          have := nat_less DA.out (b := q) (M := k) (by have := HK.out; omega) (by have := HK.out; have := HPQ.out; omega) (by have := HJ.out; omega) (fun i2 h1 h2 => HE.out i2 (by have := HJ.out; omega) h2) hx
          rw [HP.out, HQ.out] at this
          exact cmp_lt this
        have r1 : decide (dg p j < dg q j) = true := decide_eq_true hx
        have r2 : decide (((dg p j : Nat) : Int) < ((dg q j : Nat) : Int)) = true := decide_eq_true (by omega)
        clear hx
        go_wp2_with fail
        go_quiet (fail)
        go_wp2_with fail
        go_ret
        exact ⟨by rw [HF.out]; rfl, chain0 HB.out (drewN_below _ _)⟩
      · have HE2 : Hid (∀ j2, k - (i + 1) ≤ j2 → j2 < k → dg p j2 = dg q j2) := fun j2 h1 h2 => by
          by_cases e : j2 = j
          · rw [e]; exact hx
          · exact HE.out j2 (by have := HJ.out; omega) h2
        have r1 : decide (dg p j < dg q j) = false := decide_eq_false (by omega)
        have r2 : decide (((dg p j : Nat) : Int) < ((dg q j : Nat) : Int)) = false := decide_eq_false (by omega)
        have r3 : decide (dg q j < dg p j) = false := decide_eq_false (by omega)
        have r4 : decide (((dg q j : Nat) : Int) < ((dg p j : Nat) : Int)) = false := decide_eq_false (by omega)
        clear hx
        go_wp2_with fail
        go_quiet (fail)
        go_wp2_with fail
        go_quiet (fail)
        go_wp2_with fail
        go_roundw
        case rel => exact ⟨i + 1, by omega, by go_num, HE2, chain0 HB.out (drewN_below _ _)⟩
        case measure => simp [intOf]; omega
      · have HF : Hid (cmp n m = 1) := by
          have := nat_less DB.out (b := p) (M := k) (by have := HK.out; have := HPQ.out; omega) (by have := HK.out; omega) (by have := HJ.out; omega) (fun i2 h1 h2 => (HE.out i2 (by have := HJ.out; omega) h2).symm) hx
          rw [HP.out, HQ.out] at this
          exact cmp_gt this
        have r1 : decide (dg p j < dg q j) = false := decide_eq_false (by omega)
        have r2 : decide (((dg p j : Nat) : Int) < ((dg q j : Nat) : Int)) = false := decide_eq_false (by omega)
        have r3 : decide (dg q j < dg p j) = true := decide_eq_true (by omega)
        have r4 : decide (((dg q j : Nat) : Int) < ((dg p j : Nat) : Int)) = true := decide_eq_true (by omega)
        clear hx
        go_wp2_with fail
        go_quiet (fail)
        go_wp2_with fail
        go_quiet (fail)
        go_wp2_with fail
        go_ret
        exact ⟨by rw [HF.out]; rfl, chain0 HB.out (chain0 (drewN_below _ _) (drewN_below _ _))⟩
    · have hdec : decide (i < k) = false := decide_eq_false hik
      have hdec2 : decide ((i : Int) < (k : Int)) = false := decide_eq_false (by omega)
      have HF : Hid (cmp n m = 0) := by
        have := nat_same (a := p) (b := q) (M := k) (by have := HK.out; omega) (by have := HK.out; have := HPQ.out; omega) (fun j h => HE.out j (by omega) h)
        rw [HP.out, HQ.out] at this
        exact cmp_eq this
      go_wp2_with fail
      go_ret
      exact ⟨by rw [HF.out]; rfl, HB.out⟩

/-- one place of a sum, in the program's order -/
theorem add_facts {x y c : Nat} (hx : x < B) (hy : y < B) (hc : c ≤ 1) : ∃ t s lo hi : Nat, (s = x + y + c ∧ lo = s % B ∧ hi = s / B) ∧ IntKind.u64.wrap ((x : Int) + (c : Int)) = ((t : Nat) : Int) ∧ IntKind.u64.wrap ((t : Int) + (y : Int)) = ((s : Nat) : Int) ∧ IntKind.u32.wrap (s : Int) = ((lo : Nat) : Int) ∧ (s : Int) % 4294967296 = ((lo : Nat) : Int) ∧ IntKind.u64.wrap ((s : Int) / 4294967296) = ((hi : Nat) : Int) ∧ (s : Int) / 4294967296 = ((hi : Nat) : Int) ∧ hi ≤ 1 ∧ lo < B := by
  have hs4 : x + y + c < 4 * B := by have := B_two; omega
  have h2 : (x + y + c) / B < 2 := Nat.div_lt_of_lt_mul (by have := B_two; omega)
  have e : ((x + c : Nat) : Int) + (y : Int) = ((x + y + c : Nat) : Int) := by omega
  have e2 : (((x + y + c : Nat) : Int)) % 4294967296 = (((x + y + c) % B : Nat) : Int) := by unfold B; omega
  exact ⟨x + c, x + y + c, _, _, ⟨rfl, rfl, rfl⟩, u64_sum (by have := lt_BB hs4; omega), (by rw [e]; exact IntWalk.u64_in _ (by have := lt_BB hs4; rw [BB_eq] at this; omega)), (by rw [IntKind.wrap_u32', e2]), e2, (part_hi (lt_BB hs4)).2, (by unfold B; omega), by omega, parts.1⟩
set_option maxHeartbeats 2000000 in
set_option maxRecDepth 100000 in
theorem nadd_any (a b : List Nat) (va vb : Value) (w : World) (hla : a.length ≤ 50000) (hlb : b.length ≤ 50000) (hda : Dg a) (hdb : Dg b) (ha : NS w va a) (hb : NS w vb b) : Calls Tryz.prog 88 #[va, vb] w (NatPost (nat a + nat b) w) := by
  obtain ⟨i0, hi0, hz0, hz1, hz2⟩ := info_parts u32_info
  have HDA := Lib.hid hda
  have HDB := Lib.hid hdb
  have HA := Lib.hid ha
  have HB := Lib.hid hb
  obtain ⟨A1, c1, rfl, _, _, _⟩ := ns_cases ha
  obtain ⟨A2, c2, rfl, _, _, _⟩ := ns_cases hb
  clear ha hb hda hdb
  by_cases hab : a.length < b.length
  · have hdl : decide (a.length < b.length) = true := decide_eq_true (by omega)
    have hdl2 : decide ((a.length : Int) < (b.length : Int)) = true := decide_eq_true (by omega)
    have hle : a.length ≤ b.length := by omega
    have hl5 : b.length ≤ 50000 := by omega
    clear hab
    go_enter Tryz.func88, Tryz.ntmps88
    go_wp2_with (at_make; refine wpList_make_full _ rfl _ _ 45 rfl w.heap.size 53 i0 (.int .u32 0) 1 Tryz.underlying45 hi0 hz0 hz1 .i64 .i64 _ _ (b.length + 1) rfl rfl (by omega) (by omega) (by rw [hz2]; omega) (by unfold maxLen; omega) (Nat.le_refl _) ?_)
    intro wm hown hgr
    have HR : Hid (Row wm w.heap.size w.heap.size 53 (b.length + 1) (List.replicate (b.length + 1) 0)) := Row.made' hown
    have BM : Hid (Below w.heap.size w wm) := (Below.refl _ _).grown hgr (Nat.le_refl _) (fun q hq => by simp at hq)
    obtain ⟨g, hg⟩ : ∃ g, g = w.heap.size := ⟨_, rfl⟩
    have HG := Lib.hid hg
    rw [← hg] at HR ⊢
    clear hown hgr hg
    go_wp2_with fail
    go_loopw [22, 6] (fun iv cv wr => ∃ k c : Nat, ∃ o : List Nat, k ≤ b.length ∧ c ≤ 1 ∧ iv = .int .i64 (k : Int) ∧ cv = .int .u64 (c : Int) ∧ Hid (o.length = k ∧ Dg o ∧ nat o + c * B ^ k = val a k + val b k) ∧ Hid (Row wr g g 53 (b.length + 1) (o ++ List.replicate (b.length + 1 - k) 0)) ∧ Hid (Below w.heap.size w wr)) (fun iv _ _ => b.length - (intOf iv).toNat)
    case atStart => exact ⟨0, 0, [], Nat.zero_le _, by omega, rfl, rfl, ⟨rfl, Dg.nil, rfl⟩, HR, BM⟩
    case round =>
      obtain ⟨k, c, o, hk, hc, rfl, rfl, HI, HW, HB2⟩ := hrel
      have hk0 : (0 : Int) ≤ (k : Int) := by omega
      have hk5 : (k : Int) ≤ 50000 := by omega
      have gl := HW.out.lt
      have gf := HW.out.free k
      have gc := HW.out.cell (i := k) (by omega)
      by_cases hkn : k < b.length
      · have hdec : decide (k < b.length) = true := decide_eq_true hkn
        have hdec1 : decide ((k : Int) < (b.length : Int)) = true := decide_eq_true (by omega)
        obtain ⟨b1, o1, e1, hb1, hc1⟩ := ns_cell (HB.out.keep HB2.out) (by omega)
        subst e1
        have d1 := hc1 k hkn
        obtain ⟨t, s, lo, hi, hq, f1, f2, p1, p2, p3, p4, hi1, lo1⟩ := add_facts (dg_lt HDB.out k) (dg_lt HDA.out k) hc
        have HN := Lib.hid (add_step (k := k) HI.out.1 HI.out.2.2 (show s = dg a k + dg b k + c from hq.1.trans (by omega)))
        rw [← hq.2.1, ← hq.2.2] at HN
        have HR2 : Hid (Row (wr.setCell ⟨g, k, none⟩ (.int .u32 (lo : Int))) g g 53 (b.length + 1) ((o ++ [lo]) ++ List.replicate (b.length + 1 - (k + 1)) 0)) := by
          have := HW.out.put k lo
          rwa [set_fill' (by omega) HI.out.1] at this
        have HB3 : Hid (Below w.heap.size w (wr.setCell ⟨g, k, none⟩ (.int .u32 (lo : Int)))) := HW.out.below HB2.out (by have := HG.out; omega) _ _
        have HL := Lib.hid lo1
        have hs0 : (0 : Int) ≤ (s : Int) := by omega
        have ua := u64w (dg_lt HDA.out k)
        have ub := u64w (dg_lt HDB.out k)
        clear hc1 hq lo1
        by_cases hkq : k < a.length
        · have hdec3 : decide (k < a.length) = true := decide_eq_true hkq
          have hdec4 : decide ((k : Int) < (a.length : Int)) = true := decide_eq_true (by omega)
          obtain ⟨b2, o2, e2, hb2, hc2⟩ := ns_cell (HA.out.keep HB2.out) (by omega)
          subst e2
          have d2 := hc2 k hkq
          clear hc2
          go_wp2_with fail
          go_roundw
          case rel => exact ⟨k + 1, hi, o ++ [lo], by omega, hi1, by go_num, rfl, ⟨by simp [HI.out.1], HI.out.2.1.append (Dg.cons HL.out Dg.nil), HN.out⟩, HR2, HB3⟩
          case measure => simp [intOf]; omega
        · have hdec3 : decide (k < a.length) = false := decide_eq_false hkq
          have hdec4 : decide ((k : Int) < (a.length : Int)) = false := decide_eq_false (by omega)
          have hz : dg a k = 0 := dg_out (by omega)
          rw [hz] at f2
          have ts : (t : Int) = (s : Int) := by
            have h1 : IntKind.u64.wrap ((t : Int) + ((0 : Nat) : Int)) = (t : Int) := by
              rw [← f1]
              have e9 : ((dg b k : Nat) : Int) + (c : Int) = ((dg b k + c : Nat) : Int) := by omega
              have e8 : dg b k + c < 18446744073709551616 := by
                have := dg_lt HDB.out k
                unfold B at this
                omega
              have e7 : IntKind.u64.wrap (((dg b k + c : Nat) : Int)) = ((dg b k + c : Nat) : Int) := IntWalk.u64_in _ (by omega)
              rw [e9, e7]
              simpa using e7
            rw [← f2, h1]
          rw [ts] at f1
          clear f2 ts hz
          go_wp2_with fail
          go_roundw
          case rel => exact ⟨k + 1, hi, o ++ [lo], by omega, hi1, by go_num, rfl, ⟨by simp [HI.out.1], HI.out.2.1.append (Dg.cons HL.out Dg.nil), HN.out⟩, HR2, HB3⟩
          case measure => simp [intOf]; omega
      · have hdec : decide (k < b.length) = false := decide_eq_false hkn
        have hdec1 : decide ((k : Int) < (b.length : Int)) = false := decide_eq_false (by omega)
        obtain rfl : k = b.length := by omega
        have HE : Hid (nat (o ++ [c]) = nat a + nat b) := by
          have h1 := HI.out.2.2
          rw [val_nat (show a.length ≤ b.length by omega), val_nat (show b.length ≤ b.length by omega)] at h1
          rw [nat_append, HI.out.1]
          simp only [nat, Nat.mul_zero, Nat.add_zero]
          rw [Nat.mul_comm]
          exact h1
        have HR2 : Hid (Row (wr.setCell ⟨g, b.length, none⟩ (.int .u32 (c : Int))) g g 53 (b.length + 1) (o ++ [c])) := by
          have := HW.out.put b.length c
          rw [set_fill' (by omega) HI.out.1] at this
          show Row _ _ _ _ _ _
          simpa using this
        have HB3 : Hid (Below w.heap.size w (wr.setCell ⟨g, b.length, none⟩ (.int .u32 (c : Int)))) := HW.out.below HB2.out (by have := HG.out; omega) _ _
        have hl : (o ++ [c]).length = b.length + 1 := by simp [HI.out.1]
        have CT := ntrim_any (o ++ [c]) _ _ (by omega) (HI.out.2.1.append (Dg.cons (by unfold B; omega) Dg.nil)) (by have := HR2.out.ns; rwa [← hl] at this)
        unfold TrimPost at CT
        rw [HE.out, hl] at CT
        have CT := Lib.hid CT
        clear hl
        go_wp2_with fail
        refine CT.out.mono ?_
        rintro e w1 ⟨_, _, _, rfl, s1, rfl⟩
        have S1 := Lib.hid s1
        clear s1
        go_wp2_with fail
        go_ret
        exact ⟨_, rfl, S1.out, HB3.out⟩
  · have hdl : decide (a.length < b.length) = false := decide_eq_false (by omega)
    have hdl2 : decide ((a.length : Int) < (b.length : Int)) = false := decide_eq_false (by omega)
    have hle : b.length ≤ a.length := by omega
    have hl5 : a.length ≤ 50000 := by omega
    clear hab
    go_enter Tryz.func88, Tryz.ntmps88
    go_wp2_with (at_make; refine wpList_make_full _ rfl _ _ 45 rfl w.heap.size 53 i0 (.int .u32 0) 1 Tryz.underlying45 hi0 hz0 hz1 .i64 .i64 _ _ (a.length + 1) rfl rfl (by omega) (by omega) (by rw [hz2]; omega) (by unfold maxLen; omega) (Nat.le_refl _) ?_)
    intro wm hown hgr
    have HR : Hid (Row wm w.heap.size w.heap.size 53 (a.length + 1) (List.replicate (a.length + 1) 0)) := Row.made' hown
    have BM : Hid (Below w.heap.size w wm) := (Below.refl _ _).grown hgr (Nat.le_refl _) (fun q hq => by simp at hq)
    obtain ⟨g, hg⟩ : ∃ g, g = w.heap.size := ⟨_, rfl⟩
    have HG := Lib.hid hg
    rw [← hg] at HR ⊢
    clear hown hgr hg
    go_wp2_with fail
    go_loopw [22, 6] (fun iv cv wr => ∃ k c : Nat, ∃ o : List Nat, k ≤ a.length ∧ c ≤ 1 ∧ iv = .int .i64 (k : Int) ∧ cv = .int .u64 (c : Int) ∧ Hid (o.length = k ∧ Dg o ∧ nat o + c * B ^ k = val a k + val b k) ∧ Hid (Row wr g g 53 (a.length + 1) (o ++ List.replicate (a.length + 1 - k) 0)) ∧ Hid (Below w.heap.size w wr)) (fun iv _ _ => a.length - (intOf iv).toNat)
    case atStart => exact ⟨0, 0, [], Nat.zero_le _, by omega, rfl, rfl, ⟨rfl, Dg.nil, rfl⟩, HR, BM⟩
    case round =>
      obtain ⟨k, c, o, hk, hc, rfl, rfl, HI, HW, HB2⟩ := hrel
      have hk0 : (0 : Int) ≤ (k : Int) := by omega
      have hk5 : (k : Int) ≤ 50000 := by omega
      have gl := HW.out.lt
      have gf := HW.out.free k
      have gc := HW.out.cell (i := k) (by omega)
      by_cases hkn : k < a.length
      · have hdec : decide (k < a.length) = true := decide_eq_true hkn
        have hdec1 : decide ((k : Int) < (a.length : Int)) = true := decide_eq_true (by omega)
        obtain ⟨b1, o1, e1, hb1, hc1⟩ := ns_cell (HA.out.keep HB2.out) (by omega)
        subst e1
        have d1 := hc1 k hkn
        obtain ⟨t, s, lo, hi, hq, f1, f2, p1, p2, p3, p4, hi1, lo1⟩ := add_facts (dg_lt HDA.out k) (dg_lt HDB.out k) hc
        have HN := Lib.hid (add_step (k := k) HI.out.1 HI.out.2.2 (show s = dg a k + dg b k + c from hq.1))
        rw [← hq.2.1, ← hq.2.2] at HN
        have HR2 : Hid (Row (wr.setCell ⟨g, k, none⟩ (.int .u32 (lo : Int))) g g 53 (a.length + 1) ((o ++ [lo]) ++ List.replicate (a.length + 1 - (k + 1)) 0)) := by
          have := HW.out.put k lo
          rwa [set_fill' (by omega) HI.out.1] at this
        have HB3 : Hid (Below w.heap.size w (wr.setCell ⟨g, k, none⟩ (.int .u32 (lo : Int)))) := HW.out.below HB2.out (by have := HG.out; omega) _ _
        have HL := Lib.hid lo1
        have hs0 : (0 : Int) ≤ (s : Int) := by omega
        have ua := u64w (dg_lt HDA.out k)
        have ub := u64w (dg_lt HDB.out k)
        clear hc1 hq lo1
        by_cases hkq : k < b.length
        · have hdec3 : decide (k < b.length) = true := decide_eq_true hkq
          have hdec4 : decide ((k : Int) < (b.length : Int)) = true := decide_eq_true (by omega)
          obtain ⟨b2, o2, e2, hb2, hc2⟩ := ns_cell (HB.out.keep HB2.out) (by omega)
          subst e2
          have d2 := hc2 k hkq
          clear hc2
          go_wp2_with fail
          go_roundw
          case rel => exact ⟨k + 1, hi, o ++ [lo], by omega, hi1, by go_num, rfl, ⟨by simp [HI.out.1], HI.out.2.1.append (Dg.cons HL.out Dg.nil), HN.out⟩, HR2, HB3⟩
          case measure => simp [intOf]; omega
        · have hdec3 : decide (k < b.length) = false := decide_eq_false hkq
          have hdec4 : decide ((k : Int) < (b.length : Int)) = false := decide_eq_false (by omega)
          have hz : dg b k = 0 := dg_out (by omega)
          rw [hz] at f2
          have ts : (t : Int) = (s : Int) := by
            have h1 : IntKind.u64.wrap ((t : Int) + ((0 : Nat) : Int)) = (t : Int) := by
              rw [← f1]
              have e9 : ((dg a k : Nat) : Int) + (c : Int) = ((dg a k + c : Nat) : Int) := by omega
              have e8 : dg a k + c < 18446744073709551616 := by
                have := dg_lt HDA.out k
                unfold B at this
                omega
              have e7 : IntKind.u64.wrap (((dg a k + c : Nat) : Int)) = ((dg a k + c : Nat) : Int) := IntWalk.u64_in _ (by omega)
              rw [e9, e7]
              simpa using e7
            rw [← f2, h1]
          rw [ts] at f1
          clear f2 ts hz
          go_wp2_with fail
          go_roundw
          case rel => exact ⟨k + 1, hi, o ++ [lo], by omega, hi1, by go_num, rfl, ⟨by simp [HI.out.1], HI.out.2.1.append (Dg.cons HL.out Dg.nil), HN.out⟩, HR2, HB3⟩
          case measure => simp [intOf]; omega
      · have hdec : decide (k < a.length) = false := decide_eq_false hkn
        have hdec1 : decide ((k : Int) < (a.length : Int)) = false := decide_eq_false (by omega)
        obtain rfl : k = a.length := by omega
        have HE : Hid (nat (o ++ [c]) = nat a + nat b) := by
          have h1 := HI.out.2.2
          rw [val_nat (show a.length ≤ a.length by omega), val_nat (show b.length ≤ a.length by omega)] at h1
          rw [nat_append, HI.out.1]
          simp only [nat, Nat.mul_zero, Nat.add_zero]
          rw [Nat.mul_comm]
          exact h1
        have HR2 : Hid (Row (wr.setCell ⟨g, a.length, none⟩ (.int .u32 (c : Int))) g g 53 (a.length + 1) (o ++ [c])) := by
          have := HW.out.put a.length c
          rw [set_fill' (by omega) HI.out.1] at this
          show Row _ _ _ _ _ _
          simpa using this
        have HB3 : Hid (Below w.heap.size w (wr.setCell ⟨g, a.length, none⟩ (.int .u32 (c : Int)))) := HW.out.below HB2.out (by have := HG.out; omega) _ _
        have hl : (o ++ [c]).length = a.length + 1 := by simp [HI.out.1]
        have CT := ntrim_any (o ++ [c]) _ _ (by omega) (HI.out.2.1.append (Dg.cons (by unfold B; omega) Dg.nil)) (by have := HR2.out.ns; rwa [← hl] at this)
        unfold TrimPost at CT
        rw [HE.out, hl] at CT
        have CT := Lib.hid CT
        clear hl
        go_wp2_with fail
        refine CT.out.mono ?_
        rintro e w1 ⟨_, _, _, rfl, s1, rfl⟩
        have S1 := Lib.hid s1
        clear s1
        go_wp2_with fail
        go_ret
        exact ⟨_, rfl, S1.out, HB3.out⟩
end Fr
end Go.Proofs.YthehchdonmmpaaaGreatDoor
namespace Go.Proofs.YthehchdonmmpaaaGreatDoor
open Go.ChangeShapes Go.WideShapes Go.ChangeAt Go.RowKit
set_option linter.unusedVariables false
set_option linter.unusedSimpArgs false
namespace Fr
/-- what shifted answers: a new row of one digit more -/
def ShiftPost (a : List Nat) (s : Nat) (w : World) (e : Ending) (w' : World) : Prop := ∃ g L, e = .returned (.slice (some ⟨g, 0, none⟩) (a.length + 1) (a.length + 1)) ∧ Row w' w.heap.size g 53 (a.length + 1) L ∧ Dg L ∧ nat L = nat a * 2 ^ s ∧ Below w.heap.size w w'
set_option maxHeartbeats 1000000 in
set_option maxRecDepth 100000 in
theorem nshifted_any (a : List Nat) (va : Value) (s : Nat) (w : World) (hla : a.length ≤ 50000) (hda : Dg a) (hs : s < 32) (ha : NS w va a) : Calls Tryz.prog 101 #[va, .int .u64 (s : Int)] w (ShiftPost a s w) := by
  obtain ⟨i0, hi0, hz0, hz1, hz2⟩ := info_parts u32_info
  have HDA := Lib.hid hda
  have HA := Lib.hid ha
  obtain ⟨A1, c1, rfl, _, _, _⟩ := ns_cases ha
  have hs0 : (0 : Int) ≤ (s : Int) := by omega
  have hs1 : (s : Int) < 32 := by omega
  clear ha hda
  go_enter Tryz.func101, Tryz.ntmps101
  go_wp2_with (at_make; refine wpList_make_full _ rfl _ _ 45 rfl w.heap.size 53 i0 (.int .u32 0) 1 Tryz.underlying45 hi0 hz0 hz1 .i64 .i64 _ _ (a.length + 1) rfl rfl (by omega) (by omega) (by rw [hz2]; omega) (by unfold maxLen; omega) (Nat.le_refl _) ?_)
  intro wm hown hgr
  have HR : Hid (Row wm w.heap.size w.heap.size 53 (a.length + 1) (List.replicate (a.length + 1) 0)) := Row.made' hown
  have BM : Hid (Below w.heap.size w wm) := (Below.refl _ _).grown hgr (Nat.le_refl _) (fun q hq => by simp at hq)
  obtain ⟨g, hg⟩ : ∃ g, g = w.heap.size := ⟨_, rfl⟩
  have HG := Lib.hid hg
  rw [← hg] at HR ⊢
  clear hown hgr hg
  go_wp2_with fail
  go_loopw [14] (fun iv wr => ∃ i c : Nat, ∃ o : List Nat, i ≤ a.length ∧ c < 2 ^ s ∧ iv = .int .i64 (i : Int) ∧ Hid (o.length = i ∧ Dg o ∧ nat o + c * B ^ i = val a i * 2 ^ s) ∧ Hid (Row wr g g 53 (a.length + 1) ((o ++ [c]) ++ List.replicate (a.length - i) 0)) ∧ Hid (Below w.heap.size w wr)) (fun iv _ => a.length - (intOf iv).toNat)
  case atStart => exact ⟨0, 0, [], Nat.zero_le _, Nat.two_pow_pos s, rfl, ⟨rfl, Dg.nil, by simp [nat, val]⟩, (by show Row _ _ _ _ _ _; simpa [List.replicate_succ] using HR.out), BM⟩
  case round =>
    obtain ⟨i, c, o, hi, hc, rfl, HI, HW, HB2⟩ := hrel
    have hi0' : (0 : Int) ≤ (i : Int) := by omega
    have hi5 : (i : Int) ≤ 50000 := by omega
    by_cases hik : i < a.length
    · have hdec : decide (i < a.length) = true := decide_eq_true hik
      have hdec1 : decide ((i : Int) < (a.length : Int)) = true := decide_eq_true (by omega)
      obtain ⟨b1, o1, e1, hb1, hc1⟩ := ns_cell (HA.out.keep HB2.out) (by omega)
      subst e1
      have d1 := hc1 i (by omega)
      have gl := HW.out.lt
      have gf := HW.out.free i
      have gc : wr.cell? ⟨g, i, none⟩ = some (.int .u32 (c : Int)) := by
        have := HW.out.cell (i := i) (by omega)
        rwa [dg_app_lt (by simp [HI.out.1]), dg_app_ge (by rw [HI.out.1]; exact Nat.le_refl _), HI.out.1, Nat.sub_self] at this
      have gf2 := HW.out.free (i + 1)
      have gc2 := HW.out.cell (i := i + 1) (by omega)
      have ua := u64w (dg_lt HDA.out i)
      obtain ⟨t, lo, hi, z, hq, f1, f2, f3, f4, f5, f6, hi1, z1⟩ := shift_facts (dg_lt HDA.out i) hs hc
      have HN : Hid (nat (o ++ [z]) + hi * B ^ (i + 1) = val a (i + 1) * 2 ^ s) := by
        have h1 := HI.out.2.2
        show _ = (val a i + dg a i * B ^ i) * 2 ^ s
        rw [nat_append, HI.out.1, Nat.pow_succ]
        simp only [nat, Nat.mul_zero, Nat.add_zero]
        generalize 2 ^ s = p at *
        generalize B ^ i = P at *
        grind
      have HR2 : Hid (Row ((wr.setCell ⟨g, i, none⟩ (.int .u32 (z : Int))).setCell ⟨g, i + 1, none⟩ (.int .u32 (hi : Int))) g g 53 (a.length + 1) (((o ++ [z]) ++ [hi]) ++ List.replicate (a.length - (i + 1)) 0)) := by
        have h1 := (HW.out.put i z).put (i + 1) hi
        obtain ⟨m, hm⟩ : ∃ m, a.length - i = m + 1 := ⟨a.length - i - 1, by omega⟩
        have hm2 : a.length - (i + 1) = m := by omega
        rw [hm] at h1
        rw [hm2]
        have e1 : ((o ++ [c]) ++ List.replicate (m + 1) 0).set i z = (o ++ [z]) ++ List.replicate (m + 1) 0 := by
          rw [List.append_assoc, List.set_append_right _ _ (by rw [HI.out.1]; exact Nat.le_refl _), HI.out.1, Nat.sub_self]
          simp
        have e2 : ((o ++ [z]) ++ List.replicate (m + 1) 0).set (i + 1) hi = ((o ++ [z]) ++ [hi]) ++ List.replicate m 0 := by
          have := set_fill (o ++ [z]) m hi
          rwa [show (o ++ [z]).length = i + 1 by simp [HI.out.1]] at this
        rw [e1, e2] at h1
        exact h1
      have HB3 : Hid (Below w.heap.size w ((wr.setCell ⟨g, i, none⟩ (.int .u32 (z : Int))).setCell ⟨g, i + 1, none⟩ (.int .u32 (hi : Int)))) := (HW.out.put i z).below (HW.out.below HB2.out (by have := HG.out; omega) _ _) (by have := HG.out; omega) _ _
      have HL := Lib.hid z1
      clear hc1 hq z1
      go_wp2_with fail
      go_roundw
      case rel => exact ⟨i + 1, hi, o ++ [z], by omega, hi1, by go_num, ⟨by simp [HI.out.1], HI.out.2.1.append (Dg.cons HL.out Dg.nil), HN.out⟩, HR2, HB3⟩
      case measure => simp [intOf]; omega
    · have hdec : decide (i < a.length) = false := decide_eq_false hik
      have hdec1 : decide ((i : Int) < (a.length : Int)) = false := decide_eq_false (by omega)
      obtain rfl : i = a.length := by omega
      have HE : Hid (nat (o ++ [c]) = nat a * 2 ^ s) := by
        have h1 := HI.out.2.2
        rw [val_nat (Nat.le_refl _)] at h1
        rw [nat_append, HI.out.1]
        simp only [nat, Nat.mul_zero, Nat.add_zero]
        rw [Nat.mul_comm]
        exact h1
      have HR2 : Hid (Row wr g g 53 (a.length + 1) (o ++ [c])) := by
        have := HW.out
        rw [Nat.sub_self] at this
        show Row _ _ _ _ _ _
        simpa using this
      have hcB : Hid (c < B) := by
        have : 2 ^ s ≤ 2 ^ 31 := Nat.pow_le_pow_right (by decide) (by omega)
        show c < B
        unfold B
        omega
      go_wp2_with fail
      go_ret
      exact ⟨g, o ++ [c], rfl, by have := HR2.out; rw [← HG.out]; exact this, HI.out.2.1.append (Dg.cons hcB.out Dg.nil), HE.out, HB2.out⟩
end Fr
end Go.Proofs.YthehchdonmmpaaaGreatDoor
namespace Go.Proofs.YthehchdonmmpaaaGreatDoor
set_option linter.unusedVariables false
namespace Fr
/-- a number by its two highest digits and the rest -/
theorem val_two (l : List Nat) (n : Nat) : val l (n + 2) = val l n + (dg l (n + 1) * B + dg l n) * B ^ n := by
  have e1 : val l (n + 1) = val l n + dg l n * B ^ n := rfl
  have e2 : val l (n + 2) = val l (n + 1) + dg l (n + 1) * B ^ (n + 1) := rfl
  have e3 : B ^ (n + 1) = B ^ n * B := Nat.pow_succ ..
  grind
/-- a number by its three highest digits and the rest -/
theorem val_three (l : List Nat) (n : Nat) : val l (n + 3) = val l n + ((dg l (n + 2) * B + dg l (n + 1)) * B + dg l n) * B ^ n := by
  have e1 := val_two l n
  have e2 : val l (n + 3) = val l (n + 2) + dg l (n + 2) * B ^ (n + 2) := rfl
  have e3 : B ^ (n + 2) = B ^ n * B * B := by rw [Nat.pow_succ, Nat.pow_succ]
  grind
/-- the first guess is not too low: P = B ^ (n - 1) -/
theorem guess_low {U V q v1 top P u0 v0 : Nat} (h : q * V ≤ U) (hV : V = v0 + v1 * P) (hU : U = u0 + top * P) (hu : u0 < P) : q * v1 ≤ top := by
  rcases Nat.lt_or_ge top (q * v1) with hlt | hle
  · exfalso
    have h1 : (top + 1) * P ≤ q * v1 * P := Nat.mul_le_mul_right _ hlt
    rw [Nat.succ_mul] at h1
    have h2 : q * v1 * P ≤ q * V := by
      have : q * V = q * v0 + q * v1 * P := by grind
      omega
    omega
  · exact hle
/-- a guess that fails the test is too high: P = B ^ (n - 2) -/
theorem guess_dec {U V g rest v1 v2 u2 top P u0 v0 : Nat} (ht : g * v1 + rest = top) (h : rest * B + u2 < g * v2) (hV : V = v0 + (v1 * B + v2) * P) (hU : U = u0 + (top * B + u2) * P) (hu : u0 < P) : U < g * V := by
  have e : top * B = g * v1 * B + rest * B := by rw [← ht, Nat.add_mul]
  have h1 : top * B + u2 + 1 ≤ g * (v1 * B + v2) := by
    rw [Nat.mul_add, ← Nat.mul_assoc]
    omega
  have h2 : (top * B + u2 + 1) * P ≤ g * (v1 * B + v2) * P := Nat.mul_le_mul_right _ h1
  rw [Nat.succ_mul] at h2
  have h3 : g * (v1 * B + v2) * P ≤ g * V := by
    have : g * V = g * v0 + g * (v1 * B + v2) * P := by grind
    omega
  omega
/-- a guess that passes the test is too high by one at most -/
theorem guess_up {U V g rest v1 v2 u2 top P u0 v0 : Nat} (ht : g * v1 + rest = top) (h : g * v2 ≤ rest * B + u2) (hg : g ≤ B) (hv1 : 0 < v1) (hV : V = v0 + (v1 * B + v2) * P) (hv : v0 < P) (hU : U = u0 + (top * B + u2) * P) : g * V < U + V := by
  have hP : 0 < P := by omega
  have e : top * B = g * v1 * B + rest * B := by rw [← ht, Nat.add_mul]
  have h1 : g * (v1 * B + v2) ≤ top * B + u2 := by
    rw [Nat.mul_add, ← Nat.mul_assoc]
    omega
  have h2 : g * (v1 * B + v2) * P ≤ (top * B + u2) * P := Nat.mul_le_mul_right _ h1
  have h3 : B * P ≤ (v1 * B + v2) * P := Nat.mul_le_mul_right _ (by have := Nat.mul_le_mul_right B hv1; omega)
  rcases Nat.eq_zero_or_pos g with rfl | hg0
  · rw [Nat.zero_mul]
    have := Nat.mul_pos B_pos hP
    omega
  · have h4 : g * v0 < g * P := Nat.mul_lt_mul_of_pos_left hv hg0
    have h5 : g * P ≤ B * P := Nat.mul_le_mul_right _ hg
    have h6 : g * V = g * v0 + g * (v1 * B + v2) * P := by grind
    omega
/-- what is between the bounds is the quotient or one more -/
theorem guess_two {U V g : Nat} (hV : 0 < V) (h1 : U / V ≤ g) (h2 : g * V < U + V) : g = U / V ∨ g = U / V + 1 := by
  have h3 := Nat.mod_lt U hV
  have h4 := Nat.mod_add_div U V
  generalize U / V = q at *
  generalize U % V = r at *
  have h5 : g < q + 2 := by
    rcases Nat.lt_or_ge g (q + 2) with h | h
    · exact h
    · exfalso
      have := Nat.mul_le_mul_right V h
      rw [Nat.add_mul, Nat.mul_comm q V] at this
      omega
  omega
/-- a place of the product that is taken away -/
theorem take_step {U W Vv g x y c b p lo br k : Nat} (hp : p = g * y + c) (h : U + (c + b) * B ^ k = W + g * Vv) (hs : lo + p % B + b = x + br * B) : (U + x * B ^ k) + (p / B + br) * B ^ (k + 1) = (W + lo * B ^ k) + g * (Vv + y * B ^ k) := by
  have e2 : p % B + p / B * B = p := by rw [Nat.mul_comm]; exact Nat.mod_add_div p B
  have e3 : B ^ (k + 1) = B ^ k * B := Nat.pow_succ ..
  generalize p % B = d at *
  generalize p / B = q at *
  grind
/-- the last place, no borrow -/
theorem take_last_no {U W V g x c b k d : Nat} (h : U + (c + b) * B ^ k = W + g * V) (hd : d + c + b = x) : U + x * B ^ k = (W + d * B ^ k) + g * V := by
  grind
/-- the last place, with a borrow -/
theorem take_last_yes {U W V g x c b k d : Nat} (h : U + (c + b) * B ^ k = W + g * V) (hd : d + c + b = x + B) : (U + x * B ^ k) + B ^ (k + 1) = (W + d * B ^ k) + g * V := by
  have e3 : B ^ (k + 1) = B ^ k * B := Nat.pow_succ ..
  grind
/-- no borrow: the guess is the quotient -/
theorem take_no {U V W g : Nat} (hV : 0 < V) (hg : g = U / V ∨ g = U / V + 1) (h : U = W + g * V) : g = U / V ∧ W = U % V := by
  have h3 := Nat.mod_lt U hV
  have h4 := Nat.mod_add_div U V
  rcases hg with e | e
  · refine ⟨e, ?_⟩
    rw [← e, Nat.mul_comm] at h4
    omega
  · exfalso
    generalize U / V = q at *
    rw [e, Nat.succ_mul, Nat.mul_comm q V] at h
    omega
/-- a borrow: the guess is one too high, and the divisor is given back -/
theorem take_yes {U V W W2 g M c : Nat} (hV : 0 < V) (hg : g = U / V ∨ g = U / V + 1) (hW : W < M) (hW2 : W2 < M) (hVM : V ≤ M) (h : U + M = W + g * V) (h2 : W2 + c * M = W + V) : g = U / V + 1 ∧ W2 = U % V := by
  have h3 := Nat.mod_lt U hV
  have h4 := Nat.mod_add_div U V
  generalize U / V = q at *
  generalize U % V = r at *
  rcases hg with e | e
  · exfalso
    rw [e, Nat.mul_comm] at h
    omega
  · refine ⟨e, ?_⟩
    rw [e, Nat.succ_mul, Nat.mul_comm q V] at h
    rcases c with _ | _ | c
    · omega
    · omega
    · rw [Nat.succ_mul, Nat.succ_mul] at h2
      omega
end Fr
end Go.Proofs.YthehchdonmmpaaaGreatDoor
namespace Go.Proofs.YthehchdonmmpaaaGreatDoor
open Go.RowKit
set_option linter.unusedVariables false
namespace Fr
/-- the number of m + 3 digits from place j on -/
def win (U : List Nat) (j m : Nat) : Nat := val (U.drop j) (m + 3)
theorem val_set_below (X : List Nat) (j k d : Nat) : val ((X.set (j + k) d).drop j) k = val (X.drop j) k := by
  refine val_same fun i hi => ?_
  rw [dg_drop, dg_drop, dg_set_ne (by omega)]
theorem val_set_at {X : List Nat} {j k d : Nat} (h : j + k < X.length) : val ((X.set (j + k) d).drop j) (k + 1) = val (X.drop j) k + d * B ^ k := by
  show val _ k + dg _ k * B ^ k = _
  rw [val_set_below, dg_drop, dg_set_same h]
/-- the window while the product is taken away -/
structure SubSt (U V X : List Nat) (j k G c b : Nat) : Prop where
  dgs : Dg X
  same : ∀ i, i < j ∨ j + k ≤ i → dg X i = dg U i
  sum : val (U.drop j) k + (c + b) * B ^ k = val (X.drop j) k + G * val V k
theorem SubSt.start {U V : List Nat} (j G : Nat) (h : Dg U) : SubSt U V U j 0 G 0 0 := ⟨h, fun _ _ => rfl, by simp [val]⟩
theorem SubSt.step {U V X : List Nat} {j k G c b p lo br : Nat} (h : SubSt U V X j k G c b) (hl : j + k < X.length) (hp : p = G * dg V k + c) (hs : lo + p % B + b = dg U (j + k) + br * B) (hlo : lo < B) : SubSt U V (X.set (j + k) lo) j (k + 1) G (p / B) br := by
  refine ⟨h.dgs.set hlo _, fun i hi => ?_, ?_⟩
  · rw [dg_set_ne (by omega)]
    exact h.same i (by omega)
  · rw [val_set_at hl]
    show (val (U.drop j) k + dg (U.drop j) k * B ^ k) + _ = _ + G * (val V k + dg V k * B ^ k)
    rw [dg_drop]
    exact take_step hp h.sum hs
/-- the window while the divisor is given back -/
structure AddSt (X V Y : List Nat) (j k c : Nat) : Prop where
  dgs : Dg Y
  same : ∀ i, i < j ∨ j + k ≤ i → dg Y i = dg X i
  sum : val (Y.drop j) k + c * B ^ k = val (X.drop j) k + val V k
theorem AddSt.start {X V : List Nat} (j : Nat) (h : Dg X) : AddSt X V X j 0 0 := ⟨h, fun _ _ => rfl, by simp [val]⟩
theorem add_place {S A C c x y s lo hi k : Nat} (h : S + c * B ^ k = A + C) (hs : lo + hi * B = x + y + c) : (S + lo * B ^ k) + hi * B ^ (k + 1) = (A + x * B ^ k) + (C + y * B ^ k) := by
  rw [Nat.pow_succ]
  generalize B ^ k = P at *
  grind
theorem back_end {S A C c x z c2 n K : Nat} (hK : K = n + 1) (h : S + c * B ^ n = A + C) (hz : z + c2 * B = x + c) : (S + z * B ^ n) + c2 * B ^ K = (A + x * B ^ n) + C := by
  subst hK
  rw [Nat.pow_succ]
  generalize B ^ n = P at *
  grind
theorem AddSt.step {X V Y : List Nat} {j k c lo hi : Nat} (h : AddSt X V Y j k c) (hl : j + k < Y.length) (hs : lo + hi * B = dg X (j + k) + dg V k + c) (hlo : lo < B) : AddSt X V (Y.set (j + k) lo) j (k + 1) hi := by
  refine ⟨h.dgs.set hlo _, fun i hi => ?_, ?_⟩
  · rw [dg_set_ne (by omega)]
    exact h.same i (by omega)
  · rw [val_set_at hl]
    show _ = (val (X.drop j) k + dg (X.drop j) k * B ^ k) + (val V k + dg V k * B ^ k)
    rw [dg_drop]
    exact add_place (s := 0) h.sum hs
/-- a difference that may fall below zero -/
theorem less_facts {x a b : Nat} (hx : x < B) (ha : a < B) (hb : b ≤ 1) : ∃ e d lo br : Nat, (lo + a + b = x + br * B) ∧ IntKind.u64.wrap ((x : Int) - (a : Int)) = ((e : Nat) : Int) ∧ IntKind.u64.wrap ((e : Int) - (b : Int)) = ((d : Nat) : Int) ∧ (d : Int) % 4294967296 = ((lo : Nat) : Int) ∧ IntKind.u32.wrap (d : Int) = ((lo : Nat) : Int) ∧ (d : Int) / 9223372036854775808 = ((br : Nat) : Int) ∧ (0 : Int) ≤ (d : Int) ∧ br ≤ 1 ∧ lo < B := by
  have hw : ∀ n : Int, IntKind.u64.wrap n = n % 18446744073709551616 := fun n => by simp [IntKind.wrap, IntKind.bits, IntKind.signed]
  by_cases h : a + b ≤ x
  · refine ⟨x - a, x - a - b, x - a - b, 0, by omega, ?_, ?_, ?_, ?_, ?_, by omega, by omega, by omega⟩
    · rw [hw]; unfold B at *; omega
    · rw [hw]; unfold B at *; omega
    · unfold B at *; omega
    · rw [IntKind.wrap_u32']; unfold B at *; omega
    · unfold B at *; omega
  · by_cases h2 : a ≤ x
    · refine ⟨x - a, 18446744073709551616 + x - a - b, B + x - a - b, 1, by unfold B at *; omega, ?_, ?_, ?_, ?_, ?_, by omega, by omega, by unfold B at *; omega⟩
      · rw [hw]; unfold B at *; omega
      · rw [hw]; unfold B at *; omega
      · unfold B at *; omega
      · rw [IntKind.wrap_u32']; unfold B at *; omega
      · unfold B at *; omega
    · refine ⟨18446744073709551616 + x - a, 18446744073709551616 + x - a - b, B + x - a - b, 1, by unfold B at *; omega, ?_, ?_, ?_, ?_, ?_, by omega, by omega, by unfold B at *; omega⟩
      · rw [hw]; unfold B at *; omega
      · rw [hw]; unfold B at *; omega
      · unfold B at *; omega
      · rw [IntKind.wrap_u32']; unfold B at *; omega
      · unfold B at *; omega
/-- a place of a product, cut -/
theorem prod_facts {G y c : Nat} (hG : G < B) (hy : y < B) (hc : c < B) : ∃ t p c2 pl : Nat, (p = G * y + c ∧ c2 = p / B ∧ pl = p % B) ∧ IntKind.u64.wrap ((G : Int) * (y : Int)) = ((t : Nat) : Int) ∧ IntKind.u64.wrap ((t : Int) + (c : Int)) = ((p : Nat) : Int) ∧ (p : Int) / 4294967296 = ((c2 : Nat) : Int) ∧ bits BinOp.and IntKind.u64 (p : Int) 4294967295 = ((pl : Nat) : Int) ∧ (0 : Int) ≤ (p : Int) ∧ c2 < B ∧ pl < B := by
  have h := mul_lt_BB hG hy hc
  refine ⟨G * y, G * y + c, _, _, ⟨rfl, rfl, rfl⟩, u64_mul (by omega), u64_sum h, by unfold B; omega, ?_, by omega, Nat.div_lt_of_lt_mul h, Nat.mod_lt _ B_pos⟩
  generalize G * y + c = p at *
  rw [BB_eq] at h
  have e : (4294967295 : Int) = ((4294967295 : Nat) : Int) := rfl
  rw [e, u64_and_nat _ _ h (by decide)]
  have := Nat.and_two_pow_sub_one_eq_mod p 32
  have e2 : (2 : Nat) ^ 32 = B := rfl
  rw [e2] at this
  have e3 : B - 1 = 4294967295 := rfl
  rw [e3] at this
  rw [this]
/-- a place of a sum, cut -/
theorem back_facts {x y c : Nat} (hx : x < B) (hy : y < B) (hc : c ≤ 1) : ∃ t s lo hi : Nat, (lo + hi * B = x + y + c) ∧ IntKind.u64.wrap ((x : Int) + (y : Int)) = ((t : Nat) : Int) ∧ IntKind.u64.wrap ((t : Int) + (c : Int)) = ((s : Nat) : Int) ∧ IntKind.u32.wrap (s : Int) = ((lo : Nat) : Int) ∧ (s : Int) % 4294967296 = ((lo : Nat) : Int) ∧ (s : Int) / 4294967296 = ((hi : Nat) : Int) ∧ (0 : Int) ≤ (s : Int) ∧ hi ≤ 1 ∧ lo < B := by
  obtain ⟨t, s, lo, hi, h1, h2, h3, h4, h5, h6, h7⟩ := sum_facts hx hy hc
  have hm := Nat.mod_add_div s B
  refine ⟨t, s, lo, hi, ?_, h2, h3, ?_, ?_, ?_, by omega, h6, h7⟩
  · rw [h1.2.1, h1.2.2, Nat.mul_comm, hm]; exact h1.1
  · rw [IntKind.wrap_u32', h1.2.1]; unfold B; omega
  · rw [h1.2.1]; unfold B; omega
  · rw [h1.2.2]; unfold B; omega
/-- the last place of the sum, in 32 bits -/
theorem back_last {x c : Nat} (hx : x < B) (hc : c ≤ 1) : ∃ z c2 : Nat, (z + c2 * B = x + c) ∧ IntKind.u32.wrap ((x : Int) + (c : Int)) = ((z : Nat) : Int) ∧ z < B := by
  by_cases h : x + c < B
  · exact ⟨x + c, 0, by omega, by rw [IntKind.wrap_u32']; unfold B at *; omega, h⟩
  · exact ⟨0, 1, by unfold B at *; omega, by rw [IntKind.wrap_u32']; unfold B at *; omega, B_pos⟩
end Fr
end Go.Proofs.YthehchdonmmpaaaGreatDoor
