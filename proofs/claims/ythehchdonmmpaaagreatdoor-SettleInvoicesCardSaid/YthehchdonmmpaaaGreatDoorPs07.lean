/- natural.DivMod: a divisor of two digits and more. Printed by gen_nb7.py. Plain: what a stable sort of indices computes; rows of integers of the call's own. Contract of slices.insertionSortCmpFunc at the law's closure. slices.SortStableFunc of fewer than 20 elements. The closures of amount.Share. Contracts of amount.is, Check and of Share where it refuses. Printed by gen_sh2.py. -/
import Derived.Test.YthehchdonmmpaaaGreatDoorPs02
import Derived.Test.YthehchdonmmpaaaGreatDoorPs03
import Derived.Test.YthehchdonmmpaaaGreatDoorPs04
import Derived.Test.YthehchdonmmpaaaGreatDoorPs05
import Derived.Test.YthehchdonmmpaaaGreatDoorPs01
import Derived.Test.YthehchdonmmpaaaGreatDoorProg
import Derived.Deep.QuietTactic
import Derived.IntWalk
namespace Go.Proofs.YthehchdonmmpaaaGreatDoor
open Go.ChangeShapes Go.WideShapes Go.ChangeAt Go.RowKit
set_option linter.unusedVariables false
set_option linter.unusedSimpArgs false
namespace Fr
theorem bits_facts {x s : Nat} (hx : 0 < x) (hs : x * 2 ^ s < B) : ∃ t : Nat, t = x * 2 ^ s ∧ IntKind.u32.wrap ((x : Int) * 2 ^ s) = ((t : Nat) : Int) ∧ s < 32 ∧ (t < 2147483648 → x * 2 ^ (s + 1) < B) := by
  have e : (x : Int) * 2 ^ s = ((x * 2 ^ s : Nat) : Int) := by simp
  refine ⟨_, rfl, ?_, ?_, fun h => ?_⟩
  · rw [e, IntKind.wrap_u32']
    generalize x * 2 ^ s = t at *
    unfold B at hs
    omega
  · have h1 : 2 ^ s ≤ x * 2 ^ s := Nat.le_mul_of_pos_left _ hx
    have h2 : 2 ^ s < 2 ^ 32 := Nat.lt_of_le_of_lt h1 hs
    exact (Nat.pow_lt_pow_iff_right (by decide)).1 h2
  · rw [Nat.pow_succ, ← Nat.mul_assoc]
    unfold B
    omega
set_option maxHeartbeats 4000000 in
set_option maxRecDepth 100000 in
theorem ndiv_long (a b : List Nat) (va vb : Value) (w : World) (hla : a.length ≤ 50000) (hlb : b.length ≤ 50000) (hda : Dg a) (hdb : Dg b) (hb0 : nat b ≠ 0) (ha : NS w va a) (hb : NS w vb b) (hle : nat b ≤ nat a) (hbg : B ≤ nat b) : Calls Tryz.prog 89 #[va, vb] w (DivPost (nat a) (nat b) w) := by
  obtain ⟨i0, hi0, hz0, hz1, hz2⟩ := info_parts u32_info
  have CA := Lib.hid (ntrim_any a va w (by omega) hda ha)
  have CB := Lib.hid (ntrim_any b vb w (by omega) hdb hb)
  unfold TrimPost at CA CB
  obtain ⟨A1, c1, rfl, _, _, _⟩ := ns_cases ha
  obtain ⟨A2, c2, rfl, _, _, _⟩ := ns_cases hb
  have la := (digs_split hda).2
  have lb := (digs_split hdb).2
  clear ha hb hda hdb
  obtain ⟨x, hx⟩ : ∃ x, x = nat a := ⟨_, rfl⟩
  obtain ⟨y, hy⟩ : ∃ y, y = nat b := ⟨_, rfl⟩
  rw [← hx] at CA la ⊢ hle
  rw [← hy] at CB lb hb0 ⊢ hle hbg
  clear hx hy
  have HP := Lib.hid (nat_digs x)
  have HQ := Lib.hid (nat_digs y)
  have DA := Lib.hid (Dg.digs x)
  have DB := Lib.hid (Dg.digs y)
  have HY := Lib.hid hb0
  have hq2 : 1 < (digs y).length := digs_len_ge (by rw [Nat.pow_one]; exact hbg)
  have hpq := digs_len_mono hle
  obtain ⟨cv, HC, hcv⟩ : ∃ cv : Int, Hid (cmp x y = cv) ∧ 0 ≤ cv := ⟨_, rfl, cmp_ge hle⟩
  have hcd : decide (cv < 0) = false := decide_eq_false (by omega)
  have HLE := Lib.hid hle
  have HTOP : Hid (∀ j, j < (digs y).length → B ^ j ≤ y) := fun j h => digs_ge h
  have HXL : Hid (x < B ^ (digs x).length) := lt_digs_len x
  clear hb0 hle hcv hbg
  generalize digs x = p at *
  generalize hqq : digs y = q at *
  obtain ⟨m, hm⟩ : ∃ m, q.length = m + 2 := ⟨q.length - 2, by omega⟩
  obtain ⟨k, hk⟩ : ∃ k, p.length = k + (m + 2) := ⟨p.length - (m + 2), by omega⟩
  have HM := Lib.hid hm
  have HK := Lib.hid hk
  have hm5 : m ≤ 50000 := by omega
  have hk5 : k ≤ 50000 := by omega
  have hs5 : k + (m + 2) ≤ 50000 := by omega
  rw [hm] at CB
  rw [hk] at CA
  clear hqq hq2 hpq la lb hm hk
  go_enter Tryz.func89, Tryz.ntmps89
  go_wp2_with fail
  refine CA.out.mono ?_
  rintro e w1 ⟨A3, _, h1, rfl, s1, rfl⟩
  injection h1 with h1 _ _
  subst h1
  have S1 := Lib.hid s1
  clear s1
  go_wp2_with fail
  refine CB.out.mono ?_
  rintro e w1 ⟨A4, _, h1, rfl, s2, rfl⟩
  injection h1 with h1 _ _
  subst h1
  have S2 := Lib.hid s2
  clear s2
  have CC := Lib.hid (ncmp_any p q _ _ w (by have := HK.out; omega) (by have := HM.out; omega) DA.out DB.out S1.out S2.out)
  rw [HP.out, HQ.out, HC.out] at CC
  have q1 : (((m : Int) + 2) == 0) = false := beq_eq_false_iff_ne.2 (by omega)
  have q2 : (((m : Int) + 2) == 1) = false := beq_eq_false_iff_ne.2 (by omega)
  go_wp2_with fail
  refine CC.out.mono ?_
  rintro e w2 ⟨rfl, b2⟩
  have B2 := Lib.hid b2
  have P2 := Lib.hid (S1.out.keep b2)
  have Q2 := Lib.hid (S2.out.keep b2)
  clear b2 CC
  obtain ⟨g4, o4, e4, hg4, hc4⟩ := ns_cell Q2.out (by have := HM.out; omega)
  subst e4
  have c4 := hc4 (m + 1) (by have := HM.out; omega)
  clear hc4
  have HT : Hid (dg q (m + 1) * B ^ (m + 1) ≤ y ∧ y < (dg q (m + 1) + 1) * B ^ (m + 1)) := by
    have := top_ge DB.out HM.out
    rwa [HQ.out] at this
  have hX0 : 0 < dg q (m + 1) := by
    rcases Nat.eq_zero_or_pos (dg q (m + 1)) with h | h
    · have h1 := HT.out.2
      have h2 := HTOP.out (m + 1) (by have := HM.out; omega)
      rw [h, Nat.zero_add, Nat.one_mul] at h1
      omega
    · exact h
  have HXB : Hid (dg q (m + 1) < B) := dg_lt DB.out _
  generalize dg q (m + 1) = X at *
  go_wp2_with fail
  go_loop [9] (fun v => ∃ s : Nat, v = .int .u64 (s : Int) ∧ s < 32 ∧ Hid (X * 2 ^ s < B)) (fun v => 32 - (intOf v).toNat)
  case atStart => exact ⟨0, rfl, by omega, by show _ < _; simpa using HXB.out⟩
  case round =>
    obtain ⟨s, rfl, hs, HS⟩ := hrel
    obtain ⟨t, ht, t1, t2, t3⟩ := bits_facts hX0 HS.out
    have hs0 : (0 : Int) ≤ (s : Int) := by omega
    have hs1 : (s : Int) < 32 := by omega
    by_cases hlt : t < 2147483648
    · have d1 : decide ((t : Int) < 2147483648) = true := decide_eq_true (by omega)
      have HS2 := Lib.hid (t3 hlt)
      have hs2 : s + 1 < 32 := by
        obtain ⟨_, _, _, h, _⟩ := bits_facts hX0 HS2.out
        exact h
      have HT2 := Lib.hid ht
      clear ht hlt t3
      go_wp2_with fail
      go_round
      case rel => exact ⟨s + 1, by go_num, hs2, HS2⟩
      case measure => simp [intOf]; omega
    · have d1 : decide ((t : Int) < 2147483648) = false := decide_eq_false (by omega)
      have HN : Hid (y * 2 ^ s < B ^ (m + 2) ∧ 2147483648 * B ^ (m + 1) ≤ y * 2 ^ s) := norm_facts HT.out.1 HT.out.2 hs (by omega) HS.out
      have CS := nshifted_any p _ s w2 (by have := HK.out; omega) DA.out hs P2.out
      have CT := fun w' (b : Below w2.heap.size w2 w') => nshifted_any q _ s w' (by have := HM.out; omega) DB.out hs (Q2.out.keep b)
      unfold ShiftPost at CS CT
      rw [HK.out, HP.out] at CS
      rw [HM.out, HQ.out] at CT
      have CS := Lib.hid CS
      have CT := Lib.hid CT
      have HT2 := Lib.hid ht
      clear ht hlt t3
      go_wp2_with fail
      refine CS.out.mono ?_
      rintro e w3 ⟨gu, Lu, rfl, r3, du, hu, b3⟩
      have R3 := Lib.hid r3
      have DU := Lib.hid du
      have HU := Lib.hid hu
      have B3 := Lib.hid b3
      clear r3 du hu b3
      go_wp2_with fail
      refine (CT.out w3 B3.out).mono ?_
      rintro e w4 ⟨gv, Lv, rfl, r4, dv, hv, b4⟩
      have CV := ntrim_any Lv _ w4 (by rw [r4.1]; omega) dv (by have := r4.ns; have h9 := r4.1; rwa [← h9] at this)
      unfold TrimPost at CV
      rw [hv, (norm_digs HN.out.1 HN.out.2).1, r4.1] at CV
      have CV := Lib.hid CV
      have R4 := Lib.hid r4
      have U4 := Lib.hid (R3.out.keep b4)
      have GV : Hid (w3.heap.size ≤ gv ∧ gu < w3.heap.size) := ⟨r4.far, R3.out.lt⟩
      have B4 := Lib.hid (chain0 (chain0 B2.out B3.out) b4)
      have GU : Hid (w.heap.size ≤ gu) := by have h1 := R3.out.far; have h2 := B2.out.size; show _ ≤ _; omega
      clear r4 dv hv b4
      go_wp2_with fail
      refine CV.out.mono ?_
      rintro e w5 ⟨A5, c5, h5, rfl, s5, rfl⟩
      injection h5 with h5 _ _
      subst h5
      obtain ⟨b5, o5, e5, hb5, hc5⟩ := ns_cell s5 (by rw [(norm_digs HN.out.1 HN.out.2).1]; omega)
      injection e5 with e5
      injection e5 with e5 e6
      subst e5 e6
      have VC : Hid (∀ i, i < m + 2 → w4.cell? ⟨gv, i, none⟩ = some (.int .u32 ((dg (digs (y * 2 ^ s)) i : Nat) : Int))) := fun i hi => by
        have := hc5 i (by rw [(norm_digs HN.out.1 HN.out.2).1]; exact hi)
        rwa [Nat.zero_add] at this
      clear s5 hc5 CV
      go_wp2_with (at_make; refine wpList_make_full _ rfl _ _ 45 rfl w4.heap.size 53 i0 (.int .u32 0) 1 Tryz.underlying45 hi0 hz0 hz1 .i64 .i64 _ _ (k + 1) rfl rfl (by omega) (by omega) (by rw [hz2]; omega) (by unfold maxLen; omega) (Nat.le_refl _) ?_)
      intro w6 hown hgr
      have R6 : Hid (Row w6 w4.heap.size w4.heap.size 53 (k + 1) (List.replicate (k + 1) 0)) := Row.made' hown
      have BM : Hid (Below w4.heap.size w4 w6) := (Below.refl _ _).grown hgr (Nat.le_refl _) (fun q hq => by simp at hq)
      have GQ : Hid (gv < w4.heap.size ∧ gu < w4.heap.size) := ⟨R4.out.lt, U4.out.lt⟩
      obtain ⟨gq, hgq⟩ : ∃ gq, gq = w4.heap.size := ⟨_, rfl⟩
      have HGQ := Lib.hid hgq
      rw [← hgq] at R6 ⊢
      clear hown hgr hgq
      go_wp2_with fail
      have HB6 : Hid (Below w.heap.size w w6) := chain0 B4.out BM.out
      have HSZ : Hid (w.heap.size ≤ gq) := by have h1 := B4.out.size; have h2 := HGQ.out; show _ ≤ _; omega
      have HV : Hid ((digs (y * 2 ^ s)).length = m + 2 ∧ 2147483648 ≤ dg (digs (y * 2 ^ s)) (m + 1) ∧ nat (digs (y * 2 ^ s)) = y * 2 ^ s) := ⟨(norm_digs HN.out.1 HN.out.2).1, (norm_digs HN.out.1 HN.out.2).2, nat_digs _⟩
      have HV0 : Hid (0 < nat (digs (y * 2 ^ s))) := by
        show 0 < _
        rw [HV.out.2.2]
        exact Nat.mul_pos (by have := HY.out; omega) (Nat.two_pow_pos s)
      have HVB : Hid (nat (digs (y * 2 ^ s)) < B ^ (m + 2)) := by
        show _ < _
        rw [HV.out.2.2]
        exact HN.out.1
      have HST : Hid (DivSt (x * 2 ^ s) (digs (y * 2 ^ s)) Lu [] (k + 1)) := DivSt.start DU.out HU.out HV.out.2.2 (by have := HXL.out; rwa [HK.out] at this) (by exact HTOP.out (m + 1) (by have := HM.out; omega))
      have VC6 : Hid (∀ i, i < m + 2 → w6.cell? ⟨gv, i, none⟩ = some (.int .u32 ((dg (digs (y * 2 ^ s)) i : Nat) : Int))) := fun i hi => (BM.out.cell (p := ⟨gv, i, none⟩) GQ.out.1).trans (VC.out i hi)
      have RU6 : Hid (Row w6 w.heap.size gu 53 (k + (m + 2) + 1) Lu) := ((U4.out).rebase (by exact B2.out.size)).keep BM.out
      have GVS : Hid (gv < w6.heap.size) := Nat.lt_of_lt_of_le GQ.out.1 BM.out.size
      have GNE : Hid (gv ≠ gu ∧ gv ≠ gq ∧ gq ≠ gu) := ⟨by have h1 := GV.out.1; have h2 := GV.out.2; omega, by have h1 := GQ.out.1; have h2 := HGQ.out; omega, by have h1 := GQ.out.2; have h2 := HGQ.out; omega⟩
      have HVD : Hid (Dg (digs (y * 2 ^ s))) := Dg.digs _
      generalize digs (y * 2 ^ s) = V at *
      clear VC BM U4 R4 HXB CS CT q1 q2 c4 hcd
      go_loopw [75] (fun iv wr => ∃ i : Nat, ∃ Z Q : List Nat, i ≤ k + 1 ∧ iv = .int .i64 (i : Int) ∧ Hid (Q.length = i ∧ DivSt (x * 2 ^ s) V Z Q (k + 1 - i)) ∧ Hid (Row wr w.heap.size gu 53 (k + (m + 2) + 1) Z ∧ Row wr gq gq 53 (k + 1) (List.replicate (k + 1 - i) 0 ++ Q)) ∧ Hid (gv < wr.heap.size ∧ ∀ i, i < m + 2 → wr.cell? ⟨gv, i, none⟩ = some (.int .u32 ((dg V i : Nat) : Int))) ∧ Hid (Below w.heap.size w wr)) (fun iv _ => k + 1 - (intOf iv).toNat)
      case atStart => exact ⟨0, Lu, [], Nat.zero_le _, rfl, ⟨rfl, HST.out⟩, ⟨RU6.out, by have := R6.out; simpa [← HGQ.out] using this⟩, ⟨GVS.out, VC6.out⟩, HB6⟩
      case round =>
        obtain ⟨i, Z, Q, hi, rfl, HD, HR, HC2, HB⟩ := hrel
        have hi0' : (0 : Int) ≤ (i : Int) := by omega
        have hi5 : (i : Int) ≤ 50001 := by omega
        by_cases hik : i < k + 1
        · have hdec : decide (i < k + 1) = true := decide_eq_true hik
          have hdec1 : decide ((i : Int) < (k : Int) + 1) = true := decide_eq_true (by omega)
          obtain ⟨j, hj⟩ : ∃ j, j = k - i := ⟨_, rfl⟩
          have hj1 : (k : Int) - (i : Int) = ((j : Nat) : Int) := by omega
          have hj0 : (0 : Int) ≤ (j : Int) := by omega
          have hjk : j ≤ k := by omega
          have HJ : Hid (k + 1 - i = j + 1 ∧ k + 1 - (i + 1) = j ∧ j ≤ k) := ⟨by omega, by omega, by omega⟩
          have HW : Hid (win Z j m = nat (Z.drop j) ∧ nat (Z.drop j) < nat V * B) := by
            have h1 := HD.out.2
            rw [HJ.out.1] at h1
            have h2 := h1.win (m := m) (by rw [HR.out.1.1]; omega) HVB.out
            exact ⟨h2.1, h2.2.1⟩
          have CG := Lib.hid (ndigit_any wr w.heap.size gu j (k + (m + 2) + 1) m gv (m + 2) Z V ⟨HR.out.1, HD.out.2.xd, by omega, by omega, HV.out.1, by have := HD.out.2; exact HVD.out, HV.out.2.1, GNE.out.1, HC2.out.1, HC2.out.2, by rw [HW.out.1]; exact HW.out.2⟩)
          unfold DigitPost at CG
          clear hj
          go_wp2_with fail
          rw [show j + (m + 2) + 1 - j = m + 3 by omega]
          refine CG.out.mono ?_
          rintro e w7 ⟨Z7, rfl, r7, d7, s7, n7, o7⟩
          have HS7 := Lib.hid (HD.out.2)
          rw [HJ.out.1] at HS7
          have HN7 := Lib.hid (HS7.out.step (m := m) (by rw [HR.out.1.1]; omega) HVB.out HV0.out (by rw [r7.1, HR.out.1.1]) d7 s7 n7)
          obtain ⟨D, hD⟩ : ∃ D, D = win Z j m / nat V := ⟨_, rfl⟩
          rw [← hD] at HN7 ⊢
          have RQ : Hid (Row w7 gq gq 53 (k + 1) (List.replicate (j + 1) 0 ++ Q)) := by
            have := HR.out.2.only o7 GNE.out.2.2
            rwa [HJ.out.1] at this
          have RQ2 : Hid (Row (w7.setCell ⟨gq, j, none⟩ (.int .u32 (D : Int))) gq gq 53 (k + 1) (List.replicate j 0 ++ (D :: Q))) := by
            have := RQ.out.put j D
            rwa [set_top] at this
          have RZ2 : Hid (Row (w7.setCell ⟨gq, j, none⟩ (.int .u32 (D : Int))) w.heap.size gu 53 (k + (m + 2) + 1) Z7) := r7.only ((OnlyG.refl gq w7).put _ _) (Ne.symm GNE.out.2.2)
          have HC3 : Hid (gv < (w7.setCell ⟨gq, j, none⟩ (.int .u32 (D : Int))).heap.size ∧ ∀ i, i < m + 2 → (w7.setCell ⟨gq, j, none⟩ (.int .u32 (D : Int))).cell? ⟨gv, i, none⟩ = some (.int .u32 ((dg V i : Nat) : Int))) := by
            refine ⟨?_, fun i hi => ?_⟩
            · rw [((OnlyG.refl gq w7).put _ _).size, o7.size]; exact HC2.out.1
            · rw [((OnlyG.refl gq w7).put j (.int .u32 (D : Int))).cell i GNE.out.2.1, o7.cell i GNE.out.1]; exact HC2.out.2 i hi
          have HB7 : Hid (Below w.heap.size w (w7.setCell ⟨gq, j, none⟩ (.int .u32 (D : Int)))) := ((OnlyG.refl gq w7).put _ _).below (o7.below HB.out GU.out) HSZ.out
          have gl := RQ.out.lt
          have gf := RQ.out.free j
          have gc := RQ.out.cell (i := j) (by omega)
          clear r7 d7 s7 n7 o7 hD
          go_wp2_with fail
          go_roundw
          case rel => exact ⟨i + 1, Z7, D :: Q, by omega, by go_num, ⟨by simp [HD.out.1], by rw [HJ.out.2.1]; exact HN7.out.2⟩, ⟨RZ2.out, by rw [HJ.out.2.1]; exact RQ2.out⟩, HC3, HB7⟩
          case measure => simp [intOf]; omega
        · have hdec : decide (i < k + 1) = false := decide_eq_false hik
          have hdec1 : decide ((i : Int) < (k : Int) + 1) = false := decide_eq_false (by omega)
          obtain rfl : i = k + 1 := by omega
          have HF : Hid (nat Q = x / y ∧ nat Z = x % y * 2 ^ s) := by
            have h1 := HD.out.2
            rw [Nat.sub_self] at h1
            have h2 := h1.done HV0.out
            rw [HV.out.2.2, Nat.mul_div_mul_right _ _ (Nat.two_pow_pos s), Nat.mul_mod_mul_right] at h2
            exact h2
          have HQD : Hid (Dg Q ∧ Dg Z ∧ Q.length = k + 1) := ⟨HD.out.2.qd, HD.out.2.xd, HD.out.1⟩
          have RQ : Hid (Row wr gq gq 53 (k + 1) Q) := by
            have := HR.out.2
            rw [Nat.sub_self] at this
            exact this
          have RZ : Hid (Row wr w.heap.size gu 53 (k + (m + 2) + 1) Z) := HR.out.1
          clear HC2 HD HR hik hdec hdec1 hi0' hi5
          go_wp2_with (at_make; refine wpList_make_full _ rfl _ _ 45 rfl wr.heap.size 53 i0 (.int .u32 0) 1 Tryz.underlying45 hi0 hz0 hz1 .i64 .i64 _ _ (m + 2) rfl rfl (by omega) (by omega) (by rw [hz2]; omega) (by unfold maxLen; omega) (Nat.le_refl _) ?_)
          intro w8 hown hgr
          have R8 : Hid (Row w8 wr.heap.size wr.heap.size 53 (m + 2) (List.replicate (m + 2) 0)) := Row.made' hown
          have BM : Hid (Below wr.heap.size wr w8) := (Below.refl _ _).grown hgr (Nat.le_refl _) (fun q hq => by simp at hq)
          have HB8 : Hid (Below w.heap.size w w8) := chain0 HB.out BM.out
          have RQ8 := Lib.hid (RQ.out.keep BM.out)
          have RZ8 := Lib.hid (RZ.out.keep BM.out)
          have GR : Hid (gq < wr.heap.size ∧ gu < wr.heap.size ∧ w.heap.size ≤ wr.heap.size) := ⟨RQ.out.lt, RZ.out.lt, HB.out.size⟩
          obtain ⟨gr, hgr2⟩ : ∃ gr, gr = wr.heap.size := ⟨_, rfl⟩
          rw [← hgr2] at R8 GR ⊢
          clear hown hgr hgr2 BM RQ RZ
          go_wp2_with fail
          have HGE : Hid (w.heap.size ≤ gr) := by have h1 := GR.out.2.2; exact h1
          obtain ⟨R, hR⟩ : ∃ R, R = x % y := ⟨_, rfl⟩
          have HRR := Lib.hid hR
          have HZ : Hid (nat Z = R * 2 ^ s) := by rw [hR]; exact HF.out.2
          have HRB : Hid (R % B ^ (m + 2) = R) := by
            refine Nat.mod_eq_of_lt ?_
            have h1 : R < y := by rw [hR]; exact Nat.mod_lt _ (by have := HY.out; omega)
            have h2 : y * 2 ^ s < B ^ (m + 2) := HN.out.1
            have h3 : y * 1 ≤ y * 2 ^ s := Nat.mul_le_mul_left _ (Nat.two_pow_pos s)
            omega
          clear hR
          go_loopw [101] (fun iv wr => ∃ i : Nat, ∃ o : List Nat, i ≤ m + 2 ∧ iv = .int .i64 (i : Int) ∧ Hid (o.length = i ∧ Dg o ∧ nat o = R % B ^ i) ∧ Hid (Row wr gr gr 53 (m + 2) (o ++ List.replicate (m + 2 - i) 0) ∧ Row wr w.heap.size gu 53 (k + (m + 2) + 1) Z ∧ Row wr gq gq 53 (k + 1) Q) ∧ Hid (Below w.heap.size w wr)) (fun iv _ => m + 2 - (intOf iv).toNat)
          case atStart => exact ⟨0, [], Nat.zero_le _, rfl, ⟨rfl, Dg.nil, by rw [Nat.pow_zero, Nat.mod_one]; rfl⟩, ⟨R8.out, RZ8.out, RQ8.out⟩, HB8⟩
          case round =>
            obtain ⟨i, o, hi, rfl, HO, HW, HB9⟩ := hrel
            have hi0' : (0 : Int) ≤ (i : Int) := by omega
            have hi5 : (i : Int) ≤ 50002 := by omega
            clear d1 t1
            by_cases hik : i < m + 2
            · have hdec : decide (i < m + 2) = true := decide_eq_true hik
              have hdec1 : decide ((i : Int) < (m : Int) + 2) = true := decide_eq_true (by omega)
              have z1 := HW.out.2.1.cell (i := i) (by omega)
              have z2 := HW.out.2.1.cell (i := i + 1) (by omega)
              have gl := HW.out.1.lt
              have gf := HW.out.1.free i
              have gc := HW.out.1.cell (i := i) (by omega)
              have nu : Hid (gu ≠ gr ∧ gq ≠ gr) := ⟨by have := GR.out.2.1; omega, by have := GR.out.1; omega⟩
              by_cases hs00 : s = 0
              · have hsd : decide ((0 : Int) < (s : Int)) = false := decide_eq_false (by omega)
                have hsd2 : decide (0 < s) = false := decide_eq_false (by omega)
                have hsn : (s : Int) ≤ 0 := by omega
                have fz : ((dg Z i : Nat) : Int) / 2 ^ s = ((dg Z i : Nat) : Int) := by rw [hs00]; simp
                have HLO : Hid (dg Z i = R / B ^ i % B ∧ dg Z i < B) := ⟨rem_digit0 HQD.out.2.1 (by rw [HZ.out, hs00]; simp), dg_lt HQD.out.2.1 i⟩
                have HP1 : Hid (Row (wr.setCell ⟨gr, i, none⟩ (.int .u32 ((dg Z i : Nat) : Int))) gr gr 53 (m + 2) ((o ++ [dg Z i]) ++ List.replicate (m + 2 - (i + 1)) 0) ∧ Row (wr.setCell ⟨gr, i, none⟩ (.int .u32 ((dg Z i : Nat) : Int))) w.heap.size gu 53 (k + (m + 2) + 1) Z ∧ Row (wr.setCell ⟨gr, i, none⟩ (.int .u32 ((dg Z i : Nat) : Int))) gq gq 53 (k + 1) Q) := by
                  refine ⟨?_, HW.out.2.1.only ((OnlyG.refl gr wr).put _ _) nu.out.1, HW.out.2.2.only ((OnlyG.refl gr wr).put _ _) nu.out.2⟩
                  have := HW.out.1.put i (dg Z i)
                  rwa [set_fill' hik HO.out.1] at this
                have HP2 : Hid (Below w.heap.size w (wr.setCell ⟨gr, i, none⟩ (.int .u32 ((dg Z i : Nat) : Int)))) := ((OnlyG.refl gr wr).put _ _).below HB9.out HGE.out
                have HN9 := Lib.hid (high_step HO.out.1 HO.out.2.2 HLO.out.1)
                clear hs00
                go_wp2_with fail
                go_roundw
                case rel => exact ⟨i + 1, o ++ [dg Z i], by omega, by go_num, ⟨by simp [HO.out.1], HO.out.2.1.append (Dg.cons HLO.out.2 Dg.nil), HN9.out⟩, HP1, HP2⟩
                case measure => simp [intOf]; omega
              · have hsd : decide ((0 : Int) < (s : Int)) = true := decide_eq_true (by omega)
                obtain ⟨h, s2, sh, lo, hlo, f1, f2, f3, f4, f5, f6⟩ := rem_facts (dg_lt HQD.out.2.1 i) (dg_lt HQD.out.2.1 (i + 1)) hs (by omega)
                have HLO : Hid (lo = R / B ^ i % B ∧ lo < B) := ⟨by rw [hlo]; exact rem_digit HQD.out.2.1 HZ.out hs, f6⟩
                have HP1 : Hid (Row ((wr.setCell ⟨gr, i, none⟩ (.int .u32 (h : Int))).setCell ⟨gr, i, none⟩ (.int .u32 (lo : Int))) gr gr 53 (m + 2) ((o ++ [lo]) ++ List.replicate (m + 2 - (i + 1)) 0) ∧ Row ((wr.setCell ⟨gr, i, none⟩ (.int .u32 (h : Int))).setCell ⟨gr, i, none⟩ (.int .u32 (lo : Int))) w.heap.size gu 53 (k + (m + 2) + 1) Z ∧ Row ((wr.setCell ⟨gr, i, none⟩ (.int .u32 (h : Int))).setCell ⟨gr, i, none⟩ (.int .u32 (lo : Int))) gq gq 53 (k + 1) Q) := by
                  refine ⟨?_, HW.out.2.1.only (((OnlyG.refl gr wr).put _ _).put _ _) nu.out.1, HW.out.2.2.only (((OnlyG.refl gr wr).put _ _).put _ _) nu.out.2⟩
                  have := (HW.out.1.put i h).put i lo
                  rwa [List.set_set, set_fill' hik HO.out.1] at this
                have HP2 : Hid (Below w.heap.size w ((wr.setCell ⟨gr, i, none⟩ (.int .u32 (h : Int))).setCell ⟨gr, i, none⟩ (.int .u32 (lo : Int)))) := (((OnlyG.refl gr wr).put _ _).put _ _).below HB9.out HGE.out
                have HN9 := Lib.hid (high_step HO.out.1 HO.out.2.2 HLO.out.1)
                have hs2 : (s2 : Int) < 32 := by omega
                have hs3 : (0 : Int) ≤ (s2 : Int) := by omega
                clear hs00 hlo f5 f6
                go_wp2_with fail
                go_region
                all_goals go_wp2_with fail
                go_roundw
                case rel => exact ⟨i + 1, o ++ [lo], by omega, by go_num, ⟨by simp [HO.out.1], HO.out.2.1.append (Dg.cons HLO.out.2 Dg.nil), HN9.out⟩, ⟨HP1.out.1.drew, HP1.out.2.1.drew, HP1.out.2.2.drew⟩, chain0 HP2.out (drewN_below _ 1)⟩
                case measure => simp [intOf]; omega
            · have hdec : decide (i < m + 2) = false := decide_eq_false hik
              have hdec1 : decide ((i : Int) < (m : Int) + 2) = false := decide_eq_false (by omega)
              obtain rfl : i = m + 2 := by omega
              have HE : Hid (nat o = x % y) := by
                show _ = _
                rw [HO.out.2.2, HRB.out, HRR.out]
              have RO : Hid (Row wr gr gr 53 (m + 2) o) := by
                have := HW.out.1
                rw [Nat.sub_self] at this
                show Row _ _ _ _ _ _
                simpa using this
              have CQ := ntrim_any Q _ wr (by rw [HQD.out.2.2]; omega) HQD.out.1 (by have := HW.out.2.2.ns; have h9 := HQD.out.2.2; rwa [← h9] at this)
              have CO := ntrim_any o _ wr (by rw [HO.out.1]; omega) HO.out.2.1 (by have := RO.out.ns; have h9 := HO.out.1; rwa [← h9] at this)
              unfold TrimPost at CQ CO
              rw [HF.out.1, HQD.out.2.2] at CQ
              rw [HE.out, HO.out.1] at CO
              have CQ := Lib.hid CQ
              have CO := Lib.hid CO
              go_wp2_with fail
              refine CQ.out.mono ?_
              rintro e w10 ⟨_, _, _, rfl, s10, rfl⟩
              have S10 := Lib.hid s10
              clear s10
              go_wp2_with fail
              refine CO.out.mono ?_
              rintro e w11 ⟨_, _, _, rfl, s11, rfl⟩
              have S11 := Lib.hid s11
              clear s11
              go_wp2_with fail
              go_ret3
              exact ⟨_, _, rfl, S10.out, S11.out, HB9.out⟩
end Fr
end Go.Proofs.YthehchdonmmpaaaGreatDoor
namespace Go.Proofs.YthehchdonmmpaaaGreatDoor
open Go.ChangeShapes Go.WideShapes Go.ChangeAt Go.RowKit
set_option linter.unusedVariables false
namespace So
/-- a row of the call's own, in block g, whose one-cell elements are xs -/
def RowV (w : World) (base g : Nat) (e : TypeId) (n : Nat) (xs : List Value) : Prop := xs.length = n ∧ w.ownsRow base e 1 (.slice (some ⟨g, 0, none⟩) n n) n xs
/-- w' is w but for block g and new blocks -/
structure Far (g : Nat) (w w' : World) : Prop where
  os : w'.os = w.os
  tape : w'.tape = w.tape
  output : w'.output = w.output
  size : w.heap.size ≤ w'.heap.size
  block : ∀ k, k < w.heap.size → k ≠ g → w'.heap[k]? = w.heap[k]?
section
variable {w w1 w2 : World} {base g n : Nat} {e : TypeId} {xs : List Value}
theorem Far.refl (g : Nat) (w : World) : Far g w w := ⟨rfl, rfl, rfl, Nat.le_refl _, fun _ _ _ => rfl⟩
theorem Far.trans (h : Far g w w1) (k : Far g w1 w2) : Far g w w2 :=
  ⟨k.os.trans h.os, k.tape.trans h.tape, k.output.trans h.output, Nat.le_trans h.size k.size, fun i hi hne => (k.block i (Nat.lt_of_lt_of_le hi h.size) hne).trans (h.block i hi hne)⟩
theorem Far.drewN (h : Far g w w1) (m : Nat) : Far g w (w1.drewN m) := ⟨h.os, h.tape, h.output, h.size, h.block⟩
theorem Far.drew (h : Far g w w1) : Far g w w1.drew := ⟨h.os, h.tape, h.output, h.size, h.block⟩
theorem Far.put (h : Far g w w1) (o : Nat) (u : Value) : Far g w (w1.setCell ⟨g, o, none⟩ u) :=
  h.trans ⟨rfl, rfl, rfl, by simp [World.setCell], fun k _ hne => Below.heap_setCell _ _ _ _ hne⟩
theorem Far.of_below (g : Nat) (h : Below w.heap.size w w1) : Far g w w1 := ⟨h.os, h.tape, h.output, h.size, fun k hk _ => h.block k hk⟩
theorem Far.below {B : Nat} {w0 : World} (h : Far g w w1) (b : Below B w0 w) (hB : B ≤ g) (hs : B ≤ w.heap.size) : Below B w0 w1 :=
  ⟨h.os.trans b.os, h.tape.trans b.tape, h.output.trans b.output, Nat.le_trans b.size h.size, fun k hk => (h.block k (by omega) (by omega)).trans (b.block k hk)⟩
theorem Far.cell (h : Far g w w1) {b : Nat} (o : Nat) (hb : b ≠ g) (hl : b < w.heap.size) : w1.cell? ⟨b, o, none⟩ = w.cell? ⟨b, o, none⟩ := by
  simp only [World.cell?, h.block b hl hb]
theorem RowV.cell (h : RowV w base g e n xs) {i : Nat} (hi : i < n) : w.cell? ⟨g, i, none⟩ = xs[i]? := h.2.cellAt i (by omega)
theorem RowV.free (h : RowV w base g e n xs) (i : Nat) : w.frozen? ⟨g, i, none⟩ = false := h.2.frozenAt i
theorem RowV.put (h : RowV w base g e n xs) (i : Nat) (u : Value) : RowV (w.setCell ⟨g, i, none⟩ u) base g e n (xs.set i u) := ⟨by simpa using h.1, (h.2.stored i u).1⟩
theorem RowV.far (h : RowV w base g e n xs) : base ≤ g := Fr.own_far h.2 g (by simp [Value.ownBlock])
theorem RowV.lt (h : RowV w base g e n xs) : g < w.heap.size := by
  rcases h.2.2 with ⟨hv, _⟩ | ⟨g', cap, cur, hv, _, hh, _⟩
  · cases hv
  · injection hv with hv
    injection hv with hv
    injection hv with hv
    subst hv
    exact (Array.getElem?_eq_some_iff.1 hh).1
theorem RowV.keep (h : RowV w base g e n xs) (b : Below w.heap.size w w1) : RowV w1 base g e n xs := ⟨h.1, own_below h.2 b⟩
theorem RowV.drewN (h : RowV w base g e n xs) (m : Nat) : RowV (w.drewN m) base g e n xs := h.keep (⟨rfl, rfl, rfl, Nat.le_refl _, fun _ _ => rfl⟩)
theorem RowV.drew (h : RowV w base g e n xs) : RowV w.drew base g e n xs := h.drewN 1
theorem RowV.other {g2 : Nat} (h : RowV w base g2 e n xs) (o : Far g w w1) (hg : g2 ≠ g) : RowV w1 base g2 e n xs := by
  refine ⟨h.1, h.2.kept (row := some g) ⟨o.os, o.tape, o.output, o.size, fun k hk hne => o.block k hk (fun e => hne (by rw [e]))⟩ ?_⟩
  simpa [Value.ownBlock] using hg
theorem RowV.sl (h : RowV w base g e n xs) : Sl w 1 (.slice (some ⟨g, 0, none⟩) n n) n xs := Sl.of_own h.2
theorem RowV.made {z : Value} (h : w.ownsRow base e 1 (.slice (some ⟨g, 0, none⟩) n n) n (madeCells #[z] n).toList) : RowV w base g e n (List.replicate n z) := by
  have e1 : (madeCells #[z] n).toList = List.replicate n z := by
    refine List.ext_getElem (by simp [madeCells]) fun i h1 h2 => ?_
    simp [madeCells, Nat.mod_one]
  rw [e1] at h
  exact ⟨by simp, h⟩
theorem RowV.rebase {base' : Nat} (h : RowV w base g e n xs) (hb : base' ≤ base) : RowV w base' g e n xs := by
  refine ⟨h.1, h.2.1, ?_⟩
  rcases h.2.2 with hv | ⟨g', cap, cur, hv, h1, h2⟩
  · exact .inl hv
  · exact .inr ⟨g', cap, cur, hv, Nat.le_trans hb h1, h2⟩
end
def ints (l : List Nat) : List Value := l.map fun (n : Nat) => Value.int .i64 (n : Int)
theorem ints_len (l : List Nat) : (ints l).length = l.length := by simp [ints]
theorem ints_set (l : List Nat) (i x : Nat) : (ints l).set i (.int .i64 (x : Int)) = ints (l.set i x) := by simp [ints, List.map_set]
theorem ints_at {l : List Nat} {i x : Nat} (h : l[i]? = some x) : (ints l)[i]? = some (.int .i64 (x : Int)) := by simp [ints, h]
/-- x is to stand before y -/
def LT (r : Nat → Nat) (x y : Nat) : Prop := r y < r x ∨ (r x = r y ∧ x < y)
theorem LT.trans {r : Nat → Nat} {x y z : Nat} (h : LT r x y) (k : LT r y z) : LT r x z := by
  unfold LT at *
  omega
theorem LT.irrefl {r : Nat → Nat} {x : Nat} (h : LT r x x) : False := by unfold LT at h; omega
theorem LT.total {r : Nat → Nat} {x y : Nat} (h : x ≠ y) : LT r x y ∨ LT r y x := by unfold LT; omega
/-- what the comparison answers -/
def cmpv (a b : Nat) : Int := if b < a then -1 else if a < b then 1 else 0
theorem cmpv_lt {a b : Nat} : decide (cmpv a b < 0) = decide (b < a) := by
  unfold cmpv
  split
  · rename_i h; simp [h]
  · rename_i h
    split <;> simp [h]
theorem set_two {A C : List Nat} {x y : Nat} {j : Nat} (hj : A.length = j) : ((A ++ y :: x :: C).set (j + 1) y).set j x = A ++ x :: y :: C := by
  subst hj
  rw [List.set_append_right _ _ (by omega), show A.length + 1 - A.length = 1 by omega, List.set_cons_succ, List.set_cons_zero, List.set_append_right _ _ (Nat.le_refl _), Nat.sub_self, List.set_cons_zero]
theorem get_two {A C : List Nat} {x y : Nat} {j : Nat} (hj : A.length = j) : (A ++ y :: x :: C)[j]? = some y ∧ (A ++ y :: x :: C)[j + 1]? = some x := by
  subst hj
  constructor
  · simp
  · rw [List.getElem?_append_right (by omega), show A.length + 1 - A.length = 1 by omega]; rfl
/-- the place of an inserted element is found -/
theorem ins_sorted {r : Nat → Nat} {L R : List Nat} {x : Nat} (hs : (L ++ R).Pairwise (LT r)) (hlt : ∀ y ∈ L ++ R, y < x) (hR : ∀ y ∈ R, r y < r x) (hL : L = [] ∨ ∃ L' y, L = L' ++ [y] ∧ r x ≤ r y) : (L ++ x :: R).Pairwise (LT r) := by
  rw [List.pairwise_append] at hs ⊢
  obtain ⟨h1, h2, h3⟩ := hs
  have h4 : ∀ y ∈ L, LT r y x := by
    rcases hL with rfl | ⟨L', y, rfl, hy⟩
    · intro y h; cases h
    · intro z hz
      have hzx := hlt z (List.mem_append_left _ hz)
      rcases List.mem_append.1 hz with hz' | hz'
      · have := (List.pairwise_append.1 h1).2.2 z hz' y (by simp)
        unfold LT at this ⊢
        rcases this with h | h <;> omega
      · obtain rfl : z = y := by simpa using hz'
        unfold LT
        omega
  refine ⟨h1, List.pairwise_cons.2 ⟨fun y hy => .inl (hR y hy), h2⟩, fun y hy z hz => ?_⟩
  rcases List.mem_cons.1 hz with rfl | hz
  · exact h4 y hy
  · exact h3 y hy z hz
theorem ins_perm {L R D : List Nat} {x : Nat} (h : L ++ R = D) : (L ++ x :: R).Perm (D ++ [x]) := by
  subst h
  have h1 : (L ++ x :: R).Perm (x :: (L ++ R)) := List.perm_middle
  have h2 : (L ++ R ++ [x]).Perm (x :: (L ++ R)) := List.perm_append_comm
  exact h1.trans h2.symm
end So
end Go.Proofs.YthehchdonmmpaaaGreatDoor
namespace Go.Proofs.YthehchdonmmpaaaGreatDoor
open Go.ChangeShapes Go.WideShapes Go.ChangeAt Go.RowKit
set_option linter.unusedVariables false
set_option linter.unusedSimpArgs false
namespace So
/-- what a sort of a segment does -/
def SortPost (w : World) (base g n : Nat) (r : Nat → Nat) (pre seg post : List Nat) (e : Ending) (w' : World) : Prop := ∃ seg', e = .returned (.tuple #[]) ∧ seg'.Perm seg ∧ seg'.Pairwise (LT r) ∧ RowV w' base g 3 n (ints (pre ++ seg' ++ post)) ∧ Far g w w'
end So
end Go.Proofs.YthehchdonmmpaaaGreatDoor
namespace Go.Proofs.YthehchdonmmpaaaGreatDoor
open Go.ChangeShapes Go.WideShapes Go.ChangeAt Go.RowKit
set_option linter.unusedVariables false
set_option linter.unusedSimpArgs false
namespace So
end So
end Go.Proofs.YthehchdonmmpaaaGreatDoor
namespace Go.Proofs.YthehchdonmmpaaaGreatDoor
open Go.ChangeShapes Go.WideShapes Go.ChangeAt Go.RowKit
set_option linter.unusedVariables false
set_option linter.unusedSimpArgs false
namespace So
def at_ (W : List Nat) (i : Nat) : Nat := W.getD i 0
theorem at_in {W : List Nat} {i : Nat} (h : i < W.length) : at_ W i = W[i] := by simp [at_, List.getD, h]
/-- what is left of a part -/
def rst (T : Nat) (W : List Nat) (S i : Nat) : Nat := T * at_ W i % S
theorem rest_facts {T x S : Nat} (hT : T ≤ 1000000) (hx : x ≤ 1000000) (hS : 0 < S) (hS2 : S ≤ 1000000000) : ∃ p r : Nat, (p = T * x ∧ r = T * x % S ∧ r < S) ∧ IntKind.i64.wrap ((T : Int) * (x : Int)) = ((p : Nat) : Int) ∧ (p : Int) % (S : Int) = ((r : Nat) : Int) ∧ (p : Int).tmod (S : Int) = ((r : Nat) : Int) ∧ (0 : Int) ≤ (p : Int) := by
  have h1 : T * x ≤ 1000000 * 1000000 := Nat.mul_le_mul hT hx
  have e : (T : Int) * (x : Int) = ((T * x : Nat) : Int) := by simp
  refine ⟨T * x, T * x % S, ⟨rfl, rfl, Nat.mod_lt _ hS⟩, ?_, by simp, by rw [Int.ofNat_tmod], by omega⟩
  rw [e]
  exact IntWalk.i64_in _ (by omega)
end So
end Go.Proofs.YthehchdonmmpaaaGreatDoor
namespace Go.Proofs.YthehchdonmmpaaaGreatDoor
open Go.ChangeShapes Go.WideShapes Go.ChangeAt Go.RowKit
set_option linter.unusedVariables false
set_option linter.unusedSimpArgs false
namespace So
theorem is_yes (v : Int) (w : World) (h0 : 0 ≤ v) (h1 : v ≤ 1000000) : Calls Tryz.prog 52 #[.int .i64 v] w fun e w' => e = .returned (.bool true) ∧ w = w' := by
  have d1 : decide (0 ≤ v) = true := decide_eq_true h0
  have d2 : decide (v ≤ 1000000) = true := decide_eq_true h1
  go_enter Tryz.func52, Tryz.ntmps52
  go_wp2_with fail
  go_ret
  exact ⟨rfl, rfl⟩
theorem is_no (v : Int) (w : World) (h : v < 0 ∨ 1000000 < v) : Calls Tryz.prog 52 #[.int .i64 v] w fun e w' => e = .returned (.bool false) ∧ w = w' := by
  by_cases h0 : 0 ≤ v
  · have d1 : decide (0 ≤ v) = true := decide_eq_true h0
    have d2 : decide (v ≤ 1000000) = false := decide_eq_false (by omega)
    clear h h0
    go_enter Tryz.func52, Tryz.ntmps52
    go_wp2_with fail
    go_ret
    exact ⟨rfl, rfl⟩
  · have d1 : decide (0 ≤ v) = false := decide_eq_false h0
    clear h h0
    go_enter Tryz.func52, Tryz.ntmps52
    go_wp2_with fail
    go_ret
    exact ⟨rfl, rfl⟩
def okE (v : Int) : Int := if 0 ≤ v ∧ v ≤ 1000000 then 0 else 4
theorem check_any (v : Int) (w : World) : Calls Tryz.prog 25 #[.int .i64 v] w fun e w' => e = .returned (.int .i64 (okE v)) ∧ w = w' := by
  unfold okE
  by_cases h : 0 ≤ v ∧ v ≤ 1000000
  · rw [if_pos h]
    have C := Lib.hid (is_yes v w h.1 h.2)
    clear h
    go_enter Tryz.func25, Tryz.ntmps25
    go_wp2_with fail
    refine C.out.mono ?_
    rintro e w1 ⟨rfl, rfl⟩
    go_wp2_with fail
    go_ret
    exact ⟨rfl, rfl⟩
  · rw [if_neg h]
    have C := Lib.hid (is_no v w (by omega))
    clear h
    go_enter Tryz.func25, Tryz.ntmps25
    go_wp2_with fail
    refine C.out.mono ?_
    rintro e w1 ⟨rfl, rfl⟩
    go_wp2_with fail
    go_ret
    exact ⟨rfl, rfl⟩
/-- a slice of integers -/
abbrev IS (w : World) (v : Value) (xs : List Int) : Prop := Sl w 1 v xs.length (xs.map fun x => Value.int .i64 x)
theorem is_cases {w : World} {v : Value} {xs : List Int} (h : IS w v xs) : ∃ A c, v = .slice A xs.length c ∧ xs.length ≤ c ∧ c ≤ maxLen ∧ (0 < xs.length → ∃ b o, A = some ⟨b, o, none⟩ ∧ b < w.heap.size ∧ ∀ (i : Nat) x, xs[i]? = some x → w.cell? ⟨b, o + i, none⟩ = some (.int .i64 x)) := by
  obtain ⟨_, A, c, h1, h2, h3, h4⟩ := h
  refine ⟨A, c, h1, h2, h3, fun hn => ?_⟩
  obtain ⟨b, o, e1, e2, e3⟩ := h4 hn
  exact ⟨b, o, e1, e2, fun i x hi => e3 i _ (by simp [hi])⟩
def toI (W : List Nat) : List Int := W.map fun (n : Nat) => (n : Int)
theorem toI_len (W : List Nat) : (toI W).length = W.length := by simp [toI]
theorem toI_at {W : List Nat} {i : Nat} (h : i < W.length) : (toI W)[i]? = some ((at_ W i : Nat) : Int) := by simp [toI, h, at_in]
def sumN (W : List Nat) (k : Nat) : Nat := (W.take k).sum
theorem sumN_succ {W : List Nat} {k : Nat} (h : k < W.length) : sumN W (k + 1) = sumN W k + at_ W k := by
  unfold sumN
  rw [List.take_succ_eq_append_getElem h, at_in h, List.sum_append]
  simp only [List.sum_cons, List.sum_nil, Nat.add_zero]
theorem sumN_le {W : List Nat} (hW : ∀ x ∈ W, x ≤ 1000000) (k : Nat) : sumN W k ≤ k * 1000000 := by
  unfold sumN
  induction k with
  | zero => rw [List.take_zero, List.sum_nil]; exact Nat.zero_le _
  | succ k ih =>
    rw [Nat.succ_mul]
    generalize k * 1000000 = t at *
    by_cases h : k < W.length
    · rw [List.take_succ_eq_append_getElem h]
      have := hW _ (List.getElem_mem h)
      simp only [List.sum_append, List.sum_cons, List.sum_nil, Nat.add_zero]
      omega
    · rw [List.take_of_length_le (by omega)]
      rw [List.take_of_length_le (by omega)] at ih
      omega
/-- Share refuses -/
def NoPost (x : Int) (w : World) (e : Ending) (w' : World) : Prop := e = .returned (.tuple #[.slice none 0 0, .int .i64 x]) ∧ Below w.heap.size w w'
theorem three_new (w : World) (a b c : Array Value) (t1 t2 t3 : TypeId) : Blk (((w.alloc (.cells a t1)).alloc (.cells b t2)).alloc (.cells c t3)) w.heap.size t1 a ∧ Blk (((w.alloc (.cells a t1)).alloc (.cells b t2)).alloc (.cells c t3)) (w.heap.size + 1) t2 b ∧ Blk (((w.alloc (.cells a t1)).alloc (.cells b t2)).alloc (.cells c t3)) (w.heap.size + 2) t3 c ∧ Below w.heap.size w (((w.alloc (.cells a t1)).alloc (.cells b t2)).alloc (.cells c t3)) := by
  have e1 : (w.alloc (.cells a t1)).heap.size = w.heap.size + 1 := by simp
  have e2 : ((w.alloc (.cells a t1)).alloc (.cells b t2)).heap.size = w.heap.size + 2 := by simp
  refine ⟨((Blk.new w t1 a).alloc _).alloc _, ?_, ?_, ?_⟩
  · have := (Blk.new (w.alloc (.cells a t1)) t2 b).alloc (.cells c t3)
    rwa [e1] at this
  · have := Blk.new ((w.alloc (.cells a t1)).alloc (.cells b t2)) t3 c
    rwa [e2] at this
  · exact (((Below.refl _ _).alloc (Nat.le_refl _) _).alloc (by omega) _).alloc (by omega) _
end So
end Go.Proofs.YthehchdonmmpaaaGreatDoor
