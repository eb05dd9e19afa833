/- Same, of two setups that are equal. Printed by gen_seD.py. -/
import Derived.Test.YtjjlhihocllgjaaGreatDoorSeC
namespace Go.Proofs.YtjjlhihocllgjaaGreatDoor.Se
open Go.ChangeShapes Go.WideShapes Go.ChangeAt Go.RowKit Gn Cat Lex Ros
set_option linter.unusedVariables false
set_option linter.unusedSimpArgs false
set_option maxHeartbeats 8000000 in
set_option maxRecDepth 100000 in
theorem same_yes (S : SetD) (v1 v2 v3 v4 u1 u2 u3 u4 : Value) (w : World) (h : SetW w v1 v2 v3 v4 S) (h' : SetW w u1 u2 u3 u4 S) : Calls Tryz.prog 22 #[.agg #[v1, v2, v3, v4], .agg #[u1, u2, u3, u4]] w (TrueP w) := by
  have LP := h.lp
  have LB := h.lb
  have LC := h.lc
  have LA := h.la
  obtain ⟨A11, c11, rfl, _, _, r11⟩ := ps_cases h.p
  have R11 := Lib.hid r11
  clear r11
  obtain ⟨A12, c12, rfl, _, _, r12⟩ := sl_parts h.b
  have R12 := Lib.hid r12
  clear r12
  obtain ⟨A13, c13, rfl, _, _, r13⟩ := sl_parts h.c
  have R13 := Lib.hid r13
  clear r13
  obtain ⟨A14, c14, rfl, _, _, r14⟩ := sl_parts h.a
  have R14 := Lib.hid r14
  clear r14
  obtain ⟨A21, c21, rfl, _, _, r21⟩ := ps_cases h'.p
  have R21 := Lib.hid r21
  clear r21
  obtain ⟨A22, c22, rfl, _, _, r22⟩ := sl_parts h'.b
  have R22 := Lib.hid r22
  clear r22
  obtain ⟨A23, c23, rfl, _, _, r23⟩ := sl_parts h'.c
  have R23 := Lib.hid r23
  clear r23
  obtain ⟨A24, c24, rfl, _, _, r24⟩ := sl_parts h'.a
  have R24 := Lib.hid r24
  clear r24
  clear h h'
  have K10 := Lib.hid ((Blk.new w 38 #[.slice A11 S.ps.length c11, .slice A12 S.bs.length c12, .slice A13 S.cs.length c13, .slice A14 S.ad.length c14]).alloc (.cells #[.slice A21 S.ps.length c21, .slice A22 S.bs.length c22, .slice A23 S.cs.length c23, .slice A24 S.ad.length c24] 38))
  have K20 : Hid (Blk ((w.alloc (.cells #[.slice A11 S.ps.length c11, .slice A12 S.bs.length c12, .slice A13 S.cs.length c13, .slice A14 S.ad.length c14] 38)).alloc (.cells #[.slice A21 S.ps.length c21, .slice A22 S.bs.length c22, .slice A23 S.cs.length c23, .slice A24 S.ad.length c24] 38)) (w.heap.size + 1) 38 #[.slice A21 S.ps.length c21, .slice A22 S.bs.length c22, .slice A23 S.cs.length c23, .slice A24 S.ad.length c24]) := by
    have h := Blk.new (w.alloc (.cells #[.slice A11 S.ps.length c11, .slice A12 S.bs.length c12, .slice A13 S.cs.length c13, .slice A14 S.ad.length c14] 38)) 38 #[.slice A21 S.ps.length c21, .slice A22 S.bs.length c22, .slice A23 S.cs.length c23, .slice A24 S.ad.length c24]
    rw [World.size_alloc] at h
    exact h
  have B0 := Lib.hid ((below_new w (.cells #[.slice A11 S.ps.length c11, .slice A12 S.bs.length c12, .slice A13 S.cs.length c13, .slice A14 S.ad.length c14] 38)).alloc (below_new w (.cells #[.slice A11 S.ps.length c11, .slice A12 S.bs.length c12, .slice A13 S.cs.length c13, .slice A14 S.ad.length c14] 38)).size (.cells #[.slice A21 S.ps.length c21, .slice A22 S.bs.length c22, .slice A23 S.cs.length c23, .slice A24 S.ad.length c24] 38))
  have q1 : ((S.ps.length : Int) != (S.ps.length : Int)) = false := by simp
  have q2 : ((S.bs.length : Int) != (S.bs.length : Int)) = false := by simp
  have q3 : ((S.cs.length : Int) != (S.cs.length : Int)) = false := by simp
  have q4 : ((S.ad.length : Int) != (S.ad.length : Int)) = false := by simp
  go_enter Tryz.func22, Tryz.ntmps22
  go_wp2_with fail
  clear q1 q2 q3 q4
  go_loopw [5] (fun iv wr => ∃ k : Nat, k ≤ S.ps.length ∧ iv = .int .i64 (k : Int) ∧ Hid (Below w.heap.size w wr) ∧ Hid (Blk wr w.heap.size 38 #[.slice A11 S.ps.length c11, .slice A12 S.bs.length c12, .slice A13 S.cs.length c13, .slice A14 S.ad.length c14]) ∧ Hid (Blk wr (w.heap.size + 1) 38 #[.slice A21 S.ps.length c21, .slice A22 S.bs.length c22, .slice A23 S.cs.length c23, .slice A24 S.ad.length c24])) (fun iv _ => S.ps.length - (intOf iv).toNat)
  case atStart => exact ⟨0, Nat.zero_le _, rfl, B0.out, K10.out, K20.out⟩
  case round =>
    clear B0 K10 K20
    obtain ⟨k, hk, rfl, HB1, HK1, HL1⟩ := hrel
    have hk0 : (0 : Int) ≤ (k : Int) := by omega
    have hk5 : (k : Int) ≤ 5000 := by omega
    have hl6 : (S.ps.length : Int) ≤ 5000 := by omega
    have kx := HK1.out.c4
    have kl := HK1.out.lt
    have ky := HL1.out.c4
    have km := HL1.out.lt
    by_cases hkn : k < S.ps.length
    · have hd1 : decide (k < S.ps.length) = true := decide_eq_true hkn
      have hd2 : decide ((k : Int) < (S.ps.length : Int)) = true := decide_eq_true (by omega)
      have hkn1 : (k : Int) < (S.ps.length : Int) := by omega
      obtain ⟨b1, o1, e1, hb1, hc1⟩ := R11.out (by omega)
      obtain ⟨b2, o2, e2, hb2, hc2⟩ := R21.out (by omega)
      subst e1 e2
      have d1 := ProdRow.at_ (hc1.below hb1 HB1.out) k hkn
      have d2 := ProdRow.at_ (hc2.below hb2 HB1.out) k hkn
      generalize S.ps[k] = x at *

      have z0 : (x.name.toList == x.name.toList) = true := by simp
      have z1 : (x.supply == x.supply) = true := by simp
      have z2 : (x.reserve == x.reserve) = true := by simp
      have z3 : (x.points == x.points) = true := by simp
      have z4 : (x.group == x.group) = true := by simp
      clear hc1 hc2 hb1 hb2
      go_wp2_with fail
      go_quiet (fail)
      go_wp2_with fail
      go_roundw
      case rel => exact ⟨k + 1, hkn, by go_num, chain0 HB1.out (drewN_below _ _), HK1.out.drewN _, HL1.out.drewN _⟩
      case measure => simp [intOf]; omega
    · have hd1 : decide (k < S.ps.length) = false := decide_eq_false hkn
      have hd2 : decide ((k : Int) < (S.ps.length : Int)) = false := decide_eq_false (by omega)
      clear hkn hk0 hk5 hl6 hk
      go_wp2_with fail
      clear kx kl ky km hd1 hd2
      go_loopw [6] (fun iv wr => ∃ k : Nat, k ≤ S.bs.length ∧ iv = .int .i64 (k : Int) ∧ Hid (Below w.heap.size w wr) ∧ Hid (Blk wr w.heap.size 38 #[.slice A11 S.ps.length c11, .slice A12 S.bs.length c12, .slice A13 S.cs.length c13, .slice A14 S.ad.length c14]) ∧ Hid (Blk wr (w.heap.size + 1) 38 #[.slice A21 S.ps.length c21, .slice A22 S.bs.length c22, .slice A23 S.cs.length c23, .slice A24 S.ad.length c24])) (fun iv _ => S.bs.length - (intOf iv).toNat)
      case atStart => exact ⟨0, Nat.zero_le _, rfl, HB1.out, HK1.out, HL1.out⟩
      case round =>
        clear HB1 HK1 HL1
        obtain ⟨k, hk, rfl, HB2, HK2, HL2⟩ := hrel
        have hk0 : (0 : Int) ≤ (k : Int) := by omega
        have hk5 : (k : Int) ≤ 5000 := by omega
        have hl6 : (S.bs.length : Int) ≤ 5000 := by omega
        have kx := HK2.out.c4
        have kl := HK2.out.lt
        have ky := HL2.out.c4
        have km := HL2.out.lt
        by_cases hkn : k < S.bs.length
        · have hd1 : decide (k < S.bs.length) = true := decide_eq_true hkn
          have hd2 : decide ((k : Int) < (S.bs.length : Int)) = true := decide_eq_true (by omega)
          have hkn1 : (k : Int) < (S.bs.length : Int) := by omega
          obtain ⟨b1, o1, e1, hb1, hc1⟩ := R12.out (by omega)
          obtain ⟨b2, o2, e2, hb2, hc2⟩ := R22.out (by omega)
          subst e1 e2
          have d1 := BidRow.at_ (hc1.below hb1 HB2.out) k hkn
          have d2 := BidRow.at_ (hc2.below hb2 HB2.out) k hkn
          generalize S.bs[k] = x at *

          have z0 : (x.name.toList == x.name.toList) = true := by simp
          have z1 : (x.cls == x.cls) = true := by simp
          have z2 : (x.budget == x.budget) = true := by simp
          have z3 : (x.points == x.points) = true := by simp
          clear hc1 hc2 hb1 hb2
          go_wp2_with fail
          go_quiet (fail)
          go_wp2_with fail
          go_roundw
          case rel => exact ⟨k + 1, hkn, by go_num, chain0 HB2.out (drewN_below _ _), HK2.out.drewN _, HL2.out.drewN _⟩
          case measure => simp [intOf]; omega
        · have hd1 : decide (k < S.bs.length) = false := decide_eq_false hkn
          have hd2 : decide ((k : Int) < (S.bs.length : Int)) = false := decide_eq_false (by omega)
          clear hkn hk0 hk5 hl6 hk
          go_wp2_with fail
          clear kx kl ky km hd1 hd2
          go_loopw [7] (fun iv wr => ∃ k : Nat, k ≤ S.cs.length ∧ iv = .int .i64 (k : Int) ∧ Hid (Below w.heap.size w wr) ∧ Hid (Blk wr w.heap.size 38 #[.slice A11 S.ps.length c11, .slice A12 S.bs.length c12, .slice A13 S.cs.length c13, .slice A14 S.ad.length c14]) ∧ Hid (Blk wr (w.heap.size + 1) 38 #[.slice A21 S.ps.length c21, .slice A22 S.bs.length c22, .slice A23 S.cs.length c23, .slice A24 S.ad.length c24])) (fun iv _ => S.cs.length - (intOf iv).toNat)
          case atStart => exact ⟨0, Nat.zero_le _, rfl, HB2.out, HK2.out, HL2.out⟩
          case round =>
            clear HB2 HK2 HL2
            obtain ⟨k, hk, rfl, HB3, HK3, HL3⟩ := hrel
            have hk0 : (0 : Int) ≤ (k : Int) := by omega
            have hk5 : (k : Int) ≤ 5000 := by omega
            have hl6 : (S.cs.length : Int) ≤ 5000 := by omega
            have kx := HK3.out.c4
            have kl := HK3.out.lt
            have ky := HL3.out.c4
            have km := HL3.out.lt
            by_cases hkn : k < S.cs.length
            · have hd1 : decide (k < S.cs.length) = true := decide_eq_true hkn
              have hd2 : decide ((k : Int) < (S.cs.length : Int)) = true := decide_eq_true (by omega)
              have hkn1 : (k : Int) < (S.cs.length : Int) := by omega
              obtain ⟨b1, o1, e1, hb1, hc1⟩ := R13.out (by omega)
              obtain ⟨b2, o2, e2, hb2, hc2⟩ := R23.out (by omega)
              subst e1 e2
              have d1 := cap_at (hc1.below hb1 HB3.out) k hkn
              have d2 := cap_at (hc2.below hb2 HB3.out) k hkn
              generalize S.cs[k] = x at *

              have z0 : (x.bidder == x.bidder) = true := by simp
              have z1 : (x.group == x.group) = true := by simp
              have z2 : (x.units == x.units) = true := by simp
              clear hc1 hc2 hb1 hb2
              go_wp2_with fail
              go_quiet (fail)
              go_wp2_with fail
              go_roundw
              case rel => exact ⟨k + 1, hkn, by go_num, chain0 HB3.out (drewN_below _ _), HK3.out.drewN _, HL3.out.drewN _⟩
              case measure => simp [intOf]; omega
            · have hd1 : decide (k < S.cs.length) = false := decide_eq_false hkn
              have hd2 : decide ((k : Int) < (S.cs.length : Int)) = false := decide_eq_false (by omega)
              clear hkn hk0 hk5 hl6 hk
              go_wp2_with fail
              clear kx kl ky km hd1 hd2
              go_loopw [8] (fun iv wr => ∃ k : Nat, k ≤ S.ad.length ∧ iv = .int .i64 (k : Int) ∧ Hid (Below w.heap.size w wr) ∧ Hid (Blk wr w.heap.size 38 #[.slice A11 S.ps.length c11, .slice A12 S.bs.length c12, .slice A13 S.cs.length c13, .slice A14 S.ad.length c14]) ∧ Hid (Blk wr (w.heap.size + 1) 38 #[.slice A21 S.ps.length c21, .slice A22 S.bs.length c22, .slice A23 S.cs.length c23, .slice A24 S.ad.length c24])) (fun iv _ => S.ad.length - (intOf iv).toNat)
              case atStart => exact ⟨0, Nat.zero_le _, rfl, HB3.out, HK3.out, HL3.out⟩
              case round =>
                clear HB3 HK3 HL3
                obtain ⟨k, hk, rfl, HB4, HK4, HL4⟩ := hrel
                have hk0 : (0 : Int) ≤ (k : Int) := by omega
                have hk5 : (k : Int) ≤ 5000 := by omega
                have hl6 : (S.ad.length : Int) ≤ 5000 := by omega
                have kx := HK4.out.c4
                have kl := HK4.out.lt
                have ky := HL4.out.c4
                have km := HL4.out.lt
                by_cases hkn : k < S.ad.length
                · have hd1 : decide (k < S.ad.length) = true := decide_eq_true hkn
                  have hd2 : decide ((k : Int) < (S.ad.length : Int)) = true := decide_eq_true (by omega)
                  have hkn1 : (k : Int) < (S.ad.length : Int) := by omega
                  obtain ⟨b1, o1, e1, hb1, hc1⟩ := R14.out (by omega)
                  obtain ⟨b2, o2, e2, hb2, hc2⟩ := R24.out (by omega)
                  subst e1 e2
                  have d1 := asd_at (hc1.below hb1 HB4.out) k hkn
                  have d2 := asd_at (hc2.below hb2 HB4.out) k hkn
                  generalize S.ad[k] = x at *

                  have z0 : (x.prod == x.prod) = true := by simp
                  have z1 : (x.cls == x.cls) = true := by simp
                  have z2 : (x.units == x.units) = true := by simp
                  clear hc1 hc2 hb1 hb2
                  go_wp2_with fail
                  go_quiet (fail)
                  go_wp2_with fail
                  go_roundw
                  case rel => exact ⟨k + 1, hkn, by go_num, chain0 HB4.out (drewN_below _ _), HK4.out.drewN _, HL4.out.drewN _⟩
                  case measure => simp [intOf]; omega
                · have hd1 : decide (k < S.ad.length) = false := decide_eq_false hkn
                  have hd2 : decide ((k : Int) < (S.ad.length : Int)) = false := decide_eq_false (by omega)
                  go_wp2_with fail
                  go_ret
                  exact ⟨rfl, HB4.out⟩
end Go.Proofs.YtjjlhihocllgjaaGreatDoor.Se
