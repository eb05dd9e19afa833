/- Contracts of setup.Check and of the reference's Check. Printed by gen_se2.py. -/
import Derived.Test.YtaikmgnpfbnjjaaGreatDoorPu17
import Derived.Test.YtaikmgnpfbnjjaaGreatDoorPu14
namespace Go.Proofs.YtaikmgnpfbnjjaaGreatDoor.Se
open Go.ChangeShapes Go.WideShapes Go.ChangeAt Go.RowKit Gn Cat Lex Ros
set_option linter.unusedVariables false
set_option linter.unusedSimpArgs false
theorem SetW.forms {w : World} {v1 v2 v3 v4 : Value} {S : SetD} (h : SetW w v1 v2 v3 v4 S) : ∃ A1 c1 A2 c2 A3 c3 A4 c4, v1 = .slice A1 S.ps.length c1 ∧ v2 = .slice A2 S.bs.length c2 ∧ v3 = .slice A3 S.cs.length c3 ∧ v4 = .slice A4 S.ad.length c4 := by
  obtain ⟨A1, c1, e1, _⟩ := ps_cases h.p
  obtain ⟨A2, c2, e2, _⟩ := sl_parts h.b
  obtain ⟨A3, c3, e3, _⟩ := sl_parts h.c
  obtain ⟨A4, c4, e4, _⟩ := sl_parts h.a
  exact ⟨A1, c1, A2, c2, A3, c3, A4, c4, e1, e2, e3, e4⟩
theorem setE_1 {S : SetD} (h : checkE S.ps ≠ 0) : S.err = checkE S.ps := by unfold SetD.err setE; rw [if_pos h]
theorem setE_2 {S : SetD} (h : checkE S.ps = 0) (h2 : rosE S.bs ≠ 0) : S.err = rosE S.bs := by unfold SetD.err setE; rw [if_neg (fun e => e h), if_pos h2]
theorem setE_3 {S : SetD} (h : checkE S.ps = 0) (h2 : rosE S.bs = 0) (h3 : capsE S.bs.length S.cs ≠ 0) : S.err = capsE S.bs.length S.cs := by unfold SetD.err setE; rw [if_neg (fun e => e h), if_neg (fun e => e h2), if_pos h3]
theorem setE_4 {S : SetD} (h : checkE S.ps = 0) (h2 : rosE S.bs = 0) (h3 : capsE S.bs.length S.cs = 0) : S.err = asdsE S.ps S.ad := by unfold SetD.err setE; rw [if_neg (fun e => e h), if_neg (fun e => e h2), if_neg (fun e => e h3)]
set_option maxHeartbeats 2000000 in
theorem check_any (S : SetD) (v1 v2 v3 v4 : Value) (w : World) (h : SetW w v1 v2 v3 v4 S) : Calls Tryz.prog 44 #[.agg #[v1, v2, v3, v4]] w (ErrPost S.err w) := by
  obtain ⟨A1, c1, A2, c2, A3, c3, A4, c4, rfl, rfl, rfl, rfl⟩ := h.forms
  have HW := Lib.hid (fun W (b : Below w.heap.size w W) => h.keep b)
  have BX := Lib.hid (below_new w (.cells #[.slice A1 S.ps.length c1, .slice A2 S.bs.length c2, .slice A3 S.cs.length c3, .slice A4 S.ad.length c4] 42))
  have KX := Lib.hid (Blk.new w 42 #[.slice A1 S.ps.length c1, .slice A2 S.bs.length c2, .slice A3 S.cs.length c3, .slice A4 S.ad.length c4])
  have CP := Lib.hid (fun W (b : Below w.heap.size w W) => Cat.check_any S.ps _ W h.lp (h.p.keep b) h.np)
  have CB := Lib.hid (fun W (b : Below w.heap.size w W) => Ros.check_any S.bs _ W h.lb (h.b.keep b) h.nb)
  have CC := Lib.hid (fun W (b : Below w.heap.size w W) => caps_any S.bs.length S.cs A1 A2 A4 A3 S.ps.length c1 c2 S.ad.length c4 c3 W h.lc h.lb (h.c.keep b))
  have CA := Lib.hid (fun W (b : Below w.heap.size w W) => asds_any S.ps S.ad A1 A2 A3 A4 c1 S.bs.length c2 S.cs.length c3 c4 W h.la h.lp (h.p.keep b) (h.a.keep b))
  have E1 := Lib.hid (setE_1 (S := S))
  have E2 := Lib.hid (setE_2 (S := S))
  have E3 := Lib.hid (setE_3 (S := S))
  have E4 := Lib.hid (setE_4 (S := S))
  generalize S.err = R at *
  clear h HW
  go_enter Tryz.func44, Tryz.ntmps44
  have cx := KX.out.c4
  go_wp2_with fail
  refine (CP.out _ BX.out).mono ?_
  rintro e w1 ⟨rfl, d1⟩
  have B1 := Lib.hid (chain0 BX.out d1)
  have K1 := Lib.hid (KX.out.below' d1)
  have x1 := K1.out.c4
  clear d1 cx KX BX
  by_cases q1 : checkE S.ps = 0
  · have t1 : (checkE S.ps != 0) = false := by simpa using q1
    have q1h := Lib.hid q1
    clear q1
    go_wp2_with fail
    refine (CB.out _ B1.out).mono ?_
    rintro e w2 ⟨rfl, d2⟩
    have B2 := Lib.hid (chain0 B1.out d2)
    have K2 := Lib.hid (K1.out.below' d2)
    have x2 := K2.out.c4
    clear d2 x1 K1 B1
    by_cases q2 : rosE S.bs = 0
    · have t2 : (rosE S.bs != 0) = false := by simpa using q2
      have q2h := Lib.hid q2
      clear q2
      go_wp2_with fail
      refine (CC.out _ B2.out).mono ?_
      rintro e w3 ⟨rfl, d3⟩
      have B3 := Lib.hid (chain0 B2.out d3)
      have K3 := Lib.hid (K2.out.below' d3)
      have x3 := K3.out.c4
      clear d3 x2 K2 B2
      by_cases q3 : capsE S.bs.length S.cs = 0
      · have t3 : (capsE S.bs.length S.cs != 0) = false := by simpa using q3
        have q3h := Lib.hid q3
        clear q3
        go_wp2_with fail
        refine (CA.out _ B3.out).mono ?_
        rintro e w4 ⟨rfl, d4⟩
        have B4 := Lib.hid (chain0 B3.out d4)
        clear d4
        go_wp2_with fail
        go_ret
        exact ⟨by rw [E4.out q1h.out q2h.out q3h.out]; rfl, B4.out⟩
      · have t3 : (capsE S.bs.length S.cs != 0) = true := by simpa using q3
        have HV := Lib.hid (E3.out q1h.out q2h.out q3)
        clear q3
        go_wp2_with fail
        go_ret
        exact ⟨by rw [HV.out]; rfl, B3.out⟩
    · have t2 : (rosE S.bs != 0) = true := by simpa using q2
      have HV := Lib.hid (E2.out q1h.out q2)
      clear q2
      go_wp2_with fail
      go_ret
      exact ⟨by rw [HV.out]; rfl, B2.out⟩
  · have t1 : (checkE S.ps != 0) = true := by simpa using q1
    have HV := Lib.hid (E1.out q1)
    clear q1
    go_wp2_with fail
    go_ret
    exact ⟨by rw [HV.out]; rfl, B1.out⟩

set_option maxHeartbeats 4000000 in
set_option maxRecDepth 100000 in
theorem rcheck_any (S : SetD) (v1 v2 v3 v4 : Value) (w : World) (h : SetW w v1 v2 v3 v4 S) : Calls Tryz.prog 23 #[.agg #[v1, v2, v3, v4]] w (ErrPost S.err w) := by
  obtain ⟨A1, c1, A2, c2, A3, c3, A4, c4, rfl, rfl, rfl, rfl⟩ := h.forms
  have BX := Lib.hid (below_new w (.cells #[.slice A1 S.ps.length c1, .slice A2 S.bs.length c2, .slice A3 S.cs.length c3, .slice A4 S.ad.length c4] 42))
  have KX := Lib.hid (Blk.new w 42 #[.slice A1 S.ps.length c1, .slice A2 S.bs.length c2, .slice A3 S.cs.length c3, .slice A4 S.ad.length c4])
  have CP := Lib.hid (fun W (b : Below w.heap.size w W) => Cat.rcheck_any S.ps _ W h.lp (h.p.keep b) h.np)
  have CB := Lib.hid (fun W (b : Below w.heap.size w W) => Ros.rcheck_any S.bs _ W h.lb (h.b.keep b) h.nb)
  obtain ⟨A', c', e', _, _, hp⟩ := ps_cases h.p
  injection e' with e1 e2 e3
  subst e1 e3
  have HRP := Lib.hid hp
  obtain ⟨A', c', e', _, _, hc⟩ := sl_parts h.c
  injection e' with e1 e2 e3
  subst e1 e3
  have HRC := Lib.hid hc
  obtain ⟨A', c', e', _, _, ha⟩ := sl_parts h.a
  injection e' with e1 e2 e3
  subst e1 e3
  have HRA := Lib.hid ha
  have HLP := Lib.hid h.lp
  have hlb : (S.bs.length : Int) ≤ 5000 := by have := h.lb; omega
  have hlc : (S.cs.length : Int) ≤ 5000 := by have := h.lc; omega
  have hla : (S.ad.length : Int) ≤ 5000 := by have := h.la; omega
  have E1 := Lib.hid (setE_1 (S := S))
  have E2 := Lib.hid (setE_2 (S := S))
  have E3 := Lib.hid (setE_3 (S := S))
  have E4 := Lib.hid (setE_4 (S := S))
  generalize S.err = RR at *
  clear h hp hc ha
  go_enter Tryz.func23, Tryz.ntmps23
  have cx := KX.out.c4
  go_wp2_with fail
  refine (CP.out _ BX.out).mono ?_
  rintro e w1 ⟨rfl, d1⟩
  have B1 := Lib.hid (chain0 BX.out d1)
  have K1 := Lib.hid (KX.out.below' d1)
  have x1 := K1.out.c4
  clear d1 cx KX BX CP
  by_cases q1 : checkE S.ps = 0
  · have t1 : (checkE S.ps == 0) = true := by simpa using q1
    have q1h := Lib.hid q1
    clear q1
    go_wp2_with fail
    refine (CB.out _ B1.out).mono ?_
    rintro e w2 ⟨rfl, d2⟩
    have B0 := Lib.hid (chain0 B1.out d2)
    have K0 := Lib.hid (K1.out.below' d2)
    have x0 := K0.out.c4
    clear d2 x1 K1 B1 CB
    by_cases q2 : rosE S.bs = 0
    · have t2 : (rosE S.bs != 0) = false := by simpa using q2
      have q2h := Lib.hid q2
      clear q2
      obtain ⟨R, hR⟩ : ∃ R, R = capsE S.bs.length S.cs := ⟨_, rfl⟩
      have HRD := Lib.hid hR
      have HRR : Hid (R ≠ 0 → RR = R) := fun hn => by rw [hR] at hn ⊢; exact E3.out q1h.out q2h.out hn
      have HZ : Hid (R = 0 → RR = asdsE S.ps S.ad) := fun hn => E4.out q1h.out q2h.out (by rw [← hR]; exact hn)
      clear hR E1 E2 E3 E4
      by_cases h16 : 16 < S.cs.length
      · have d1 : decide ((16 : Int) < (S.cs.length : Int)) = true := decide_eq_true (by omega)
        have HV := Lib.hid (show R = 3 by rw [HRD.out]; unfold capsE; rw [if_pos h16])
        clear h16
        go_wp2_with fail
        go_ret
        exact ⟨by rw [HRR.out (by rw [HV.out]; decide), HV.out]; rfl, B0.out⟩
      have d1 : decide ((16 : Int) < (S.cs.length : Int)) = false := decide_eq_false (by omega)
      have HE := Lib.hid (show R = firstE (fun i => capOne S.bs.length S.cs i (S.cs.getD i ⟨0, 0, 0⟩)) 0 S.cs.length by rw [HRD.out]; unfold capsE; rw [if_neg h16])
      have HF := Lib.hid (fun i (hi : i < S.cs.length) => (show (S.cs.getD i ⟨0, 0, 0⟩) = S.cs[i] by simp [List.getD, hi]))
      have l5 : (S.cs.length : Int) ≤ 16 := by omega
      clear h16 HRD
      go_wp2_with fail
      go_loopw [4] (fun iv wr => ∃ k : Nat, k ≤ S.cs.length ∧ iv = .int .i64 (k : Int) ∧ Hid (R = firstE (fun i => capOne S.bs.length S.cs i (S.cs.getD i ⟨0, 0, 0⟩)) k (S.cs.length - k)) ∧ Hid (Below w.heap.size w wr) ∧ Hid (Blk wr w.heap.size 42 #[.slice A1 S.ps.length c1, .slice A2 S.bs.length c2, .slice A3 S.cs.length c3, .slice A4 S.ad.length c4])) (fun iv _ => S.cs.length - (intOf iv).toNat)
      case atStart => exact ⟨0, Nat.zero_le _, rfl, by show _ = _; rw [HE.out]; rfl, B0.out, K0.out⟩
      case round =>
        clear HE B0 K0 x0 d1
        obtain ⟨k, hk, rfl, HX, HB, HK⟩ := hrel
        have hk0 : (0 : Int) ≤ (k : Int) := by omega
        have hk5 : (k : Int) ≤ 5000 := by omega
        have cx := HK.out.c4
        have hgx := HK.out.lt
        by_cases hkn : k < S.cs.length
        · have hd1 : decide (k < S.cs.length) = true := decide_eq_true hkn
          have hd2 : decide ((k : Int) < (S.cs.length : Int)) = true := decide_eq_true (by omega)
          have hkn1 : (k : Int) < (S.cs.length : Int) := by omega
          obtain ⟨b, o, e1, hb, hrow⟩ := HRC.out (by omega)
          subst e1
          have HAT := Lib.hid (fun W (bw : Below w.heap.size w W) => fun j (hj : j < S.cs.length) => cap_at (hrow.below hb bw) j hj)
          have hat := HAT.out _ HB.out k hkn
          have HST : Hid (capOne S.bs.length S.cs k S.cs[k] ≠ 0 → R = capOne S.bs.length S.cs k S.cs[k]) := by
            intro h2
            have e2 := HX.out
            rw [show S.cs.length - k = (S.cs.length - (k + 1)) + 1 by omega, firstE_stop (by show capOne S.bs.length S.cs k (S.cs.getD k ⟨0, 0, 0⟩) ≠ 0; rw [HF.out k hkn]; exact h2)] at e2
            rw [e2]
            show capOne S.bs.length S.cs k (S.cs.getD k ⟨0, 0, 0⟩) = _
            rw [HF.out k hkn]
          have HGO : Hid (capOne S.bs.length S.cs k S.cs[k] = 0 → R = firstE (fun i => capOne S.bs.length S.cs i (S.cs.getD i ⟨0, 0, 0⟩)) (k + 1) (S.cs.length - (k + 1))) := by
            intro h2
            have e2 := HX.out
            rw [show S.cs.length - k = (S.cs.length - (k + 1)) + 1 by omega, firstE_step (by show capOne S.bs.length S.cs k (S.cs.getD k ⟨0, 0, 0⟩) = 0; rw [HF.out k hkn]; exact h2)] at e2
            exact e2
          obtain ⟨x, hx⟩ : ∃ x, x = S.cs[k] := ⟨_, rfl⟩
          rw [← hx] at hat HST HGO
          have HXX := Lib.hid hx
          clear hx hrow
          by_cases q0 : x.bidder < -1
          · have t0 : decide (x.bidder < (-1 : Int)) = true := decide_eq_true q0
            have e2 : capOne S.bs.length S.cs k x = 6 := by unfold capOne; rw [if_pos (by omega)]
            have HV := Lib.hid (show R = 6 by rw [HST.out (by rw [e2]; decide), e2])
            clear e2
            clear q0 HST HGO
            have K1 := Lib.hid (Blk.new wr 94 #[.int .i64 x.bidder, .int .i64 x.group, .int .i64 x.units])
            have B1 := Lib.hid (HB.out.alloc HB.out.size (.cells #[.int .i64 x.bidder, .int .i64 x.group, .int .i64 x.units] 94))
            have KX1 := Lib.hid (HK.out.alloc (.cells #[.int .i64 x.bidder, .int .i64 x.group, .int .i64 x.units] 94))
            go_wp2_with fail
            go_ret
            exact ⟨by rw [HRR.out (by rw [HV.out]; decide), HV.out]; rfl, B1.out⟩
          · have t0 : decide (x.bidder < (-1 : Int)) = false := decide_eq_false q0
            by_cases q1 : (S.bs.length : Int) ≤ x.bidder
            · have t1 : decide ((S.bs.length : Int) ≤ x.bidder) = true := decide_eq_true q1
              have e2 : capOne S.bs.length S.cs k x = 6 := by unfold capOne; rw [if_pos (by omega)]
              have HV := Lib.hid (show R = 6 by rw [HST.out (by rw [e2]; decide), e2])
              clear e2
              clear q0 q1 HST HGO
              have K1 := Lib.hid (Blk.new wr 94 #[.int .i64 x.bidder, .int .i64 x.group, .int .i64 x.units])
              have B1 := Lib.hid (HB.out.alloc HB.out.size (.cells #[.int .i64 x.bidder, .int .i64 x.group, .int .i64 x.units] 94))
              have KX1 := Lib.hid (HK.out.alloc (.cells #[.int .i64 x.bidder, .int .i64 x.group, .int .i64 x.units] 94))
              go_wp2_with fail
              go_ret
              exact ⟨by rw [HRR.out (by rw [HV.out]; decide), HV.out]; rfl, B1.out⟩
            · have t1 : decide ((S.bs.length : Int) ≤ x.bidder) = false := decide_eq_false q1
              by_cases q2 : x.group < 0
              · have t2 : decide (x.group < (0 : Int)) = true := decide_eq_true q2
                have e2 : capOne S.bs.length S.cs k x = 4 := by unfold capOne; rw [if_neg (by omega), if_pos (by omega)]
                have HV := Lib.hid (show R = 4 by rw [HST.out (by rw [e2]; decide), e2])
                clear e2
                clear q0 q1 q2 HST HGO
                have K1 := Lib.hid (Blk.new wr 94 #[.int .i64 x.bidder, .int .i64 x.group, .int .i64 x.units])
                have B1 := Lib.hid (HB.out.alloc HB.out.size (.cells #[.int .i64 x.bidder, .int .i64 x.group, .int .i64 x.units] 94))
                have KX1 := Lib.hid (HK.out.alloc (.cells #[.int .i64 x.bidder, .int .i64 x.group, .int .i64 x.units] 94))
                go_wp2_with fail
                go_ret
                exact ⟨by rw [HRR.out (by rw [HV.out]; decide), HV.out]; rfl, B1.out⟩
              · have t2 : decide (x.group < (0 : Int)) = false := decide_eq_false q2
                by_cases q3 : 4 < x.group
                · have t3 : decide ((4 : Int) < x.group) = true := decide_eq_true q3
                  have e2 : capOne S.bs.length S.cs k x = 4 := by unfold capOne; rw [if_neg (by omega), if_pos (by omega)]
                  have HV := Lib.hid (show R = 4 by rw [HST.out (by rw [e2]; decide), e2])
                  clear e2
                  clear q0 q1 q2 q3 HST HGO
                  have K1 := Lib.hid (Blk.new wr 94 #[.int .i64 x.bidder, .int .i64 x.group, .int .i64 x.units])
                  have B1 := Lib.hid (HB.out.alloc HB.out.size (.cells #[.int .i64 x.bidder, .int .i64 x.group, .int .i64 x.units] 94))
                  have KX1 := Lib.hid (HK.out.alloc (.cells #[.int .i64 x.bidder, .int .i64 x.group, .int .i64 x.units] 94))
                  go_wp2_with fail
                  go_ret
                  exact ⟨by rw [HRR.out (by rw [HV.out]; decide), HV.out]; rfl, B1.out⟩
                · have t3 : decide ((4 : Int) < x.group) = false := decide_eq_false q3
                  by_cases q4 : x.units < 0
                  · have t4 : decide (x.units < (0 : Int)) = true := decide_eq_true q4
                    have e2 : capOne S.bs.length S.cs k x = 4 := by unfold capOne; rw [if_neg (by omega), if_pos (by omega)]
                    have HV := Lib.hid (show R = 4 by rw [HST.out (by rw [e2]; decide), e2])
                    clear e2
                    clear q0 q1 q2 q3 q4 HST HGO
                    have K1 := Lib.hid (Blk.new wr 94 #[.int .i64 x.bidder, .int .i64 x.group, .int .i64 x.units])
                    have B1 := Lib.hid (HB.out.alloc HB.out.size (.cells #[.int .i64 x.bidder, .int .i64 x.group, .int .i64 x.units] 94))
                    have KX1 := Lib.hid (HK.out.alloc (.cells #[.int .i64 x.bidder, .int .i64 x.group, .int .i64 x.units] 94))
                    go_wp2_with fail
                    go_ret
                    exact ⟨by rw [HRR.out (by rw [HV.out]; decide), HV.out]; rfl, B1.out⟩
                  · have t4 : decide (x.units < (0 : Int)) = false := decide_eq_false q4
                    by_cases q5 : 24 < x.units
                    · have t5 : decide ((24 : Int) < x.units) = true := decide_eq_true q5
                      have e2 : capOne S.bs.length S.cs k x = 4 := by unfold capOne; rw [if_neg (by omega), if_pos (by omega)]
                      have HV := Lib.hid (show R = 4 by rw [HST.out (by rw [e2]; decide), e2])
                      clear e2
                      clear q0 q1 q2 q3 q4 q5 HST HGO
                      have K1 := Lib.hid (Blk.new wr 94 #[.int .i64 x.bidder, .int .i64 x.group, .int .i64 x.units])
                      have B1 := Lib.hid (HB.out.alloc HB.out.size (.cells #[.int .i64 x.bidder, .int .i64 x.group, .int .i64 x.units] 94))
                      have KX1 := Lib.hid (HK.out.alloc (.cells #[.int .i64 x.bidder, .int .i64 x.group, .int .i64 x.units] 94))
                      go_wp2_with fail
                      go_ret
                      exact ⟨by rw [HRR.out (by rw [HV.out]; decide), HV.out]; rfl, B1.out⟩
                    · have t5 : decide ((24 : Int) < x.units) = false := decide_eq_false q5
                      have HT : Hid (capOne S.bs.length S.cs k x = if (S.cs.take k).any (fun d => d.bidder == x.bidder && d.group == x.group) = true then 7 else 0) := by show _ = _; unfold capOne; rw [if_neg (by omega), if_neg (by omega)]
                      clear q0 q1 q2 q3 q4 q5
                      have K1 := Lib.hid (Blk.new wr 94 #[.int .i64 x.bidder, .int .i64 x.group, .int .i64 x.units])
                      have B1 := Lib.hid (HB.out.alloc HB.out.size (.cells #[.int .i64 x.bidder, .int .i64 x.group, .int .i64 x.units] 94))
                      have KX1 := Lib.hid (HK.out.alloc (.cells #[.int .i64 x.bidder, .int .i64 x.group, .int .i64 x.units] 94))
                      go_wp2_with fail
                      generalize wr.alloc _ = W at *
                      have hgc := K1.out.lt
                      generalize wr.heap.size = gc at *
                      go_loopw [6] (fun jv ws => ∃ j : Nat, j ≤ k ∧ jv = .int .i64 (j : Int) ∧ Hid (∀ j2 (h2 : j2 < j) (h3 : j2 < S.cs.length), (fun d => d.bidder == x.bidder && d.group == x.group) S.cs[j2] = false) ∧ Hid (Below W.heap.size W ws)) (fun jv _ => k - (intOf jv).toNat)
                      case atStart => exact ⟨0, Nat.zero_le _, rfl, (fun j2 h2 => absurd h2 (Nat.not_lt_zero _)), Below.refl _ _⟩
                      case round =>
                        obtain ⟨j, hj, rfl, HJ, HBJ⟩ := hrel
                        have hj0 : (0 : Int) ≤ (j : Int) := by omega
                        by_cases hjk : j < k
                        · have hdj : decide ((j : Int) < (k : Int)) = true := decide_eq_true (by omega)
                          have hjk1 : (j : Int) < (k : Int) := by omega
                          have hjl : j < S.cs.length := by omega
                          have hjl1 : (j : Int) < (S.cs.length : Int) := by omega
                          have B2 := Lib.hid (chain0 B1.out HBJ.out)
                          have haj := HAT.out _ B2.out j hjl
                          have hbs := Nat.lt_of_lt_of_le hb B2.out.size
                          have kc := (K1.out.below' HBJ.out).c3
                          have hgs := (K1.out.below' HBJ.out).lt
                          have cx2 := (KX1.out.below' HBJ.out).c4
                          have hgx2 := (KX1.out.below' HBJ.out).lt
                          obtain ⟨y, hy⟩ : ∃ y, y = S.cs[j] := ⟨_, rfl⟩
                          rw [← hy] at haj
                          have HY := Lib.hid hy
                          clear hy
                          cases hm : (y.bidder == x.bidder) with
                          | true =>
                            cases hm2 : (y.group == x.group) with
                            | true =>
                              have HV : Hid (R = 7) := by
                                have e2 : capOne S.bs.length S.cs k x = 7 := by rw [HT.out, if_pos (any_hit (j := j) (by omega) hjk (by rw [← HY.out]; show (y.bidder == x.bidder && y.group == x.group) = true; rw [hm, hm2]; rfl))]
                                show R = 7
                                rw [HST.out (by rw [e2]; decide), e2]
                              go_wp2_with fail
                              go_quiet (fail)
                              go_wp2_with fail
                              go_ret
                              exact ⟨by rw [HRR.out (by rw [HV.out]; decide), HV.out]; rfl, chain0 B2.out (drewN_below _ _)⟩
                            | false =>
                              have HJ2 : Hid (∀ j2 (h2 : j2 < j + 1) (h3 : j2 < S.cs.length), (fun d => d.bidder == x.bidder && d.group == x.group) S.cs[j2] = false) := by
                                intro j2 h2 h3
                                by_cases e : j2 = j
                                · subst e; rw [← HY.out]; show (y.bidder == x.bidder && y.group == x.group) = false; rw [hm, hm2]; rfl
                                · exact HJ.out j2 (by omega) h3
                              go_wp2_with fail
                              go_quiet (fail)
                              go_wp2_with fail
                              go_roundw
                              case rel => exact ⟨j + 1, hjk, by go_num, HJ2.out, chain0 HBJ.out (drewN_below _ _)⟩
                              case measure => simp [intOf]; omega
                          | false =>
                            have HJ2 : Hid (∀ j2 (h2 : j2 < j + 1) (h3 : j2 < S.cs.length), (fun d => d.bidder == x.bidder && d.group == x.group) S.cs[j2] = false) := by
                              intro j2 h2 h3
                              by_cases e : j2 = j
                              · subst e; rw [← HY.out]; show (y.bidder == x.bidder && y.group == x.group) = false; rw [hm]; rfl
                              · exact HJ.out j2 (by omega) h3
                            go_wp2_with fail
                            go_quiet (fail)
                            go_wp2_with fail
                            go_roundw
                            case rel => exact ⟨j + 1, hjk, by go_num, HJ2.out, chain0 HBJ.out (drewN_below _ _)⟩
                            case measure => simp [intOf]; omega
                        · obtain rfl : j = k := by omega
                          have hdj : decide ((j : Int) < (j : Int)) = false := decide_eq_false (by omega)
                          have B2 := Lib.hid (chain0 B1.out HBJ.out)
                          have KX2 := Lib.hid (KX1.out.below' HBJ.out)
                          have HV : Hid (R = firstE (fun i => capOne S.bs.length S.cs i (S.cs.getD i ⟨0, 0, 0⟩)) (j + 1) (S.cs.length - (j + 1))) := HGO.out (by rw [HT.out, if_neg]; rw [Bool.not_eq_true]; exact any_take (by omega) fun j2 h2 => HJ.out j2 h2 (by omega))
                          go_wp2_with fail
                          go_roundw
                          case rel => exact ⟨j + 1, hkn, by go_num, HV.out, B2.out, KX2.out⟩
                          case measure => simp [intOf]; omega
        · obtain rfl : k = S.cs.length := by omega
          have hd1 : decide (S.cs.length < S.cs.length) = false := decide_eq_false (Nat.lt_irrefl _)
          have hd2 : decide ((S.cs.length : Int) < (S.cs.length : Int)) = false := decide_eq_false (Int.lt_irrefl _)
          have HV : Hid (R = 0) := by show R = 0; rw [HX.out, Nat.sub_self]; rfl
          have HRD : Hid (RR = asdsE S.ps S.ad) := HZ.out HV.out
          have B0 := HB
          have K0 := HK
          have x0 := cx
          clear HV HRR HZ HX HB HK HF hd1 hd2 hk l5 hk0 hk5 hgx
          obtain ⟨R, hR⟩ : ∃ R, R = RR := ⟨_, rfl⟩
          rw [← hR] at HRD
          have HRR : Hid (R ≠ 0 → RR = R) := fun _ => hR.symm
          have HRZ : Hid (RR = R) := hR.symm
          clear hR cx
          by_cases h16 : 6 < S.ad.length
          · have d1 : decide ((6 : Int) < (S.ad.length : Int)) = true := decide_eq_true (by omega)
            have HV := Lib.hid (show R = 3 by rw [HRD.out]; unfold asdsE; rw [if_pos h16])
            clear h16
            go_wp2_with fail
            go_ret
            exact ⟨by rw [HRR.out (by rw [HV.out]; decide), HV.out]; rfl, B0.out⟩
          have d1 : decide ((6 : Int) < (S.ad.length : Int)) = false := decide_eq_false (by omega)
          have HE := Lib.hid (show R = firstE (fun i => asdOne S.ps S.ad i (S.ad.getD i ⟨0, 0, 0⟩)) 0 S.ad.length by rw [HRD.out]; unfold asdsE; rw [if_neg h16])
          have HF := Lib.hid (fun i (hi : i < S.ad.length) => (show (S.ad.getD i ⟨0, 0, 0⟩) = S.ad[i] by simp [List.getD, hi]))
          have l5 : (S.ad.length : Int) ≤ 6 := by omega
          clear h16 HRD
          go_wp2_with fail
          go_loopw [7] (fun iv wr => ∃ k : Nat, k ≤ S.ad.length ∧ iv = .int .i64 (k : Int) ∧ Hid (R = firstE (fun i => asdOne S.ps S.ad i (S.ad.getD i ⟨0, 0, 0⟩)) k (S.ad.length - k)) ∧ Hid (Below w.heap.size w wr) ∧ Hid (Blk wr w.heap.size 42 #[.slice A1 S.ps.length c1, .slice A2 S.bs.length c2, .slice A3 S.cs.length c3, .slice A4 S.ad.length c4])) (fun iv _ => S.ad.length - (intOf iv).toNat)
          case atStart => exact ⟨0, Nat.zero_le _, rfl, by show _ = _; rw [HE.out]; rfl, B0.out, K0.out⟩
          case round =>
            clear HE B0 K0 x0 d1
            obtain ⟨k, hk, rfl, HX, HB, HK⟩ := hrel
            have hk0 : (0 : Int) ≤ (k : Int) := by omega
            have hk5 : (k : Int) ≤ 5000 := by omega
            have cx := HK.out.c4
            have hgx := HK.out.lt
            by_cases hkn : k < S.ad.length
            · have hd1 : decide (k < S.ad.length) = true := decide_eq_true hkn
              have hd2 : decide ((k : Int) < (S.ad.length : Int)) = true := decide_eq_true (by omega)
              have hkn1 : (k : Int) < (S.ad.length : Int) := by omega
              obtain ⟨b, o, e1, hb, hrow⟩ := HRA.out (by omega)
              subst e1
              have HAT := Lib.hid (fun W (bw : Below w.heap.size w W) => fun j (hj : j < S.ad.length) => asd_at (hrow.below hb bw) j hj)
              have hat := HAT.out _ HB.out k hkn
              have HST : Hid (asdOne S.ps S.ad k S.ad[k] ≠ 0 → R = asdOne S.ps S.ad k S.ad[k]) := by
                intro h2
                have e2 := HX.out
                rw [show S.ad.length - k = (S.ad.length - (k + 1)) + 1 by omega, firstE_stop (by show asdOne S.ps S.ad k (S.ad.getD k ⟨0, 0, 0⟩) ≠ 0; rw [HF.out k hkn]; exact h2)] at e2
                rw [e2]
                show asdOne S.ps S.ad k (S.ad.getD k ⟨0, 0, 0⟩) = _
                rw [HF.out k hkn]
              have HGO : Hid (asdOne S.ps S.ad k S.ad[k] = 0 → R = firstE (fun i => asdOne S.ps S.ad i (S.ad.getD i ⟨0, 0, 0⟩)) (k + 1) (S.ad.length - (k + 1))) := by
                intro h2
                have e2 := HX.out
                rw [show S.ad.length - k = (S.ad.length - (k + 1)) + 1 by omega, firstE_step (by show asdOne S.ps S.ad k (S.ad.getD k ⟨0, 0, 0⟩) = 0; rw [HF.out k hkn]; exact h2)] at e2
                exact e2
              obtain ⟨x, hx⟩ : ∃ x, x = S.ad[k] := ⟨_, rfl⟩
              rw [← hx] at hat HST HGO
              have HXX := Lib.hid hx
              clear hx hrow
              by_cases q0 : x.prod < 0
              · have t0 : decide (x.prod < (0 : Int)) = true := decide_eq_true q0
                have e2 : asdOne S.ps S.ad k x = 6 := by unfold asdOne; rw [if_pos (by omega)]
                have HV := Lib.hid (show R = 6 by rw [HST.out (by rw [e2]; decide), e2])
                clear e2
                clear q0 HST HGO
                have K1 := Lib.hid (Blk.new wr 96 #[.int .i64 x.prod, .int .i64 x.cls, .int .i64 x.units])
                have B1 := Lib.hid (HB.out.alloc HB.out.size (.cells #[.int .i64 x.prod, .int .i64 x.cls, .int .i64 x.units] 96))
                have KX1 := Lib.hid (HK.out.alloc (.cells #[.int .i64 x.prod, .int .i64 x.cls, .int .i64 x.units] 96))
                go_wp2_with fail
                go_ret
                exact ⟨by rw [HRR.out (by rw [HV.out]; decide), HV.out]; rfl, B1.out⟩
              · have t0 : decide (x.prod < (0 : Int)) = false := decide_eq_false q0
                by_cases q1 : (S.ps.length : Int) ≤ x.prod
                · have t1 : decide ((S.ps.length : Int) ≤ x.prod) = true := decide_eq_true q1
                  have e2 : asdOne S.ps S.ad k x = 6 := by unfold asdOne; rw [if_pos (by omega)]
                  have HV := Lib.hid (show R = 6 by rw [HST.out (by rw [e2]; decide), e2])
                  clear e2
                  clear q0 q1 HST HGO
                  have K1 := Lib.hid (Blk.new wr 96 #[.int .i64 x.prod, .int .i64 x.cls, .int .i64 x.units])
                  have B1 := Lib.hid (HB.out.alloc HB.out.size (.cells #[.int .i64 x.prod, .int .i64 x.cls, .int .i64 x.units] 96))
                  have KX1 := Lib.hid (HK.out.alloc (.cells #[.int .i64 x.prod, .int .i64 x.cls, .int .i64 x.units] 96))
                  go_wp2_with fail
                  go_ret
                  exact ⟨by rw [HRR.out (by rw [HV.out]; decide), HV.out]; rfl, B1.out⟩
                · have t1 : decide ((S.ps.length : Int) ≤ x.prod) = false := decide_eq_false q1
                  by_cases q2 : x.cls < 1
                  · have t2 : decide (x.cls < (1 : Int)) = true := decide_eq_true q2
                    have e2 : asdOne S.ps S.ad k x = 4 := by unfold asdOne; rw [if_neg (by omega), if_pos (by omega)]
                    have HV := Lib.hid (show R = 4 by rw [HST.out (by rw [e2]; decide), e2])
                    clear e2
                    clear q0 q1 q2 HST HGO
                    have K1 := Lib.hid (Blk.new wr 96 #[.int .i64 x.prod, .int .i64 x.cls, .int .i64 x.units])
                    have B1 := Lib.hid (HB.out.alloc HB.out.size (.cells #[.int .i64 x.prod, .int .i64 x.cls, .int .i64 x.units] 96))
                    have KX1 := Lib.hid (HK.out.alloc (.cells #[.int .i64 x.prod, .int .i64 x.cls, .int .i64 x.units] 96))
                    go_wp2_with fail
                    go_quiet (fail)
                    go_wp2_with fail
                    go_ret
                    exact ⟨by rw [HRR.out (by rw [HV.out]; decide), HV.out]; rfl, chain0 B1.out (drewN_below _ _)⟩
                  · have t2 : decide (x.cls < (1 : Int)) = false := decide_eq_false q2
                    by_cases q3 : 4 < x.cls
                    · have t3 : decide ((4 : Int) < x.cls) = true := decide_eq_true q3
                      have e2 : asdOne S.ps S.ad k x = 4 := by unfold asdOne; rw [if_neg (by omega), if_pos (by omega)]
                      have HV := Lib.hid (show R = 4 by rw [HST.out (by rw [e2]; decide), e2])
                      clear e2
                      clear q0 q1 q2 q3 HST HGO
                      have K1 := Lib.hid (Blk.new wr 96 #[.int .i64 x.prod, .int .i64 x.cls, .int .i64 x.units])
                      have B1 := Lib.hid (HB.out.alloc HB.out.size (.cells #[.int .i64 x.prod, .int .i64 x.cls, .int .i64 x.units] 96))
                      have KX1 := Lib.hid (HK.out.alloc (.cells #[.int .i64 x.prod, .int .i64 x.cls, .int .i64 x.units] 96))
                      go_wp2_with fail
                      go_quiet (fail)
                      go_wp2_with fail
                      go_ret
                      exact ⟨by rw [HRR.out (by rw [HV.out]; decide), HV.out]; rfl, chain0 B1.out (drewN_below _ _)⟩
                    · have t3 : decide ((4 : Int) < x.cls) = false := decide_eq_false q3
                      by_cases q4 : x.units < 1
                      · have t4 : decide (x.units < (1 : Int)) = true := decide_eq_true q4
                        have e2 : asdOne S.ps S.ad k x = 4 := by unfold asdOne; rw [if_neg (by omega), if_pos (by omega)]
                        have HV := Lib.hid (show R = 4 by rw [HST.out (by rw [e2]; decide), e2])
                        clear e2
                        clear q0 q1 q2 q3 q4 HST HGO
                        have K1 := Lib.hid (Blk.new wr 96 #[.int .i64 x.prod, .int .i64 x.cls, .int .i64 x.units])
                        have B1 := Lib.hid (HB.out.alloc HB.out.size (.cells #[.int .i64 x.prod, .int .i64 x.cls, .int .i64 x.units] 96))
                        have KX1 := Lib.hid (HK.out.alloc (.cells #[.int .i64 x.prod, .int .i64 x.cls, .int .i64 x.units] 96))
                        go_wp2_with fail
                        go_quiet (fail)
                        go_wp2_with fail
                        go_ret
                        exact ⟨by rw [HRR.out (by rw [HV.out]; decide), HV.out]; rfl, chain0 B1.out (drewN_below _ _)⟩
                      · have t4 : decide (x.units < (1 : Int)) = false := decide_eq_false q4
                        obtain ⟨n, hn⟩ : ∃ n : Nat, x.prod = (n : Int) := ⟨x.prod.toNat, by omega⟩
                        have hnp : n < S.ps.length := by omega
                        have HN := Lib.hid hn
                        have hpp := show (S.ps.getD x.prod.toNat Prod.none) = S.ps[n] by rw [hn, Int.toNat_natCast]; exact getD_prod S.ps n hnp
                        obtain ⟨bp, op, e1, hbp, hprow⟩ := HRP.out (by omega)
                        subst e1
                        have HPT := Lib.hid (fun W (bw : Below w.heap.size w W) => ((hprow.below hbp bw).at_ n hnp).2.1)
                        have hpt := HPT.out _ HB.out
                        have hbpr : bp < wr.heap.size := by have := HB.out.size; omega
                        obtain ⟨u, hu⟩ : ∃ u : Int, u = S.ps[n].supply := ⟨_, rfl⟩
                        rw [← hu] at hpt HPT
                        have HU : Hid ((S.ps.getD x.prod.toNat Prod.none).supply = u) := by show _ = _; rw [hpp, hu]
                        have hn0 : (0 : Int) ≤ (n : Int) := by omega
                        have hn5 : (n : Int) < (S.ps.length : Int) := by omega
                        have hpl : (S.ps.length : Int) ≤ 5000 := by have := HLP.out; omega
                        clear hpp hu hprow
                        by_cases q5 : u < x.units
                        · have t5 : decide (u < x.units) = true := decide_eq_true q5
                          have e2 : asdOne S.ps S.ad k x = 4 := by unfold asdOne; rw [if_neg (by omega), if_pos (by rw [HU.out]; omega)]
                          have HV := Lib.hid (show R = 4 by rw [HST.out (by rw [e2]; decide), e2])
                          clear e2
                          clear q0 q1 q2 q3 q4 q5 HST HGO
                          have K1 := Lib.hid (Blk.new wr 96 #[.int .i64 x.prod, .int .i64 x.cls, .int .i64 x.units])
                          have B1 := Lib.hid (HB.out.alloc HB.out.size (.cells #[.int .i64 x.prod, .int .i64 x.cls, .int .i64 x.units] 96))
                          have KX1 := Lib.hid (HK.out.alloc (.cells #[.int .i64 x.prod, .int .i64 x.cls, .int .i64 x.units] 96))
                          obtain ⟨xp, xc, xu⟩ := x
                          dsimp only at *
                          subst hn
                          go_wp2_with fail
                          go_quiet (fail)
                          go_wp2_with fail
                          go_ret
                          exact ⟨by rw [HRR.out (by rw [HV.out]; decide), HV.out]; rfl, chain0 B1.out (drewN_below _ _)⟩
                        have t5 : decide (u < x.units) = false := decide_eq_false q5
                        have HT : Hid (asdOne S.ps S.ad k x = if (S.ad.take k).any (fun d => d.prod == x.prod) = true then 7 else 0) := by show _ = _; unfold asdOne; rw [if_neg (by omega), if_neg (by rw [HU.out]; omega)]
                        clear q0 q1 q2 q3 q4 q5
                        have K1 := Lib.hid (Blk.new wr 96 #[.int .i64 x.prod, .int .i64 x.cls, .int .i64 x.units])
                        have B1 := Lib.hid (HB.out.alloc HB.out.size (.cells #[.int .i64 x.prod, .int .i64 x.cls, .int .i64 x.units] 96))
                        have KX1 := Lib.hid (HK.out.alloc (.cells #[.int .i64 x.prod, .int .i64 x.cls, .int .i64 x.units] 96))
                        obtain ⟨xp, xc, xu⟩ := x
                        dsimp only at *
                        subst hn
                        go_wp2_with fail
                        generalize wr.alloc _ = W at *
                        have hgc := K1.out.lt
                        generalize wr.heap.size = gc at *
                        have kc0 := K1.out.c3
                        have cx0 := KX1.out.c4
                        have hgx0 := KX1.out.lt
                        have hpt0 := HPT.out _ B1.out
                        have hbpw : bp < W.heap.size := by have := B1.out.size; omega
                        go_quiet (fail)
                        replace K1 := Lib.hid (K1.out.drewN nq)
                        replace KX1 := Lib.hid (KX1.out.drewN nq)
                        replace B1 := Lib.hid (chain0 B1.out (drewN_below W nq))
                        clear kc0 cx0 hgx0 hpt0 hbpw hgc
                        generalize W.drewN nq = W1 at *
                        have hgc := K1.out.lt
                        have kc1 := K1.out.c3
                        have cx1 := KX1.out.c4
                        have hgx1 := KX1.out.lt
                        go_wp2_with fail
                        clear kc1 cx1 hgx1
                        go_loopw [9] (fun jv ws => ∃ j : Nat, j ≤ k ∧ jv = .int .i64 (j : Int) ∧ Hid (∀ j2 (h2 : j2 < j) (h3 : j2 < S.ad.length), (fun d => d.prod == (n : Int)) S.ad[j2] = false) ∧ Hid (Below W1.heap.size W1 ws)) (fun jv _ => k - (intOf jv).toNat)
                        case atStart => exact ⟨0, Nat.zero_le _, rfl, (fun j2 h2 => absurd h2 (Nat.not_lt_zero _)), Below.refl _ _⟩
                        case round =>
                          obtain ⟨j, hj, rfl, HJ, HBJ⟩ := hrel
                          have hj0 : (0 : Int) ≤ (j : Int) := by omega
                          by_cases hjk : j < k
                          · have hdj : decide ((j : Int) < (k : Int)) = true := decide_eq_true (by omega)
                            have hjk1 : (j : Int) < (k : Int) := by omega
                            have hjl : j < S.ad.length := by omega
                            have hjl1 : (j : Int) < (S.ad.length : Int) := by omega
                            have B2 := Lib.hid (chain0 B1.out HBJ.out)
                            have haj := HAT.out _ B2.out j hjl
                            have hbs := Nat.lt_of_lt_of_le hb B2.out.size
                            have kc := (K1.out.below' HBJ.out).c3
                            have hgs := (K1.out.below' HBJ.out).lt
                            have cx2 := (KX1.out.below' HBJ.out).c4
                            have hgx2 := (KX1.out.below' HBJ.out).lt
                            obtain ⟨y, hy⟩ : ∃ y, y = S.ad[j] := ⟨_, rfl⟩
                            rw [← hy] at haj
                            have HY := Lib.hid hy
                            clear hy
                            cases hm : (y.prod == (n : Int)) with
                            | true =>
                              have HV : Hid (R = 7) := by
                                have e2 : asdOne S.ps S.ad k ⟨(n : Int), xc, xu⟩ = 7 := by rw [HT.out, if_pos (any_hit (j := j) (by omega) hjk (by rw [← HY.out]; exact hm))]
                                show R = 7
                                rw [HST.out (by rw [e2]; decide), e2]
                              go_wp2_with fail
                              go_quiet (fail)
                              go_wp2_with fail
                              go_ret
                              exact ⟨by rw [HRR.out (by rw [HV.out]; decide), HV.out]; rfl, chain0 B2.out (drewN_below _ _)⟩
                            | false =>
                              have HJ2 : Hid (∀ j2 (h2 : j2 < j + 1) (h3 : j2 < S.ad.length), (fun d => d.prod == (n : Int)) S.ad[j2] = false) := by
                                intro j2 h2 h3
                                by_cases e : j2 = j
                                · subst e; rw [← HY.out]; exact hm
                                · exact HJ.out j2 (by omega) h3
                              go_wp2_with fail
                              go_quiet (fail)
                              go_wp2_with fail
                              go_roundw
                              case rel => exact ⟨j + 1, hjk, by go_num, HJ2.out, chain0 HBJ.out (drewN_below _ _)⟩
                              case measure => simp [intOf]; omega
                          · obtain rfl : j = k := by omega
                            have hdj : decide ((j : Int) < (j : Int)) = false := decide_eq_false (by omega)
                            have B2 := Lib.hid (chain0 B1.out HBJ.out)
                            have KX2 := Lib.hid (KX1.out.below' HBJ.out)
                            have HV : Hid (R = firstE (fun i => asdOne S.ps S.ad i (S.ad.getD i ⟨0, 0, 0⟩)) (j + 1) (S.ad.length - (j + 1))) := HGO.out (by rw [HT.out, if_neg]; rw [Bool.not_eq_true]; exact any_take (by omega) fun j2 h2 => HJ.out j2 h2 (by omega))
                            go_wp2_with fail
                            go_roundw
                            case rel => exact ⟨j + 1, hkn, by go_num, HV.out, B2.out, KX2.out⟩
                            case measure => simp [intOf]; omega
            · obtain rfl : k = S.ad.length := by omega
              have hd1 : decide (S.ad.length < S.ad.length) = false := decide_eq_false (Nat.lt_irrefl _)
              have hd2 : decide ((S.ad.length : Int) < (S.ad.length : Int)) = false := decide_eq_false (Int.lt_irrefl _)
              have HV : Hid (R = 0) := by show R = 0; rw [HX.out, Nat.sub_self]; rfl
              go_wp2_with fail
              go_ret
              exact ⟨by rw [HRZ.out]; show _ = Ending.returned (.int .i64 R); rw [HV.out]; rfl, HB.out⟩
    · have t2 : (rosE S.bs != 0) = true := by simpa using q2
      have HV := Lib.hid (E2.out q1h.out q2)
      clear q2
      go_wp2_with fail
      go_ret
      exact ⟨by rw [HV.out]; rfl, B0.out⟩
  · have t1 : (checkE S.ps == 0) = false := by simpa using q1
    have t2 : (checkE S.ps != 0) = true := by simpa using q1
    have HV := Lib.hid (E1.out q1)
    clear q1
    go_wp2_with fail
    go_ret
    exact ⟨by rw [HV.out]; rfl, B1.out⟩
end Go.Proofs.YtaikmgnpfbnjjaaGreatDoor.Se
