/- Contracts of setup.Check and of the reference's Check. Printed by gen_se2.py. -/
import Derived.Test.YtjjlhihocllgjaaDoorSe1
import Derived.Test.YtjjlhihocllgjaaDoorPd09
namespace Go.Proofs.YtjjlhihocllgjaaDoor.Se
open Go.ChangeShapes Go.WideShapes Go.ChangeAt Go.RowKit Gn Cat Lex Ros
set_option linter.unusedVariables false
set_option linter.unusedSimpArgs false
theorem SetW.forms {w : World} {v1 v2 v3 v4 : Value} {S : SetD} (h : SetW w v1 v2 v3 v4 S) : ∃ A1 c1 A2 c2 A3 c3 A4 c4, v1 = .slice A1 S.ps.length c1 ∧ v2 = .slice A2 S.bs.length c2 ∧ v3 = .slice A3 S.cs.length c3 ∧ v4 = .slice A4 S.ad.length c4 := by
  obtain ⟨A1, c1, e1, _⟩ := ps_cases h.p
  obtain ⟨A2, c2, e2, _⟩ := sl_parts h.b
  obtain ⟨A3, c3, e3, _⟩ := sl_parts h.c
  obtain ⟨A4, c4, e4, _⟩ := sl_parts h.a
  exact ⟨A1, c1, A2, c2, A3, c3, A4, c4, e1, e2, e3, e4⟩
theorem setE_1 {S : SetD} (h : checkE S.ps ≠ 0) : S.err = checkE S.ps := by unfold SetD.err setE; rw [if_pos h]
theorem setE_2 {S : SetD} (h : checkE S.ps = 0) (h2 : rosE S.bs ≠ 0) : S.err = rosE S.bs := by unfold SetD.err setE; rw [if_neg (fun e => e h), if_pos h2]
theorem setE_3 {S : SetD} (h : checkE S.ps = 0) (h2 : rosE S.bs = 0) (h3 : capsE S.bs.length S.cs ≠ 0) : S.err = capsE S.bs.length S.cs := by unfold SetD.err setE; rw [if_neg (fun e => e h), if_neg (fun e => e h2), if_pos h3]
theorem setE_4 {S : SetD} (h : checkE S.ps = 0) (h2 : rosE S.bs = 0) (h3 : capsE S.bs.length S.cs = 0) : S.err = asdsE S.ps S.ad := by unfold SetD.err setE; rw [if_neg (fun e => e h), if_neg (fun e => e h2), if_neg (fun e => e h3)]
set_option maxHeartbeats 2000000 in
theorem check_any (S : SetD) (v1 v2 v3 v4 : Value) (w : World) (h : SetW w v1 v2 v3 v4 S) : Calls Tryd.prog 33 #[.agg #[v1, v2, v3, v4]] w (ErrPost S.err w) := by
  obtain ⟨A1, c1, A2, c2, A3, c3, A4, c4, rfl, rfl, rfl, rfl⟩ := h.forms
  have HW := Lib.hid (fun W (b : Below w.heap.size w W) => h.keep b)
  have BX := Lib.hid (below_new w (.cells #[.slice A1 S.ps.length c1, .slice A2 S.bs.length c2, .slice A3 S.cs.length c3, .slice A4 S.ad.length c4] 43))
  have KX := Lib.hid (Blk.new w 43 #[.slice A1 S.ps.length c1, .slice A2 S.bs.length c2, .slice A3 S.cs.length c3, .slice A4 S.ad.length c4])
  have CP := Lib.hid (fun W (b : Below w.heap.size w W) => Cat.check_any S.ps _ W h.lp (h.p.keep b) h.np)
  have CB := Lib.hid (fun W (b : Below w.heap.size w W) => Ros.check_any S.bs _ W h.lb (h.b.keep b) h.nb)
  have CC := Lib.hid (fun W (b : Below w.heap.size w W) => caps_any S.bs.length S.cs A1 A2 A4 A3 S.ps.length c1 c2 S.ad.length c4 c3 W h.lc h.lb (h.c.keep b))
  have CA := Lib.hid (fun W (b : Below w.heap.size w W) => asds_any S.ps S.ad A1 A2 A3 A4 c1 S.bs.length c2 S.cs.length c3 c4 W h.la h.lp (h.p.keep b) (h.a.keep b))
  have E1 := Lib.hid (setE_1 (S := S))
  have E2 := Lib.hid (setE_2 (S := S))
  have E3 := Lib.hid (setE_3 (S := S))
  have E4 := Lib.hid (setE_4 (S := S))
  generalize S.err = R at *
  clear h HW
  go_enter Tryd.func33, Tryd.ntmps33
  have cx := KX.out.c4
  go_wp2_with fail
  refine (CP.out _ BX.out).mono ?_
  rintro e w1 ⟨rfl, d1⟩
  have B1 := Lib.hid (chain0 BX.out d1)
  have K1 := Lib.hid (KX.out.below' d1)
  have x1 := K1.out.c4
  clear d1 cx KX BX
  by_cases q1 : checkE S.ps = 0
  · have t1 : (checkE S.ps != 0) = false := by simpa using q1
    have q1h := Lib.hid q1
    clear q1
    go_wp2_with fail
    refine (CB.out _ B1.out).mono ?_
    rintro e w2 ⟨rfl, d2⟩
    have B2 := Lib.hid (chain0 B1.out d2)
    have K2 := Lib.hid (K1.out.below' d2)
    have x2 := K2.out.c4
    clear d2 x1 K1 B1
    by_cases q2 : rosE S.bs = 0
    · have t2 : (rosE S.bs != 0) = false := by simpa using q2
      have q2h := Lib.hid q2
      clear q2
      go_wp2_with fail
      refine (CC.out _ B2.out).mono ?_
      rintro e w3 ⟨rfl, d3⟩
      have B3 := Lib.hid (chain0 B2.out d3)
      have K3 := Lib.hid (K2.out.below' d3)
      have x3 := K3.out.c4
      clear d3 x2 K2 B2
      by_cases q3 : capsE S.bs.length S.cs = 0
      · have t3 : (capsE S.bs.length S.cs != 0) = false := by simpa using q3
        have q3h := Lib.hid q3
        clear q3
        go_wp2_with fail
        refine (CA.out _ B3.out).mono ?_
        rintro e w4 ⟨rfl, d4⟩
        have B4 := Lib.hid (chain0 B3.out d4)
        clear d4
        go_wp2_with fail
        go_ret
        exact ⟨by rw [E4.out q1h.out q2h.out q3h.out]; rfl, B4.out⟩
      · have t3 : (capsE S.bs.length S.cs != 0) = true := by simpa using q3
        have HV := Lib.hid (E3.out q1h.out q2h.out q3)
        clear q3
        go_wp2_with fail
        go_ret
        exact ⟨by rw [HV.out]; rfl, B3.out⟩
    · have t2 : (rosE S.bs != 0) = true := by simpa using q2
      have HV := Lib.hid (E2.out q1h.out q2)
      clear q2
      go_wp2_with fail
      go_ret
      exact ⟨by rw [HV.out]; rfl, B2.out⟩
  · have t1 : (checkE S.ps != 0) = true := by simpa using q1
    have HV := Lib.hid (E1.out q1)
    clear q1
    go_wp2_with fail
    go_ret
    exact ⟨by rw [HV.out]; rfl, B1.out⟩

end Go.Proofs.YtjjlhihocllgjaaDoor.Se
