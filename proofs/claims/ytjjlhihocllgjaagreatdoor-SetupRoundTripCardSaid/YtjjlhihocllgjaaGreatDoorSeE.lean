/- The walk of SetupRoundTrip. Printed by gen_seE.py. -/
import Derived.Test.YtjjlhihocllgjaaGreatDoorSeD
namespace Go.Proofs.YtjjlhihocllgjaaGreatDoor.Se
open Go.ChangeShapes Go.WideShapes Go.ChangeAt Go.RowKit Gn Cat Lex Ros
set_option linter.unusedVariables false
set_option linter.unusedSimpArgs false
theorem text_small {S : SetD} (h : S.err = 0) : (fmtT S).size ≤ 4000 ∧ readS (fmtT S) = ⟨S, 0, 0⟩ := by
  have e : fmtT S = textS S := by unfold fmtT; rw [if_pos h]
  rw [e]
  have r := read_text h
  refine ⟨?_, r⟩
  by_cases hb : 4000 < (textS S).size
  · rw [readS_long hb] at r
    have := congrArg ReadR.e r
    exact absurd (show (3 : Int) = 0 from this) (by decide)
  · omega
set_option maxHeartbeats 8000000 in
set_option maxRecDepth 100000 in
theorem law_round (S : SetD) (v1 v2 v3 v4 : Value) (w : World) (h : SetO w v1 v2 v3 v4 S) (ht : Env w) : Calls Tryz.prog 7 #[.agg #[v1, v2, v3, v4]] w (TrueP w) := by
  have HEV := Lib.hid (fun W (b : Below w.heap.size w W) => ht.keep b)
  have HEN := Lib.hid (fun W (b : Below w.heap.size w W) => awake_any W (ht.keep b))
  have HO := Lib.hid h
  obtain ⟨A1, c1, A2, c2, A3, c3, A4, c4, rfl, rfl, rfl, rfl⟩ := h.forms
  have CG := Lib.hid (great_any A1 A2 A3 A4 S.ps.length S.bs.length S.cs.length S.ad.length c1 c2 c3 c4)
  have B1 := Lib.hid (below_new w (.cells #[.slice A1 S.ps.length c1, .slice A2 S.bs.length c2, .slice A3 S.cs.length c3, .slice A4 S.ad.length c4] 38))
  have K1 := Lib.hid (Blk.new w 38 #[.slice A1 S.ps.length c1, .slice A2 S.bs.length c2, .slice A3 S.cs.length c3, .slice A4 S.ad.length c4])
  obtain ⟨gr, hgr⟩ : ∃ gr, gr = greatB S.ps.length S.bs.length S.cs.length S.ad.length := ⟨_, rfl⟩
  rw [← hgr] at CG
  have HG := Lib.hid hgr
  clear h hgr
  go_enter Tryz.func7, Tryz.ntmps7
  go_wp2_with fail
  refine (CG.out _).mono ?_
  rintro e w1 ⟨rfl, d⟩
  have B2 := Lib.hid (chain0 B1.out d)
  have K2 := Lib.hid (K1.out.below' d)
  clear d B1 K1
  cases gr with
  | true =>
    go_wp2_with fail
    refine (HEN.out _ B2.out).mono ?_
    rintro e w2 ⟨rfl, d⟩
    have B3 := Lib.hid (chain0 B2.out d)
    clear d
    go_wp2_with fail
    go_ret
    exact ⟨rfl, B3.out⟩
  | false =>
    have HW := Lib.hid (HO.out.setW (great_no HG.out.symm))
    have CR := Lib.hid (fun W (b : Below w.heap.size w W) => rcheck_any S _ _ _ _ W (HW.out.keep b))
    have CF := Lib.hid (fun W (b : Below w.heap.size w W) => format_any S _ _ _ _ W (HW.out.keep b) (HEV.out W b))
    have qq := K2.out.c4
    have ql := K2.out.lt
    go_wp2_with fail
    refine (CR.out _ B2.out).mono ?_
    rintro e w2 ⟨rfl, d⟩
    have B3 := Lib.hid (chain0 B2.out d)
    have K3 := Lib.hid (K2.out.below' d)
    clear d B2 K2 qq ql
    by_cases hE : S.err = 0
    case neg =>
      have t1 : (S.err != 0) = true := by simpa using hE
      clear hE
      go_wp2_with fail
      refine (HEN.out _ B3.out).mono ?_
      rintro e w3 ⟨rfl, d⟩
      have B4 := Lib.hid (chain0 B3.out d)
      clear d
      go_wp2_with fail
      go_ret
      exact ⟨rfl, B4.out⟩
    have t1 : (S.err != 0) = false := by rw [hE]; rfl
    have HZ := Lib.hid hE
    have HT := Lib.hid (text_small hE)
    have qq := K3.out.c4
    have ql := K3.out.lt
    clear hE
    go_wp2_with fail
    refine (CF.out _ B3.out).mono ?_
    rintro e w3 ⟨rfl, d⟩
    have B4 := Lib.hid (chain0 B3.out d)
    have K4 := Lib.hid (K3.out.below' d)
    rw [HZ.out]
    clear d B3 K3 qq ql t1 CF CR
    generalize fmtT S = t at *
    have CP := Lib.hid (fun W (b : Below w.heap.size w W) => parse_any t W (Nat.le_trans HT.out.1 (by decide)) (HEV.out W b))
    rw [HT.out.2] at CP
    have qq := K4.out.c4
    have ql := K4.out.lt
    go_wp2_with fail
    refine (CP.out _ B4.out).mono ?_
    rintro e w4 ⟨u1, u2, u3, u4, rfl, q, d⟩
    obtain ⟨U1, k1, U2, k2, U3, k3, U4, k4, rfl, rfl, rfl, rfl⟩ := q.forms
    have B5 := Lib.hid (chain0 B4.out d)
    have K5 := Lib.hid (K4.out.below' d)
    have Q5 := Lib.hid q
    clear d q B4 K4 qq ql CP HT
    have qq := K5.out.c4
    have ql := K5.out.lt
    have B6 := Lib.hid (B5.out.alloc B5.out.size (.cells #[.slice U1 S.ps.length k1, .slice U2 S.bs.length k2, .slice U3 S.cs.length k3, .slice U4 S.ad.length k4] 38))
    have Q6 := Lib.hid (Q5.out.keep (below_new w4 (.cells #[.slice U1 S.ps.length k1, .slice U2 S.bs.length k2, .slice U3 S.cs.length k3, .slice U4 S.ad.length k4] 38)))
    have CS := Lib.hid (same_yes S _ _ _ _ _ _ _ _ _ (HW.out.keep B6.out) Q6.out)
    go_wp2_with fail
    refine CS.out.mono ?_
    rintro e w5 ⟨rfl, d⟩
    have B7 := Lib.hid (chain0 B6.out d)
    clear d qq ql
    go_wp2_with fail
    refine (HEN.out _ B7.out).mono ?_
    rintro e w6 ⟨rfl, d⟩
    have B8 := Lib.hid (chain0 B7.out d)
    clear d
    go_wp2_with fail
    go_ret
    exact ⟨rfl, B8.out⟩
end Go.Proofs.YtjjlhihocllgjaaGreatDoor.Se
