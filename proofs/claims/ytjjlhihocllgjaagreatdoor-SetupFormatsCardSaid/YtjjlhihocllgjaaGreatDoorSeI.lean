/- The walk of SetupFormats. Printed by gen_seI.py. -/
import Derived.Test.YtjjlhihocllgjaaGreatDoorSeH
import Derived.Test.YtjjlhihocllgjaaGreatDoorSeC
namespace Go.Proofs.YtjjlhihocllgjaaGreatDoor.Se
open Go.ChangeShapes Go.WideShapes Go.ChangeAt Go.RowKit Gn Cat Lex Ros
set_option linter.unusedVariables false
set_option linter.unusedSimpArgs false
set_option maxHeartbeats 8000000 in
set_option maxRecDepth 100000 in
theorem law_formats (S : SetD) (v1 v2 v3 v4 : Value) (w : World) (h : SetO w v1 v2 v3 v4 S) (ht : Env w) : Calls Tryz.prog 5 #[.agg #[v1, v2, v3, v4]] w (TrueP w) := by
  have HEV := Lib.hid (fun W (b : Below w.heap.size w W) => ht.keep b)
  have HEN := Lib.hid (fun W (b : Below w.heap.size w W) => awake_any W (ht.keep b))
  have HO := Lib.hid h
  obtain ⟨A1, c1, A2, c2, A3, c3, A4, c4, rfl, rfl, rfl, rfl⟩ := h.forms
  have CG := Lib.hid (great_any A1 A2 A3 A4 S.ps.length S.bs.length S.cs.length S.ad.length c1 c2 c3 c4)
  have B1 := Lib.hid (below_new w (.cells #[.slice A1 S.ps.length c1, .slice A2 S.bs.length c2, .slice A3 S.cs.length c3, .slice A4 S.ad.length c4] 38))
  have K1 := Lib.hid (Blk.new w 38 #[.slice A1 S.ps.length c1, .slice A2 S.bs.length c2, .slice A3 S.cs.length c3, .slice A4 S.ad.length c4])
  obtain ⟨gr, hgr⟩ : ∃ gr, gr = greatB S.ps.length S.bs.length S.cs.length S.ad.length := ⟨_, rfl⟩
  rw [← hgr] at CG
  have HG := Lib.hid hgr
  clear h hgr
  go_enter Tryz.func5, Tryz.ntmps5
  go_wp2_with fail
  refine (CG.out _).mono ?_
  rintro e w1 ⟨rfl, d⟩
  have B2 := Lib.hid (chain0 B1.out d)
  have K2 := Lib.hid (K1.out.below' d)
  clear d B1 K1
  cases gr with
  | true =>
    go_wp2_with fail
    refine (HEN.out _ B2.out).mono ?_
    rintro e w2 ⟨rfl, d⟩
    have B3 := Lib.hid (chain0 B2.out d)
    clear d
    go_wp2_with fail
    go_ret
    exact ⟨rfl, B3.out⟩
  | false =>
    have HW := Lib.hid (HO.out.setW (great_no HG.out.symm))
    have CF := Lib.hid (fun W (b : Below w.heap.size w W) => format_any S _ _ _ _ W (HW.out.keep b) (HEV.out W b))
    have CR := Lib.hid (fun W (b : Below w.heap.size w W) => rformat_any S _ _ _ _ W (HW.out.keep b))
    have hq : ((fmtT S).toList == (fmtT S).toList) = true := by simp
    have he : (S.err == S.err) = true := by simp
    generalize fmtT S = t at *
    generalize S.err = ee at *
    have qq := K2.out.c4
    have ql := K2.out.lt
    go_wp2_with fail
    refine (CF.out _ B2.out).mono ?_
    rintro e w2 ⟨rfl, d⟩
    have B3 := Lib.hid (chain0 B2.out d)
    have K3 := Lib.hid (K2.out.below' d)
    clear d B2 K2 qq ql
    have qq := K3.out.c4
    have ql := K3.out.lt
    go_wp2_with fail
    refine (CR.out _ B3.out).mono ?_
    rintro e w3 ⟨rfl, d⟩
    have B4 := Lib.hid (chain0 B3.out d)
    clear d B3 K3 qq ql
    go_wp2_with fail
    refine (HEN.out _ B4.out).mono ?_
    rintro e w4 ⟨rfl, d⟩
    have B5 := Lib.hid (chain0 B4.out d)
    clear d
    go_wp2_with fail
    go_ret
    exact ⟨rfl, B5.out⟩
end Go.Proofs.YtjjlhihocllgjaaGreatDoor.Se
