/- The walk of SetupParses. Printed by gen_seO.py. -/
import Derived.Test.YtjjlhihocllgjaaGreatDoorSeZ
namespace Go.Proofs.YtjjlhihocllgjaaGreatDoor.Se
open Go.ChangeShapes Go.WideShapes Go.ChangeAt Go.RowKit Gn Cat Lex Ros
set_option linter.unusedVariables false
set_option linter.unusedSimpArgs false
set_option maxHeartbeats 8000000 in
set_option maxRecDepth 100000 in
theorem law_parses (t : ByteArray) (w : World) (ht : Env w) : Calls Tryz.prog 6 #[.string t] w (TrueP w) := by
  have HEN := Lib.hid (fun W (b : Below w.heap.size w W) => awake_any W (ht.keep b))
  by_cases hl : 5000 < t.size
  · have t1 : decide ((5000 : Int) < (t.size : Int)) = true := decide_eq_true (by omega)
    clear hl
    go_enter Tryz.func6, Tryz.ntmps6
    go_wp2_with fail
    refine (HEN.out _ (Below.refl _ _)).mono ?_
    rintro e w2 ⟨rfl, d⟩
    have B3 := Lib.hid d
    clear d
    go_wp2_with fail
    go_ret
    exact ⟨rfl, B3.out⟩
  · have t1 : decide ((5000 : Int) < (t.size : Int)) = false := decide_eq_false (by omega)
    have C1 := Lib.hid (parse_any t w (by omega) ht)
    have C2 := Lib.hid (fun W => rparse_any t W (by omega))
    obtain ⟨R, hR⟩ : ∃ R, R = readS t := ⟨_, rfl⟩
    rw [← hR] at C1 C2
    clear hR hl
    obtain ⟨S, n, e0⟩ := R
    unfold ParsePost at C1 C2
    dsimp only at C1 C2
    have q1 : (n == n) = true := by simp
    have q2 : (e0 == e0) = true := by simp
    go_enter Tryz.func6, Tryz.ntmps6
    go_wp2_with fail
    refine C1.out.mono ?_
    rintro e w1 ⟨v1, v2, v3, v4, rfl, hS1, d1⟩
    obtain ⟨A1, c1, A2, c2, A3, c3, A4, c4, rfl, rfl, rfl, rfl⟩ := hS1.forms
    have B1 := Lib.hid (chain0 d1 (below_new w1 (.cells #[.slice A1 S.ps.length c1, .slice A2 S.bs.length c2, .slice A3 S.cs.length c3, .slice A4 S.ad.length c4] 38)))
    have K1 := Lib.hid (Blk.new w1 38 #[.slice A1 S.ps.length c1, .slice A2 S.bs.length c2, .slice A3 S.cs.length c3, .slice A4 S.ad.length c4])
    have H1 := Lib.hid (hS1.keep (below_new w1 (.cells #[.slice A1 S.ps.length c1, .slice A2 S.bs.length c2, .slice A3 S.cs.length c3, .slice A4 S.ad.length c4] 38)))
    clear d1 hS1 C1
    go_wp2_with fail
    generalize w1.alloc _ = w2 at *
    generalize w1.heap.size = g1 at *
    refine (C2.out _).mono ?_
    rintro e w3 ⟨v1, v2, v3, v4, rfl, hS2, d2⟩
    obtain ⟨U1, k1, U2, k2, U3, k3, U4, k4, rfl, rfl, rfl, rfl⟩ := hS2.forms
    have B2 := Lib.hid (chain0 (chain0 B1.out d2) (below_new w3 (.cells #[.slice U1 S.ps.length k1, .slice U2 S.bs.length k2, .slice U3 S.cs.length k3, .slice U4 S.ad.length k4] 38)))
    have K2 := Lib.hid ((K1.out.below' d2).below' (below_new w3 (.cells #[.slice U1 S.ps.length k1, .slice U2 S.bs.length k2, .slice U3 S.cs.length k3, .slice U4 S.ad.length k4] 38)))
    have H2 := Lib.hid ((H1.out.keep d2).keep (below_new w3 (.cells #[.slice U1 S.ps.length k1, .slice U2 S.bs.length k2, .slice U3 S.cs.length k3, .slice U4 S.ad.length k4] 38)))
    have J2 := Lib.hid (Blk.new w3 38 #[.slice U1 S.ps.length k1, .slice U2 S.bs.length k2, .slice U3 S.cs.length k3, .slice U4 S.ad.length k4])
    have I2 := Lib.hid (hS2.keep (below_new w3 (.cells #[.slice U1 S.ps.length k1, .slice U2 S.bs.length k2, .slice U3 S.cs.length k3, .slice U4 S.ad.length k4] 38)))
    have z1 := (K1.out.below' d2).c4
    have z2 := (K1.out.below' d2).lt
    clear d2 hS2 C2 B1 K1 H1
    go_wp2_with fail
    generalize w3.alloc _ = w4 at *
    clear z1 z2
    refine (same_yes S _ _ _ _ _ _ _ _ w4 H2.out I2.out).mono ?_
    rintro e w5 ⟨rfl, d5⟩
    have B5 := Lib.hid (chain0 B2.out d5)
    clear d5 B2 K2 H2 J2 I2
    go_wp2_with fail
    refine (HEN.out _ B5.out).mono ?_
    rintro e w6 ⟨rfl, d⟩
    have B6 := Lib.hid (chain0 B5.out d)
    clear d
    go_wp2_with fail
    go_ret
    exact ⟨rfl, B6.out⟩
end Go.Proofs.YtjjlhihocllgjaaGreatDoor.Se
