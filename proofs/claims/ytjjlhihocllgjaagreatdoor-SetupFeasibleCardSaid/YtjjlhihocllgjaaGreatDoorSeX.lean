/- The walks of SetupAllows and SetupFeasible. Printed by gen_seX.py. -/
import Derived.Test.YtjjlhihocllgjaaGreatDoorSeV
import Derived.Test.YtjjlhihocllgjaaGreatDoorSeC
namespace Go.Proofs.YtjjlhihocllgjaaGreatDoor.Se
open Go.ChangeShapes Go.WideShapes Go.ChangeAt Go.RowKit Gn Cat Lex Ros
set_option linter.unusedVariables false
set_option linter.unusedSimpArgs false
attribute [local go_sem] later_cell
theorem bun_self (a : Nat → Int) : ∀ w, (Op.equalIn 10000 25 (.agg (arr a)) (.agg (arr a))).run Tryz.prog w = .ok true w := fun w => by
  have := eq27 a a w
  rwa [(eq6_iff a a).2 fun _ _ => rfl] at this
set_option maxHeartbeats 8000000 in
set_option maxRecDepth 100000 in
theorem law_allows (S : SetD) (v1 v2 v3 v4 : Value) (i : Int) (b : Nat → Int) (w : World) (h : SetO w v1 v2 v3 v4 S) (ht : Env w) : Calls Tryz.prog 8 #[.agg #[v1, v2, v3, v4], .int .i64 i, .agg (arr b)] w (TrueP w) := by
  have HEN := Lib.hid (fun W (d : Below w.heap.size w W) => awake_any W (ht.keep d))
  have HO := Lib.hid h
  obtain ⟨A1, c1, A2, c2, A3, c3, A4, c4, rfl, rfl, rfl, rfl⟩ := h.forms
  have CG := Lib.hid (great_any A1 A2 A3 A4 S.ps.length S.bs.length S.cs.length S.ad.length c1 c2 c3 c4)
  have M0 := Lib.hid (twom_new w #[.slice A1 S.ps.length c1, .slice A2 S.bs.length c2, .slice A3 S.cs.length c3, .slice A4 S.ad.length c4] b)
  obtain ⟨gr, hgr⟩ : ∃ gr, gr = greatB S.ps.length S.bs.length S.cs.length S.ad.length := ⟨_, rfl⟩
  rw [← hgr] at CG
  have HG := Lib.hid hgr
  clear h hgr
  go_enter Tryz.func8, Tryz.ntmps8
  have z0 := M0.out.k.c4
  go_wp2_with fail
  refine (CG.out _).mono ?_
  rintro e w1 ⟨rfl, d⟩
  have M1 := Lib.hid (M0.out.keep d)
  clear d M0 z0 CG
  cases gr with
  | true =>
    go_wp2_with fail
    refine (HEN.out _ M1.out.bel).mono ?_
    rintro e w2 ⟨rfl, d⟩
    have B3 := Lib.hid (chain0 M1.out.bel d)
    clear d
    go_wp2_with fail
    go_ret
    exact ⟨rfl, B3.out⟩
  | false =>
    have HW := Lib.hid (HO.out.setW (great_no HG.out.symm))
    have CO := Lib.hid (fun W (d : Below w.heap.size w W) => open_any S _ _ _ _ W (HW.out.keep d))
    have CRO := Lib.hid (fun W (d : Below w.heap.size w W) => ropen_any S _ _ _ _ W (HW.out.keep d))
    have CA := Lib.hid (fun W (d : Below w.heap.size w W) => allowed_any S _ _ _ _ i b W (HW.out.keep d))
    have CRA := Lib.hid (fun W (d : Below w.heap.size w W) => rallowed_any S _ _ _ _ i b W (HW.out.keep d))
    have q1 := bun_self (openS S)
    have q2 := bun_self (clsS S)
    generalize openS S = po at *
    generalize clsS S = pc at *
    generalize allowedE S i b = R at *
    have tt : (R == R) = true := by simp
    unfold arr at q1 q2
    have z0 := M1.out.k.c4
    go_wp2_with fail
    refine (CO.out _ M1.out.bel).mono ?_
    rintro e w2 ⟨rfl, d⟩
    have M2 := Lib.hid (M1.out.keep d)
    clear d M1 z0 CO
    have z0 := M2.out.k.c4
    have zl := M2.out.k.lt
    have D3 := Lib.hid ((below_new w2 (.cells (arr po) 25)).alloc (below_new w2 (.cells (arr po) 25)).size (.cells (arr pc) 25))
    have X1 := Lib.hid ((box_new w2 po 25).alloc (.cells (arr pc) 25))
    have x2 := box_new (w2.alloc (.cells (arr po) 25)) pc 25
    rw [show (w2.alloc (.cells (arr po) 25)).heap.size = w2.heap.size + 1 from World.size_alloc _ _] at x2
    have X2 := Lib.hid x2
    clear x2
    unfold arr at D3 X1 X2
    go_wp2_with fail
    generalize World.alloc (World.alloc w2 _) _ = w3 at *
    have M3 := Lib.hid (M2.out.keep D3.out)
    generalize w2.heap.size = go at *
    clear D3 M2 z0 zl
    try
      have z0 := M3.out.k.c4
      go_wp2_with fail
    refine (CRO.out _ M3.out.bel).mono ?_
    rintro e w4 ⟨rfl, d⟩
    have M4 := Lib.hid (M3.out.keep d)
    have Y1 := Lib.hid (X1.out.below d X1.out.lt)
    have Y2 := Lib.hid (X2.out.below d X2.out.lt)
    clear d M3 X1 X2 CRO
    try clear z0
    have D5 := Lib.hid ((below_new w4 (.cells (arr po) 25)).alloc (below_new w4 (.cells (arr po) 25)).size (.cells (arr pc) 25))
    have Y3 := Lib.hid ((box_new w4 po 25).alloc (.cells (arr pc) 25))
    have y4 := box_new (w4.alloc (.cells (arr po) 25)) pc 25
    rw [show (w4.alloc (.cells (arr po) 25)).heap.size = w4.heap.size + 1 from World.size_alloc _ _] at y4
    have Y4 := Lib.hid y4
    clear y4
    unfold arr at D5 Y3 Y4
    go_wp2_with fail
    generalize World.alloc (World.alloc w4 _) _ = w5 at *
    have M5 := Lib.hid (M4.out.keep D5.out)
    have Z1 := Lib.hid (Y1.out.below D5.out Y1.out.lt)
    have Z2 := Lib.hid (Y2.out.below D5.out Y2.out.lt)
    generalize w4.heap.size = gp at *
    clear D5 M4 Y1 Y2
    have z0 := M5.out.k.c4
    have zl := M5.out.k.lt
    have ya := M5.out.a.cells
    have yl := M5.out.a.lt
    have u1 := Z1.out.cells
    have l1 := Z1.out.lt
    have u2 := Z2.out.cells
    have l2 := Z2.out.lt
    have u3 := Y3.out.cells
    have l3 := Y3.out.lt
    have u4 := Y4.out.cells
    have l4 := Y4.out.lt
    have FA := Lib.hid (fun y => CA.out (later w5 y) (chain0 M5.out.bel (later_below w5 y)))
    have FRA := Lib.hid (fun y => CRA.out (later w5 y) (chain0 M5.out.bel (later_below w5 y)))
    have FAW := Lib.hid (fun y => HEN.out (later w5 y) (chain0 M5.out.bel (later_below w5 y)))
    unfold arr at FA FRA
    refine wp_region_later (by kernel_rfl) (by kernel_rfl) ?_
    repeat (first | go_big_quiet_step (first | (go_at_call 25; exact calls_later (FA.out _)) | (go_at_call 26; exact calls_later (FRA.out _)) | (go_at_call 15; exact calls_later (FAW.out _))) | quiet_step (first | (go_at_call 25; exact calls_later (FA.out _)) | (go_at_call 26; exact calls_later (FRA.out _)) | (go_at_call 15; exact calls_later (FAW.out _))))
    refine wpQuiet_nil ?_
    rintro _ ⟨y, rfl⟩
    go_wp2_with fail
    go_ret
    exact ⟨rfl, chain0 M5.out.bel (later_below _ _)⟩
set_option maxHeartbeats 8000000 in
set_option maxRecDepth 100000 in
theorem law_feasible (S : SetD) (v1 v2 v3 v4 v : Value) (l : List (Nat → Int)) (w : World) (h : SetO w v1 v2 v3 v4 S) (hb : BunS w v l) (ht : Env w) : Calls Tryz.prog 9 #[.agg #[v1, v2, v3, v4], v] w (TrueP w) := by
  have HEN := Lib.hid (fun W (d : Below w.heap.size w W) => awake_any W (ht.keep d))
  have HO := Lib.hid h
  have HBS := Lib.hid hb
  obtain ⟨A1, c1, A2, c2, A3, c3, A4, c4, rfl, rfl, rfl, rfl⟩ := h.forms
  obtain ⟨A, c, rfl, k1, k2, _⟩ := sl_parts hb
  have CG := Lib.hid (great_any A1 A2 A3 A4 S.ps.length S.bs.length S.cs.length S.ad.length c1 c2 c3 c4)
  have BX := Lib.hid (below_new w (.cells #[.slice A1 S.ps.length c1, .slice A2 S.bs.length c2, .slice A3 S.cs.length c3, .slice A4 S.ad.length c4] 38))
  have KX := Lib.hid (Blk.new w 38 #[.slice A1 S.ps.length c1, .slice A2 S.bs.length c2, .slice A3 S.cs.length c3, .slice A4 S.ad.length c4])
  obtain ⟨gr, hgr⟩ : ∃ gr, gr = greatB S.ps.length S.bs.length S.cs.length S.ad.length := ⟨_, rfl⟩
  rw [← hgr] at CG
  have HG := Lib.hid hgr
  clear h hb hgr k1 k2
  go_enter Tryz.func9, Tryz.ntmps9
  have z0 := KX.out.c4
  go_wp2_with fail
  refine (CG.out _).mono ?_
  rintro e w1 ⟨rfl, d⟩
  have B1 := Lib.hid (chain0 BX.out d)
  have K1 := Lib.hid (KX.out.below' d)
  clear d BX KX z0 CG
  cases gr with
  | true =>
    go_wp2_with fail
    refine (HEN.out _ B1.out).mono ?_
    rintro e w2 ⟨rfl, d⟩
    have B3 := Lib.hid (chain0 B1.out d)
    clear d
    go_wp2_with fail
    go_ret
    exact ⟨rfl, B3.out⟩
  | false =>
    by_cases hl : 50 < l.length
    · have t1 : decide ((50 : Int) < (l.length : Int)) = true := decide_eq_true (by omega)
      go_wp2_with fail
      refine (HEN.out _ B1.out).mono ?_
      rintro e w2 ⟨rfl, d⟩
      have B3 := Lib.hid (chain0 B1.out d)
      clear d
      go_wp2_with fail
      go_ret
      exact ⟨rfl, B3.out⟩
    · have t1 : decide ((50 : Int) < (l.length : Int)) = false := decide_eq_false (by omega)
      have HW := Lib.hid (HO.out.setW (great_no HG.out.symm))
      have CF := Lib.hid (fun W (d : Below w.heap.size w W) => feas_any S l _ _ _ _ _ W (HW.out.keep d) (HBS.out.keep d) (by omega))
      have CRF := Lib.hid (fun W (d : Below w.heap.size w W) => rfeas_any S l _ _ _ _ _ W (HW.out.keep d) (HBS.out.keep d) (by omega))
      have CR := Lib.hid (fun W (d : Below w.heap.size w W) => rest_any S l _ _ _ _ _ W (HW.out.keep d) (HBS.out.keep d) (by omega))
      have CRR := Lib.hid (fun W (d : Below w.heap.size w W) => rrest_any S l _ _ _ _ _ W (HW.out.keep d) (HBS.out.keep d) (by omega))
      have q1 := bun_self (restS S l)
      generalize restS S l = pr at *
      generalize feasE S l = R at *
      have tt : (R == R) = true := by simp
      unfold arr at q1
      clear hl
      go_wp2_with fail
      have z0 := K1.out.c4
      have zl := K1.out.lt
      have FA := Lib.hid (fun y => CF.out (later w1 y) (chain0 B1.out (later_below w1 y)))
      have FRA := Lib.hid (fun y => CRF.out (later w1 y) (chain0 B1.out (later_below w1 y)))
      have FR := Lib.hid (fun y => CR.out (later w1 y) (chain0 B1.out (later_below w1 y)))
      have FRR := Lib.hid (fun y => CRR.out (later w1 y) (chain0 B1.out (later_below w1 y)))
      have FAW := Lib.hid (fun y => HEN.out (later w1 y) (chain0 B1.out (later_below w1 y)))
      unfold arr at FR FRR
      refine wp_region_later (by kernel_rfl) (by kernel_rfl) ?_
      repeat (first | go_big_quiet_step (first | (go_at_call 27; exact calls_later (FA.out _)) | (go_at_call 28; exact calls_later (FRA.out _)) | (go_at_call 29; exact calls_later (FR.out _)) | (go_at_call 30; exact calls_later (FRR.out _)) | (go_at_call 15; exact calls_later (FAW.out _))) | quiet_step (first | (go_at_call 27; exact calls_later (FA.out _)) | (go_at_call 28; exact calls_later (FRA.out _)) | (go_at_call 29; exact calls_later (FR.out _)) | (go_at_call 30; exact calls_later (FRR.out _)) | (go_at_call 15; exact calls_later (FAW.out _))))
      refine wpQuiet_nil ?_
      rintro _ ⟨y, rfl⟩
      go_wp2_with fail
      go_ret
      exact ⟨rfl, chain0 B1.out (later_below _ _)⟩

end Go.Proofs.YtjjlhihocllgjaaGreatDoor.Se
