/- Contracts of setup.Open, allowed and Allowed. Printed by gen_se4.py. -/
import Derived.Test.YtjjlhihocllgjaaDoorSe2
import Derived.Test.YtjjlhihocllgjaaDoorSe3
import Derived.Test.YtjjlhihocllgjaaDoorPd05
namespace Go.Proofs.YtjjlhihocllgjaaDoor.Se
open Go.ChangeShapes Go.WideShapes Go.ChangeAt Go.RowKit Gn Cat Lex Ros
set_option linter.unusedVariables false
set_option linter.unusedSimpArgs false
attribute [local go_sem] later_cell
theorem setW_shares {w : World} {S : SetD} {A1 A2 A3 A4 : Option Addr} {c1 c2 c3 c4 : Nat} (h : SetW w (.slice A1 S.ps.length c1) (.slice A2 S.bs.length c2) (.slice A3 S.cs.length c3) (.slice A4 S.ad.length c4) S) (hz : S.err = 0) (W : World) (b : Below w.heap.size w W) : Calls Tryd.prog 35 #[.agg #[.slice A1 S.ps.length c1, .slice A2 S.bs.length c2, .slice A3 S.cs.length c3, .slice A4 S.ad.length c4]] W (TwoPost (openF S.ps S.ad) (clsF S.ad) W) := by
  obtain ⟨h1, h2, h3, h4⟩ := setE_parts hz
  exact shares_any S.ps S.ad A1 A2 A3 A4 c1 S.bs.length c2 S.cs.length c3 c4 W h1 h4 (h.p.keep b) (h.a.keep b)
set_option maxHeartbeats 2000000 in
set_option maxRecDepth 100000 in
theorem open_any (S : SetD) (v1 v2 v3 v4 : Value) (w : World) (h : SetW w v1 v2 v3 v4 S) : Calls Tryd.prog 41 #[.agg #[v1, v2, v3, v4]] w (TwoPost (openS S) (clsS S) w) := by
  obtain ⟨A1, c1, A2, c2, A3, c3, A4, c4, rfl, rfl, rfl, rfl⟩ := h.forms
  have CC := Lib.hid (fun W (b : Below w.heap.size w W) => check_any S _ _ _ _ W (h.keep b))
  have CS := Lib.hid (fun hz => setW_shares h hz)
  have M0 := Lib.hid (shm_new w #[.slice A1 S.ps.length c1, .slice A2 S.bs.length c2, .slice A3 S.cs.length c3, .slice A4 S.ad.length c4])
  obtain ⟨ro, hro⟩ : ∃ r, r = openS S := ⟨_, rfl⟩
  obtain ⟨rc, hrc⟩ : ∃ r, r = clsS S := ⟨_, rfl⟩
  rw [← hro, ← hrc]
  have HRO := Lib.hid hro
  have HRC := Lib.hid hrc
  clear h hro hrc
  go_enter Tryd.func41, Tryd.ntmps41
  have z0 := M0.out.k.c4
  go_wp2_with fail
  refine (CC.out _ M0.out.bel).mono ?_
  rintro e w1 ⟨rfl, d1⟩
  have M1 := Lib.hid (M0.out.keep d1)
  clear d1 M0 z0 CC
  have z0 := M1.out.k.c4
  have y0 := M1.out.a.cells
  have y1 := M1.out.a.free
  have y2 := M1.out.a.lt
  have x0 := M1.out.b.cells
  have x1 := M1.out.b.free
  have x2 := M1.out.b.lt
  by_cases hz : S.err = 0
  · have t1 : (S.err != 0) = false := by rw [hz]; rfl
    have HO := Lib.hid (show openS S = openF S.ps S.ad from if_pos hz)
    have HC := Lib.hid (show clsS S = clsF S.ad from if_pos hz)
    have CS2 := Lib.hid (CS.out hz)
    have EO := Lib.hid (HRO.out.trans HO.out)
    have EC := Lib.hid (HRC.out.trans HC.out)
    generalize openF S.ps S.ad = po at *
    generalize clsF S.ad = pc at *
    clear hz CS
    go_wp2_with fail
    refine (CS2.out _ M1.out.bel).mono ?_
    rintro e w2 ⟨rfl, d2⟩
    have M2 := Lib.hid (M1.out.keep d2)
    clear d2 M1 z0 y0 y1 y2 x0 x1 x2
    have z0 := M2.out.k.c4
    have y0 := M2.out.a.cells
    have y1 := M2.out.a.free
    have y2 := M2.out.a.lt
    have x0 := M2.out.b.cells
    have x1 := M2.out.b.free
    have x2 := M2.out.b.lt
    go_wp2_with fail
    have M3 := Lib.hid ((M2.out.filla po).fillb pc)
    obtain ⟨a0, a1, a2, a3, a4, a5⟩ := M3.out.a.cells
    obtain ⟨b0, b1, b2, b3, b4, b5⟩ := M3.out.b.cells
    unfold fill6 at a0 a1 a2 a3 a4 a5 b0 b1 b2 b3 b4 b5
    refine bodyPost_ret (v := .tuple #[.agg (arr po), .agg (arr pc)]) (by simp [results, Tryd.results41, go_sem, arr, a0, a1, a2, a3, a4, a5, b0, b1, b2, b3, b4, b5]) rfl ⟨by rw [EO.out, EC.out], M3.out.bel⟩
  · have t1 : (S.err != 0) = true := by simpa using hz
    have HO := Lib.hid (show openS S = zero6 from if_neg hz)
    have HC := Lib.hid (show clsS S = zero6 from if_neg hz)
    have EO := Lib.hid (HRO.out.trans HO.out)
    have EC := Lib.hid (HRC.out.trans HC.out)
    clear hz CS
    go_wp2_with fail
    have M3 := Lib.hid ((M1.out.filla zero6).fillb zero6)
    obtain ⟨a0, a1, a2, a3, a4, a5⟩ := M3.out.a.cells
    obtain ⟨b0, b1, b2, b3, b4, b5⟩ := M3.out.b.cells
    unfold fill6 zero6 at a0 a1 a2 a3 a4 a5 b0 b1 b2 b3 b4 b5
    refine bodyPost_ret (v := .tuple #[.agg (arr zero6), .agg (arr zero6)]) (by simp [results, Tryd.results41, go_sem, arr, zero6, a0, a1, a2, a3, a4, a5, b0, b1, b2, b3, b4, b5]) rfl ⟨by rw [EO.out, EC.out], M3.out.bel⟩

/-- the memory of a walk with the setup and a bundle ahead -/
structure TwoM (w wr : World) (g : Nat) (cs : Array Value) (b : Nat → Int) : Prop where
  k : Blk wr g 43 cs
  a : Box wr (g + 1) b
  bel : Below w.heap.size w wr
  le : w.heap.size ≤ g
theorem TwoM.keep {w wr w2 : World} {g : Nat} {cs : Array Value} {b : Nat → Int} (h : TwoM w wr g cs b) (d : Below wr.heap.size wr w2) : TwoM w w2 g cs b := ⟨h.k.below' d, h.a.below d h.a.lt, chain0 h.bel d, h.le⟩
theorem twom_new (w : World) (cs : Array Value) (b : Nat → Int) : TwoM w ((w.alloc (.cells cs 43)).alloc (.cells (arr b) 24)) w.heap.size cs b := by
  have e1 : (w.alloc (.cells cs 43)).heap.size = w.heap.size + 1 := World.size_alloc _ _
  refine ⟨(Blk.new w _ cs).alloc _, ?_, ((Below.refl _ _).alloc (Nat.le_refl _) _).alloc (by rw [e1]; omega) _, Nat.le_refl _⟩
  have := box_new (w.alloc (.cells cs 43)) b 24
  rw [e1] at this
  exact this
theorem allow_1 {S : SetD} {i : Int} {b : Nat → Int} (h : i < 0 ∨ (S.bs.length : Int) ≤ i) : allowE S i b = 6 := by unfold allowE; rw [if_pos h]
theorem allow_2 {S : SetD} {i : Int} {b : Nat → Int} (h : ¬ (i < 0 ∨ (S.bs.length : Int) ≤ i)) (h2 : validB b = false) : allowE S i b = 4 := by unfold allowE; rw [if_neg h, if_pos h2]
theorem allow_3 {S : SetD} {i : Int} {b : Nat → Int} (h : ¬ (i < 0 ∨ (S.bs.length : Int) ≤ i)) (h2 : validB b = true) (h3 : within6 b (supP S.ps) = false) : allowE S i b = 14 := by unfold allowE; rw [if_neg h, if_neg (by rw [h2]; simp), if_pos h3]
theorem allow_4 {S : SetD} {i : Int} {b : Nat → Int} (h : ¬ (i < 0 ∨ (S.bs.length : Int) ≤ i)) (h2 : validB b = true) (h3 : within6 b (supP S.ps) = true) (h4 : within6 (outP (clsF S.ad) (clsOf S i) b) (openF S.ps S.ad) = false) : allowE S i b = 14 := by unfold allowE; rw [if_neg h, if_neg (by rw [h2]; simp), if_neg (by rw [h3]; simp), if_pos h4]
theorem allow_5 {S : SetD} {i : Int} {b : Nat → Int} (h : ¬ (i < 0 ∨ (S.bs.length : Int) ≤ i)) (h2 : validB b = true) (h3 : within6 b (supP S.ps) = true) (h4 : within6 (outP (clsF S.ad) (clsOf S i) b) (openF S.ps S.ad) = true) : allowE S i b = if S.cs.any (capHit S.ps i b) = true then 14 else 0 := by unfold allowE; rw [if_neg h, if_neg (by rw [h2]; simp), if_neg (by rw [h3]; simp), if_neg (by rw [h4]; simp)]
theorem any_list {T : Type} {p : T → Bool} {l : List T} (h : ∀ j (hj : j < l.length), p l[j] = false) : l.any p = false := by
  rw [List.any_eq_false]
  intro x hx
  obtain ⟨j, hj, rfl⟩ := List.getElem_of_mem hx
  rw [h j hj]
  simp
theorem any_at {T : Type} {p : T → Bool} {l : List T} {j : Nat} (hj : j < l.length) (h : p l[j] = true) : l.any p = true := by
  rw [List.any_eq_true]
  exact ⟨l[j], List.getElem_mem hj, h⟩

set_option maxHeartbeats 4000000 in
set_option maxRecDepth 100000 in
theorem allow_any (S : SetD) (v1 v2 v3 v4 : Value) (i : Int) (b : Nat → Int) (w : World) (h : SetW w v1 v2 v3 v4 S) (hz : S.err = 0) : Calls Tryd.prog 34 #[.agg #[v1, v2, v3, v4], .int .i64 i, .agg (arr b)] w (ErrPost (allowE S i b) w) := by
  obtain ⟨A1, c1, A2, c2, A3, c3, A4, c4, rfl, rfl, rfl, rfl⟩ := h.forms
  obtain ⟨A', c', e', k1, k2, hr⟩ := sl_parts h.c
  injection e' with e1 e2 e3
  subst e1 e3
  have HR := Lib.hid hr
  have hlb : (S.bs.length : Int) ≤ 5000 := by have := h.lb; omega
  have hlc : (S.cs.length : Int) ≤ 5000 := by have := h.lc; omega
  have CS := Lib.hid (setW_shares h hz)
  have M0 := Lib.hid (twom_new w #[.slice A1 S.ps.length c1, .slice A2 S.bs.length c2, .slice A3 S.cs.length c3, .slice A4 S.ad.length c4] b)
  have CB := Lib.hid (fun W => bcheck_any b W)
  have CSU := Lib.hid (fun W (d : Below w.heap.size w W) => supply_any S.ps _ W h.lp (h.p.keep d))
  have CW1 := Lib.hid (fun W => within_any b (supP S.ps) W)
  have CW2 := Lib.hid (fun W => within_any (outP (clsF S.ad) (clsOf S i) b) (openF S.ps S.ad) W)
  have CU := Lib.hid (fun g W (d : Below w.heap.size w W) => units_any S.ps _ g b W h.lp (h.p.keep d) h.np)
  have CO := Lib.hid (fun (n : Nat) (hn : n < S.bs.length) W (d : Below w.heap.size w W) => outside_any S.bs n hn (clsF S.ad) b A1 A2 A3 A4 S.ps.length c1 c2 S.cs.length c3 S.ad.length c4 W h.lb (h.b.keep d))
  have E1 := Lib.hid (allow_1 (S := S) (i := i) (b := b))
  have E2 := Lib.hid (allow_2 (S := S) (i := i) (b := b))
  have E3 := Lib.hid (allow_3 (S := S) (i := i) (b := b))
  have E4 := Lib.hid (allow_4 (S := S) (i := i) (b := b))
  have E5 := Lib.hid (allow_5 (S := S) (i := i) (b := b))
  generalize allowE S i b = R at *
  clear h hz hr
  by_cases q0 : i < 0
  · have t0 : decide (i < (0 : Int)) = true := decide_eq_true q0
    have HV := Lib.hid (E1.out (.inl q0))
    clear q0 E1 E2 E3 E4 E5
    go_enter Tryd.func34, Tryd.ntmps34
    go_wp2_with fail
    go_ret
    exact ⟨by rw [HV.out]; rfl, M0.out.bel⟩
  have t0 : decide (i < (0 : Int)) = false := decide_eq_false q0
  have z0 := M0.out.k.c4
  by_cases q1 : (S.bs.length : Int) ≤ i
  · have t1 : decide ((S.bs.length : Int) ≤ i) = true := decide_eq_true q1
    have HV := Lib.hid (E1.out (.inr q1))
    clear q0 q1 E1 E2 E3 E4 E5
    go_enter Tryd.func34, Tryd.ntmps34
    go_wp2_with fail
    go_ret
    exact ⟨by rw [HV.out]; rfl, M0.out.bel⟩
  have t1 : decide ((S.bs.length : Int) ≤ i) = false := decide_eq_false q1
  have hq := Lib.hid (show ¬ (i < 0 ∨ (S.bs.length : Int) ≤ i) by omega)
  obtain ⟨n, hn⟩ : ∃ n : Nat, i = (n : Int) := ⟨i.toNat, by omega⟩
  have CO2 := Lib.hid (CO.out n (by omega))
  have HCL : Hid ((S.bs.getD n Bid.none).cls = clsOf S i) := by show _ = _; unfold clsOf; rw [hn, Int.toNat_natCast]
  rw [HCL.out, ← hn] at CO2
  clear q0 q1 E1 CO hn HCL
  go_enter Tryd.func34, Tryd.ntmps34
  have z1 := M0.out.a.cells
  have z2 := M0.out.a.lt
  go_wp2_with fail
  refine (CB.out _).mono ?_
  rintro e w1 ⟨rfl, d1⟩
  have M1 := Lib.hid (M0.out.keep d1)
  clear d1 M0 z0 z1 z2 CB
  have z0 := M1.out.k.c4
  have z1 := M1.out.a.cells
  have z2 := M1.out.a.lt
  cases hv : validB b with
  | false =>
    have HV := Lib.hid (E2.out hq.out hv)
    rw [if_neg (by simp)]
    clear hv E2 E3 E4 E5
    go_wp2_with fail
    go_ret
    exact ⟨by rw [HV.out]; rfl, M1.out.bel⟩
  | true =>
    have hvb := Lib.hid hv
    rw [if_pos rfl]
    clear hv E2
    go_wp2_with fail
    refine (CS.out _ M1.out.bel).mono ?_
    rintro e w2 ⟨rfl, d2⟩
    have M2 := Lib.hid (M1.out.keep d2)
    clear d2 M1 z0 z1 z2 CS
    have z0 := M2.out.k.c4
    have z1 := M2.out.a.cells
    have z2 := M2.out.a.lt
    generalize hpo : openF S.ps S.ad = po at *
    generalize hpc : clsF S.ad = pc at *
    have HPO := Lib.hid hpo
    have HPC := Lib.hid hpc
    clear hpo hpc
    go_wp2_with fail
    have X1 := Lib.hid (M2.out.keep ((below_new w2 (.cells (arr po) 24)).alloc (below_new w2 (.cells (arr po) 24)).size (.cells (arr pc) 24)))
    have Y1 := Lib.hid ((box_new w2 po 24).alloc (.cells (arr pc) 24))
    have y2 := box_new (w2.alloc (.cells (arr po) 24)) pc 24
    rw [show (w2.alloc (.cells (arr po) 24)).heap.size = w2.heap.size + 1 from World.size_alloc _ _] at y2
    have Y2 := Lib.hid y2
    clear y2 M2 z0 z1 z2
    unfold arr at X1 Y1 Y2
    generalize World.alloc _ _ = W at *
    have z0 := X1.out.k.c4
    have z1 := X1.out.a.cells
    have z2 := X1.out.a.lt
    have z3 := X1.out.k.lt
    have u1 := Y1.out.cells
    have u2 := Y1.out.lt
    have u3 := Y2.out.cells
    have u4 := Y2.out.lt
    have FSU := Lib.hid (fun y => CSU.out (later W y) (chain0 X1.out.bel (later_below W y)))
    have FW1 := Lib.hid (fun y => CW1.out (later W y))
    have FW2 := Lib.hid (fun y => CW2.out (later W y))
    have FO := Lib.hid (fun y => CO2.out (later W y) (chain0 X1.out.bel (later_below W y)))
    unfold arr at FSU FW1 FW2 FO
    clear CSU CW1 CW2 CO2
    generalize outP pc (clsOf S i) b = po2 at *
    cases hw1 : within6 b (supP S.ps) with
    | false =>
      have HV := Lib.hid (E3.out hq.out hvb.out hw1)
      rw [hw1] at FW1
      clear hw1 E3 E4 E5 FW2
      refine wp_region_later (by kernel_rfl) (by kernel_rfl) ?_
      repeat (first | go_big_quiet_step (first | (go_at_call 36; exact calls_later (FSU.out _)) | (go_at_call 82; exact calls_later (FW1.out _)) | (go_at_call 82; exact calls_later (FW2.out _)) | (go_at_call 37; exact calls_later (FO.out _))) | quiet_step (first | (go_at_call 36; exact calls_later (FSU.out _)) | (go_at_call 82; exact calls_later (FW1.out _)) | (go_at_call 82; exact calls_later (FW2.out _)) | (go_at_call 37; exact calls_later (FO.out _))))
      refine wpQuiet_nil ?_
      rintro _ ⟨y, rfl⟩
      go_wp2_with fail
      go_ret
      exact ⟨by rw [HV.out]; rfl, chain0 X1.out.bel (later_below _ _)⟩
    | true =>
      have hw1h := Lib.hid hw1
      rw [hw1] at FW1
      clear hw1 E3
      cases hw2 : within6 po2 po with
      | false =>
        have HV := Lib.hid (E4.out hq.out hvb.out hw1h.out hw2)
        rw [hw2] at FW2
        clear hw2 E4 E5
        refine wp_region_later (by kernel_rfl) (by kernel_rfl) ?_
        repeat (first | go_big_quiet_step (first | (go_at_call 36; exact calls_later (FSU.out _)) | (go_at_call 82; exact calls_later (FW1.out _)) | (go_at_call 82; exact calls_later (FW2.out _)) | (go_at_call 37; exact calls_later (FO.out _))) | quiet_step (first | (go_at_call 36; exact calls_later (FSU.out _)) | (go_at_call 82; exact calls_later (FW1.out _)) | (go_at_call 82; exact calls_later (FW2.out _)) | (go_at_call 37; exact calls_later (FO.out _))))
        refine wpQuiet_nil ?_
        rintro _ ⟨y, rfl⟩
        go_wp2_with fail
        go_ret
        exact ⟨by rw [HV.out]; rfl, chain0 X1.out.bel (later_below _ _)⟩
      | true =>
        have HV := Lib.hid (E5.out hq.out hvb.out hw1h.out hw2)
        rw [hw2] at FW2
        clear hw2 E4 E5
        refine wp_region_later (by kernel_rfl) (by kernel_rfl) ?_
        repeat (first | go_big_quiet_step (first | (go_at_call 36; exact calls_later (FSU.out _)) | (go_at_call 82; exact calls_later (FW1.out _)) | (go_at_call 82; exact calls_later (FW2.out _)) | (go_at_call 37; exact calls_later (FO.out _))) | quiet_step (first | (go_at_call 36; exact calls_later (FSU.out _)) | (go_at_call 82; exact calls_later (FW1.out _)) | (go_at_call 82; exact calls_later (FW2.out _)) | (go_at_call 37; exact calls_later (FO.out _))))
        refine wpQuiet_nil ?_
        rintro _ ⟨y, rfl⟩
        have X2 := Lib.hid (X1.out.keep (later_below W y))
        clear z0 z1 z2 z3 u1 u2 u3 u4 FSU FW1 FW2 FO X1 Y1 Y2
        generalize later W y = wl at *
        have z0 := X2.out.k.c4
        go_wp2_with fail
        go_loopw [50] (fun iv wr => ∃ k : Nat, k ≤ S.cs.length ∧ iv = .int .i64 (k : Int) ∧ Hid (∀ j (hj : j < S.cs.length), j < k → capHit S.ps i b S.cs[j] = false) ∧ Hid (TwoM w wr w.heap.size #[.slice A1 S.ps.length c1, .slice A2 S.bs.length c2, .slice A3 S.cs.length c3, .slice A4 S.ad.length c4] b)) (fun iv _ => S.cs.length - (intOf iv).toNat)
        case atStart => exact ⟨0, Nat.zero_le _, rfl, (fun j _ h => absurd h (Nat.not_lt_zero _)), X2.out⟩
        case round =>
          clear z0 X2
          obtain ⟨k, hk, rfl, HJ, M⟩ := hrel
          have hk0 : (0 : Int) ≤ (k : Int) := by omega
          by_cases hkn : k < S.cs.length
          · have hd1 : decide (k < S.cs.length) = true := decide_eq_true hkn
            have hd2 : decide ((k : Int) < (S.cs.length : Int)) = true := decide_eq_true (by omega)
            have hkn1 : (k : Int) < (S.cs.length : Int) := by omega
            obtain ⟨bb, o, e1, hb, hrow⟩ := HR.out (by omega)
            subst e1
            have hat := cap_at (hrow.below hb M.out.bel) k hkn
            have hbr := Nat.lt_of_lt_of_le hb M.out.bel.size
            obtain ⟨x, hx⟩ : ∃ x, x = S.cs[k] := ⟨_, rfl⟩
            rw [← hx] at hat
            have HX := Lib.hid hx
            clear hx hrow
            obtain ⟨xb, xg, xu⟩ := x
            dsimp only at *
            have K1 := Lib.hid (Blk.new wr 111 #[.int .i64 xb, .int .i64 xg, .int .i64 xu])
            have N1 := Lib.hid (M.out.keep (below_new wr (.cells #[.int .i64 xb, .int .i64 xg, .int .i64 xu] 111)))
            go_wp2_with fail
            generalize wr.alloc _ = W2 at *
            clear hat hbr
            generalize wr.heap.size = gc at *
            have kc := K1.out.c3
            have kl := K1.out.lt
            have z0 := N1.out.k.c4
            have z1 := N1.out.a.cells
            have z2 := N1.out.a.lt
            have z3 := N1.out.k.lt
            have FU := Lib.hid (fun y => CU.out xg (later W2 y) (chain0 N1.out.bel (later_below W2 y)))
            unfold arr at FU
            have HCH : Hid (capHit S.ps i b S.cs[k] = ((decide (xb = -1) || decide (xb = i)) && decide (xu < sumE (gw xg) b S.ps))) := by show _ = _; rw [← HX.out]; rfl
            obtain ⟨u, hu⟩ : ∃ u, u = sumE (gw xg) b S.ps := ⟨_, rfl⟩
            rw [← hu] at HCH FU
            clear hu
            cases t3 : (xb == (-1 : Int)) with
            | true =>
              have e3 : decide (xb = -1) = true := by simpa using t3
              cases t5 : decide (xu < u) with
              | true =>
                have HC : Hid (capHit S.ps i b S.cs[k] = true) := by show _ = _; rw [HCH.out, e3, t5]; rfl
                have HV2 := Lib.hid (HV.out.trans (if_pos (any_at hkn HC.out)))
                clear e3
                refine wp_region_later (by kernel_rfl) (by kernel_rfl) ?_
                repeat (first | go_big_quiet_step (first | (go_at_call 83; exact calls_later (FU.out _))) | quiet_step (first | (go_at_call 83; exact calls_later (FU.out _))))
                refine wpQuiet_nil ?_
                rintro _ ⟨y, rfl⟩
                go_wp2_with fail
                go_ret
                exact ⟨by rw [HV2.out]; rfl, chain0 N1.out.bel (later_below _ _)⟩
              | false =>
                have HC : Hid (capHit S.ps i b S.cs[k] = false) := by show _ = _; rw [HCH.out, e3, t5]; rfl
                clear e3
                refine wp_region_later (by kernel_rfl) (by kernel_rfl) ?_
                repeat (first | go_big_quiet_step (first | (go_at_call 83; exact calls_later (FU.out _))) | quiet_step (first | (go_at_call 83; exact calls_later (FU.out _))))
                refine wpQuiet_nil ?_
                rintro _ ⟨y, rfl⟩
                go_wp2_with fail
                go_roundw
                case rel => exact ⟨k + 1, hkn, by go_num, (fun j hj hjk => by
                  by_cases e : j = k
                  · subst e; exact HC.out
                  · exact HJ.out j hj (by omega)), N1.out.keep (later_below _ _)⟩
                case measure => simp [intOf]; omega
            | false =>
              have e3 : decide (xb = -1) = false := by simpa using t3
              cases t4 : (xb == i) with
              | true =>
                have e4 : decide (xb = i) = true := by simpa using t4
                cases t5 : decide (xu < u) with
                | true =>
                  have HC : Hid (capHit S.ps i b S.cs[k] = true) := by show _ = _; rw [HCH.out, e3, e4, t5]; rfl
                  have HV2 := Lib.hid (HV.out.trans (if_pos (any_at hkn HC.out)))
                  clear e3 e4
                  refine wp_region_later (by kernel_rfl) (by kernel_rfl) ?_
                  repeat (first | go_big_quiet_step (first | (go_at_call 83; exact calls_later (FU.out _))) | quiet_step (first | (go_at_call 83; exact calls_later (FU.out _))))
                  refine wpQuiet_nil ?_
                  rintro _ ⟨y, rfl⟩
                  go_wp2_with fail
                  go_ret
                  exact ⟨by rw [HV2.out]; rfl, chain0 N1.out.bel (later_below _ _)⟩
                | false =>
                  have HC : Hid (capHit S.ps i b S.cs[k] = false) := by show _ = _; rw [HCH.out, e3, e4, t5]; rfl
                  clear e3 e4
                  refine wp_region_later (by kernel_rfl) (by kernel_rfl) ?_
                  repeat (first | go_big_quiet_step (first | (go_at_call 83; exact calls_later (FU.out _))) | quiet_step (first | (go_at_call 83; exact calls_later (FU.out _))))
                  refine wpQuiet_nil ?_
                  rintro _ ⟨y, rfl⟩
                  go_wp2_with fail
                  go_roundw
                  case rel => exact ⟨k + 1, hkn, by go_num, (fun j hj hjk => by
                    by_cases e : j = k
                    · subst e; exact HC.out
                    · exact HJ.out j hj (by omega)), N1.out.keep (later_below _ _)⟩
                  case measure => simp [intOf]; omega
              | false =>
                have e4 : decide (xb = i) = false := by simpa using t4
                have HC : Hid (capHit S.ps i b S.cs[k] = false) := by show _ = _; rw [HCH.out, e3, e4]; rfl
                clear e3 e4
                refine wp_region_later (by kernel_rfl) (by kernel_rfl) ?_
                repeat (first | go_big_quiet_step (first | (go_at_call 83; exact calls_later (FU.out _))) | quiet_step (first | (go_at_call 83; exact calls_later (FU.out _))))
                refine wpQuiet_nil ?_
                rintro _ ⟨y, rfl⟩
                go_wp2_with fail
                go_roundw
                case rel => exact ⟨k + 1, hkn, by go_num, (fun j hj hjk => by
                  by_cases e : j = k
                  · subst e; exact HC.out
                  · exact HJ.out j hj (by omega)), N1.out.keep (later_below _ _)⟩
                case measure => simp [intOf]; omega
          · obtain rfl : k = S.cs.length := by omega
            have hd1 : decide (S.cs.length < S.cs.length) = false := decide_eq_false (Nat.lt_irrefl _)
            have hd2 : decide ((S.cs.length : Int) < (S.cs.length : Int)) = false := decide_eq_false (Int.lt_irrefl _)
            have HV2 := Lib.hid (HV.out.trans (if_neg (by rw [any_list fun j hj => HJ.out j hj hj]; simp)))
            go_wp2_with fail
            go_ret
            exact ⟨by rw [HV2.out]; rfl, M.out.bel⟩
theorem allowed_any (S : SetD) (v1 v2 v3 v4 : Value) (i : Int) (b : Nat → Int) (w : World) (h : SetW w v1 v2 v3 v4 S) : Calls Tryd.prog 42 #[.agg #[v1, v2, v3, v4], .int .i64 i, .agg (arr b)] w (ErrPost (allowedE S i b) w) := by
  obtain ⟨A1, c1, A2, c2, A3, c3, A4, c4, rfl, rfl, rfl, rfl⟩ := h.forms
  have CC := Lib.hid (fun W (d : Below w.heap.size w W) => check_any S _ _ _ _ W (h.keep d))
  have CA := Lib.hid (fun hz W (d : Below w.heap.size w W) => allow_any S _ _ _ _ i b W (h.keep d) hz)
  have M0 := Lib.hid (twom_new w #[.slice A1 S.ps.length c1, .slice A2 S.bs.length c2, .slice A3 S.cs.length c3, .slice A4 S.ad.length c4] b)
  have E1 := Lib.hid (show S.err ≠ 0 → allowedE S i b = S.err from fun e => if_pos e)
  have E2 := Lib.hid (show S.err = 0 → allowedE S i b = allowE S i b from fun e => if_neg fun h => h e)
  generalize allowedE S i b = R at *
  clear h
  go_enter Tryd.func42, Tryd.ntmps42
  have z0 := M0.out.k.c4
  go_wp2_with fail
  refine (CC.out _ M0.out.bel).mono ?_
  rintro e w1 ⟨rfl, d1⟩
  have M1 := Lib.hid (M0.out.keep d1)
  clear d1 M0 z0 CC
  have z0 := M1.out.k.c4
  have z1 := M1.out.a.cells
  have z2 := M1.out.a.lt
  by_cases hz : S.err = 0
  · have t1 : (S.err != 0) = false := by rw [hz]; rfl
    have HV := Lib.hid (E2.out hz)
    have CA2 := Lib.hid (CA.out hz)
    clear hz CA E1 E2
    go_wp2_with fail
    refine (CA2.out _ M1.out.bel).mono ?_
    rintro e w2 ⟨rfl, d2⟩
    have B2 := Lib.hid (chain0 M1.out.bel d2)
    clear d2
    go_wp2_with fail
    go_ret
    exact ⟨by rw [HV.out]; rfl, B2.out⟩
  · have t1 : (S.err != 0) = true := by simpa using hz
    have HV := Lib.hid (E1.out hz)
    clear hz CA E1 E2
    go_wp2_with fail
    go_ret
    exact ⟨by rw [HV.out]; rfl, M1.out.bel⟩
end Go.Proofs.YtjjlhihocllgjaaDoor.Se
