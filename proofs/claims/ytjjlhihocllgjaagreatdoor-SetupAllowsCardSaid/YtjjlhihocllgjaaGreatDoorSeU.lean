/- The reference's Allowed. Printed by gen_seU.py. -/
import Derived.Test.YtjjlhihocllgjaaGreatDoorSeS
namespace Go.Proofs.YtjjlhihocllgjaaGreatDoor.Se
open Go.ChangeShapes Go.WideShapes Go.ChangeAt Go.RowKit Gn Cat Lex Ros
set_option linter.unusedVariables false
set_option linter.unusedSimpArgs false
attribute [local go_sem] later_cell
/-- the memory of the reference's Allowed at work -/
structure RaM (w wr : World) (g go gs : Nat) (cs : Array Value) (b po pc sp : Nat → Int) : Prop where
  k : Blk wr g 38 cs
  a : Box wr (g + 1) b
  o : Box wr go po
  c : Box wr (go + 1) pc
  s : Box wr gs sp
  bel : Below w.heap.size w wr
theorem RaM.keep {w wr w2 : World} {g go gs : Nat} {cs : Array Value} {b po pc sp : Nat → Int} (h : RaM w wr g go gs cs b po pc sp) (d : Below wr.heap.size wr w2) : RaM w w2 g go gs cs b po pc sp := ⟨h.k.below' d, h.a.below d h.a.lt, h.o.below d h.o.lt, h.c.below d h.c.lt, h.s.below d h.s.lt, chain0 h.bel d⟩
theorem allow_hit {S : SetD} {i : Int} {b : Nat → Int} (h : ¬ (i < 0 ∨ (S.bs.length : Int) ≤ i)) (h2 : validB b = true) (h3 : ∃ j, j < 6 ∧ (supP S.ps j < b j ∨ openF S.ps S.ad j < outP (clsF S.ad) (clsOf S i) b j)) : allowE S i b = 14 := by
  obtain ⟨j, hj, h3⟩ := h3
  cases e1 : within6 b (supP S.ps) with
  | false => exact allow_3 h h2 e1
  | true =>
    cases e2 : within6 (outP (clsF S.ad) (clsOf S i) b) (openF S.ps S.ad) with
    | false => exact allow_4 h h2 e1 e2
    | true =>
      have a1 := within6_iff.1 e1 j hj
      have a2 := within6_iff.1 e2 j hj
      omega
theorem allow_pass {S : SetD} {i : Int} {b : Nat → Int} (h : ¬ (i < 0 ∨ (S.bs.length : Int) ≤ i)) (h2 : validB b = true) (h3 : ∀ j, j < 6 → b j ≤ supP S.ps j ∧ outP (clsF S.ad) (clsOf S i) b j ≤ openF S.ps S.ad j) : allowE S i b = if S.cs.any (capHit S.ps i b) = true then 14 else 0 :=
  allow_5 h h2 (within6_iff.2 fun j hj => (h3 j hj).1) (within6_iff.2 fun j hj => (h3 j hj).2)

set_option maxHeartbeats 4000000 in
set_option maxRecDepth 100000 in
theorem rallowed_any (S : SetD) (v1 v2 v3 v4 : Value) (i : Int) (b : Nat → Int) (w : World) (h : SetW w v1 v2 v3 v4 S) : Calls Tryz.prog 26 #[.agg #[v1, v2, v3, v4], .int .i64 i, .agg (arr b)] w (ErrPost (allowedE S i b) w) := by
  obtain ⟨A1, c1, A2, c2, A3, c3, A4, c4, rfl, rfl, rfl, rfl⟩ := h.forms
  obtain ⟨A', c', e', k1, k2, hr⟩ := sl_parts h.c
  injection e' with e1 e2 e3
  subst e1 e3
  have HR := Lib.hid hr
  obtain ⟨A'', c'', e', k3, k4, hrb⟩ := sl_parts h.b
  injection e' with e1 e2 e3
  subst e1 e3
  have HRB := Lib.hid hrb
  have hlb : (S.bs.length : Int) ≤ 5000 := by have := h.lb; omega
  have hlc : (S.cs.length : Int) ≤ 5000 := by have := h.lc; omega
  have CC := Lib.hid (fun W (d : Below w.heap.size w W) => rcheck_any S _ _ _ _ W (h.keep d))
  have CO := Lib.hid (fun W (d : Below w.heap.size w W) => ropen_any S _ _ _ _ W (h.keep d))
  have CSU := Lib.hid (fun W (d : Below w.heap.size w W) => rsupply_any S.ps _ W h.lp (h.p.keep d))
  have CB := Lib.hid (fun W => valid_any b W)
  have CU := Lib.hid (fun g W (d : Below w.heap.size w W) => rsums_any S.ps _ g b W h.lp (h.p.keep d) h.np)
  have M0 := Lib.hid (twom_new w #[.slice A1 S.ps.length c1, .slice A2 S.bs.length c2, .slice A3 S.cs.length c3, .slice A4 S.ad.length c4] b)
  have E1 := Lib.hid (allow_1 (S := S) (i := i) (b := b))
  have E2 := Lib.hid (allow_2 (S := S) (i := i) (b := b))
  have E3 := Lib.hid (allow_hit (S := S) (i := i) (b := b))
  have E5 := Lib.hid (allow_pass (S := S) (i := i) (b := b))
  have F1 := Lib.hid (show S.err ≠ 0 → allowedE S i b = S.err from fun e => if_pos e)
  have F2 := Lib.hid (show S.err = 0 → allowedE S i b = allowE S i b from fun e => if_neg fun h => h e)
  obtain ⟨R, hR⟩ : ∃ R, R = allowedE S i b := ⟨_, rfl⟩
  have HRR := Lib.hid hR
  rw [← hR]
  clear h hr hrb hR k1 k2 k3 k4
  go_enter Tryz.func26, Tryz.ntmps26
  have z0 := M0.out.k.c4
  go_wp2_with fail
  refine (CC.out _ M0.out.bel).mono ?_
  rintro e w1 ⟨rfl, d1⟩
  have M1 := Lib.hid (M0.out.keep d1)
  clear d1 M0 z0 CC
  by_cases hz : S.err = 0
  case neg =>
    have t1 : (S.err != 0) = true := by simpa using hz
    have HV := Lib.hid (HRR.out.trans (F1.out hz))
    clear hz
    go_wp2_with fail
    go_ret
    exact ⟨by rw [HV.out]; rfl, M1.out.bel⟩
  have t1 : (S.err != 0) = false := by rw [hz]; rfl
  have HV0 := Lib.hid (HRR.out.trans (F2.out hz))
  have HOS := Lib.hid (show openS S = openF S.ps S.ad from if_pos hz)
  have HCS := Lib.hid (show clsS S = clsF S.ad from if_pos hz)
  have HON : Hid (∀ k, 0 ≤ openF S.ps S.ad k) := by
    intro k
    obtain ⟨g1, _, _, g4⟩ := setE_parts hz
    obtain ⟨_, g6, gg⟩ := checkE_zero g1
    have := openF_nonneg gg g4 g6 S.ad.length (Nat.le_refl _) k
    rw [List.take_length] at this
    exact this.1
  rw [HOS.out, HCS.out] at CO
  clear hz F1 F2 HRR HOS HCS
  have z0 := M1.out.k.c4
  have z1 := M1.out.a.cells
  have z2 := M1.out.a.lt
  by_cases q0 : i < 0
  · have t0 : decide (i < (0 : Int)) = true := decide_eq_true q0
    have HV := Lib.hid (HV0.out.trans (E1.out (.inl q0)))
    clear q0 E1 E2 E3 E5 HON
    go_wp2_with fail
    go_ret
    exact ⟨by rw [HV.out]; rfl, M1.out.bel⟩
  have t0 : decide (i < (0 : Int)) = false := decide_eq_false q0
  by_cases q1 : (S.bs.length : Int) ≤ i
  · have t2 : decide ((S.bs.length : Int) ≤ i) = true := decide_eq_true q1
    have HV := Lib.hid (HV0.out.trans (E1.out (.inr q1)))
    clear q0 q1 E1 E2 E3 E5 HON
    go_wp2_with fail
    go_ret
    exact ⟨by rw [HV.out]; rfl, M1.out.bel⟩
  have t2 : decide ((S.bs.length : Int) ≤ i) = false := decide_eq_false q1
  have hq := Lib.hid (show ¬ (i < 0 ∨ (S.bs.length : Int) ≤ i) by omega)
  obtain ⟨n, hn⟩ : ∃ n : Nat, i = (n : Int) := ⟨i.toNat, by omega⟩
  have hnl : n < S.bs.length := by omega
  have HN := Lib.hid hn
  rw [HN.out] at t0 t2
  rw [HN.out]
  obtain ⟨bb, bo, ebb, hbb, hbrow⟩ := HRB.out (by omega)
  subst ebb
  have HBC : Hid (∀ W, Below w.heap.size w W → W.cell? ⟨bb, bo + n * 4 + 1, none⟩ = some (.int .i64 (clsOf S i))) := by
    intro W d
    have h1 := (BidRow.at_ (show BidRow W bb bo S.bs from hbrow.below hbb d) n hnl).2.1
    rw [h1]
    unfold clsOf
    rw [HN.out, Int.toNat_natCast, show S.bs.getD n Bid.none = S.bs[n] by simp [List.getD, hnl]]
  clear q0 q1 E1 hbrow hn
  go_wp2_with fail
  refine (CB.out _).mono ?_
  rintro e w2 ⟨rfl, d2⟩
  have M2 := Lib.hid (M1.out.keep d2)
  clear d2 M1 z0 z1 z2 CB
  have z0 := M2.out.k.c4
  cases hv : validB b with
  | false =>
    have HV := Lib.hid (HV0.out.trans (E2.out hq.out hv))
    clear hv E2 E3 E5
    go_wp2_with fail
    go_ret
    exact ⟨by rw [HV.out]; rfl, M2.out.bel⟩
  | true =>
    have hvb := Lib.hid hv
    clear hv E2
    go_wp2_with fail
    refine (CO.out _ M2.out.bel).mono ?_
    rintro e w3 ⟨rfl, d3⟩
    have M3 := Lib.hid (M2.out.keep d3)
    clear d3 M2 z0 CO
    obtain ⟨po, hpo⟩ : ∃ po, po = openF S.ps S.ad := ⟨_, rfl⟩
    obtain ⟨pc, hpc⟩ : ∃ pc, pc = clsF S.ad := ⟨_, rfl⟩
    rw [← hpo, ← hpc]
    have HPO := Lib.hid hpo
    have HPC := Lib.hid hpc
    clear hpo hpc
    have z0 := M3.out.k.c4
    have zl := M3.out.k.lt
    go_wp2_with fail
    have e3 : (w3.alloc (.cells (arr po) 25)).heap.size = w3.heap.size + 1 := World.size_alloc _ _
    have D3 := Lib.hid ((below_new w3 (.cells (arr po) 25)).alloc (below_new w3 (.cells (arr po) 25)).size (.cells (arr pc) 25))
    have X1 := Lib.hid ((box_new w3 po 25).alloc (.cells (arr pc) 25))
    have x2 := box_new (w3.alloc (.cells (arr po) 25)) pc 25
    rw [e3] at x2
    have X2 := Lib.hid x2
    clear x2 e3 z0 zl
    unfold arr at D3 X1 X2
    generalize World.alloc (World.alloc w3 _) _ = w4 at *
    have M4 := Lib.hid (M3.out.keep D3.out)
    generalize w3.heap.size = go at *
    clear D3 M3
    refine (CSU.out _ M4.out.bel).mono ?_
    rintro e w5 ⟨rfl, d5⟩
    obtain ⟨sp, hsp⟩ : ∃ sp, sp = supP S.ps := ⟨_, rfl⟩
    rw [← hsp]
    have HSP := Lib.hid hsp
    clear hsp
    have M5 : Hid (RaM w (w5.alloc (.cells (arr sp) 25)) w.heap.size go w5.heap.size #[.slice A1 S.ps.length c1, .slice (some ⟨bb, bo, none⟩) S.bs.length c2, .slice A3 S.cs.length c3, .slice A4 S.ad.length c4] b po pc sp) := by
      have d6 := below_new w5 (.cells (arr sp) 25)
      have m5 := (M4.out.keep d5).keep d6
      have y1 := X1.out.below d5 X1.out.lt
      have y2 := X2.out.below d5 X2.out.lt
      exact ⟨m5.k, m5.a, y1.below d6 y1.lt, y2.below d6 y2.lt, box_new w5 _ _, m5.bel⟩
    clear d5 M4 X1 X2 CSU
    unfold arr at M5
    go_wp2_with fail
    generalize World.alloc w5 _ = w6 at *
    generalize w5.heap.size = gs at *
    go_loopw [11] (fun iv wr => ∃ k : Nat, k ≤ 6 ∧ iv = .int .i64 (k : Int) ∧ Hid (∀ j, j < k → b j ≤ supP S.ps j ∧ outP (clsF S.ad) (clsOf S i) b j ≤ openF S.ps S.ad j) ∧ Hid (RaM w wr w.heap.size go gs #[.slice A1 S.ps.length c1, .slice (some ⟨bb, bo, none⟩) S.bs.length c2, .slice A3 S.cs.length c3, .slice A4 S.ad.length c4] b po pc sp)) (fun iv _ => 6 - (intOf iv).toNat)
    case atStart => exact ⟨0, Nat.zero_le _, rfl, (fun j h => absurd h (Nat.not_lt_zero _)), M5.out⟩
    case round =>
      clear M5
      obtain ⟨k, hk, rfl, HJ, M⟩ := hrel
      have hk0 : (0 : Int) ≤ (k : Int) := by omega
      by_cases hk6 : k < 6
      · have hd1 : decide (k < 6) = true := decide_eq_true hk6
        have hd2 : decide ((k : Int) < 6) = true := decide_eq_true (by omega)
        have hk6i : (k : Int) < 6 := by omega
        have hat := HBC.out _ M.out.bel
        have hbr := Nat.lt_of_lt_of_le hbb M.out.bel.size
        have z0 := M.out.k.c4
        have zl := M.out.k.lt
        have pa := M.out.a.cell k hk6
        have la := M.out.a.lt
        have ps := M.out.s.cell k hk6
        have ls := M.out.s.lt
        have po1 := M.out.o.cell k hk6
        have lo := M.out.o.lt
        have pc1 := M.out.c.cell k hk6
        have lc := M.out.c.lt
        obtain ⟨bx, hbx⟩ : ∃ x, x = b k := ⟨_, rfl⟩
        obtain ⟨sx, hsx⟩ : ∃ x, x = supP S.ps k := ⟨_, rfl⟩
        obtain ⟨ox, hox⟩ : ∃ x, x = openF S.ps S.ad k := ⟨_, rfl⟩
        obtain ⟨cx, hcx⟩ : ∃ x, x = clsF S.ad k := ⟨_, rfl⟩
        obtain ⟨cb, hcb⟩ : ∃ x, x = clsOf S i := ⟨_, rfl⟩
        rw [← hbx] at pa
        rw [HSP.out, ← hsx] at ps
        rw [HPO.out, ← hox] at po1
        rw [HPC.out, ← hcx] at pc1
        rw [← hcb] at hat
        have HBX := Lib.hid hbx
        have HSX := Lib.hid hsx
        have HOX := Lib.hid hox
        have HCX := Lib.hid hcx
        have HCB := Lib.hid hcb
        clear hbx hsx hox hcx hcb
        have hn0 : (0 : Int) ≤ (n : Int) := by omega
        have hni : (n : Int) < (S.bs.length : Int) := by omega
        cases t0 : decide (sx < bx) with
        | true =>
          have HV := Lib.hid (HV0.out.trans (E3.out hq.out hvb.out ⟨k, hk6, .inl (by rw [← HBX.out, ← HSX.out]; exact of_decide_eq_true t0)⟩))
          go_wp2_with fail
          go_quiet (fail)
          have N := Lib.hid (M.out.keep (drewN_below _ nq))
          clear z0 zl pa la ps ls po1 lo pc1 lc hat hbr
          generalize wr.drewN nq = W at *
          go_wp2_with fail
          go_ret
          exact ⟨by rw [HV.out]; rfl, N.out.bel⟩
        | false =>
          cases t4 : (cx != 0) with
          | false =>
            have HJ2 : Hid (∀ j, j < k + 1 → b j ≤ supP S.ps j ∧ outP (clsF S.ad) (clsOf S i) b j ≤ openF S.ps S.ad j) := by
              intro j hj
              by_cases e : j = k
              · subst e
                rw [← HBX.out, ← HSX.out, ← HOX.out]
                have h1 := of_decide_eq_false t0
                refine ⟨by omega, ?_⟩
                have h2 := HON.out j
                have h3 : outP (clsF S.ad) (clsOf S i) b j = 0 := by unfold outP; rw [if_pos (by rw [← HCX.out]; exact .inl (by simpa using t4))]
                rw [h3, HOX.out]
                exact h2
              · exact HJ.out j (by omega)
            go_wp2_with fail
            go_quiet (fail)
            have N := Lib.hid (M.out.keep (drewN_below _ nq))
            clear z0 zl pa la ps ls po1 lo pc1 lc hat hbr
            generalize wr.drewN nq = W at *
            go_wp2_with fail
            go_roundw
            case rel => exact ⟨k + 1, hk6, by go_num, HJ2.out, N.out⟩
            case measure => simp [intOf]; omega
          | true =>
            cases t5 : (cx != cb) with
            | false =>
              have HJ2 : Hid (∀ j, j < k + 1 → b j ≤ supP S.ps j ∧ outP (clsF S.ad) (clsOf S i) b j ≤ openF S.ps S.ad j) := by
                intro j hj
                by_cases e : j = k
                · subst e
                  rw [← HBX.out, ← HSX.out, ← HOX.out]
                  have h1 := of_decide_eq_false t0
                  refine ⟨by omega, ?_⟩
                  have h2 := HON.out j
                  have h3 : outP (clsF S.ad) (clsOf S i) b j = 0 := by unfold outP; rw [if_pos (by rw [← HCX.out]; rw [← HCB.out]; exact .inr (by simpa using t5))]
                  rw [h3, HOX.out]
                  exact h2
                · exact HJ.out j (by omega)
              go_wp2_with fail
              go_quiet (fail)
              have N := Lib.hid (M.out.keep (drewN_below _ nq))
              clear z0 zl pa la ps ls po1 lo pc1 lc hat hbr
              generalize wr.drewN nq = W at *
              go_wp2_with fail
              go_roundw
              case rel => exact ⟨k + 1, hk6, by go_num, HJ2.out, N.out⟩
              case measure => simp [intOf]; omega
            | true =>
              have HOB : Hid (outP (clsF S.ad) (clsOf S i) b k = bx) := by
                show _ = _
                unfold outP
                rw [← HCX.out, ← HCB.out, if_neg (fun e => e.elim (fun e => by rw [e] at t4; exact absurd t4 (by decide)) (fun e => by rw [e] at t5; simp at t5)), HBX.out]
              cases t6 : decide (ox < bx) with
              | true =>
                have HV := Lib.hid (HV0.out.trans (E3.out hq.out hvb.out ⟨k, hk6, .inr (by rw [HOB.out, ← HOX.out]; exact of_decide_eq_true t6)⟩))
                clear HOB
                go_wp2_with fail
                go_quiet (fail)
                have N := Lib.hid (M.out.keep (drewN_below _ nq))
                clear z0 zl pa la ps ls po1 lo pc1 lc hat hbr
                generalize wr.drewN nq = W at *
                go_wp2_with fail
                go_ret
                exact ⟨by rw [HV.out]; rfl, N.out.bel⟩
              | false =>
                have HJ2 : Hid (∀ j, j < k + 1 → b j ≤ supP S.ps j ∧ outP (clsF S.ad) (clsOf S i) b j ≤ openF S.ps S.ad j) := by
                  intro j hj
                  by_cases e : j = k
                  · subst e
                    rw [← HBX.out, ← HSX.out, ← HOX.out]
                    have h1 := of_decide_eq_false t0
                    refine ⟨by omega, ?_⟩
                    rw [HOB.out]; have h4 := of_decide_eq_false t6; omega
                  · exact HJ.out j (by omega)
                clear HOB
                go_wp2_with fail
                go_quiet (fail)
                have N := Lib.hid (M.out.keep (drewN_below _ nq))
                clear z0 zl pa la ps ls po1 lo pc1 lc hat hbr
                generalize wr.drewN nq = W at *
                go_wp2_with fail
                go_roundw
                case rel => exact ⟨k + 1, hk6, by go_num, HJ2.out, N.out⟩
                case measure => simp [intOf]; omega
      · obtain rfl : k = 6 := by omega
        have hd1 : decide (6 < 6) = false := by decide
        have hd2 : decide ((6 : Int) < 6) = false := by decide
        rw [show ((6 : Nat) : Int) = 6 from rfl]
        have HV := Lib.hid (HV0.out.trans (E5.out hq.out hvb.out HJ.out))
        clear E3 E5 HV0 HJ
        go_wp2_with fail
        go_loopw [12] (fun iv wr => ∃ k : Nat, k ≤ S.cs.length ∧ iv = .int .i64 (k : Int) ∧ Hid (∀ j (hj : j < S.cs.length), j < k → capHit S.ps i b S.cs[j] = false) ∧ Hid (RaM w wr w.heap.size go gs #[.slice A1 S.ps.length c1, .slice (some ⟨bb, bo, none⟩) S.bs.length c2, .slice A3 S.cs.length c3, .slice A4 S.ad.length c4] b po pc sp)) (fun iv _ => S.cs.length - (intOf iv).toNat)
        case atStart => exact ⟨0, Nat.zero_le _, rfl, (fun j _ h => absurd h (Nat.not_lt_zero _)), M.out⟩
        case round =>
          clear M
          obtain ⟨k, hk, rfl, HJ, M⟩ := hrel
          have hk0 : (0 : Int) ≤ (k : Int) := by omega
          have z0 := M.out.k.c4
          have zl := M.out.k.lt
          by_cases hkn : k < S.cs.length
          · have hd1 : decide (k < S.cs.length) = true := decide_eq_true hkn
            have hd2 : decide ((k : Int) < (S.cs.length : Int)) = true := decide_eq_true (by omega)
            have hkn1 : (k : Int) < (S.cs.length : Int) := by omega
            obtain ⟨cb, o, e1, hb, hrow⟩ := HR.out (by omega)
            subst e1
            have hat := cap_at (hrow.below hb M.out.bel) k hkn
            have hbr := Nat.lt_of_lt_of_le hb M.out.bel.size
            obtain ⟨x, hx⟩ : ∃ x, x = S.cs[k] := ⟨_, rfl⟩
            rw [← hx] at hat
            have HX := Lib.hid hx
            clear hx hrow
            obtain ⟨xb, xg, xu⟩ := x
            dsimp only at *
            have K1 := Lib.hid (Blk.new wr 78 #[.int .i64 xb, .int .i64 xg, .int .i64 xu])
            have N1 := Lib.hid (M.out.keep (below_new wr (.cells #[.int .i64 xb, .int .i64 xg, .int .i64 xu] 78)))
            have ya := N1.out.a.cells
            have yl := N1.out.a.lt
            go_wp2_with fail
            generalize wr.alloc _ = W2 at *
            generalize wr.heap.size = gc at *
            have HCH : Hid (capHit S.ps i b S.cs[k] = ((decide (xb = -1) || decide (xb = i)) && decide (xu < sumE (gw xg) b S.ps))) := by show _ = _; rw [← HX.out]; rfl
            refine (CU.out xg _ N1.out.bel).mono ?_
            rintro e w7 ⟨rfl, d7⟩
            unfold sums3
            have N := Lib.hid (N1.out.keep d7)
            have K2 := Lib.hid (K1.out.below' d7)
            generalize sumE Prod.points b S.ps = u1 at *
            generalize sumE Prod.reserve b S.ps = u2 at *
            obtain ⟨u, hu⟩ : ∃ u, u = sumE (gw xg) b S.ps := ⟨_, rfl⟩
            rw [← hu] at HCH
            rw [← hu]
            clear hu d7 N1 K1 hat hbr ya yl z0 zl M
            have kc := K2.out.c3
            have kl := K2.out.lt
            cases t3 : (xb == (-1 : Int)) with
            | true =>
              have e3 : decide (xb = -1) = true := by simpa using t3
              cases t5 : decide (xu < u) with
              | true =>
                have HC : Hid (capHit S.ps i b S.cs[k] = true) := by show _ = _; rw [HCH.out, e3, t5]; rfl
                have HV2 := Lib.hid (HV.out.trans (if_pos (any_at hkn HC.out)))
                clear e3
                go_wp2_with fail
                go_ret
                exact ⟨by rw [HV2.out]; rfl, N.out.bel⟩
              | false =>
                have HC : Hid (capHit S.ps i b S.cs[k] = false) := by show _ = _; rw [HCH.out, e3, t5]; rfl
                clear e3
                go_wp2_with fail
                go_roundw
                case rel => exact ⟨k + 1, hkn, by go_num, (fun j hj hjk => by
                  by_cases e : j = k
                  · subst e; exact HC.out
                  · exact HJ.out j hj (by omega)), N.out⟩
                case measure => simp [intOf]; omega
            | false =>
              have e3 : decide (xb = -1) = false := by simpa using t3
              cases t4 : (xb == (n : Int)) with
              | true =>
                have e4 : decide (xb = i) = true := by rw [HN.out]; simpa using t4
                cases t5 : decide (xu < u) with
                | true =>
                  have HC : Hid (capHit S.ps i b S.cs[k] = true) := by show _ = _; rw [HCH.out, e3, e4, t5]; rfl
                  have HV2 := Lib.hid (HV.out.trans (if_pos (any_at hkn HC.out)))
                  clear e3 e4
                  go_wp2_with fail
                  go_ret
                  exact ⟨by rw [HV2.out]; rfl, N.out.bel⟩
                | false =>
                  have HC : Hid (capHit S.ps i b S.cs[k] = false) := by show _ = _; rw [HCH.out, e3, e4, t5]; rfl
                  clear e3 e4
                  go_wp2_with fail
                  go_roundw
                  case rel => exact ⟨k + 1, hkn, by go_num, (fun j hj hjk => by
                    by_cases e : j = k
                    · subst e; exact HC.out
                    · exact HJ.out j hj (by omega)), N.out⟩
                  case measure => simp [intOf]; omega
              | false =>
                have e4 : decide (xb = i) = false := by rw [HN.out]; simpa using t4
                have HC : Hid (capHit S.ps i b S.cs[k] = false) := by show _ = _; rw [HCH.out, e3, e4]; rfl
                clear e3 e4
                go_wp2_with fail
                go_roundw
                case rel => exact ⟨k + 1, hkn, by go_num, (fun j hj hjk => by
                  by_cases e : j = k
                  · subst e; exact HC.out
                  · exact HJ.out j hj (by omega)), N.out⟩
                case measure => simp [intOf]; omega
          · obtain rfl : k = S.cs.length := by omega
            have hd1 : decide (S.cs.length < S.cs.length) = false := decide_eq_false (Nat.lt_irrefl _)
            have hd2 : decide ((S.cs.length : Int) < (S.cs.length : Int)) = false := decide_eq_false (Int.lt_irrefl _)
            have HV2 := Lib.hid (HV.out.trans (if_neg (by rw [any_list fun j hj => HJ.out j hj hj]; simp)))
            go_wp2_with fail
            go_ret
            exact ⟨by rw [HV2.out]; rfl, M.out.bel⟩

end Go.Proofs.YtjjlhihocllgjaaGreatDoor.Se
