/- The reference's Feasible and Remaining. Printed by gen_seV.py. -/
import Derived.Test.YtjjlhihocllgjaaGreatDoorSeU
namespace Go.Proofs.YtjjlhihocllgjaaGreatDoor.Se
open Go.ChangeShapes Go.WideShapes Go.ChangeAt Go.RowKit Gn Cat Lex Ros
set_option linter.unusedVariables false
set_option linter.unusedSimpArgs false
attribute [local go_sem] later_cell
theorem bun_cell {w : World} {b o : Nat} {l : List (Nat → Int)} (h : Row w b o (l.flatMap bunCells)) (n : Nat) (hn : n < l.length) (k : Nat) (hk : k < 6) : w.cell? ⟨b, o + n * 6 + k, none⟩ = some (.int .i64 (l[n] k)) := by
  obtain ⟨h0, h1, h2, h3, h4, h5⟩ := bun_at h n hn
  obtain rfl | rfl | rfl | rfl | rfl | rfl : k = 0 ∨ k = 1 ∨ k = 2 ∨ k = 3 ∨ k = 4 ∨ k = 5 := by omega
  · exact h0
  · exact h1
  · exact h2
  · exact h3
  · exact h4
  · exact h5
/-- nothing is sold of products that are not there -/
theorem over_beyond {S : SetD} {l : List (Nat → Int)} (hz : S.err = 0) (h : allE S l = 0) {k : Nat} (hk : k < 6) (hp : S.ps.length ≤ k) : over S l l.length k = false := by
  obtain ⟨h1, _, _, h4⟩ := setE_parts hz
  obtain ⟨_, hp6, hg⟩ := checkE_zero h1
  have hs : supP S.ps k = 0 := by unfold supP startP; rw [if_neg (by omega)]
  have ho := openF_nonneg hg h4 hp6 S.ad.length (Nat.le_refl _) k
  rw [List.take_length] at ho
  have hz2 : ∀ n, n ≤ l.length → sumL l n k = 0 ∧ outL S l n k = 0 := by
    intro n
    induction n with
    | zero => intro _; exact ⟨sumL_zero l k, rfl⟩
    | succ n ih =>
      intro hn
      obtain ⟨i1, i2⟩ := ih (by omega)
      have ha := allowE_zero (allE_zero h n (by omega))
      have b1 := ha.2.1 k hk
      have b2 := ha.2.2.1 k hk
      have b3 := outP_bounds (k6 := clsF S.ad) (c := clsOf S (n : Int)) ha.2.1 k hk
      rw [sumL_succ (by omega), outL, i1, i2]
      omega
  obtain ⟨z1, z2⟩ := hz2 l.length (Nat.le_refl _)
  unfold over
  rw [z1, z2, hs, decide_eq_false (by omega), decide_eq_false (by omega)]
  rfl
theorem below_of_drew0 (w : World) : Below w.heap.size w w.drew := (Below.refl _ _).drew
structure RfM (w wr : World) (g go : Nat) (cs : Array Value) (po pc : Nat → Int) : Prop where
  k : Blk wr g 38 cs
  o : Box wr go po
  c : Box wr (go + 1) pc
  bel : Below w.heap.size w wr
theorem RfM.keep {w wr w2 : World} {g go : Nat} {cs : Array Value} {po pc : Nat → Int} (h : RfM w wr g go cs po pc) (d : Below wr.heap.size wr w2) : RfM w w2 g go cs po pc := ⟨h.k.below' d, h.o.below d h.o.lt, h.c.below d h.c.lt, chain0 h.bel d⟩

set_option maxHeartbeats 4000000 in
set_option maxRecDepth 100000 in
theorem rfeas_any (S : SetD) (l : List (Nat → Int)) (v1 v2 v3 v4 v : Value) (w : World) (h : SetW w v1 v2 v3 v4 S) (hb : BunS w v l) (hl : l.length ≤ 5000) : Calls Tryz.prog 28 #[.agg #[v1, v2, v3, v4], v] w (ErrPost (feasE S l) w) := by
  obtain ⟨A1, c1, A2, c2, A3, c3, A4, c4, rfl, rfl, rfl, rfl⟩ := h.forms
  obtain ⟨A, c, rfl, k1, k2, hr⟩ := sl_parts hb
  have HR := Lib.hid hr
  obtain ⟨A'', c'', e', k3, k4, hrb⟩ := sl_parts h.b
  injection e' with e1 e2 e3
  subst e1 e3
  have HRB := Lib.hid hrb
  obtain ⟨A'', c'', e', k5, k6, hrp⟩ := ps_cases h.p
  injection e' with e1 e2 e3
  subst e1 e3
  have HRP := Lib.hid hrp
  have hlb : (S.bs.length : Int) ≤ 5000 := by have := h.lb; omega
  have hlp : (S.ps.length : Int) ≤ 5000 := by have := h.lp; omega
  have hll : (l.length : Int) ≤ 5000 := by omega
  have CC := Lib.hid (fun W (d : Below w.heap.size w W) => rcheck_any S _ _ _ _ W (h.keep d))
  have CA := Lib.hid (fun i b W (d : Below w.heap.size w W) => rallowed_any S _ _ _ _ i b W (h.keep d))
  have CO := Lib.hid (fun W (d : Below w.heap.size w W) => ropen_any S _ _ _ _ W (h.keep d))
  have E1 := Lib.hid (feas_1 (S := S) (l := l))
  have E2 := Lib.hid (feas_2 (S := S) (l := l))
  have E3 := Lib.hid (feas_3 (S := S) (l := l))
  have E4 := Lib.hid (feas_4 (S := S) (l := l))
  have BX := Lib.hid (below_new w (.cells #[.slice A1 S.ps.length c1, .slice A2 S.bs.length c2, .slice A3 S.cs.length c3, .slice A4 S.ad.length c4] 38))
  have KX := Lib.hid (Blk.new w 38 #[.slice A1 S.ps.length c1, .slice A2 S.bs.length c2, .slice A3 S.cs.length c3, .slice A4 S.ad.length c4])
  generalize feasE S l = R at *
  clear h hb hr hrb hrp k1 k2 k3 k4 k5 k6
  go_enter Tryz.func28, Tryz.ntmps28
  have z0 := KX.out.c4
  go_wp2_with fail
  refine (CC.out _ BX.out).mono ?_
  rintro e w1 ⟨rfl, d1⟩
  have B1 := Lib.hid (chain0 BX.out d1)
  have K1 := Lib.hid (KX.out.below' d1)
  clear d1 BX KX CC z0
  have z0 := K1.out.c4
  by_cases hz : S.err = 0
  case neg =>
    have t1 : (S.err != 0) = true := by simpa using hz
    have HV := Lib.hid (E1.out hz)
    clear hz CA CO E1 E2 E3 E4
    go_wp2_with fail
    go_ret
    exact ⟨by rw [HV.out]; rfl, B1.out⟩
  have t1 : (S.err != 0) = false := by rw [hz]; rfl
  have HZ := Lib.hid hz
  have HOS := Lib.hid (show openS S = openF S.ps S.ad from if_pos hz)
  have HCS := Lib.hid (show clsS S = clsF S.ad from if_pos hz)
  rw [HOS.out, HCS.out] at CO
  have HAE : Hid (∀ i b, allowedE S i b = allowE S i b) := fun i b => if_neg fun h => h hz
  have CA2 : Hid (∀ i b W (d : Below w.heap.size w W), Calls Tryz.prog 26 #[.agg #[.slice A1 S.ps.length c1, .slice A2 S.bs.length c2, .slice A3 S.cs.length c3, .slice A4 S.ad.length c4], .int .i64 i, .agg (arr b)] W (ErrPost (allowE S i b) W)) := by
    intro i b W d
    have h1 := CA.out i b W d
    rw [HAE.out] at h1
    exact h1
  clear hz CA E1 HOS HCS HAE
  by_cases hn : l.length = S.bs.length
  case neg =>
    have t2 : ((l.length : Int) != (S.bs.length : Int)) = true := by simpa using (show ¬ (l.length : Int) = (S.bs.length : Int) by omega)
    have HV := Lib.hid (E2.out HZ.out hn)
    clear hn CO CA2 E2 E3 E4
    go_wp2_with fail
    go_ret
    exact ⟨by rw [HV.out]; rfl, B1.out⟩
  have HN := Lib.hid hn
  have t2 : ((l.length : Int) != (S.bs.length : Int)) = false := by simpa using (show (l.length : Int) = (S.bs.length : Int) by omega)
  have E3a := Lib.hid (E3.out HZ.out hn)
  have E4a := Lib.hid (E4.out HZ.out hn)
  have hl8 : Hid (l.length ≤ 8) := by show _ ≤ _; rw [hn]; exact (rosE_zero (setE_parts HZ.out).2.1).2.1
  clear hn E2 E3 E4
  go_wp2_with fail
  clear t1 t2
  go_loopw [6] (fun iv wr => ∃ k : Nat, k ≤ l.length ∧ iv = .int .i64 (k : Int) ∧ Hid (allE S l = firstE (fun i => allowE S (i : Int) (l.getD i zero6)) k (l.length - k)) ∧ Hid (Below w.heap.size w wr) ∧ Hid (Blk wr w.heap.size 38 #[.slice A1 S.ps.length c1, .slice A2 S.bs.length c2, .slice A3 S.cs.length c3, .slice A4 S.ad.length c4])) (fun iv _ => l.length - (intOf iv).toNat)
  case atStart => exact ⟨0, Nat.zero_le _, rfl, rfl, B1.out, K1.out⟩
  case round =>
    clear B1 K1 z0
    obtain ⟨k, hk, rfl, HX, HB, HK⟩ := hrel
    have hk0 : (0 : Int) ≤ (k : Int) := by omega
    by_cases hkn : k < l.length
    · have hd1 : decide (k < l.length) = true := decide_eq_true hkn
      have hd2 : decide ((k : Int) < (l.length : Int)) = true := decide_eq_true (by omega)
      have hkn1 : (k : Int) < (l.length : Int) := by omega
      obtain ⟨bb, o, e1, hbb, hrow⟩ := HR.out (by omega)
      subst e1
      have hat := bun_at (hrow.below hbb HB.out) k hkn
      have hbr := Nat.lt_of_lt_of_le hbb HB.out.size
      have cx := HK.out.c4
      have lx := HK.out.lt
      have HST : Hid (allowE S (k : Int) l[k] ≠ 0 → allE S l = allowE S (k : Int) l[k]) := by
        intro h2
        rw [← getD_at l k hkn] at h2 ⊢
        have e2 := HX.out
        rw [show l.length - k = (l.length - (k + 1)) + 1 by omega, firstE_stop (by exact h2)] at e2
        exact e2
      have HGO : Hid (allowE S (k : Int) l[k] = 0 → allE S l = firstE (fun i => allowE S (i : Int) (l.getD i zero6)) (k + 1) (l.length - (k + 1))) := by
        intro h2
        rw [← getD_at l k hkn] at h2
        have e2 := HX.out
        rw [show l.length - k = (l.length - (k + 1)) + 1 by omega, firstE_step (by exact h2)] at e2
        exact e2
      obtain ⟨x, hx⟩ : ∃ x, x = l[k] := ⟨_, rfl⟩
      rw [← hx] at hat HST HGO
      clear hx hrow
      have FA := Lib.hid (fun y => CA2.out (k : Int) x (later wr y) (chain0 HB.out (later_below wr y)))
      unfold arr at FA
      go_wp2_with fail
      refine wp_region_later (by kernel_rfl) (by kernel_rfl) ?_
      repeat (first | go_big_quiet_step ((go_at_call 26; exact calls_later (FA.out _))) | quiet_step ((go_at_call 26; exact calls_later (FA.out _))))
      refine wpQuiet_nil ?_
      rintro _ ⟨y, rfl⟩
      have B3 := Lib.hid (chain0 HB.out (later_below wr y))
      have N3 := Lib.hid (HK.out.below' (later_below wr y))
      clear FA cx lx hat hbr
      generalize later wr y = w2 at *
      by_cases q : allowE S (k : Int) x = 0
      · have t3 : (allowE S (k : Int) x != 0) = false := by rw [q]; rfl
        have HV := Lib.hid (HGO.out q)
        clear q
        go_wp2_with fail
        go_roundw
        case rel => exact ⟨k + 1, hkn, by go_num, HV.out, B3.out, N3.out⟩
        case measure => simp [intOf]; omega
      · have t3 : (allowE S (k : Int) x != 0) = true := by simpa using q
        have e4 := HST.out q
        have HV := Lib.hid ((E3a.out (by rw [e4]; exact q)).trans e4)
        clear q e4
        go_wp2_with fail
        go_ret
        exact ⟨by rw [HV.out]; rfl, B3.out⟩
    · obtain rfl : k = l.length := by omega
      have hd1 : decide (l.length < l.length) = false := decide_eq_false (Nat.lt_irrefl _)
      have hd2 : decide ((l.length : Int) < (l.length : Int)) = false := decide_eq_false (Int.lt_irrefl _)
      have HA : Hid (allE S l = 0) := by show _ = _; rw [HX.out, Nat.sub_self]; rfl
      have HV := Lib.hid (E4a.out HA.out)
      have z0 := HK.out.c4
      clear E3a E4a HX CA2 hk0 hk
      go_wp2_with fail
      refine (CO.out _ HB.out).mono ?_
      rintro e w2 ⟨rfl, d2⟩
      have HSB := Lib.hid (fun k (hk : k < 6) n (hn : n ≤ l.length) => sumL_bounds HA.out k hk n hn)
      have HSS := Lib.hid (fun n (hn : n < l.length) k => sumL_succ (l := l) hn k)
      have HPB := Lib.hid (fun n (hn : n < l.length) k (hk : k < 6) => (allowE_zero (allE_zero HA.out n hn)).2.1 k hk)
      have HOA := Lib.hid (fun k (hk : k < 6) h => over_any (S := S) (l := l) HA.out hk (Nat.le_refl _) h)
      have HON := Lib.hid (over_none (S := S) (l := l))
      have HOB := Lib.hid (fun k (hk : k < 6) hp => over_beyond (S := S) (l := l) HZ.out HA.out hk hp)
      have HP6 : Hid (0 < S.ps.length ∧ S.ps.length ≤ 6) := by
        have := checkE_zero (setE_parts HZ.out).1
        exact ⟨this.1, this.2.1⟩
      have HSP : Hid (∀ k (hk : k < S.ps.length), supP S.ps k = S.ps[k].supply) := by
        intro k hk
        unfold supP startP
        rw [if_pos hk]
        exact supI_at S.ps k hk
      have HBC : Hid (∀ n (hn : n < S.bs.length), clsOf S (n : Int) = S.bs[n].cls) := by
        intro n hn
        unfold clsOf
        rw [Int.toNat_natCast, show S.bs.getD n Bid.none = S.bs[n] by simp [List.getD, hn]]
      have HGD := Lib.hid (getD_at l)
      obtain ⟨po, hpo⟩ : ∃ po, po = openF S.ps S.ad := ⟨_, rfl⟩
      obtain ⟨pc, hpc⟩ : ∃ pc, pc = clsF S.ad := ⟨_, rfl⟩
      rw [← hpo, ← hpc]
      have HPO := Lib.hid hpo
      have HPC := Lib.hid hpc
      clear hpo hpc CO
      have M0 : Hid (RfM w ((w2.alloc (.cells (arr po) 25)).alloc (.cells (arr pc) 25)) w.heap.size w2.heap.size #[.slice A1 S.ps.length c1, .slice A2 S.bs.length c2, .slice A3 S.cs.length c3, .slice A4 S.ad.length c4] po pc) := by
        have e3 : (w2.alloc (.cells (arr po) 25)).heap.size = w2.heap.size + 1 := World.size_alloc _ _
        have d3 := (below_new w2 (.cells (arr po) 25)).alloc (below_new w2 (.cells (arr po) 25)).size (.cells (arr pc) 25)
        have x2 := box_new (w2.alloc (.cells (arr po) 25)) pc 25
        rw [e3] at x2
        exact ⟨(HK.out.below' d2).below' d3, (box_new w2 po 25).alloc _, x2, chain0 (chain0 HB.out d2) d3⟩
      clear d2 z0 HK HB
      unfold arr at M0
      go_wp2_with fail
      generalize World.alloc (World.alloc w2 _) _ = w3 at *
      generalize w2.heap.size = go at *
      go_loopw [10] (fun iv wr => ∃ k : Nat, k ≤ S.ps.length ∧ iv = .int .i64 (k : Int) ∧ Hid (∀ j, j < k → over S l l.length j = false) ∧ Hid (RfM w wr w.heap.size go #[.slice A1 S.ps.length c1, .slice A2 S.bs.length c2, .slice A3 S.cs.length c3, .slice A4 S.ad.length c4] po pc)) (fun iv _ => S.ps.length - (intOf iv).toNat)
      case atStart => exact ⟨0, Nat.zero_le _, rfl, (fun j h => absurd h (Nat.not_lt_zero _)), M0.out⟩
      case round =>
        clear M0
        obtain ⟨k, hk, rfl, HJ, M⟩ := hrel
        have hk0 : (0 : Int) ≤ (k : Int) := by omega
        have z0 := M.out.k.c4
        have zl := M.out.k.lt
        by_cases hkn : k < S.ps.length
        · have hd1 : decide (k < S.ps.length) = true := decide_eq_true hkn
          have hd2 : decide ((k : Int) < (S.ps.length : Int)) = true := decide_eq_true (by omega)
          have hkn1 : (k : Int) < (S.ps.length : Int) := by omega
          have hk6 : k < 6 := Nat.lt_of_lt_of_le hkn HP6.out.2
          have hk6i : (k : Int) < 6 := by omega
          go_wp2_with fail
          clear z0 zl
          go_loopw [13, 11, 12] (fun iv av qv wr => ∃ (n : Nat) (a q : Int), n ≤ l.length ∧ iv = .int .i64 (n : Int) ∧ av = .int .i64 a ∧ qv = .int .i64 q ∧ Hid (a = sumL l n k) ∧ Hid (q = outL S l n k) ∧ Hid (RfM w wr w.heap.size go #[.slice A1 S.ps.length c1, .slice A2 S.bs.length c2, .slice A3 S.cs.length c3, .slice A4 S.ad.length c4] po pc)) (fun iv _ _ _ => l.length - (intOf iv).toNat)
          case atStart => exact ⟨0, 0, 0, Nat.zero_le _, rfl, rfl, rfl, (sumL_zero l k).symm, rfl, M.out⟩
          case round =>
            clear M
            obtain ⟨n, a, q, hn, rfl, rfl, rfl, HSA, HOQ, M⟩ := hrel
            have hn0 : (0 : Int) ≤ (n : Int) := by omega
            by_cases hnl : n < l.length
            · have hd3 : decide (n < l.length) = true := decide_eq_true hnl
              have hd4 : decide ((n : Int) < (l.length : Int)) = true := decide_eq_true (by omega)
              have hnl1 : (n : Int) < (l.length : Int) := by omega
              have hnb : n < S.bs.length := by rw [← HN.out]; exact hnl
              have hnb1 : (n : Int) < (S.bs.length : Int) := by omega
              obtain ⟨bb, o, e1, hbb, hrow⟩ := HR.out (by omega)
              subst e1
              have HAT0 : Hid (∀ W, Below w.heap.size w W → W.cell? ⟨bb, o + n * 6 + k, none⟩ = some (.int .i64 (l[n] k))) := fun W d => bun_cell (hrow.below hbb d) n hnl k hk6
              obtain ⟨cb, co, e1, hcb, hcrow⟩ := HRB.out (by omega)
              subst e1
              have hct := (BidRow.at_ (show BidRow wr cb co S.bs from hcrow.below hcb M.out.bel) n hnb).2.1
              have hcl := Nat.lt_of_lt_of_le hcb M.out.bel.size
              obtain ⟨x, hx⟩ : ∃ x, x = l[n] k := ⟨_, rfl⟩
              have HAT := HAT0
              rw [← hx] at HAT
              have hat := HAT.out _ M.out.bel
              have hbr := Nat.lt_of_lt_of_le hbb M.out.bel.size
              have z0 := M.out.k.c4
              have zl := M.out.k.lt
              have pc1 := M.out.c.cell k hk6
              have lc := M.out.c.lt
              obtain ⟨cx, hcx⟩ : ∃ cx, cx = clsF S.ad k := ⟨_, rfl⟩
              obtain ⟨cn, hcn⟩ : ∃ cn, cn = clsOf S (n : Int) := ⟨_, rfl⟩
              rw [HPC.out, ← hcx] at pc1
              rw [← HBC.out n hnb, ← hcn] at hct
              have hb1 := HSB.out k hk6 n (Nat.le_of_lt hnl)
              have hb2 := HPB.out n hnl k hk6
              have hb3 := hl8.out
              rw [HGD.out n hnl, ← hx] at hb2
              have HA2 : Hid (a + x = sumL l (n + 1) k) := by
                show _ = _
                rw [HSS.out n hnl k, HSA.out, HGD.out n hnl, hx]
              have HO2a : Hid (outL S l (n + 1) k = q + if cx = 0 ∨ cx = cn then 0 else x) := by
                show _ = _
                rw [outL, ← HOQ.out, HGD.out n hnl]
                unfold outP
                rw [← hcx, ← hcn, ← hx]
              rw [← HSA.out, ← HOQ.out] at hb1
              have wd1 : IntKind.i64.wrap (a + x) = a + x := IntWalk.i64_in _ (by omega)
              have wd2 : IntKind.i64.wrap (q + x) = q + x := IntWalk.i64_in _ (by omega)
              clear hx hcx hcn hb1 hb2 hb3 hrow hcrow HAT0 HSA HOQ
              cases t4 : (cx != 0) with
              | false =>
                have HO2 : Hid (q = outL S l (n + 1) k) := by show _ = _; rw [HO2a.out, if_pos (.inl (by simpa using t4)), Int.add_zero]
                clear HO2a
                go_wp2_with fail
                go_quiet (fail)
                have N := Lib.hid (M.out.keep (drewN_below _ nq))
                have hat2 : (wr.drewN nq).cell? ⟨bb, o + n * 6 + k, none⟩ = some (.int .i64 x) := HAT.out _ N.out.bel
                have hbr2 : bb < (wr.drewN nq).heap.size := Nat.lt_of_lt_of_le hbb N.out.bel.size
                clear z0 zl pc1 lc hat hbr hct hcl
                generalize wr.drewN nq = W at *
                go_wp2_with fail
                go_roundw
                case rel => exact ⟨n + 1, a + x, q, hnl, by go_num, rfl, rfl, HA2.out, HO2.out, N.out⟩
                case measure => simp [intOf]; omega
              | true =>
                cases t5 : (cx != cn) with
                | false =>
                  have HO2 : Hid (q = outL S l (n + 1) k) := by show _ = _; rw [HO2a.out, if_pos (.inr (by simpa using t5)), Int.add_zero]
                  clear HO2a
                  go_wp2_with fail
                  go_quiet (fail)
                  have N := Lib.hid (M.out.keep (drewN_below _ nq))
                  have hat2 : (wr.drewN nq).cell? ⟨bb, o + n * 6 + k, none⟩ = some (.int .i64 x) := HAT.out _ N.out.bel
                  have hbr2 : bb < (wr.drewN nq).heap.size := Nat.lt_of_lt_of_le hbb N.out.bel.size
                  clear z0 zl pc1 lc hat hbr hct hcl
                  generalize wr.drewN nq = W at *
                  go_wp2_with fail
                  go_roundw
                  case rel => exact ⟨n + 1, a + x, q, hnl, by go_num, rfl, rfl, HA2.out, HO2.out, N.out⟩
                  case measure => simp [intOf]; omega
                | true =>
                  have HO2 : Hid (q + x = outL S l (n + 1) k) := by show _ = _; rw [HO2a.out, if_neg (fun e => e.elim (fun e => by rw [e] at t4; exact absurd t4 (by decide)) (fun e => by rw [e] at t5; simp at t5))]
                  clear HO2a
                  go_wp2_with fail
                  go_quiet (fail)
                  have N := Lib.hid (M.out.keep (drewN_below _ nq))
                  have hat2 : (wr.drewN nq).cell? ⟨bb, o + n * 6 + k, none⟩ = some (.int .i64 x) := HAT.out _ N.out.bel
                  have hbr2 : bb < (wr.drewN nq).heap.size := Nat.lt_of_lt_of_le hbb N.out.bel.size
                  clear z0 zl pc1 lc hat hbr hct hcl
                  generalize wr.drewN nq = W at *
                  go_wp2_with fail
                  go_roundw
                  case rel => exact ⟨n + 1, a + x, q + x, hnl, by go_num, rfl, rfl, HA2.out, HO2.out, N.out⟩
                  case measure => simp [intOf]; omega
            · obtain rfl : n = l.length := by omega
              have hd3 : decide (l.length < l.length) = false := decide_eq_false (Nat.lt_irrefl _)
              have hd4 : decide ((l.length : Int) < (l.length : Int)) = false := decide_eq_false (Int.lt_irrefl _)
              obtain ⟨pb, po1, e1, hpb, hprow⟩ := HRP.out (by omega)
              subst e1
              have hat := (ProdRow.at_ (hprow.below hpb M.out.bel) k hkn).2.1
              have hbr := Nat.lt_of_lt_of_le hpb M.out.bel.size
              rw [← HSP.out k hkn] at hat
              have z0 := M.out.k.c4
              have zl := M.out.k.lt
              have pp := M.out.o.cell k hk6
              have lp := M.out.o.lt
              rw [HPO.out] at pp
              have HOV : Hid (over S l l.length k = (decide (supP S.ps k < a) || decide (openF S.ps S.ad k < q))) := by show _ = _; rw [HSA.out, HOQ.out]; rfl
              generalize supP S.ps k = sx at *
              generalize openF S.ps S.ad k = ox at *
              clear hprow HSA HOQ
              cases t6 : decide (sx < a) with
              | true =>
                have HV2 := Lib.hid (HV.out.trans (if_pos (HOA.out k hk6 (by rw [HOV.out, t6]; rfl))))
                clear HOV
                go_wp2_with fail
                go_ret
                exact ⟨by rw [HV2.out]; rfl, M.out.bel⟩
              | false =>
                cases t7 : decide (ox < q) with
                | true =>
                  have HV2 := Lib.hid (HV.out.trans (if_pos (HOA.out k hk6 (by rw [HOV.out, t6, t7]; rfl))))
                  clear HOV
                  go_wp2_with fail
                  go_ret
                  exact ⟨by rw [HV2.out]; rfl, M.out.bel⟩
                | false =>
                  have HJ2 : Hid (∀ j, j < k + 1 → over S l l.length j = false) := by
                    intro j hj
                    by_cases e : j = k
                    · subst e; rw [HOV.out, t6, t7]; rfl
                    · exact HJ.out j (by omega)
                  clear HOV
                  go_wp2_with fail
                  go_roundw
                  case rel => exact ⟨k + 1, hkn, by go_num, HJ2.out, M.out⟩
                  case measure => simp [intOf]; omega
        · obtain rfl : k = S.ps.length := by omega
          have hd1 : decide (S.ps.length < S.ps.length) = false := decide_eq_false (Nat.lt_irrefl _)
          have hd2 : decide ((S.ps.length : Int) < (S.ps.length : Int)) = false := decide_eq_false (Int.lt_irrefl _)
          have HV2 := Lib.hid (HV.out.trans (if_neg (by
            rw [HON.out fun j hj => by
              by_cases hj2 : j < S.ps.length
              · exact HJ.out j hj2
              · exact HOB.out j hj (by omega)]
            simp)))
          go_wp2_with fail
          go_ret
          exact ⟨by rw [HV2.out]; rfl, M.out.bel⟩

theorem RmM.set {w wr : World} {g gr : Nat} {cs : Array Value} {q : Nat → Int} (h : RmM w wr g gr cs q) (k : Nat) (hk : k < 6) (v : Int) : RmM w (wr.setCell ⟨gr, k, none⟩ (.int .i64 v)) g gr cs (upd q k v) :=
  ⟨h.k.far (p := ⟨gr, k, none⟩) (by show g ≠ gr; have := h.l1; omega) _, h.c.other (by have := h.l1; omega) _, h.a.set k hk v, h.bel.setCell (p := ⟨gr, k, none⟩) (by show w.heap.size ≤ gr; have := h.l1; have := h.le; omega) _, h.le, h.l1⟩
set_option maxHeartbeats 4000000 in
set_option maxRecDepth 100000 in
theorem rrest_any (S : SetD) (l : List (Nat → Int)) (v1 v2 v3 v4 v : Value) (w : World) (h : SetW w v1 v2 v3 v4 S) (hb : BunS w v l) (hl : l.length ≤ 5000) : Calls Tryz.prog 30 #[.agg #[v1, v2, v3, v4], v] w fun e w' => e = .returned (.agg (arr (restS S l))) ∧ Below w.heap.size w w' := by
  obtain ⟨A1, c1, A2, c2, A3, c3, A4, c4, rfl, rfl, rfl, rfl⟩ := h.forms
  have CF := Lib.hid (fun W (d : Below w.heap.size w W) => rfeas_any S l _ _ _ _ v W (h.keep d) (hb.keep d) hl)
  have CSU := Lib.hid (fun W (d : Below w.heap.size w W) => rsupply_any S.ps _ W h.lp (h.p.keep d))
  obtain ⟨A, c, rfl, k1, k2, hr⟩ := sl_parts hb
  have HR := Lib.hid hr
  have hll : (l.length : Int) ≤ 5000 := by omega
  obtain ⟨R, hR⟩ : ∃ R, R = restS S l := ⟨_, rfl⟩
  have HRES := Lib.hid hR
  rw [← hR]
  have e1 : (w.alloc (.cells #[.slice A1 S.ps.length c1, .slice A2 S.bs.length c2, .slice A3 S.cs.length c3, .slice A4 S.ad.length c4] 38)).heap.size = w.heap.size + 1 := World.size_alloc _ _
  have x1 := box_new (w.alloc (.cells #[.slice A1 S.ps.length c1, .slice A2 S.bs.length c2, .slice A3 S.cs.length c3, .slice A4 S.ad.length c4] 38)) zero6 25
  rw [e1] at x1
  have X0 := Lib.hid x1
  have K0 := Lib.hid ((Blk.new w 38 #[.slice A1 S.ps.length c1, .slice A2 S.bs.length c2, .slice A3 S.cs.length c3, .slice A4 S.ad.length c4]).alloc (.cells (arr zero6) 25))
  have B0 := Lib.hid ((below_new w (.cells #[.slice A1 S.ps.length c1, .slice A2 S.bs.length c2, .slice A3 S.cs.length c3, .slice A4 S.ad.length c4] 38)).alloc (below_new w (.cells #[.slice A1 S.ps.length c1, .slice A2 S.bs.length c2, .slice A3 S.cs.length c3, .slice A4 S.ad.length c4] 38)).size (.cells (arr zero6) 25))
  clear h hb hr hR e1 x1 k1 k2
  go_enter Tryz.func30, Tryz.ntmps30
  have z0 := K0.out.c4
  go_wp2_with fail
  refine (CF.out _ B0.out).mono ?_
  rintro e w1 ⟨rfl, d1⟩
  have B1 := Lib.hid (chain0 B0.out d1)
  have K1 := Lib.hid (K0.out.below' d1)
  have X1 := Lib.hid (X0.out.below d1 X0.out.lt)
  clear d1 B0 K0 X0 z0 CF
  have z0 := K1.out.c4
  have z1 := X1.out.cells
  have z2 := X1.out.free
  have z3 := X1.out.lt
  by_cases hz : feasE S l = 0
  case neg =>
    have t1 : (feasE S l != 0) = true := by simpa using hz
    have HV := Lib.hid (HRES.out.trans (if_neg hz))
    clear hz
    go_wp2_with fail
    have M3 := fill6_box X1.out zero6
    have M4 := fill6_below B1.out (c := w.heap.size + 1) (by omega) zero6
    obtain ⟨a0, a1, a2, a3, a4, a5⟩ := M3.cells
    unfold fill6 zero6 at a0 a1 a2 a3 a4 a5
    refine bodyPost_ret (v := .agg (arr zero6)) (by simp [results, Tryz.results30, go_sem, arr, zero6, a0, a1, a2, a3, a4, a5]) rfl ⟨by rw [HV.out], M4⟩
  have t1 : (feasE S l != 0) = false := by rw [hz]; rfl
  have HV := Lib.hid (HRES.out.trans (if_pos hz))
  have hfp := feas_parts hz
  have HBN := Lib.hid (fun n (hn : n < l.length) j i (hi : i < 6) => pK_bounds (S := S) (l := l) (n := n) (j := j) (i := i) hfp.1 hfp.2.2.1 (by rw [hfp.2.1]; exact (rosE_zero (setE_parts hfp.1).2.1).2.1) hn hi)
  have HQ0 := Lib.hid (puK_zero S l)
  have HQS := Lib.hid (fun n hn j i => puK_step (S := S) (l := l) (n := n) (j := j) hn i)
  have HQN := Lib.hid (puK_next S l)
  have HGD := Lib.hid (getD_at l)
  clear hz hfp HRES
  go_wp2_with fail
  refine (CSU.out _ B1.out).mono ?_
  rintro e w2 ⟨rfl, d2⟩
  have hgr : w.heap.size + 1 < w2.heap.size := (X1.out.below d2 X1.out.lt).lt
  have M0 : Hid (RmM w (w2.alloc (.cells (arr (supP S.ps)) 25)) w.heap.size w2.heap.size #[.slice A1 S.ps.length c1, .slice A2 S.bs.length c2, .slice A3 S.cs.length c3, .slice A4 S.ad.length c4] (supP S.ps)) := ⟨(K1.out.below' d2).alloc _, (X1.out.below d2 X1.out.lt).alloc _, box_new w2 _ _, (chain0 B1.out d2).alloc (chain0 B1.out d2).size _, Nat.le_refl _, hgr⟩
  clear d2 z0 z1 z2 z3 t1 CSU K1 X1 B1
  go_wp2_with fail
  generalize w2.alloc _ = w3 at *
  generalize w2.heap.size = gr at *
  go_loopw [6] (fun iv wr => ∃ n : Nat, n ≤ l.length ∧ iv = .int .i64 (n : Int) ∧ Hid (RmM w wr w.heap.size gr #[.slice A1 S.ps.length c1, .slice A2 S.bs.length c2, .slice A3 S.cs.length c3, .slice A4 S.ad.length c4] (puK S l n 0))) (fun iv _ => l.length - (intOf iv).toNat)
  case atStart => exact ⟨0, Nat.zero_le _, rfl, M0.out.same fun k _ => (HQ0.out k).symm⟩
  case round =>
    clear M0
    obtain ⟨n, hn, rfl, M⟩ := hrel
    have hn0 : (0 : Int) ≤ (n : Int) := by omega
    by_cases hnl : n < l.length
    · have hd1 : decide (n < l.length) = true := decide_eq_true hnl
      have hd2 : decide ((n : Int) < (l.length : Int)) = true := decide_eq_true (by omega)
      have hnl1 : (n : Int) < (l.length : Int) := by omega
      obtain ⟨bb, o, e1, hbb, hrow⟩ := HR.out (by omega)
      subst e1
      have HAT : Hid (∀ k (hk : k < 6) W, Below w.heap.size w W → W.cell? ⟨bb, o + n * 6 + k, none⟩ = some (.int .i64 (l[n] k))) := fun k hk W d => bun_cell (hrow.below hbb d) n hnl k hk
      clear hrow
      go_wp2_with fail
      go_loopw [7] (fun iv wr => ∃ j : Nat, j ≤ 6 ∧ iv = .int .i64 (j : Int) ∧ Hid (RmM w wr w.heap.size gr #[.slice A1 S.ps.length c1, .slice A2 S.bs.length c2, .slice A3 S.cs.length c3, .slice A4 S.ad.length c4] (puK S l n j))) (fun iv _ => 6 - (intOf iv).toNat)
      case atStart => exact ⟨0, Nat.zero_le _, rfl, M.out⟩
      case round =>
        clear M
        obtain ⟨j, hj, rfl, M⟩ := hrel
        have hj0 : (0 : Int) ≤ (j : Int) := by omega
        by_cases hj6 : j < 6
        · have hd3 : decide (j < 6) = true := decide_eq_true hj6
          have hd4 : decide ((j : Int) < 6) = true := decide_eq_true (by omega)
          have hj6i : (j : Int) < 6 := by omega
          have hat := HAT.out j hj6 _ M.out.bel
          have hbr := Nat.lt_of_lt_of_le hbb M.out.bel.size
          have pa := M.out.a.cell j hj6
          have fa := M.out.a.free j
          have la := M.out.a.lt
          obtain ⟨b1, _, b3, _⟩ := HBN.out n hnl j j hj6
          rw [HGD.out n hnl] at b3
          have HST := Lib.hid (HQS.out n hnl j)
          rw [HGD.out n hnl] at HST
          generalize puK S l n j = q at *
          generalize l[n] = x at *
          have wd : IntKind.i64.wrap (q j - x j) = q j - x j := IntWalk.i64_in _ (by omega)
          clear b1 b3
          generalize x j = xj at *
          obtain ⟨qj, hqj⟩ : ∃ qj, qj = q j := ⟨_, rfl⟩
          rw [← hqj] at pa wd HST
          clear hqj
          go_wp2_with fail
          go_region_with (fail)
          all_goals go_wp2_with fail
          all_goals
            go_roundw
            case rel => exact ⟨j + 1, hj6, by go_num, ((RmM.keep M.out (below_of_drew0 _)).set j hj6 _).same fun k _ => HST.out k⟩
            case measure => simp [intOf]; omega
        · obtain rfl : j = 6 := by omega
          have hd3 : decide (6 < 6) = false := by decide
          have hd4 : decide (((6 : Nat) : Int) < 6) = false := by decide
          go_wp2_with fail
          go_roundw
          case rel => exact ⟨n + 1, hnl, by go_num, M.out.same fun k hk => HQN.out n k hk⟩
          case measure => simp [intOf]; omega
    · obtain rfl : n = l.length := by omega
      have hd1 : decide (l.length < l.length) = false := decide_eq_false (Nat.lt_irrefl _)
      have hd2 : decide ((l.length : Int) < (l.length : Int)) = false := decide_eq_false (Int.lt_irrefl _)
      have HE : Hid (R = fun k => supP S.ps k - sumL l l.length k) := HV.out
      have N : Hid (RmM w wr w.heap.size gr #[.slice A1 S.ps.length c1, .slice A2 S.bs.length c2, .slice A3 S.cs.length c3, .slice A4 S.ad.length c4] R) := M.out.same fun k _ => by rw [HE.out]; unfold puK; rw [if_neg (by omega)]
      clear M HE
      have z0 := N.out.a.cells
      have z1 := N.out.a.lt
      have z2 := N.out.c.free
      have z3 := N.out.c.lt
      have z4 := N.out.c.cells
      go_wp2_with fail
      have M3 := fill6_box N.out.c R
      have M4 := fill6_below N.out.bel (c := w.heap.size + 1) (by omega) R
      obtain ⟨a0, a1, a2, a3, a4, a5⟩ := M3.cells
      unfold fill6 at a0 a1 a2 a3 a4 a5
      refine bodyPost_ret (v := .agg (arr R)) (by simp [results, Tryz.results30, go_sem, arr, a0, a1, a2, a3, a4, a5]) rfl ⟨rfl, M4⟩

end Go.Proofs.YtjjlhihocllgjaaGreatDoor.Se
