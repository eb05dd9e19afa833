/- Contract of event.Parse, continued. Printed by gen_eva3.py. -/
import Derived.Test.YtaikmgnpfbnjjaaGreatDoorPu33
import Derived.Deep.RegionLaw
namespace Go.Proofs.YtaikmgnpfbnjjaaGreatDoor.Ev
open Go.ChangeShapes Go.WideShapes Go.ChangeAt Go.RowKit Gn Cat Lex Ros Se
set_option linter.unusedVariables false
set_option linter.unusedSimpArgs false
set_option maxHeartbeats 8000000 in
set_option maxRecDepth 100000 in
theorem parse_at_6 (S : SetD) (s : ByteArray) (v1 v2 v3 v4 : Value) (w : World) (h : SetW w v1 v2 v3 v4 S) (hsh : Sh w) (hs : ¬ 4000 < s.size) (hk : kindOf (cutL s.data.toList).1 = 6) : Calls Tryz.prog 21 #[.agg #[v1, v2, v3, v4], .string s] w (ParseP (parseV S s) w) := by
  have hs5 : s.size ≤ 5000 := by omega
  have hd : decide ((4000 : Int) < (s.size : Int)) = false := decide_eq_false (by omega)
  have CU := Lib.hid (fun W b => cut_any s W (sh_keep hsh b) hs5)
  have CO := Lib.hid (fun W => kindOf_any (ofL (cutL s.data.toList).1) W)
  rw [ofL_list, hk] at CO
  have CP := Lib.hid (fun W b => split_ev 6 (by decide) s W (sh_keep hsh b) hs5)
  have CK := Lib.hid (fun W => fields_any 6 W)
  rw [show fieldsK 6 = 1 by decide] at CK
  have CC := Lib.hid check_any
  have j0 := fun W => (five_idx W).1
  have j1 := fun W => (five_idx W).2.1
  have j2 := fun W => (five_idx W).2.2.1
  have j3 := fun W => (five_idx W).2.2.2.1
  have j4 := fun W => (five_idx W).2.2.2.2
  have HPW := Lib.hid (fun x => pv_words (S := S) hs hk (by decide) x)
  have HPR := Lib.hid (fun x y => pv_rest (S := S) hs hk (by decide) x y)
  have HSH := Lib.hid hsh
  have HSW := Lib.hid h
  have HRS := Lib.hid (rest_size s)
  have HS := Lib.hid hs
  have HPN := Lib.hid (fun x y z => pv_none (S := S) hs hk (by decide) x y z)
  have t1 : (bits BinOp.and IntKind.i64 1 1 == 0) = false := by decide +kernel
  have t2 : (bits BinOp.and IntKind.i64 1 2 == 0) = true := by decide +kernel
  have t4 : (bits BinOp.and IntKind.i64 1 4 == 0) = true := by decide +kernel
  have t8 : (bits BinOp.and IntKind.i64 1 8 == 0) = true := by decide +kernel
  have t16 : (bits BinOp.and IntKind.i64 1 16 == 0) = true := by decide +kernel
  obtain ⟨A1, c1, A2, c2, A3, c3, A4, c4, rfl, rfl, rfl, rfl⟩ := h.forms
  have N0 := Lib.hid (pn_new w #[.slice A1 S.ps.length c1, .slice A2 S.bs.length c2, .slice A3 S.cs.length c3, .slice A4 S.ad.length c4])
  generalize parseV S s = V at *
  generalize ofL (cutL s.data.toList).1 = f1 at *
  generalize ofL (cutL s.data.toList).2.1 = f2 at CU
  generalize (cutL s.data.toList).2.2 = f3 at CU
  unfold SplitPost at CP
  clear h hsh hs hk hs5
  go_enter Tryz.func21, Tryz.ntmps21
  go_wp2_with fail
  refine (CU.out _ N0.out.bl).mono ?_
  rintro x w1 ⟨rfl, d1⟩
  have N1 := Lib.hid (N0.out.keep d1)
  clear d1 N0
  go_wp2_with fail
  refine (CO.out _).mono ?_
  rintro x w2 ⟨rfl, d2⟩
  have N2 := Lib.hid (N1.out.keep d2)
  have M2 := Lib.hid (N2.out.ev #[.int .i64 6, .int .i64 0, .int .i64 0, .int .i64 0, .int .i64 0, .int .i64 0, .int .i64 0, .int .i64 0, .int .i64 0, .string ⟨#[]⟩, .int .u64 0])
  clear d2 N1 N2
  go_wp2_with fail
  generalize w2.alloc (.cells #[.int .i64 6, .int .i64 0, .int .i64 0, .int .i64 0, .int .i64 0, .int .i64 0, .int .i64 0, .int .i64 0, .int .i64 0, .string ⟨#[]⟩, .int .u64 0] 26) = w3 at *
  generalize w2.heap.size = ge at *
  refine (CP.out _ M2.out.bl).mono ?_
  rintro x w4 ⟨A, n, c, rfl, d4, ws, ha⟩
  have HA4 := Lib.hid ha
  have HGE := Lib.hid (M2.out.ev.lt)
  have M4 := Lib.hid (M2.out.keep d4)
  have WS0 := Lib.hid ws
  clear d4 M2 ws ha CU CO CP
  have su := M4.out.su.c4
  have lu := M4.out.su.lt
  have se := Blk11 M4.out.ev
  have le := M4.out.ev.lt
  cases his : isW 6 s with
  | false =>
    have HV := Lib.hid (HPW.out his)
    try rw [his]
    have sr := Blk11 M4.out.res
    have lr := M4.out.res.lt
    go_wp2_with fail
    try dsimp only [Exit.noGoto, Exit.inBlock, Exit.then]
    exact bodyPost_ret (v := .tuple #[.agg #[.int .i64 0, .int .i64 0, .int .i64 0, .int .i64 0, .int .i64 0, .int .i64 0, .int .i64 0, .int .i64 0, .int .i64 0, .string ⟨#[]⟩, .int .u64 0], .int .i64 (2)]) (results_blk_tmp rfl rfl (put_all M4.out.res _ _ _ _ _ _ _ _ _ _ _) Tryz.underlying26 rfl (by kernel_rfl) rfl) rfl ⟨by rw [HV.out]; rfl, below_all M4.out.bl (Nat.le_succ _) _ _ _ _ _ _ _ _ _ _ _⟩
  | true =>
    have HP := Lib.hid (HPR.out his)
    have WS1 := Lib.hid (WS0.out his)
    have HIS := Lib.hid his
    try rw [his]
    clear WS0 his HPW HPR
    have WS2 : Hid (WS w4 (.slice A n c) [ofL (cutL s.data.toList).2.1]) := WS1.out
    have hn : n = 1 := ws_len WS1.out
    subst hn
    obtain ⟨ow1, hA⟩ := HA4.out HIS.out (by decide)
    subst hA
    have HBW : Hid (w3.heap.size ≠ ge) := by show _ ≠ _; have := HGE.out; omega
    generalize w3.heap.size = bw1 at *
    clear WS1
    have hu1 : (ofL (cutL s.data.toList).2.1).size ≤ 5000 := by rw [ofL_size]; have := HRS.out.1; have := HS.out; omega
    obtain ⟨-, hwc1, hwl1⟩ := ws_lt WS2.out (by decide)
    obtain ⟨Aw1, hAw1, hsl1⟩ := slice_one bw1 ow1 1 (c) (by decide) hwc1
    have WT1 := Lib.hid (ws_tail WS2.out (by decide) hAw1)
    have HAW1 := Lib.hid hAw1
    have hwg1 := ws_get WS2.out (j := 0) (by simp)
    rw [Nat.add_zero] at hwg1
    try rw [List.getElem_cons_zero] at hwg1
    clear hAw1
    go_wp2_with fail
    refine wp_loop_rounds 6 ?_
    rw [rounds_succ]
    go_wp2_with fail
    refine (CK.out _).mono ?_
    rintro x wq ⟨rfl, rfl⟩
    go_wp2_with fail
    have HON : Hid ((ofL (cutL s.data.toList).2.1) = nameW s) := only_name (by decide) HIS.out
    have CF0 := fun W b => word_1 S ⟨6, 0, 0, zero6, ⟨#[]⟩, 0⟩ (ofL (cutL s.data.toList).2.1) _ _ _ _ W (HSW.out.keep b) hu1
    rw [HON.out] at CF0 hwg1
    cases hf : findB S.bs (nameW s) with
    | none =>
      have CF1 := CF0
      rw [show findB S.bs (nameW s) = none from hf, if_pos rfl, if_pos rfl] at CF1
      have HV := Lib.hid (HPN.out HIS.out (by decide) hf)
      clear CF0 HPN HP hf hu1 
      have CW1 : Hid (∀ W, Below w.heap.size w W → Calls Tryz.prog 57 #[.agg #[.slice A1 S.ps.length c1, .slice A2 S.bs.length c2, .slice A3 S.cs.length c3, .slice A4 S.ad.length c4], .agg #[.int .i64 6, .int .i64 0, .int .i64 0, .int .i64 0, .int .i64 0, .int .i64 0, .int .i64 0, .int .i64 0, .int .i64 0, .string ⟨#[]⟩, .int .u64 0], .int .i64 1, .string (nameW s)] W fun r w' => r = .returned (.tuple #[.agg #[.int .i64 6, .int .i64 0, .int .i64 0, .int .i64 0, .int .i64 0, .int .i64 0, .int .i64 0, .int .i64 0, .int .i64 0, .string ⟨#[]⟩, .int .u64 0], .int .i64 (6)]) ∧ Below W.heap.size W w') := CF1
      go_cut [12] from 53 to 69 (fun fv wx => fv = .int .i64 (6) ∧ Hid (PM w wx ge #[.slice A1 S.ps.length c1, .slice A2 S.bs.length c2, .slice A3 S.cs.length c3, .slice A4 S.ad.length c4] #[.int .i64 6, .int .i64 0, .int .i64 0, .int .i64 0, .int .i64 0, .int .i64 0, .int .i64 0, .int .i64 0, .int .i64 0, .string ⟨#[]⟩, .int .u64 0]) ∧ Hid (WS wx (.slice Aw1 (1 - 1) (c - 1)) []))
      case first =>
        go_region_law (first | (go_simp; go_at_call 57; refine (CW1.out _ M4.out.bl.drew).mono ?_; rintro x w7 ⟨rfl, d7⟩; have M7 := Lib.hid (PM.keep (M4.out.keep (Below.refl _ _).drew) d7); have W7 := Lib.hid ((WT1.out.keep (Below.refl _ _).drew).keep d7); have se7 := Blk11 M7.out.ev; have le7 := M7.out.ev.lt))
        all_goals
          go_wp2_with fail
          go_meet
          exact ⟨rfl, M7.out.puts _ _ _ _ _ _ _ _ _ _ _, ws_only W7.out (fun h0 => ⟨bw1, ow1 + 1, HAW1.out (by omega), HBW.out⟩) (only_puts _ _ _ _ _ _ _ _ _ _ _ _ _)⟩
      case rest =>
        obtain ⟨rfl, M1x, WX1⟩ := hcut
        clear CW1 M4 su lu se le hwg1 hwl1
        generalize wc = wc1 at *
        have su := M1x.out.su.c4
        have lu := M1x.out.su.lt
        have se := Blk11 M1x.out.ev
        have le := M1x.out.ev.lt
        have sr := Blk11 M1x.out.res
        have lr := M1x.out.res.lt
        go_wp2_with fail
        try dsimp only [Exit.noGoto, Exit.inBlock, Exit.then]
        exact bodyPost_ret (v := .tuple #[.agg #[.int .i64 0, .int .i64 0, .int .i64 0, .int .i64 0, .int .i64 0, .int .i64 0, .int .i64 0, .int .i64 0, .int .i64 0, .string ⟨#[]⟩, .int .u64 0], .int .i64 (6)]) (results_blk_tmp rfl rfl (put_all M1x.out.res _ _ _ _ _ _ _ _ _ _ _) Tryz.underlying26 rfl (by kernel_rfl) rfl) rfl ⟨by rw [HV.out]; rfl, below_all M1x.out.bl (Nat.le_succ _) _ _ _ _ _ _ _ _ _ _ _⟩
    | some i =>
      have CF1 := CF0
      rw [show findB S.bs (nameW s) = some i from hf, if_neg (by simp), if_neg (by simp), (find_ok hf).1] at CF1
      have HPI := Lib.hid (HP.out (by rw [hf]; rintro ⟨_, h⟩; cases h))
      rw [hf] at HPI
      clear CF0 HPN HP hf hu1
      have CW1 : Hid (∀ W, Below w.heap.size w W → Calls Tryz.prog 57 #[.agg #[.slice A1 S.ps.length c1, .slice A2 S.bs.length c2, .slice A3 S.cs.length c3, .slice A4 S.ad.length c4], .agg #[.int .i64 6, .int .i64 0, .int .i64 0, .int .i64 0, .int .i64 0, .int .i64 0, .int .i64 0, .int .i64 0, .int .i64 0, .string ⟨#[]⟩, .int .u64 0], .int .i64 1, .string (nameW s)] W fun r w' => r = .returned (.tuple #[.agg #[.int .i64 6, .int .i64 (i : Int), .int .i64 0, .int .i64 0, .int .i64 0, .int .i64 0, .int .i64 0, .int .i64 0, .int .i64 0, .string ⟨#[]⟩, .int .u64 0], .int .i64 (0)]) ∧ Below W.heap.size W w') := CF1
      go_cut [12] from 53 to 69 (fun fv wx => fv = .int .i64 (0) ∧ Hid (PM w wx ge #[.slice A1 S.ps.length c1, .slice A2 S.bs.length c2, .slice A3 S.cs.length c3, .slice A4 S.ad.length c4] #[.int .i64 6, .int .i64 (i : Int), .int .i64 0, .int .i64 0, .int .i64 0, .int .i64 0, .int .i64 0, .int .i64 0, .int .i64 0, .string ⟨#[]⟩, .int .u64 0]) ∧ Hid (WS wx (.slice Aw1 (1 - 1) (c - 1)) []))
      case first =>
        go_region_law (first | (go_simp; go_at_call 57; refine (CW1.out _ M4.out.bl.drew).mono ?_; rintro x w7 ⟨rfl, d7⟩; have M7 := Lib.hid (PM.keep (M4.out.keep (Below.refl _ _).drew) d7); have W7 := Lib.hid ((WT1.out.keep (Below.refl _ _).drew).keep d7); have se7 := Blk11 M7.out.ev; have le7 := M7.out.ev.lt))
        all_goals
          go_wp2_with fail
          go_meet
          exact ⟨rfl, M7.out.puts _ _ _ _ _ _ _ _ _ _ _, ws_only W7.out (fun h0 => ⟨bw1, ow1 + 1, HAW1.out (by omega), HBW.out⟩) (only_puts _ _ _ _ _ _ _ _ _ _ _ _ _)⟩
      case rest =>
        obtain ⟨rfl, M1x, WX1⟩ := hcut
        clear CW1 M4 su lu se le hwg1 hwl1
        generalize wc = wc1 at *
        have su := M1x.out.su.c4
        have lu := M1x.out.su.lt
        have se := Blk11 M1x.out.ev
        have le := M1x.out.ev.lt
        go_wp2_with fail
        rw [rounds_succ]
        go_wp2_with fail
        refine (CK.out _).mono ?_
        rintro x wq ⟨rfl, rfl⟩
        go_wp2_with fail
        rw [rounds_succ]
        go_wp2_with fail
        refine (CK.out _).mono ?_
        rintro x wq ⟨rfl, rfl⟩
        go_wp2_with fail
        rw [rounds_succ]
        go_wp2_with fail
        refine (CK.out _).mono ?_
        rintro x wq ⟨rfl, rfl⟩
        go_wp2_with fail
        rw [rounds_succ]
        go_wp2_with fail
        refine (CK.out _).mono ?_
        rintro x wq ⟨rfl, rfl⟩
        go_wp2_with fail
        have HFV : Hid (V = endV ((⟨6, (i : Int), 0, zero6, ⟨#[]⟩, 0⟩ : Evt), 0)) := by
          show V = _
          rw [HPI.out]
          rfl
        clear HPI
        rw [rounds_succ]
        go_wp2_with fail
        have CE := fun W => CC.out (⟨6, (i : Int), 0, zero6, ⟨#[]⟩, 0⟩ : Evt) W (Nat.zero_le _) (show (0 : Nat) < 18446744073709551616 by decide)
        have HVA := Lib.hid (fun h => HFV.out.trans (end_chk rfl h))
        have HVB := Lib.hid (fun h => HFV.out.trans (end_ok rfl h))
        unfold Evt.val at CE
        dsimp only at CE HVA HVB
        generalize checkV (⟨6, (i : Int), 0, zero6, ⟨#[]⟩, 0⟩ : Evt) = ck at *
        refine (CE _).mono ?_
        rintro x w9 ⟨rfl, d9⟩
        have M9 := Lib.hid (M1x.out.keep d9)
        clear d9 M1x su lu se le CE
        have su := M9.out.su.c4
        have lu := M9.out.su.lt
        have se := Blk11 M9.out.ev
        have le := M9.out.ev.lt
        by_cases hck : ck ≠ 0
        · have dc : (ck != 0) = true := by simpa using hck
          have HV := Lib.hid (HVA.out hck)
          clear HVA HVB HFV
          have sr := Blk11 M9.out.res
          have lr := M9.out.res.lt
          go_wp2_with fail
          try dsimp only [Exit.noGoto, Exit.inBlock, Exit.then]
          exact bodyPost_ret (v := .tuple #[.agg #[.int .i64 0, .int .i64 0, .int .i64 0, .int .i64 0, .int .i64 0, .int .i64 0, .int .i64 0, .int .i64 0, .int .i64 0, .string ⟨#[]⟩, .int .u64 0], .int .i64 (ck)]) (results_blk_tmp rfl rfl (put_all M9.out.res _ _ _ _ _ _ _ _ _ _ _) Tryz.underlying26 rfl (by kernel_rfl) rfl) rfl ⟨by rw [HV.out]; rfl, below_all M9.out.bl (Nat.le_succ _) _ _ _ _ _ _ _ _ _ _ _⟩
        · have hc0 : ck = 0 := Classical.not_not.1 hck
          have dc : (ck != 0) = false := by rw [hc0]; rfl
          have HV := Lib.hid (HVB.out hc0)
          have sr := Blk11 M9.out.res
          have lr := M9.out.res.lt
          have hge := M9.out.hg
          clear HVA HVB HFV hck hc0
          go_wp2_with fail
          try dsimp only [Exit.noGoto, Exit.inBlock, Exit.then]
          exact bodyPost_ret (v := .tuple #[.agg #[.int .i64 6, .int .i64 (i : Int), .int .i64 0, .int .i64 0, .int .i64 0, .int .i64 0, .int .i64 0, .int .i64 0, .int .i64 0, .string ⟨#[]⟩, .int .u64 0], .int .i64 0]) (results_blk_tmp rfl rfl (put_all M9.out.res _ _ _ _ _ _ _ _ _ _ _) Tryz.underlying26 rfl (by kernel_rfl) rfl) rfl ⟨by rw [HV.out]; rfl, below_all M9.out.bl (Nat.le_succ _) _ _ _ _ _ _ _ _ _ _ _⟩
set_option maxHeartbeats 8000000 in
set_option maxRecDepth 100000 in
theorem parse_at_7 (S : SetD) (s : ByteArray) (v1 v2 v3 v4 : Value) (w : World) (h : SetW w v1 v2 v3 v4 S) (hsh : Sh w) (hs : ¬ 4000 < s.size) (hk : kindOf (cutL s.data.toList).1 = 7) : Calls Tryz.prog 21 #[.agg #[v1, v2, v3, v4], .string s] w (ParseP (parseV S s) w) := by
  have hs5 : s.size ≤ 5000 := by omega
  have hd : decide ((4000 : Int) < (s.size : Int)) = false := decide_eq_false (by omega)
  have CU := Lib.hid (fun W b => cut_any s W (sh_keep hsh b) hs5)
  have CO := Lib.hid (fun W => kindOf_any (ofL (cutL s.data.toList).1) W)
  rw [ofL_list, hk] at CO
  have CP := Lib.hid (fun W b => split_ev 7 (by decide) s W (sh_keep hsh b) hs5)
  have CK := Lib.hid (fun W => fields_any 7 W)
  rw [show fieldsK 7 = 1 by decide] at CK
  have CC := Lib.hid check_any
  have j0 := fun W => (five_idx W).1
  have j1 := fun W => (five_idx W).2.1
  have j2 := fun W => (five_idx W).2.2.1
  have j3 := fun W => (five_idx W).2.2.2.1
  have j4 := fun W => (five_idx W).2.2.2.2
  have HPW := Lib.hid (fun x => pv_words (S := S) hs hk (by decide) x)
  have HPR := Lib.hid (fun x y => pv_rest (S := S) hs hk (by decide) x y)
  have HSH := Lib.hid hsh
  have HSW := Lib.hid h
  have HRS := Lib.hid (rest_size s)
  have HS := Lib.hid hs
  have HPN := Lib.hid (fun x y z => pv_none (S := S) hs hk (by decide) x y z)
  have t1 : (bits BinOp.and IntKind.i64 1 1 == 0) = false := by decide +kernel
  have t2 : (bits BinOp.and IntKind.i64 1 2 == 0) = true := by decide +kernel
  have t4 : (bits BinOp.and IntKind.i64 1 4 == 0) = true := by decide +kernel
  have t8 : (bits BinOp.and IntKind.i64 1 8 == 0) = true := by decide +kernel
  have t16 : (bits BinOp.and IntKind.i64 1 16 == 0) = true := by decide +kernel
  obtain ⟨A1, c1, A2, c2, A3, c3, A4, c4, rfl, rfl, rfl, rfl⟩ := h.forms
  have N0 := Lib.hid (pn_new w #[.slice A1 S.ps.length c1, .slice A2 S.bs.length c2, .slice A3 S.cs.length c3, .slice A4 S.ad.length c4])
  generalize parseV S s = V at *
  generalize ofL (cutL s.data.toList).1 = f1 at *
  generalize ofL (cutL s.data.toList).2.1 = f2 at CU
  generalize (cutL s.data.toList).2.2 = f3 at CU
  unfold SplitPost at CP
  clear h hsh hs hk hs5
  go_enter Tryz.func21, Tryz.ntmps21
  go_wp2_with fail
  refine (CU.out _ N0.out.bl).mono ?_
  rintro x w1 ⟨rfl, d1⟩
  have N1 := Lib.hid (N0.out.keep d1)
  clear d1 N0
  go_wp2_with fail
  refine (CO.out _).mono ?_
  rintro x w2 ⟨rfl, d2⟩
  have N2 := Lib.hid (N1.out.keep d2)
  have M2 := Lib.hid (N2.out.ev #[.int .i64 7, .int .i64 0, .int .i64 0, .int .i64 0, .int .i64 0, .int .i64 0, .int .i64 0, .int .i64 0, .int .i64 0, .string ⟨#[]⟩, .int .u64 0])
  clear d2 N1 N2
  go_wp2_with fail
  generalize w2.alloc (.cells #[.int .i64 7, .int .i64 0, .int .i64 0, .int .i64 0, .int .i64 0, .int .i64 0, .int .i64 0, .int .i64 0, .int .i64 0, .string ⟨#[]⟩, .int .u64 0] 26) = w3 at *
  generalize w2.heap.size = ge at *
  refine (CP.out _ M2.out.bl).mono ?_
  rintro x w4 ⟨A, n, c, rfl, d4, ws, ha⟩
  have HA4 := Lib.hid ha
  have HGE := Lib.hid (M2.out.ev.lt)
  have M4 := Lib.hid (M2.out.keep d4)
  have WS0 := Lib.hid ws
  clear d4 M2 ws ha CU CO CP
  have su := M4.out.su.c4
  have lu := M4.out.su.lt
  have se := Blk11 M4.out.ev
  have le := M4.out.ev.lt
  cases his : isW 7 s with
  | false =>
    have HV := Lib.hid (HPW.out his)
    try rw [his]
    have sr := Blk11 M4.out.res
    have lr := M4.out.res.lt
    go_wp2_with fail
    try dsimp only [Exit.noGoto, Exit.inBlock, Exit.then]
    exact bodyPost_ret (v := .tuple #[.agg #[.int .i64 0, .int .i64 0, .int .i64 0, .int .i64 0, .int .i64 0, .int .i64 0, .int .i64 0, .int .i64 0, .int .i64 0, .string ⟨#[]⟩, .int .u64 0], .int .i64 (2)]) (results_blk_tmp rfl rfl (put_all M4.out.res _ _ _ _ _ _ _ _ _ _ _) Tryz.underlying26 rfl (by kernel_rfl) rfl) rfl ⟨by rw [HV.out]; rfl, below_all M4.out.bl (Nat.le_succ _) _ _ _ _ _ _ _ _ _ _ _⟩
  | true =>
    have HP := Lib.hid (HPR.out his)
    have WS1 := Lib.hid (WS0.out his)
    have HIS := Lib.hid his
    try rw [his]
    clear WS0 his HPW HPR
    have WS2 : Hid (WS w4 (.slice A n c) [ofL (cutL s.data.toList).2.1]) := WS1.out
    have hn : n = 1 := ws_len WS1.out
    subst hn
    obtain ⟨ow1, hA⟩ := HA4.out HIS.out (by decide)
    subst hA
    have HBW : Hid (w3.heap.size ≠ ge) := by show _ ≠ _; have := HGE.out; omega
    generalize w3.heap.size = bw1 at *
    clear WS1
    have hu1 : (ofL (cutL s.data.toList).2.1).size ≤ 5000 := by rw [ofL_size]; have := HRS.out.1; have := HS.out; omega
    obtain ⟨-, hwc1, hwl1⟩ := ws_lt WS2.out (by decide)
    obtain ⟨Aw1, hAw1, hsl1⟩ := slice_one bw1 ow1 1 (c) (by decide) hwc1
    have WT1 := Lib.hid (ws_tail WS2.out (by decide) hAw1)
    have HAW1 := Lib.hid hAw1
    have hwg1 := ws_get WS2.out (j := 0) (by simp)
    rw [Nat.add_zero] at hwg1
    try rw [List.getElem_cons_zero] at hwg1
    clear hAw1
    go_wp2_with fail
    refine wp_loop_rounds 6 ?_
    rw [rounds_succ]
    go_wp2_with fail
    refine (CK.out _).mono ?_
    rintro x wq ⟨rfl, rfl⟩
    go_wp2_with fail
    have HON : Hid ((ofL (cutL s.data.toList).2.1) = nameW s) := only_name (by decide) HIS.out
    have CF0 := fun W b => word_1 S ⟨7, 0, 0, zero6, ⟨#[]⟩, 0⟩ (ofL (cutL s.data.toList).2.1) _ _ _ _ W (HSW.out.keep b) hu1
    rw [HON.out] at CF0 hwg1
    cases hf : findB S.bs (nameW s) with
    | none =>
      have CF1 := CF0
      rw [show findB S.bs (nameW s) = none from hf, if_pos rfl, if_pos rfl] at CF1
      have HV := Lib.hid (HPN.out HIS.out (by decide) hf)
      clear CF0 HPN HP hf hu1 
      have CW1 : Hid (∀ W, Below w.heap.size w W → Calls Tryz.prog 57 #[.agg #[.slice A1 S.ps.length c1, .slice A2 S.bs.length c2, .slice A3 S.cs.length c3, .slice A4 S.ad.length c4], .agg #[.int .i64 7, .int .i64 0, .int .i64 0, .int .i64 0, .int .i64 0, .int .i64 0, .int .i64 0, .int .i64 0, .int .i64 0, .string ⟨#[]⟩, .int .u64 0], .int .i64 1, .string (nameW s)] W fun r w' => r = .returned (.tuple #[.agg #[.int .i64 7, .int .i64 0, .int .i64 0, .int .i64 0, .int .i64 0, .int .i64 0, .int .i64 0, .int .i64 0, .int .i64 0, .string ⟨#[]⟩, .int .u64 0], .int .i64 (6)]) ∧ Below W.heap.size W w') := CF1
      go_cut [12] from 53 to 69 (fun fv wx => fv = .int .i64 (6) ∧ Hid (PM w wx ge #[.slice A1 S.ps.length c1, .slice A2 S.bs.length c2, .slice A3 S.cs.length c3, .slice A4 S.ad.length c4] #[.int .i64 7, .int .i64 0, .int .i64 0, .int .i64 0, .int .i64 0, .int .i64 0, .int .i64 0, .int .i64 0, .int .i64 0, .string ⟨#[]⟩, .int .u64 0]) ∧ Hid (WS wx (.slice Aw1 (1 - 1) (c - 1)) []))
      case first =>
        go_region_law (first | (go_simp; go_at_call 57; refine (CW1.out _ M4.out.bl.drew).mono ?_; rintro x w7 ⟨rfl, d7⟩; have M7 := Lib.hid (PM.keep (M4.out.keep (Below.refl _ _).drew) d7); have W7 := Lib.hid ((WT1.out.keep (Below.refl _ _).drew).keep d7); have se7 := Blk11 M7.out.ev; have le7 := M7.out.ev.lt))
        all_goals
          go_wp2_with fail
          go_meet
          exact ⟨rfl, M7.out.puts _ _ _ _ _ _ _ _ _ _ _, ws_only W7.out (fun h0 => ⟨bw1, ow1 + 1, HAW1.out (by omega), HBW.out⟩) (only_puts _ _ _ _ _ _ _ _ _ _ _ _ _)⟩
      case rest =>
        obtain ⟨rfl, M1x, WX1⟩ := hcut
        clear CW1 M4 su lu se le hwg1 hwl1
        generalize wc = wc1 at *
        have su := M1x.out.su.c4
        have lu := M1x.out.su.lt
        have se := Blk11 M1x.out.ev
        have le := M1x.out.ev.lt
        have sr := Blk11 M1x.out.res
        have lr := M1x.out.res.lt
        go_wp2_with fail
        try dsimp only [Exit.noGoto, Exit.inBlock, Exit.then]
        exact bodyPost_ret (v := .tuple #[.agg #[.int .i64 0, .int .i64 0, .int .i64 0, .int .i64 0, .int .i64 0, .int .i64 0, .int .i64 0, .int .i64 0, .int .i64 0, .string ⟨#[]⟩, .int .u64 0], .int .i64 (6)]) (results_blk_tmp rfl rfl (put_all M1x.out.res _ _ _ _ _ _ _ _ _ _ _) Tryz.underlying26 rfl (by kernel_rfl) rfl) rfl ⟨by rw [HV.out]; rfl, below_all M1x.out.bl (Nat.le_succ _) _ _ _ _ _ _ _ _ _ _ _⟩
    | some i =>
      have CF1 := CF0
      rw [show findB S.bs (nameW s) = some i from hf, if_neg (by simp), if_neg (by simp), (find_ok hf).1] at CF1
      have HPI := Lib.hid (HP.out (by rw [hf]; rintro ⟨_, h⟩; cases h))
      rw [hf] at HPI
      clear CF0 HPN HP hf hu1
      have CW1 : Hid (∀ W, Below w.heap.size w W → Calls Tryz.prog 57 #[.agg #[.slice A1 S.ps.length c1, .slice A2 S.bs.length c2, .slice A3 S.cs.length c3, .slice A4 S.ad.length c4], .agg #[.int .i64 7, .int .i64 0, .int .i64 0, .int .i64 0, .int .i64 0, .int .i64 0, .int .i64 0, .int .i64 0, .int .i64 0, .string ⟨#[]⟩, .int .u64 0], .int .i64 1, .string (nameW s)] W fun r w' => r = .returned (.tuple #[.agg #[.int .i64 7, .int .i64 (i : Int), .int .i64 0, .int .i64 0, .int .i64 0, .int .i64 0, .int .i64 0, .int .i64 0, .int .i64 0, .string ⟨#[]⟩, .int .u64 0], .int .i64 (0)]) ∧ Below W.heap.size W w') := CF1
      go_cut [12] from 53 to 69 (fun fv wx => fv = .int .i64 (0) ∧ Hid (PM w wx ge #[.slice A1 S.ps.length c1, .slice A2 S.bs.length c2, .slice A3 S.cs.length c3, .slice A4 S.ad.length c4] #[.int .i64 7, .int .i64 (i : Int), .int .i64 0, .int .i64 0, .int .i64 0, .int .i64 0, .int .i64 0, .int .i64 0, .int .i64 0, .string ⟨#[]⟩, .int .u64 0]) ∧ Hid (WS wx (.slice Aw1 (1 - 1) (c - 1)) []))
      case first =>
        go_region_law (first | (go_simp; go_at_call 57; refine (CW1.out _ M4.out.bl.drew).mono ?_; rintro x w7 ⟨rfl, d7⟩; have M7 := Lib.hid (PM.keep (M4.out.keep (Below.refl _ _).drew) d7); have W7 := Lib.hid ((WT1.out.keep (Below.refl _ _).drew).keep d7); have se7 := Blk11 M7.out.ev; have le7 := M7.out.ev.lt))
        all_goals
          go_wp2_with fail
          go_meet
          exact ⟨rfl, M7.out.puts _ _ _ _ _ _ _ _ _ _ _, ws_only W7.out (fun h0 => ⟨bw1, ow1 + 1, HAW1.out (by omega), HBW.out⟩) (only_puts _ _ _ _ _ _ _ _ _ _ _ _ _)⟩
      case rest =>
        obtain ⟨rfl, M1x, WX1⟩ := hcut
        clear CW1 M4 su lu se le hwg1 hwl1
        generalize wc = wc1 at *
        have su := M1x.out.su.c4
        have lu := M1x.out.su.lt
        have se := Blk11 M1x.out.ev
        have le := M1x.out.ev.lt
        go_wp2_with fail
        rw [rounds_succ]
        go_wp2_with fail
        refine (CK.out _).mono ?_
        rintro x wq ⟨rfl, rfl⟩
        go_wp2_with fail
        rw [rounds_succ]
        go_wp2_with fail
        refine (CK.out _).mono ?_
        rintro x wq ⟨rfl, rfl⟩
        go_wp2_with fail
        rw [rounds_succ]
        go_wp2_with fail
        refine (CK.out _).mono ?_
        rintro x wq ⟨rfl, rfl⟩
        go_wp2_with fail
        rw [rounds_succ]
        go_wp2_with fail
        refine (CK.out _).mono ?_
        rintro x wq ⟨rfl, rfl⟩
        go_wp2_with fail
        have HFV : Hid (V = endV ((⟨7, (i : Int), 0, zero6, ⟨#[]⟩, 0⟩ : Evt), 0)) := by
          show V = _
          rw [HPI.out]
          rfl
        clear HPI
        rw [rounds_succ]
        go_wp2_with fail
        have CE := fun W => CC.out (⟨7, (i : Int), 0, zero6, ⟨#[]⟩, 0⟩ : Evt) W (Nat.zero_le _) (show (0 : Nat) < 18446744073709551616 by decide)
        have HVA := Lib.hid (fun h => HFV.out.trans (end_chk rfl h))
        have HVB := Lib.hid (fun h => HFV.out.trans (end_ok rfl h))
        unfold Evt.val at CE
        dsimp only at CE HVA HVB
        generalize checkV (⟨7, (i : Int), 0, zero6, ⟨#[]⟩, 0⟩ : Evt) = ck at *
        refine (CE _).mono ?_
        rintro x w9 ⟨rfl, d9⟩
        have M9 := Lib.hid (M1x.out.keep d9)
        clear d9 M1x su lu se le CE
        have su := M9.out.su.c4
        have lu := M9.out.su.lt
        have se := Blk11 M9.out.ev
        have le := M9.out.ev.lt
        by_cases hck : ck ≠ 0
        · have dc : (ck != 0) = true := by simpa using hck
          have HV := Lib.hid (HVA.out hck)
          clear HVA HVB HFV
          have sr := Blk11 M9.out.res
          have lr := M9.out.res.lt
          go_wp2_with fail
          try dsimp only [Exit.noGoto, Exit.inBlock, Exit.then]
          exact bodyPost_ret (v := .tuple #[.agg #[.int .i64 0, .int .i64 0, .int .i64 0, .int .i64 0, .int .i64 0, .int .i64 0, .int .i64 0, .int .i64 0, .int .i64 0, .string ⟨#[]⟩, .int .u64 0], .int .i64 (ck)]) (results_blk_tmp rfl rfl (put_all M9.out.res _ _ _ _ _ _ _ _ _ _ _) Tryz.underlying26 rfl (by kernel_rfl) rfl) rfl ⟨by rw [HV.out]; rfl, below_all M9.out.bl (Nat.le_succ _) _ _ _ _ _ _ _ _ _ _ _⟩
        · have hc0 : ck = 0 := Classical.not_not.1 hck
          have dc : (ck != 0) = false := by rw [hc0]; rfl
          have HV := Lib.hid (HVB.out hc0)
          have sr := Blk11 M9.out.res
          have lr := M9.out.res.lt
          have hge := M9.out.hg
          clear HVA HVB HFV hck hc0
          go_wp2_with fail
          try dsimp only [Exit.noGoto, Exit.inBlock, Exit.then]
          exact bodyPost_ret (v := .tuple #[.agg #[.int .i64 7, .int .i64 (i : Int), .int .i64 0, .int .i64 0, .int .i64 0, .int .i64 0, .int .i64 0, .int .i64 0, .int .i64 0, .string ⟨#[]⟩, .int .u64 0], .int .i64 0]) (results_blk_tmp rfl rfl (put_all M9.out.res _ _ _ _ _ _ _ _ _ _ _) Tryz.underlying26 rfl (by kernel_rfl) rfl) rfl ⟨by rw [HV.out]; rfl, below_all M9.out.bl (Nat.le_succ _) _ _ _ _ _ _ _ _ _ _ _⟩
end Go.Proofs.YtaikmgnpfbnjjaaGreatDoor.Ev
