/- Contract of the reference's Parse. Printed by gen_eve4.py. -/
import Derived.Test.YtaikmgnpfbnjjaaGreatDoorPu35
namespace Go.Proofs.YtaikmgnpfbnjjaaGreatDoor.Ev
open Go.ChangeShapes Go.WideShapes Go.ChangeAt Go.RowKit Gn Cat Lex Ros Se
set_option linter.unusedVariables false
set_option linter.unusedSimpArgs false
set_option maxHeartbeats 8000000 in
set_option maxRecDepth 100000 in
theorem rparse_bare (S : SetD) (s : ByteArray) (v1 v2 v3 v4 : Value) (w : World) (h : SetW w v1 v2 v3 v4 S) (hs : ¬ 4000 < s.size) (k : Int) (hk : kindOf (cutL s.data.toList).1 = k) (hkk : k = 3 ∨ k = 4 ∨ k = 9) : Calls Tryz.prog 22 #[.agg #[v1, v2, v3, v4], .string s] w (ParseP (parseV S s) w) := by
  have hs5 : s.size ≤ 5000 := by omega
  have hd : decide ((4000 : Int) < (s.size : Int)) = false := decide_eq_false (by omega)
  have CU := Lib.hid (fun W => rcut_any s W hs5)
  have CN := Lib.hid (fun j W => rname_any j W)
  have CC := Lib.hid rcheckE_any
  have HRS := Lib.hid (rest_size s)
  have HS := Lib.hid hs
  have HSW := Lib.hid h
  have hu1 : (ofL (cutL s.data.toList).2.1).size ≤ 5000 := by rw [ofL_size]; have := HRS.out.1; omega
  have HNE : Hid (∀ j : Nat, 1 ≤ j → j ≤ 10 → (nameK (j : Int) = ofL (cutL s.data.toList).1 ↔ k = (j : Int))) := fun j h1 h2 => by
    rw [kind_iff _ (j : Int) (by omega) (by omega), ofL_list, hk]
  have hkr : 0 ≤ k ∧ k ≤ 10 := by omega
  have HKR := Lib.hid hkr
  have HKO : Hid (kf k 1 = 0) := kf_one k hkr.1
  have k0 : (k == 0) = false := beq_eq_false_iff_ne.2 (by omega)
  have CWD := Lib.hid (fun W => rwords_bare k (ofL (cutL s.data.toList).2.1) (cutL s.data.toList).2.2 W hu1 hkk)
  rw [ofL_list] at CWD
  change Hid (∀ W, Calls Tryz.prog 59 #[.int .i64 k, .string (ofL (cutL s.data.toList).2.1), .bool (cutL s.data.toList).2.2] W fun x w' => x = .returned (.bool (isW k s)) ∧ Below W.heap.size W w') at CWD
  have CH := Lib.hid (fun W => rhas_any k W)
  have hhb : hasBb k = false := by unfold hasBb; rcases hkk with x | x | x <;> rw [x] <;> rfl
  rw [hhb] at CH
  clear hhb
  have k1 : (k == 1) = false := by exact beq_eq_false_iff_ne.2 (by omega)
  have k5 : (k == 5) = false := by exact beq_eq_false_iff_ne.2 (by omega)
  have k2 : (k == 2) = false := by exact beq_eq_false_iff_ne.2 (by omega)
  have k8 : (k == 8) = false := by exact beq_eq_false_iff_ne.2 (by omega)
  have k10 : (k == 10) = false := by exact beq_eq_false_iff_ne.2 (by omega)
  generalize hiw : isW k s = iw at *
  have HPW := Lib.hid (fun x => pv_words (S := S) hs hk (by omega) (hiw.trans x))
  have HPR := Lib.hid (fun x y => pv_rest (S := S) hs hk (by omega) (hiw.trans x) y)
  have HFL : Hid (∀ b : Int, fieldV S k b (cutL s.data.toList).2.1 = ((⟨k, b, 0, zero6, ⟨#[]⟩, 0⟩ : Evt), 0)) := fun b => by rcases hkk with rfl | rfl | rfl <;> rfl
  have HLO : Hid (lastOf k (cutL s.data.toList).2.1 = (cutL s.data.toList).2.1) := if_neg (by rintro (x | x | x | x) <;> omega)
  have HNB : ¬ hasB k := by rintro (x | x | x | x) <;> omega
  have HBI : Hid ((if hasB k then (((findB S.bs (nameW s)).getD 0 : Nat) : Int) else 0) = 0) := if_neg HNB
  obtain ⟨A1, c1, A2, c2, A3, c3, A4, c4, rfl, rfl, rfl, rfl⟩ := h.forms
  have N0 := Lib.hid (pn_new w #[.slice A1 S.ps.length c1, .slice A2 S.bs.length c2, .slice A3 S.cs.length c3, .slice A4 S.ad.length c4])
  generalize parseV S s = V at *
  generalize ofL (cutL s.data.toList).1 = f1 at *
  clear h hs hk hs5 hkk hiw
  go_enter Tryz.func22, Tryz.ntmps22
  go_wp2_with fail
  refine (CU.out _).mono ?_
  rintro x w1 ⟨rfl, d1⟩
  have N1 := Lib.hid (N0.out.keep d1)
  have M1 := Lib.hid (N1.out.ev #[.int .i64 0, .int .i64 0, .int .i64 0, .int .i64 0, .int .i64 0, .int .i64 0, .int .i64 0, .int .i64 0, .int .i64 0, .string ⟨#[]⟩, .int .u64 0])
  clear d1 N0 N1
  go_upto_region 5 with fail
  generalize w1.alloc (.cells #[.int .i64 0, .int .i64 0, .int .i64 0, .int .i64 0, .int .i64 0, .int .i64 0, .int .i64 0, .int .i64 0, .int .i64 0, .string ⟨#[]⟩, .int .u64 0] 26) = w2 at *
  generalize w1.heap.size = ge at *
  go_wp2_with fail
  go_loopw [10] (fun iv wr => ∃ n : Nat, 1 ≤ n ∧ n ≤ 11 ∧ iv = .int .i64 (n : Int) ∧ Hid (PM w wr ge #[.slice A1 S.ps.length c1, .slice A2 S.bs.length c2, .slice A3 S.cs.length c3, .slice A4 S.ad.length c4] #[.int .i64 (kf k n), .int .i64 0, .int .i64 0, .int .i64 0, .int .i64 0, .int .i64 0, .int .i64 0, .int .i64 0, .int .i64 0, .string ⟨#[]⟩, .int .u64 0])) (fun iv _ => 11 - (intOf iv).toNat)
  case atStart => exact ⟨1, by omega, by omega, rfl, by show PM _ _ _ _ _; rw [HKO.out]; exact M1.out⟩
  case round =>
    obtain ⟨n, hn1, hn2, rfl, HM⟩ := hrel
    have su := HM.out.su.c4
    have lu := HM.out.su.lt
    have se := Blk11 HM.out.ev
    have le := HM.out.ev.lt
    by_cases hn : n ≤ 10
    · have hdn : decide ((n : Int) ≤ 10) = true := decide_eq_true (by omega)
      go_wp2_with fail
      refine (CN.out _ _).mono ?_
      rintro x w3 ⟨rfl, d3⟩
      have M3 := Lib.hid (HM.out.keep d3)
      clear d3 HM su lu se le
      have su := M3.out.su.c4
      have lu := M3.out.su.lt
      have se := Blk11 M3.out.ev
      have le := M3.out.ev.lt
      by_cases he : k = (n : Int)
      · have hb := eqS_yes ((HNE.out n hn1 hn).2 he)
        have M4 : Hid (PM w (w3.setCell ⟨ge, 0, none⟩ (.int .i64 (n : Int))) ge #[.slice A1 S.ps.length c1, .slice A2 S.bs.length c2, .slice A3 S.cs.length c3, .slice A4 S.ad.length c4] #[.int .i64 (kf k (n + 1)), .int .i64 0, .int .i64 0, .int .i64 0, .int .i64 0, .int .i64 0, .int .i64 0, .int .i64 0, .int .i64 0, .string ⟨#[]⟩, .int .u64 0]) := by
          show PM _ _ _ _ _
          rw [kf_hit k n he]
          exact M3.out.put1 0 (.int .i64 (n : Int))
        clear he
        go_wp2_with fail
        go_roundw
        case rel => exact ⟨n + 1, by omega, by omega, by simp, M4.out⟩
        case measure => simp [intOf]; omega
      · have hb := eqS_no (fun e => he ((HNE.out n hn1 hn).1 e))
        have M4 : Hid (PM w w3 ge #[.slice A1 S.ps.length c1, .slice A2 S.bs.length c2, .slice A3 S.cs.length c3, .slice A4 S.ad.length c4] #[.int .i64 (kf k (n + 1)), .int .i64 0, .int .i64 0, .int .i64 0, .int .i64 0, .int .i64 0, .int .i64 0, .int .i64 0, .int .i64 0, .string ⟨#[]⟩, .int .u64 0]) := by
          show PM _ _ _ _ _
          rw [kf_miss k n he]
          exact M3.out
        clear he
        go_wp2_with fail
        go_roundw
        case rel => exact ⟨n + 1, by omega, by omega, by simp, M4.out⟩
        case measure => simp [intOf]; omega
    · have hdn : decide ((n : Int) ≤ 10) = false := decide_eq_false (by omega)
      have hke := kf_end k n HKR.out.2 (by omega)
      clear su lu se le
      rw [hke] at HM
      clear hke hn hn1 hn2
      have su := HM.out.su.c4
      have lu := HM.out.su.lt
      have se := Blk11 HM.out.ev
      have le := HM.out.ev.lt
      go_wp2_with fail
      refine (CWD.out _).mono ?_
      rintro x w3 ⟨rfl, d3⟩
      have M3 := Lib.hid (HM.out.keep d3)
      clear d3 HM su lu se le
      have su := M3.out.su.c4
      have lu := M3.out.su.lt
      have se := Blk11 M3.out.ev
      have le := M3.out.ev.lt
      cases hiv : iw with
      | false =>
        have HV := Lib.hid (HPW.out hiv)
        clear HPW HPR
        have sr := Blk11 M3.out.res
        have lr := M3.out.res.lt
        go_wp2_with fail
        try dsimp only [Exit.noGoto, Exit.inBlock, Exit.then]
        exact bodyPost_ret (v := .tuple #[.agg #[.int .i64 0, .int .i64 0, .int .i64 0, .int .i64 0, .int .i64 0, .int .i64 0, .int .i64 0, .int .i64 0, .int .i64 0, .string ⟨#[]⟩, .int .u64 0], .int .i64 (2)]) (results_blk_tmp rfl rfl (put_all M3.out.res _ _ _ _ _ _ _ _ _ _ _) Tryz.underlying26 rfl (by kernel_rfl) rfl) rfl ⟨by rw [HV.out]; rfl, below_all M3.out.bl (Nat.le_succ _) _ _ _ _ _ _ _ _ _ _ _⟩
      | true =>
        have HP := Lib.hid (HPR.out hiv)
        rw [HLO.out] at HP
        clear hiv HPW HPR 
        go_wp2_with fail
        refine (CH.out _).mono ?_
        rintro x wq ⟨rfl, rfl⟩
        rw [HBI.out] at HP
        have HP2 := Lib.hid (HP.out (fun x => HNB x.1))
        clear HP HNB
        rw [HFL.out] at HP2
        go_wp2_with fail
        have HFV : Hid (V = endV ((⟨k, 0, 0, zero6, ⟨#[]⟩, 0⟩ : Evt), 0)) := HP2.out
        clear HP2
        have CE := fun W => CC.out (⟨k, 0, 0, zero6, ⟨#[]⟩, 0⟩ : Evt) W (Nat.zero_le _) (show (0 : Nat) < 18446744073709551616 by decide)
        have HVA := Lib.hid (fun h => HFV.out.trans (end_chk rfl h))
        have HVB := Lib.hid (fun h => HFV.out.trans (end_ok rfl h))
        unfold Evt.val at CE
        dsimp only at CE HVA HVB
        generalize checkV (⟨k, 0, 0, zero6, ⟨#[]⟩, 0⟩ : Evt) = ck at *
        refine (CE _).mono ?_
        rintro x w9 ⟨rfl, d9⟩
        have M9 := Lib.hid (M3.out.keep d9)
        clear d9 M3 su lu se le CE
        have su := M9.out.su.c4
        have lu := M9.out.su.lt
        have se := Blk11 M9.out.ev
        have le := M9.out.ev.lt
        by_cases hck : ck ≠ 0
        · have dc : (ck != 0) = true := bne_iff_ne.2 hck
          have HV := Lib.hid (HVA.out hck)
          clear HVA HVB HFV
          have sr := Blk11 M9.out.res
          have lr := M9.out.res.lt
          go_wp2_with fail
          try dsimp only [Exit.noGoto, Exit.inBlock, Exit.then]
          exact bodyPost_ret (v := .tuple #[.agg #[.int .i64 0, .int .i64 0, .int .i64 0, .int .i64 0, .int .i64 0, .int .i64 0, .int .i64 0, .int .i64 0, .int .i64 0, .string ⟨#[]⟩, .int .u64 0], .int .i64 (ck)]) (results_blk_tmp rfl rfl (put_all M9.out.res _ _ _ _ _ _ _ _ _ _ _) Tryz.underlying26 rfl (by kernel_rfl) rfl) rfl ⟨by rw [HV.out]; rfl, below_all M9.out.bl (Nat.le_succ _) _ _ _ _ _ _ _ _ _ _ _⟩
        · have hc0 : ck = 0 := Classical.not_not.1 hck
          have dc : (ck != 0) = false := by rw [hc0]; rfl
          have HV := Lib.hid (HVB.out hc0)
          have sr := Blk11 M9.out.res
          have lr := M9.out.res.lt
          have hge := M9.out.hg
          clear HVA HVB HFV hck hc0
          go_wp2_with fail
          try dsimp only [Exit.noGoto, Exit.inBlock, Exit.then]
          exact bodyPost_ret (v := .tuple #[.agg #[.int .i64 k, .int .i64 0, .int .i64 0, .int .i64 0, .int .i64 0, .int .i64 0, .int .i64 0, .int .i64 0, .int .i64 0, .string ⟨#[]⟩, .int .u64 0], .int .i64 0]) (results_blk_tmp rfl rfl (put_all M9.out.res _ _ _ _ _ _ _ _ _ _ _) Tryz.underlying26 rfl (by kernel_rfl) rfl) rfl ⟨by rw [HV.out]; rfl, below_all M9.out.bl (Nat.le_succ _) _ _ _ _ _ _ _ _ _ _ _⟩
set_option maxHeartbeats 8000000 in
set_option maxRecDepth 100000 in
theorem rparse_out (S : SetD) (s : ByteArray) (v1 v2 v3 v4 : Value) (w : World) (h : SetW w v1 v2 v3 v4 S) (hs : ¬ 4000 < s.size) (k : Int) (hk : kindOf (cutL s.data.toList).1 = k) (hkk : k = 6 ∨ k = 7) : Calls Tryz.prog 22 #[.agg #[v1, v2, v3, v4], .string s] w (ParseP (parseV S s) w) := by
  have hs5 : s.size ≤ 5000 := by omega
  have hd : decide ((4000 : Int) < (s.size : Int)) = false := decide_eq_false (by omega)
  have CU := Lib.hid (fun W => rcut_any s W hs5)
  have CN := Lib.hid (fun j W => rname_any j W)
  have CC := Lib.hid rcheckE_any
  have HRS := Lib.hid (rest_size s)
  have HS := Lib.hid hs
  have HSW := Lib.hid h
  have hu1 : (ofL (cutL s.data.toList).2.1).size ≤ 5000 := by rw [ofL_size]; have := HRS.out.1; omega
  have HNE : Hid (∀ j : Nat, 1 ≤ j → j ≤ 10 → (nameK (j : Int) = ofL (cutL s.data.toList).1 ↔ k = (j : Int))) := fun j h1 h2 => by
    rw [kind_iff _ (j : Int) (by omega) (by omega), ofL_list, hk]
  have hkr : 0 ≤ k ∧ k ≤ 10 := by omega
  have HKR := Lib.hid hkr
  have HKO : Hid (kf k 1 = 0) := kf_one k hkr.1
  have k0 : (k == 0) = false := beq_eq_false_iff_ne.2 (by omega)
  have CWD := Lib.hid (fun W => rwords_oth k (ofL (cutL s.data.toList).2.1) (cutL s.data.toList).2.2 W hu1 (by omega))
  rw [ofL_list] at CWD
  change Hid (∀ W, Calls Tryz.prog 59 #[.int .i64 k, .string (ofL (cutL s.data.toList).2.1), .bool (cutL s.data.toList).2.2] W fun x w' => x = .returned (.bool (isW k s)) ∧ Below W.heap.size W w') at CWD
  have CH := Lib.hid (fun W => rhas_any k W)
  have hhb : hasBb k = true := by unfold hasBb; rcases hkk with x | x <;> rw [x] <;> rfl
  rw [hhb] at CH
  clear hhb
  have k1 : (k == 1) = false := by exact beq_eq_false_iff_ne.2 (by omega)
  have k5 : (k == 5) = false := by exact beq_eq_false_iff_ne.2 (by omega)
  have k2 : (k == 2) = false := by exact beq_eq_false_iff_ne.2 (by omega)
  have k8 : (k == 8) = false := by exact beq_eq_false_iff_ne.2 (by omega)
  have k10 : (k == 10) = false := by exact beq_eq_false_iff_ne.2 (by omega)
  generalize hiw : isW k s = iw at *
  have HPW := Lib.hid (fun x => pv_words (S := S) hs hk (by omega) (hiw.trans x))
  have HPR := Lib.hid (fun x y => pv_rest (S := S) hs hk (by omega) (hiw.trans x) y)
  have HHB : hasB k := by omega
  have HPN := Lib.hid (fun x z => pv_none (S := S) hs hk (by omega) (hiw.trans x) HHB z)
  have CU2 := Lib.hid (fun W => rcut_any (ofL (cutL s.data.toList).2.1) W hu1)
  rw [ofL_list] at CU2
  have CFD := Lib.hid (fun W (bw : Below w.heap.size w W) => Ros.rfind_any S.bs _ (nameW s) W h.lb (h.b.keep bw))
  unfold Ros.FindPost at CFD
  have hu2 : (ofL (cutL (cutL s.data.toList).2.1).2.1).size ≤ 5000 := by rw [ofL_size]; have := HRS.out.2.2; omega
  have HFL : Hid (∀ b : Int, fieldV S k b (cutL (cutL s.data.toList).2.1).2.1 = ((⟨k, b, 0, zero6, ⟨#[]⟩, 0⟩ : Evt), 0)) := fun b => by rcases hkk with rfl | rfl <;> rfl
  have HLO : Hid (lastOf k (cutL s.data.toList).2.1 = (cutL (cutL s.data.toList).2.1).2.1) := if_pos HHB
  have HBI : Hid (∀ i : Nat, findB S.bs (nameW s) = some i → (if hasB k then (((findB S.bs (nameW s)).getD 0 : Nat) : Int) else 0) = (i : Int)) := fun i hi => by rw [if_pos HHB, hi]; rfl
  obtain ⟨A1, c1, A2, c2, A3, c3, A4, c4, rfl, rfl, rfl, rfl⟩ := h.forms
  have N0 := Lib.hid (pn_new w #[.slice A1 S.ps.length c1, .slice A2 S.bs.length c2, .slice A3 S.cs.length c3, .slice A4 S.ad.length c4])
  generalize parseV S s = V at *
  generalize ofL (cutL s.data.toList).1 = f1 at *
  generalize hq3 : (cutL (cutL s.data.toList).2.1).2.2 = f5 at CU2
  clear hq3
  clear h hs hk hs5 hkk hiw
  go_enter Tryz.func22, Tryz.ntmps22
  go_wp2_with fail
  refine (CU.out _).mono ?_
  rintro x w1 ⟨rfl, d1⟩
  have N1 := Lib.hid (N0.out.keep d1)
  have M1 := Lib.hid (N1.out.ev #[.int .i64 0, .int .i64 0, .int .i64 0, .int .i64 0, .int .i64 0, .int .i64 0, .int .i64 0, .int .i64 0, .int .i64 0, .string ⟨#[]⟩, .int .u64 0])
  clear d1 N0 N1
  go_upto_region 5 with fail
  generalize w1.alloc (.cells #[.int .i64 0, .int .i64 0, .int .i64 0, .int .i64 0, .int .i64 0, .int .i64 0, .int .i64 0, .int .i64 0, .int .i64 0, .string ⟨#[]⟩, .int .u64 0] 26) = w2 at *
  generalize w1.heap.size = ge at *
  go_wp2_with fail
  go_loopw [10] (fun iv wr => ∃ n : Nat, 1 ≤ n ∧ n ≤ 11 ∧ iv = .int .i64 (n : Int) ∧ Hid (PM w wr ge #[.slice A1 S.ps.length c1, .slice A2 S.bs.length c2, .slice A3 S.cs.length c3, .slice A4 S.ad.length c4] #[.int .i64 (kf k n), .int .i64 0, .int .i64 0, .int .i64 0, .int .i64 0, .int .i64 0, .int .i64 0, .int .i64 0, .int .i64 0, .string ⟨#[]⟩, .int .u64 0])) (fun iv _ => 11 - (intOf iv).toNat)
  case atStart => exact ⟨1, by omega, by omega, rfl, by show PM _ _ _ _ _; rw [HKO.out]; exact M1.out⟩
  case round =>
    obtain ⟨n, hn1, hn2, rfl, HM⟩ := hrel
    have su := HM.out.su.c4
    have lu := HM.out.su.lt
    have se := Blk11 HM.out.ev
    have le := HM.out.ev.lt
    by_cases hn : n ≤ 10
    · have hdn : decide ((n : Int) ≤ 10) = true := decide_eq_true (by omega)
      go_wp2_with fail
      refine (CN.out _ _).mono ?_
      rintro x w3 ⟨rfl, d3⟩
      have M3 := Lib.hid (HM.out.keep d3)
      clear d3 HM su lu se le
      have su := M3.out.su.c4
      have lu := M3.out.su.lt
      have se := Blk11 M3.out.ev
      have le := M3.out.ev.lt
      by_cases he : k = (n : Int)
      · have hb := eqS_yes ((HNE.out n hn1 hn).2 he)
        have M4 : Hid (PM w (w3.setCell ⟨ge, 0, none⟩ (.int .i64 (n : Int))) ge #[.slice A1 S.ps.length c1, .slice A2 S.bs.length c2, .slice A3 S.cs.length c3, .slice A4 S.ad.length c4] #[.int .i64 (kf k (n + 1)), .int .i64 0, .int .i64 0, .int .i64 0, .int .i64 0, .int .i64 0, .int .i64 0, .int .i64 0, .int .i64 0, .string ⟨#[]⟩, .int .u64 0]) := by
          show PM _ _ _ _ _
          rw [kf_hit k n he]
          exact M3.out.put1 0 (.int .i64 (n : Int))
        clear he
        go_wp2_with fail
        go_roundw
        case rel => exact ⟨n + 1, by omega, by omega, by simp, M4.out⟩
        case measure => simp [intOf]; omega
      · have hb := eqS_no (fun e => he ((HNE.out n hn1 hn).1 e))
        have M4 : Hid (PM w w3 ge #[.slice A1 S.ps.length c1, .slice A2 S.bs.length c2, .slice A3 S.cs.length c3, .slice A4 S.ad.length c4] #[.int .i64 (kf k (n + 1)), .int .i64 0, .int .i64 0, .int .i64 0, .int .i64 0, .int .i64 0, .int .i64 0, .int .i64 0, .int .i64 0, .string ⟨#[]⟩, .int .u64 0]) := by
          show PM _ _ _ _ _
          rw [kf_miss k n he]
          exact M3.out
        clear he
        go_wp2_with fail
        go_roundw
        case rel => exact ⟨n + 1, by omega, by omega, by simp, M4.out⟩
        case measure => simp [intOf]; omega
    · have hdn : decide ((n : Int) ≤ 10) = false := decide_eq_false (by omega)
      have hke := kf_end k n HKR.out.2 (by omega)
      clear su lu se le
      rw [hke] at HM
      clear hke hn hn1 hn2
      have su := HM.out.su.c4
      have lu := HM.out.su.lt
      have se := Blk11 HM.out.ev
      have le := HM.out.ev.lt
      go_wp2_with fail
      refine (CWD.out _).mono ?_
      rintro x w3 ⟨rfl, d3⟩
      have M3 := Lib.hid (HM.out.keep d3)
      clear d3 HM su lu se le
      have su := M3.out.su.c4
      have lu := M3.out.su.lt
      have se := Blk11 M3.out.ev
      have le := M3.out.ev.lt
      cases hiv : iw with
      | false =>
        have HV := Lib.hid (HPW.out hiv)
        clear HPW HPR
        have sr := Blk11 M3.out.res
        have lr := M3.out.res.lt
        go_wp2_with fail
        try dsimp only [Exit.noGoto, Exit.inBlock, Exit.then]
        exact bodyPost_ret (v := .tuple #[.agg #[.int .i64 0, .int .i64 0, .int .i64 0, .int .i64 0, .int .i64 0, .int .i64 0, .int .i64 0, .int .i64 0, .int .i64 0, .string ⟨#[]⟩, .int .u64 0], .int .i64 (2)]) (results_blk_tmp rfl rfl (put_all M3.out.res _ _ _ _ _ _ _ _ _ _ _) Tryz.underlying26 rfl (by kernel_rfl) rfl) rfl ⟨by rw [HV.out]; rfl, below_all M3.out.bl (Nat.le_succ _) _ _ _ _ _ _ _ _ _ _ _⟩
      | true =>
        have HP := Lib.hid (HPR.out hiv)
        rw [HLO.out] at HP
        have HPN2 := Lib.hid (HPN.out hiv)
        clear hiv HPW HPR HPN
        go_wp2_with fail
        refine (CH.out _).mono ?_
        rintro x wq ⟨rfl, rfl⟩
        go_wp2_with fail
        refine (CU2.out _).mono ?_
        rintro x w4 ⟨rfl, d4⟩
        have M4 := Lib.hid (M3.out.keep d4)
        clear d4 M3 su lu se le
        have su := M4.out.su.c4
        have lu := M4.out.su.lt
        have se := Blk11 M4.out.ev
        have le := M4.out.ev.lt
        go_wp2_with fail
        refine (CFD.out _ M4.out.bl).mono ?_
        rintro x w5 ⟨rfl, d5⟩
        have M5 := Lib.hid (M4.out.keep d5)
        clear d5 M4 su lu se le
        have su := M5.out.su.c4
        have lu := M5.out.su.lt
        have se := Blk11 M5.out.ev
        have le := M5.out.ev.lt
        cases hf : findB S.bs (nameW s) with
        | none =>
          have HV := Lib.hid (HPN2.out hf)
          have hfo := (find_no hf).2
          rw [hfo]
          clear HP HPN2 hf hfo
          have sr := Blk11 M5.out.res
          have lr := M5.out.res.lt
          go_wp2_with fail
          try dsimp only [Exit.noGoto, Exit.inBlock, Exit.then]
          exact bodyPost_ret (v := .tuple #[.agg #[.int .i64 0, .int .i64 0, .int .i64 0, .int .i64 0, .int .i64 0, .int .i64 0, .int .i64 0, .int .i64 0, .int .i64 0, .string ⟨#[]⟩, .int .u64 0], .int .i64 (6)]) (results_blk_tmp rfl rfl (put_all M5.out.res _ _ _ _ _ _ _ _ _ _ _) Tryz.underlying26 rfl (by kernel_rfl) rfl) rfl ⟨by rw [HV.out]; rfl, below_all M5.out.bl (Nat.le_succ _) _ _ _ _ _ _ _ _ _ _ _⟩
        | some i =>
          obtain ⟨hf1, hf2⟩ := find_ok hf
          rw [hf1, hf2]
          have HBI2 := HBI.out i hf
          rw [HBI2] at HP
          have HP2 := Lib.hid (HP.out (by rw [hf]; rintro ⟨_, h⟩; cases h))
          have M6 : Hid (PM w (w5.setCell ⟨ge, 1, none⟩ (.int .i64 (i : Int))) ge #[.slice A1 S.ps.length c1, .slice A2 S.bs.length c2, .slice A3 S.cs.length c3, .slice A4 S.ad.length c4] #[.int .i64 k, .int .i64 (i : Int), .int .i64 0, .int .i64 0, .int .i64 0, .int .i64 0, .int .i64 0, .int .i64 0, .int .i64 0, .string ⟨#[]⟩, .int .u64 0]) := M5.out.put1 1 (.int .i64 (i : Int))
          clear HP HPN2 hf hf1 hf2 HBI2
          rw [HFL.out] at HP2
          go_upto_region 23 with fail
          generalize w5.setCell ⟨ge, 1, none⟩ (.int .i64 (i : Int)) = w6 at *
          clear M5 su lu se le
          have su := M6.out.su.c4
          have lu := M6.out.su.lt
          have se := Blk11 M6.out.ev
          have le := M6.out.ev.lt
          go_wp2_with fail
          have HFV : Hid (V = endV ((⟨k, (i : Int), 0, zero6, ⟨#[]⟩, 0⟩ : Evt), 0)) := HP2.out
          clear HP2
          have CE := fun W => CC.out (⟨k, (i : Int), 0, zero6, ⟨#[]⟩, 0⟩ : Evt) W (Nat.zero_le _) (show (0 : Nat) < 18446744073709551616 by decide)
          have HVA := Lib.hid (fun h => HFV.out.trans (end_chk rfl h))
          have HVB := Lib.hid (fun h => HFV.out.trans (end_ok rfl h))
          unfold Evt.val at CE
          dsimp only at CE HVA HVB
          generalize checkV (⟨k, (i : Int), 0, zero6, ⟨#[]⟩, 0⟩ : Evt) = ck at *
          refine (CE _).mono ?_
          rintro x w9 ⟨rfl, d9⟩
          have M9 := Lib.hid (M6.out.keep d9)
          clear d9 M6 su lu se le CE
          have su := M9.out.su.c4
          have lu := M9.out.su.lt
          have se := Blk11 M9.out.ev
          have le := M9.out.ev.lt
          by_cases hck : ck ≠ 0
          · have dc : (ck != 0) = true := bne_iff_ne.2 hck
            have HV := Lib.hid (HVA.out hck)
            clear HVA HVB HFV
            have sr := Blk11 M9.out.res
            have lr := M9.out.res.lt
            go_wp2_with fail
            try dsimp only [Exit.noGoto, Exit.inBlock, Exit.then]
            exact bodyPost_ret (v := .tuple #[.agg #[.int .i64 0, .int .i64 0, .int .i64 0, .int .i64 0, .int .i64 0, .int .i64 0, .int .i64 0, .int .i64 0, .int .i64 0, .string ⟨#[]⟩, .int .u64 0], .int .i64 (ck)]) (results_blk_tmp rfl rfl (put_all M9.out.res _ _ _ _ _ _ _ _ _ _ _) Tryz.underlying26 rfl (by kernel_rfl) rfl) rfl ⟨by rw [HV.out]; rfl, below_all M9.out.bl (Nat.le_succ _) _ _ _ _ _ _ _ _ _ _ _⟩
          · have hc0 : ck = 0 := Classical.not_not.1 hck
            have dc : (ck != 0) = false := by rw [hc0]; rfl
            have HV := Lib.hid (HVB.out hc0)
            have sr := Blk11 M9.out.res
            have lr := M9.out.res.lt
            have hge := M9.out.hg
            clear HVA HVB HFV hck hc0
            go_wp2_with fail
            try dsimp only [Exit.noGoto, Exit.inBlock, Exit.then]
            exact bodyPost_ret (v := .tuple #[.agg #[.int .i64 k, .int .i64 (i : Int), .int .i64 0, .int .i64 0, .int .i64 0, .int .i64 0, .int .i64 0, .int .i64 0, .int .i64 0, .string ⟨#[]⟩, .int .u64 0], .int .i64 0]) (results_blk_tmp rfl rfl (put_all M9.out.res _ _ _ _ _ _ _ _ _ _ _) Tryz.underlying26 rfl (by kernel_rfl) rfl) rfl ⟨by rw [HV.out]; rfl, below_all M9.out.bl (Nat.le_succ _) _ _ _ _ _ _ _ _ _ _ _⟩
set_option maxHeartbeats 8000000 in
set_option maxRecDepth 100000 in
theorem rparse_dem (S : SetD) (s : ByteArray) (v1 v2 v3 v4 : Value) (w : World) (h : SetW w v1 v2 v3 v4 S) (hs : ¬ 4000 < s.size) (k : Int) (hk : kindOf (cutL s.data.toList).1 = k) (hkk : k = 2) : Calls Tryz.prog 22 #[.agg #[v1, v2, v3, v4], .string s] w (ParseP (parseV S s) w) := by
  have hs5 : s.size ≤ 5000 := by omega
  have hd : decide ((4000 : Int) < (s.size : Int)) = false := decide_eq_false (by omega)
  have CU := Lib.hid (fun W => rcut_any s W hs5)
  have CN := Lib.hid (fun j W => rname_any j W)
  have CC := Lib.hid rcheckE_any
  have HRS := Lib.hid (rest_size s)
  have HS := Lib.hid hs
  have HSW := Lib.hid h
  have hu1 : (ofL (cutL s.data.toList).2.1).size ≤ 5000 := by rw [ofL_size]; have := HRS.out.1; omega
  have HNE : Hid (∀ j : Nat, 1 ≤ j → j ≤ 10 → (nameK (j : Int) = ofL (cutL s.data.toList).1 ↔ k = (j : Int))) := fun j h1 h2 => by
    rw [kind_iff _ (j : Int) (by omega) (by omega), ofL_list, hk]
  have hkr : 0 ≤ k ∧ k ≤ 10 := by omega
  have HKR := Lib.hid hkr
  have HKO : Hid (kf k 1 = 0) := kf_one k hkr.1
  have k0 : (k == 0) = false := beq_eq_false_iff_ne.2 (by omega)
  have CWD := Lib.hid (fun W => rwords_dem k (ofL (cutL s.data.toList).2.1) (cutL s.data.toList).2.2 W hu1 hkk)
  rw [ofL_list] at CWD
  change Hid (∀ W, Calls Tryz.prog 59 #[.int .i64 k, .string (ofL (cutL s.data.toList).2.1), .bool (cutL s.data.toList).2.2] W fun x w' => x = .returned (.bool (isW k s)) ∧ Below W.heap.size W w') at CWD
  have CH := Lib.hid (fun W => rhas_any k W)
  have hhb : hasBb k = true := by unfold hasBb; rw [hkk]; rfl
  rw [hhb] at CH
  clear hhb
  have k1 : (k == 1) = false := by exact beq_eq_false_iff_ne.2 (by omega)
  have k5 : (k == 5) = false := by exact beq_eq_false_iff_ne.2 (by omega)
  have k2 : (k == 2) = true := by rw [hkk]; rfl
  have k8 : (k == 8) = false := by exact beq_eq_false_iff_ne.2 (by omega)
  have k10 : (k == 10) = false := by exact beq_eq_false_iff_ne.2 (by omega)
  generalize hiw : isW k s = iw at *
  have HPW := Lib.hid (fun x => pv_words (S := S) hs hk (by omega) (hiw.trans x))
  have HPR := Lib.hid (fun x y => pv_rest (S := S) hs hk (by omega) (hiw.trans x) y)
  have HHB : hasB k := by omega
  have HPN := Lib.hid (fun x z => pv_none (S := S) hs hk (by omega) (hiw.trans x) HHB z)
  have CU2 := Lib.hid (fun W => rcut_any (ofL (cutL s.data.toList).2.1) W hu1)
  rw [ofL_list] at CU2
  have CFD := Lib.hid (fun W (bw : Below w.heap.size w W) => Ros.rfind_any S.bs _ (nameW s) W h.lb (h.b.keep bw))
  unfold Ros.FindPost at CFD
  have hu2 : (ofL (cutL (cutL s.data.toList).2.1).2.1).size ≤ 5000 := by rw [ofL_size]; have := HRS.out.2.2; omega
  have HFL : Hid (∀ b : Int, fieldV S k b (cutL (cutL s.data.toList).2.1).2.1 = ((⟨k, b, 0, (parseF S.ps (ofL (cutL (cutL s.data.toList).2.1).2.1)).1, ⟨#[]⟩, 0⟩ : Evt), (parseF S.ps (ofL (cutL (cutL s.data.toList).2.1).2.1)).2)) := fun b => by subst hkk; rfl
  have HLO : Hid (lastOf k (cutL s.data.toList).2.1 = (cutL (cutL s.data.toList).2.1).2.1) := if_pos HHB
  have HBI : Hid (∀ i : Nat, findB S.bs (nameW s) = some i → (if hasB k then (((findB S.bs (nameW s)).getD 0 : Nat) : Int) else 0) = (i : Int)) := fun i hi => by rw [if_pos HHB, hi]; rfl
  have CP := Lib.hid (fun W (bw : Below w.heap.size w W) => Cat.rparse_any S.ps _ (ofL (cutL (cutL s.data.toList).2.1).2.1) W (by have := h.lp; omega) (h.p.keep bw) h.np hu2)
  unfold Cat.ParsePost arr at CP
  generalize parseF S.ps (ofL (cutL (cutL s.data.toList).2.1).2.1) = q at *
  obtain ⟨q, x2⟩ := q
  dsimp only at CP HFL
  obtain ⟨A1, c1, A2, c2, A3, c3, A4, c4, rfl, rfl, rfl, rfl⟩ := h.forms
  have N0 := Lib.hid (pn_new w #[.slice A1 S.ps.length c1, .slice A2 S.bs.length c2, .slice A3 S.cs.length c3, .slice A4 S.ad.length c4])
  generalize parseV S s = V at *
  generalize ofL (cutL s.data.toList).1 = f1 at *
  generalize hq3 : (cutL (cutL s.data.toList).2.1).2.2 = f5 at CU2
  clear hq3
  clear h hs hk hs5 hkk hiw
  go_enter Tryz.func22, Tryz.ntmps22
  go_wp2_with fail
  refine (CU.out _).mono ?_
  rintro x w1 ⟨rfl, d1⟩
  have N1 := Lib.hid (N0.out.keep d1)
  have M1 := Lib.hid (N1.out.ev #[.int .i64 0, .int .i64 0, .int .i64 0, .int .i64 0, .int .i64 0, .int .i64 0, .int .i64 0, .int .i64 0, .int .i64 0, .string ⟨#[]⟩, .int .u64 0])
  clear d1 N0 N1
  go_upto_region 5 with fail
  generalize w1.alloc (.cells #[.int .i64 0, .int .i64 0, .int .i64 0, .int .i64 0, .int .i64 0, .int .i64 0, .int .i64 0, .int .i64 0, .int .i64 0, .string ⟨#[]⟩, .int .u64 0] 26) = w2 at *
  generalize w1.heap.size = ge at *
  go_wp2_with fail
  go_loopw [10] (fun iv wr => ∃ n : Nat, 1 ≤ n ∧ n ≤ 11 ∧ iv = .int .i64 (n : Int) ∧ Hid (PM w wr ge #[.slice A1 S.ps.length c1, .slice A2 S.bs.length c2, .slice A3 S.cs.length c3, .slice A4 S.ad.length c4] #[.int .i64 (kf k n), .int .i64 0, .int .i64 0, .int .i64 0, .int .i64 0, .int .i64 0, .int .i64 0, .int .i64 0, .int .i64 0, .string ⟨#[]⟩, .int .u64 0])) (fun iv _ => 11 - (intOf iv).toNat)
  case atStart => exact ⟨1, by omega, by omega, rfl, by show PM _ _ _ _ _; rw [HKO.out]; exact M1.out⟩
  case round =>
    obtain ⟨n, hn1, hn2, rfl, HM⟩ := hrel
    have su := HM.out.su.c4
    have lu := HM.out.su.lt
    have se := Blk11 HM.out.ev
    have le := HM.out.ev.lt
    by_cases hn : n ≤ 10
    · have hdn : decide ((n : Int) ≤ 10) = true := decide_eq_true (by omega)
      go_wp2_with fail
      refine (CN.out _ _).mono ?_
      rintro x w3 ⟨rfl, d3⟩
      have M3 := Lib.hid (HM.out.keep d3)
      clear d3 HM su lu se le
      have su := M3.out.su.c4
      have lu := M3.out.su.lt
      have se := Blk11 M3.out.ev
      have le := M3.out.ev.lt
      by_cases he : k = (n : Int)
      · have hb := eqS_yes ((HNE.out n hn1 hn).2 he)
        have M4 : Hid (PM w (w3.setCell ⟨ge, 0, none⟩ (.int .i64 (n : Int))) ge #[.slice A1 S.ps.length c1, .slice A2 S.bs.length c2, .slice A3 S.cs.length c3, .slice A4 S.ad.length c4] #[.int .i64 (kf k (n + 1)), .int .i64 0, .int .i64 0, .int .i64 0, .int .i64 0, .int .i64 0, .int .i64 0, .int .i64 0, .int .i64 0, .string ⟨#[]⟩, .int .u64 0]) := by
          show PM _ _ _ _ _
          rw [kf_hit k n he]
          exact M3.out.put1 0 (.int .i64 (n : Int))
        clear he
        go_wp2_with fail
        go_roundw
        case rel => exact ⟨n + 1, by omega, by omega, by simp, M4.out⟩
        case measure => simp [intOf]; omega
      · have hb := eqS_no (fun e => he ((HNE.out n hn1 hn).1 e))
        have M4 : Hid (PM w w3 ge #[.slice A1 S.ps.length c1, .slice A2 S.bs.length c2, .slice A3 S.cs.length c3, .slice A4 S.ad.length c4] #[.int .i64 (kf k (n + 1)), .int .i64 0, .int .i64 0, .int .i64 0, .int .i64 0, .int .i64 0, .int .i64 0, .int .i64 0, .int .i64 0, .string ⟨#[]⟩, .int .u64 0]) := by
          show PM _ _ _ _ _
          rw [kf_miss k n he]
          exact M3.out
        clear he
        go_wp2_with fail
        go_roundw
        case rel => exact ⟨n + 1, by omega, by omega, by simp, M4.out⟩
        case measure => simp [intOf]; omega
    · have hdn : decide ((n : Int) ≤ 10) = false := decide_eq_false (by omega)
      have hke := kf_end k n HKR.out.2 (by omega)
      clear su lu se le
      rw [hke] at HM
      clear hke hn hn1 hn2
      have su := HM.out.su.c4
      have lu := HM.out.su.lt
      have se := Blk11 HM.out.ev
      have le := HM.out.ev.lt
      go_wp2_with fail
      refine (CWD.out _).mono ?_
      rintro x w3 ⟨rfl, d3⟩
      have M3 := Lib.hid (HM.out.keep d3)
      clear d3 HM su lu se le
      have su := M3.out.su.c4
      have lu := M3.out.su.lt
      have se := Blk11 M3.out.ev
      have le := M3.out.ev.lt
      cases hiv : iw with
      | false =>
        have HV := Lib.hid (HPW.out hiv)
        clear HPW HPR
        have sr := Blk11 M3.out.res
        have lr := M3.out.res.lt
        go_wp2_with fail
        try dsimp only [Exit.noGoto, Exit.inBlock, Exit.then]
        exact bodyPost_ret (v := .tuple #[.agg #[.int .i64 0, .int .i64 0, .int .i64 0, .int .i64 0, .int .i64 0, .int .i64 0, .int .i64 0, .int .i64 0, .int .i64 0, .string ⟨#[]⟩, .int .u64 0], .int .i64 (2)]) (results_blk_tmp rfl rfl (put_all M3.out.res _ _ _ _ _ _ _ _ _ _ _) Tryz.underlying26 rfl (by kernel_rfl) rfl) rfl ⟨by rw [HV.out]; rfl, below_all M3.out.bl (Nat.le_succ _) _ _ _ _ _ _ _ _ _ _ _⟩
      | true =>
        have HP := Lib.hid (HPR.out hiv)
        rw [HLO.out] at HP
        have HPN2 := Lib.hid (HPN.out hiv)
        clear hiv HPW HPR HPN
        go_wp2_with fail
        refine (CH.out _).mono ?_
        rintro x wq ⟨rfl, rfl⟩
        go_wp2_with fail
        refine (CU2.out _).mono ?_
        rintro x w4 ⟨rfl, d4⟩
        have M4 := Lib.hid (M3.out.keep d4)
        clear d4 M3 su lu se le
        have su := M4.out.su.c4
        have lu := M4.out.su.lt
        have se := Blk11 M4.out.ev
        have le := M4.out.ev.lt
        go_wp2_with fail
        refine (CFD.out _ M4.out.bl).mono ?_
        rintro x w5 ⟨rfl, d5⟩
        have M5 := Lib.hid (M4.out.keep d5)
        clear d5 M4 su lu se le
        have su := M5.out.su.c4
        have lu := M5.out.su.lt
        have se := Blk11 M5.out.ev
        have le := M5.out.ev.lt
        cases hf : findB S.bs (nameW s) with
        | none =>
          have HV := Lib.hid (HPN2.out hf)
          have hfo := (find_no hf).2
          rw [hfo]
          clear HP HPN2 hf hfo
          have sr := Blk11 M5.out.res
          have lr := M5.out.res.lt
          go_wp2_with fail
          try dsimp only [Exit.noGoto, Exit.inBlock, Exit.then]
          exact bodyPost_ret (v := .tuple #[.agg #[.int .i64 0, .int .i64 0, .int .i64 0, .int .i64 0, .int .i64 0, .int .i64 0, .int .i64 0, .int .i64 0, .int .i64 0, .string ⟨#[]⟩, .int .u64 0], .int .i64 (6)]) (results_blk_tmp rfl rfl (put_all M5.out.res _ _ _ _ _ _ _ _ _ _ _) Tryz.underlying26 rfl (by kernel_rfl) rfl) rfl ⟨by rw [HV.out]; rfl, below_all M5.out.bl (Nat.le_succ _) _ _ _ _ _ _ _ _ _ _ _⟩
        | some i =>
          obtain ⟨hf1, hf2⟩ := find_ok hf
          rw [hf1, hf2]
          have HBI2 := HBI.out i hf
          rw [HBI2] at HP
          have HP2 := Lib.hid (HP.out (by rw [hf]; rintro ⟨_, h⟩; cases h))
          have M6 : Hid (PM w (w5.setCell ⟨ge, 1, none⟩ (.int .i64 (i : Int))) ge #[.slice A1 S.ps.length c1, .slice A2 S.bs.length c2, .slice A3 S.cs.length c3, .slice A4 S.ad.length c4] #[.int .i64 k, .int .i64 (i : Int), .int .i64 0, .int .i64 0, .int .i64 0, .int .i64 0, .int .i64 0, .int .i64 0, .int .i64 0, .string ⟨#[]⟩, .int .u64 0]) := M5.out.put1 1 (.int .i64 (i : Int))
          clear HP HPN2 hf hf1 hf2 HBI2
          rw [HFL.out] at HP2
          go_wp2_with fail
          generalize w5.setCell ⟨ge, 1, none⟩ (.int .i64 (i : Int)) = w6 at *
          clear M5 su lu se le
          have su := M6.out.su.c4
          have lu := M6.out.su.lt
          have se := Blk11 M6.out.ev
          have le := M6.out.ev.lt
          refine (CP.out _ M6.out.bl).mono ?_
          rintro x w7 ⟨rfl, d7⟩
          have M7 := Lib.hid (M6.out.keep d7)
          clear d7 M6 su lu se le
          have su := M7.out.su.c4
          have lu := M7.out.su.lt
          have se := Blk11 M7.out.ev
          have le := M7.out.ev.lt
          have M8 : Hid (PM w ((((((w7.setCell ⟨ge, 3, none⟩ (.int .i64 (q 0))).setCell ⟨ge, 4, none⟩ (.int .i64 (q 1))).setCell ⟨ge, 5, none⟩ (.int .i64 (q 2))).setCell ⟨ge, 6, none⟩ (.int .i64 (q 3))).setCell ⟨ge, 7, none⟩ (.int .i64 (q 4))).setCell ⟨ge, 8, none⟩ (.int .i64 (q 5))) ge #[.slice A1 S.ps.length c1, .slice A2 S.bs.length c2, .slice A3 S.cs.length c3, .slice A4 S.ad.length c4] #[.int .i64 k, .int .i64 (i : Int), .int .i64 0, .int .i64 (q 0), .int .i64 (q 1), .int .i64 (q 2), .int .i64 (q 3), .int .i64 (q 4), .int .i64 (q 5), .string ⟨#[]⟩, .int .u64 0]) := (((((M7.out.put1 3 (.int .i64 (q 0))).put1 4 (.int .i64 (q 1))).put1 5 (.int .i64 (q 2))).put1 6 (.int .i64 (q 3))).put1 7 (.int .i64 (q 4))).put1 8 (.int .i64 (q 5))
          have HFV : Hid (V = endV ((⟨k, (i : Int), 0, q, ⟨#[]⟩, 0⟩ : Evt), x2)) := HP2.out
          clear HP2
          by_cases hx : x2 ≠ 0
          · have dx : (x2 == 0) = false := beq_eq_false_iff_ne.2 hx
            have dx2 : (x2 != 0) = true := bne_iff_ne.2 hx
            have HV : Hid (V = (noEvt, x2)) := HFV.out.trans (end_err hx)
            clear HFV
            go_upto_region 36 with fail
            generalize (((((w7.setCell ⟨ge, 3, none⟩ (.int .i64 (q 0))).setCell ⟨ge, 4, none⟩ (.int .i64 (q 1))).setCell ⟨ge, 5, none⟩ (.int .i64 (q 2))).setCell ⟨ge, 6, none⟩ (.int .i64 (q 3))).setCell ⟨ge, 7, none⟩ (.int .i64 (q 4))).setCell ⟨ge, 8, none⟩ (.int .i64 (q 5)) = w8 at *
          
            clear su lu se le
            have su := M8.out.su.c4
            have lu := M8.out.su.lt
            have se := Blk11 M8.out.ev
            have le := M8.out.ev.lt
            have sr := Blk11 M8.out.res
            have lr := M8.out.res.lt
            go_wp2_with fail
            try dsimp only [Exit.noGoto, Exit.inBlock, Exit.then]
            exact bodyPost_ret (v := .tuple #[.agg #[.int .i64 0, .int .i64 0, .int .i64 0, .int .i64 0, .int .i64 0, .int .i64 0, .int .i64 0, .int .i64 0, .int .i64 0, .string ⟨#[]⟩, .int .u64 0], .int .i64 (x2)]) (results_blk_tmp rfl rfl (put_all M8.out.res _ _ _ _ _ _ _ _ _ _ _) Tryz.underlying26 rfl (by kernel_rfl) rfl) rfl ⟨by rw [HV.out]; rfl, below_all M8.out.bl (Nat.le_succ _) _ _ _ _ _ _ _ _ _ _ _⟩
          have hx0 : x2 = 0 := Classical.not_not.1 hx
          have dx : (x2 == 0) = true := by rw [hx0]; rfl
          have HX0 := Lib.hid hx0
          clear hx hx0
          go_upto_region 36 with fail
          generalize (((((w7.setCell ⟨ge, 3, none⟩ (.int .i64 (q 0))).setCell ⟨ge, 4, none⟩ (.int .i64 (q 1))).setCell ⟨ge, 5, none⟩ (.int .i64 (q 2))).setCell ⟨ge, 6, none⟩ (.int .i64 (q 3))).setCell ⟨ge, 7, none⟩ (.int .i64 (q 4))).setCell ⟨ge, 8, none⟩ (.int .i64 (q 5)) = w8 at *
          clear su lu se le
          have su := M8.out.su.c4
          have lu := M8.out.su.lt
          have se := Blk11 M8.out.ev
          have le := M8.out.ev.lt
          go_wp2_with fail
          have CE := fun W => CC.out (⟨k, (i : Int), 0, q, ⟨#[]⟩, 0⟩ : Evt) W (Nat.zero_le _) (show (0 : Nat) < 18446744073709551616 by decide)
          have HVA := Lib.hid (fun h => HFV.out.trans (end_chk HX0.out h))
          have HVB := Lib.hid (fun h => HFV.out.trans (end_ok HX0.out h))
          unfold Evt.val at CE
          dsimp only at CE HVA HVB
          generalize checkV (⟨k, (i : Int), 0, q, ⟨#[]⟩, 0⟩ : Evt) = ck at *
          refine (CE _).mono ?_
          rintro x w9 ⟨rfl, d9⟩
          have M9 := Lib.hid (M8.out.keep d9)
          clear d9 M8 su lu se le CE
          have su := M9.out.su.c4
          have lu := M9.out.su.lt
          have se := Blk11 M9.out.ev
          have le := M9.out.ev.lt
          by_cases hck : ck ≠ 0
          · have dc : (ck != 0) = true := bne_iff_ne.2 hck
            have HV := Lib.hid (HVA.out hck)
            clear HVA HVB HFV
            have sr := Blk11 M9.out.res
            have lr := M9.out.res.lt
            go_wp2_with fail
            try dsimp only [Exit.noGoto, Exit.inBlock, Exit.then]
            exact bodyPost_ret (v := .tuple #[.agg #[.int .i64 0, .int .i64 0, .int .i64 0, .int .i64 0, .int .i64 0, .int .i64 0, .int .i64 0, .int .i64 0, .int .i64 0, .string ⟨#[]⟩, .int .u64 0], .int .i64 (ck)]) (results_blk_tmp rfl rfl (put_all M9.out.res _ _ _ _ _ _ _ _ _ _ _) Tryz.underlying26 rfl (by kernel_rfl) rfl) rfl ⟨by rw [HV.out]; rfl, below_all M9.out.bl (Nat.le_succ _) _ _ _ _ _ _ _ _ _ _ _⟩
          · have hc0 : ck = 0 := Classical.not_not.1 hck
            have dc : (ck != 0) = false := by rw [hc0]; rfl
            have HV := Lib.hid (HVB.out hc0)
            have sr := Blk11 M9.out.res
            have lr := M9.out.res.lt
            have hge := M9.out.hg
            clear HVA HVB HFV hck hc0
            go_wp2_with fail
            try dsimp only [Exit.noGoto, Exit.inBlock, Exit.then]
            exact bodyPost_ret (v := .tuple #[.agg #[.int .i64 k, .int .i64 (i : Int), .int .i64 0, .int .i64 (q 0), .int .i64 (q 1), .int .i64 (q 2), .int .i64 (q 3), .int .i64 (q 4), .int .i64 (q 5), .string ⟨#[]⟩, .int .u64 0], .int .i64 0]) (results_blk_tmp rfl rfl (put_all M9.out.res _ _ _ _ _ _ _ _ _ _ _) Tryz.underlying26 rfl (by kernel_rfl) rfl) rfl ⟨by rw [HV.out]; rfl, below_all M9.out.bl (Nat.le_succ _) _ _ _ _ _ _ _ _ _ _ _⟩
end Go.Proofs.YtaikmgnpfbnjjaaGreatDoor.Ev
