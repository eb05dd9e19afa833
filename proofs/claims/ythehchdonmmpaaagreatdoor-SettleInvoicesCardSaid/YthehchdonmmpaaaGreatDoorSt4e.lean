/- settle.invoice, one of three parts (early). Printed by gen_st4.py. -/
import Derived.Test.YthehchdonmmpaaaGreatDoorSt4h
namespace Go.Proofs.YthehchdonmmpaaaGreatDoor.St
open Go.ChangeShapes Go.WideShapes Go.ChangeAt Go.RowKit Gn Cat Lex Pr Ros Fr
set_option linter.unusedVariables false
set_option linter.unusedSimpArgs false
attribute [local go_sem] later_cell
set_option maxHeartbeats 8000000 in
set_option maxRecDepth 100000 in
theorem invoice_early (ps : List Prod) (bs : List Bid) (A1 A2 A3 A4 : Option Addr) (c1 c2 c3 c4 : Nat) (v3 v4 : Value) (k : Nat) (hk : k < bs.length) (won : Nat → Int) (neg : Bool) (l1 l2 : List Nat) (w : World) (hs : SetP w (.slice A1 ps.length c1) ps) (hb : BidS w (.slice A2 bs.length c2) bs) (hb8 : bs.length ≤ 5000) (hl1 : l1.length ≤ 1000) (hl2 : l2.length ≤ 1000) (g1 : Dg l1) (g2 : Dg l2) (hn : NS w (.slice A3 l1.length c3) l1) (hd : NS w (.slice A4 l2.length c4) l2) (hc : ¬ (validB won = true ∧ within6 won (supP ps) = true ∧ validF neg l1 l2 = true ∧ neg = false ∧ ¬ (eq6 won zero6 = true ∧ l1.length ≠ 0))) :
    Calls Tryz.prog 14 #[.agg #[.slice A1 ps.length c1, .slice A2 bs.length c2, v3, v4], .int .i64 (k : Int), .agg #[.int .i64 (won 0), .int .i64 (won 1), .int .i64 (won 2), .int .i64 (won 3), .int .i64 (won 4), .int .i64 (won 5)], .agg #[.bool neg, .slice A3 l1.length c3, .slice A4 l2.length c4]] w (OnePost (invR ps bs[k].budget k won ⟨neg, .slice A3 l1.length c3, .slice A4 l2.length c4, l1, l2⟩) w) := by
  have EQ := Lib.hid (fun W => eq27 won zero6 W)
  have CB := Lib.hid (fun W => bcheck_any won W)
  have CS := Lib.hid (fun W (b : Below w.heap.size w W) => supply_any ps (.slice A1 ps.length c1) W hs.len (hs.sl.keep b))
  have CW := Lib.hid (fun W => within_any won (supP ps) W)
  have CV := Lib.hid (fun W (b : Below w.heap.size w W) => nfvalid_any neg A3 A4 c3 c4 l1 l2 W hl1 hl2 g1 g2 (hn.keep b) (hd.keep b))
  have CG := Lib.hid (fun W => nsign_any neg A3 c3 l1.length (.slice A4 l2.length c4) W)
  have CR := Lib.hid (fun W (b : Below w.heap.size w W) => reserve_any ps (.slice A1 ps.length c1) won W hs.len (hs.sl.keep b) hs.names)
  have hsr := sum_range (b := won) (l := ps)
  obtain ⟨bb, ob, eb, hbb, hrow⟩ := (sl_parts hb).choose_spec.choose_spec.2.2.2 (by omega)
  have eA2 := (sl_parts hb).choose_spec.choose_spec.1
  have HROW : Hid (∀ W, Below w.heap.size w W → ∃ b o, A2 = some ⟨b, o, none⟩ ∧ b < w.heap.size ∧ W.cell? ⟨b, o + k * 4 + 2, none⟩ = some (.int .i64 bs[k].budget)) := fun W bw => by
    obtain ⟨A, c, e, _, _, h⟩ := sl_parts hb
    injection e with e1 e2 e3
    subst e1
    obtain ⟨b, o, e4, hlt, hr⟩ := h (by omega)
    exact ⟨b, o, e4, hlt, (BidRow.at_ (hr.below hlt bw) k hk).2.2.1⟩
  clear eb hbb hrow eA2
  have HRR : Hid (invR ps bs[k].budget k won ⟨neg, .slice A3 l1.length c3, .slice A4 l2.length c4, l1, l2⟩ = if validB won = true ∧ within6 won (supP ps) = true then
    if validF neg l1 l2 = true then
      if neg = false ∧ ceilN (nat l1) (nat l2) ≤ 1000000 ∧ (eq6 won zero6 = true → nat l1 = 0) then
        if sumE Prod.reserve won ps + (ceilN (nat l1) (nat l2) : Int) ≤ 1000000 then
          if bs[k].budget ≠ 0 ∧ bs[k].budget < sumE Prod.reserve won ps + (ceilN (nat l1) (nat l2) : Int) then .error 17
          else .ok ⟨(k : Int), won, sumE Prod.reserve won ps, (ceilN (nat l1) (nat l2) : Int), sumE Prod.reserve won ps + (ceilN (nat l1) (nat l2) : Int)⟩
        else .error 4
      else .error 4
    else .error 2
  else .error 4) := rfl
  have CU : Hid (validF neg l1 l2 = true → neg = false → ∀ W, Below w.heap.size w W → Calls Tryz.prog 40 #[.agg #[.bool false, .slice A3 l1.length c3, .slice A4 l2.length c4]] W (UpPost false (nat l1) (nat l2) W)) := fun hv hneg W b => by
    unfold validF at hv
    simp only [Bool.and_eq_true, decide_eq_true_eq] at hv
    obtain ⟨e1, e2, e3, _⟩ := hv
    have d0 : nat l2 ≠ 0 := fun h => e3 (by rw [e2, h]; rfl)
    have := nup_pos A3 A4 c3 c4 (nat l1) (nat l2) W (by rw [← e1]; omega) (by rw [← e2]; omega) d0 (by rw [← e1]; exact hn.keep b) (by rw [← e2]; exact hd.keep b)
    rw [← e1, ← e2] at this
    exact this
  have HNZ : Hid (validF neg l1 l2 = true → (nat l1 = 0 ↔ l1.length = 0) ∧ (neg = true → l1.length ≠ 0)) := fun hv => by
    unfold validF at hv
    simp only [Bool.and_eq_true, decide_eq_true_eq] at hv
    obtain ⟨e1, _, _, e4, _⟩ := hv
    refine ⟨⟨fun h => by rw [e1, h]; rfl, fun h => by rw [List.eq_nil_of_length_eq_zero h]; rfl⟩, fun hneg h => ?_⟩
    rw [hneg, h] at e4
    simp at e4
  obtain ⟨RR, hRR⟩ : ∃ x, x = invR ps bs[k].budget k won ⟨neg, .slice A3 l1.length c3, .slice A4 l2.length c4, l1, l2⟩ := ⟨_, rfl⟩
  rw [← hRR] at HRR
  rw [← hRR]
  clear hRR hn hd g1 g2
  obtain ⟨vf, hvf⟩ : ∃ x, x = validF neg l1 l2 := ⟨_, rfl⟩
  rw [← hvf] at CV HRR CU HNZ hc
  obtain ⟨zb, hzb⟩ : ∃ x, x = eq6 won zero6 := ⟨_, rfl⟩
  rw [← hzb] at EQ HRR
  try rw [← hzb] at hc
  obtain ⟨vb, hvb⟩ : ∃ x, x = validB won := ⟨_, rfl⟩
  rw [← hvb] at CB HRR hc
  obtain ⟨wi, hwi⟩ : ∃ x, x = within6 won (supP ps) := ⟨_, rfl⟩
  rw [← hwi] at CW HRR hc
  obtain ⟨r, hr⟩ : ∃ x, x = sumE Prod.reserve won ps := ⟨_, rfl⟩
  rw [← hr] at CR HRR hsr
  obtain ⟨cc, hcc⟩ : ∃ x, x = ceilN (nat l1) (nat l2) := ⟨_, rfl⟩
  rw [← hcc] at HRR
  have HCC := Lib.hid hcc
  obtain ⟨bud, hbud⟩ : ∃ x, x = bs[k].budget := ⟨_, rfl⟩
  rw [← hbud] at HRR HROW
  have hk0 : (0 : Int) ≤ (k : Int) := by omega
  have hk1 : (k : Int) < (bs.length : Int) := by omega
  have hk5 : (k : Int) ≤ 5000 := by omega
  have HC := Lib.hid hc
  clear hc hvf hzb hvb hwi hr hcc hbud hs hb hl1 hl2
  unfold arr at CB CS CW CR EQ
  unfold zero6 at EQ
  have eq := EQ.out
  obtain ⟨ks, kw, kn, kr, ko, b0⟩ := five_alloc w #[.slice A1 ps.length c1, .slice A2 bs.length c2, v3, v4] #[.int .i64 (won 0), .int .i64 (won 1), .int .i64 (won 2), .int .i64 (won 3), .int .i64 (won 4), .int .i64 (won 5)] #[.bool neg, .slice A3 l1.length c3, .slice A4 l2.length c4] zero10 #[.int .i64 (k : Int), .int .i64 (won 0), .int .i64 (won 1), .int .i64 (won 2), .int .i64 (won 3), .int .i64 (won 4), .int .i64 (won 5), .int .i64 0, .int .i64 0, .int .i64 0] 27 40 47 42 42
  have hg3 : w.heap.size ≤ w.heap.size + 1 + 1 + 1 := by omega
  have hg4 : w.heap.size ≤ w.heap.size + 1 + 1 + 1 + 1 := by omega
  have hne : w.heap.size + 1 + 1 + 1 ≠ w.heap.size + 1 + 1 + 1 + 1 := by omega
  have hns : w.heap.size ≠ w.heap.size + 1 + 1 + 1 + 1 := by omega
  have hnw : w.heap.size + 1 ≠ w.heap.size + 1 + 1 + 1 + 1 := by omega
  have hnn : w.heap.size + 1 + 1 ≠ w.heap.size + 1 + 1 + 1 + 1 := by omega
  obtain ⟨W, hW⟩ : ∃ W, W = (((((w.alloc (.cells #[.slice A1 ps.length c1, .slice A2 bs.length c2, v3, v4] 27)).alloc (.cells #[.int .i64 (won 0), .int .i64 (won 1), .int .i64 (won 2), .int .i64 (won 3), .int .i64 (won 4), .int .i64 (won 5)] 40)).alloc (.cells #[.bool neg, .slice A3 l1.length c3, .slice A4 l2.length c4] 47)).alloc (.cells zero10 42)).alloc (.cells #[.int .i64 (k : Int), .int .i64 (won 0), .int .i64 (won 1), .int .i64 (won 2), .int .i64 (won 3), .int .i64 (won 4), .int .i64 (won 5), .int .i64 0, .int .i64 0, .int .i64 0] 42)) := ⟨_, rfl⟩
  rw [← hW] at ks kw kn kr ko b0
  have HWW := Lib.hid hW
  have KS0 := Lib.hid ks
  have KW0 := Lib.hid kw
  have KN0 := Lib.hid kn
  have KR0 := Lib.hid kr
  have KO0 := Lib.hid ko
  have B0 := Lib.hid b0
  have HG3 := Lib.hid hg3
  have HG4 := Lib.hid hg4
  have HNE := Lib.hid hne
  have HNS := Lib.hid hns
  have HNW := Lib.hid hnw
  have HNN := Lib.hid hnn
  clear ks kw kn kr ko b0 hW hg3 hg4 hne hns hnw hnn
  go_enter Tryz.func14, Tryz.ntmps14
  go_upto_region 3 with fail
  rw [← HWW.out]
  clear HWW EQ eq
  have FB : Hid (∀ y, Calls Tryz.prog 36 #[.agg #[.int .i64 (won 0), .int .i64 (won 1), .int .i64 (won 2), .int .i64 (won 3), .int .i64 (won 4), .int .i64 (won 5)]] (later W y) fun e w' => e = .returned (.int .i64 (if vb = true then 0 else 4)) ∧ Below (later W y).heap.size (later W y) w') := fun y => CB.out _
  have FS := Lib.hid (fun y => CS.out (later W y) (chain0 B0.out (later_below W y)))
  have FW := Lib.hid (fun y => CW.out (later W y))
  generalize w.heap.size + 1 + 1 + 1 + 1 = g4 at *
  generalize w.heap.size + 1 + 1 + 1 = g3 at *
  generalize w.heap.size + 1 + 1 = g2 at *
  generalize w.heap.size + 1 = g1 at *
  cases vb with
  | false =>
    have HV : Hid (RR = .error 4) := by show RR = _; rw [HRR.out, if_neg (by simp)]
    clear HRR
    have s0 := KS0.out.c4
    have lS0 := KS0.out.lt
    have x0 := bun6 KW0.out
    have lW0 := KW0.out.lt
    refine wp_region_later (by kernel_rfl) (by kernel_rfl) ?_
    repeat (first | go_big_quiet_step (first | (go_at_call 36; exact calls_later (FB.out _)) | (go_at_call 34; exact calls_later (FS.out _)) | (go_at_call 37; exact calls_later (FW.out _))) | quiet_step (first | (go_at_call 36; exact calls_later (FB.out _)) | (go_at_call 34; exact calls_later (FS.out _)) | (go_at_call 37; exact calls_later (FW.out _))))
    refine wpQuiet_nil ?_
    rintro _ ⟨y, rfl⟩
    clear s0 lS0 x0 lW0
    have d1 := later_below W y
    generalize later W y = w1 at *
    have KS1 := Lib.hid (KS0.out.below' d1)
    have KW1 := Lib.hid (KW0.out.below' d1)
    have KN1 := Lib.hid (KN0.out.below' d1)
    have KR1 := Lib.hid (KR0.out.below' d1)
    have KO1 := Lib.hid (KO0.out.below' d1)
    have B1 := Lib.hid (chain0 B0.out d1)
    clear d1
    have lr := KR1.out.lt
    have zr := zero_cells KR1.out
    have zf := KR1.out.free
    go_wp2_with fail
    have KE := put10 KR1.out (.int .i64 0) (.int .i64 0) (.int .i64 0) (.int .i64 0) (.int .i64 0) (.int .i64 0) (.int .i64 0) (.int .i64 0) (.int .i64 0) (.int .i64 0)
    refine bodyPost_ret (v := .tuple #[.agg zero10, .int .i64 4]) (results_blk_tmp (p := 8) (u := 9) rfl rfl KE Tryz.underlying42 rfl (by kernel_rfl) rfl) rfl (one_err HV.out (below10 B1.out HG3.out (.int .i64 0) (.int .i64 0) (.int .i64 0) (.int .i64 0) (.int .i64 0) (.int .i64 0) (.int .i64 0) (.int .i64 0) (.int .i64 0) (.int .i64 0)))
  | true =>
  cases wi with
  | false =>
    have HV : Hid (RR = .error 4) := by show RR = _; rw [HRR.out, if_neg (by simp)]
    clear HRR
    have s0 := KS0.out.c4
    have lS0 := KS0.out.lt
    have x0 := bun6 KW0.out
    have lW0 := KW0.out.lt
    refine wp_region_later (by kernel_rfl) (by kernel_rfl) ?_
    repeat (first | go_big_quiet_step (first | (go_at_call 36; exact calls_later (FB.out _)) | (go_at_call 34; exact calls_later (FS.out _)) | (go_at_call 37; exact calls_later (FW.out _))) | quiet_step (first | (go_at_call 36; exact calls_later (FB.out _)) | (go_at_call 34; exact calls_later (FS.out _)) | (go_at_call 37; exact calls_later (FW.out _))))
    refine wpQuiet_nil ?_
    rintro _ ⟨y, rfl⟩
    clear s0 lS0 x0 lW0
    have d1 := later_below W y
    generalize later W y = w1 at *
    have KS1 := Lib.hid (KS0.out.below' d1)
    have KW1 := Lib.hid (KW0.out.below' d1)
    have KN1 := Lib.hid (KN0.out.below' d1)
    have KR1 := Lib.hid (KR0.out.below' d1)
    have KO1 := Lib.hid (KO0.out.below' d1)
    have B1 := Lib.hid (chain0 B0.out d1)
    clear d1
    have lr := KR1.out.lt
    have zr := zero_cells KR1.out
    have zf := KR1.out.free
    go_wp2_with fail
    have KE := put10 KR1.out (.int .i64 0) (.int .i64 0) (.int .i64 0) (.int .i64 0) (.int .i64 0) (.int .i64 0) (.int .i64 0) (.int .i64 0) (.int .i64 0) (.int .i64 0)
    refine bodyPost_ret (v := .tuple #[.agg zero10, .int .i64 4]) (results_blk_tmp (p := 8) (u := 9) rfl rfl KE Tryz.underlying42 rfl (by kernel_rfl) rfl) rfl (one_err HV.out (below10 B1.out HG3.out (.int .i64 0) (.int .i64 0) (.int .i64 0) (.int .i64 0) (.int .i64 0) (.int .i64 0) (.int .i64 0) (.int .i64 0) (.int .i64 0) (.int .i64 0)))
  | true =>
  have s0 := KS0.out.c4
  have lS0 := KS0.out.lt
  have x0 := bun6 KW0.out
  have lW0 := KW0.out.lt
  refine wp_region_later (by kernel_rfl) (by kernel_rfl) ?_
  repeat (first | go_big_quiet_step (first | (go_at_call 36; exact calls_later (FB.out _)) | (go_at_call 34; exact calls_later (FS.out _)) | (go_at_call 37; exact calls_later (FW.out _))) | quiet_step (first | (go_at_call 36; exact calls_later (FB.out _)) | (go_at_call 34; exact calls_later (FS.out _)) | (go_at_call 37; exact calls_later (FW.out _))))
  refine wpQuiet_nil ?_
  rintro _ ⟨y, rfl⟩
  clear s0 lS0 x0 lW0
  have d1 := later_below W y
  generalize later W y = w1 at *
  have KS1 := Lib.hid (KS0.out.below' d1)
  have KW1 := Lib.hid (KW0.out.below' d1)
  have KN1 := Lib.hid (KN0.out.below' d1)
  have KR1 := Lib.hid (KR0.out.below' d1)
  have KO1 := Lib.hid (KO0.out.below' d1)
  have B1 := Lib.hid (chain0 B0.out d1)
  clear d1
  replace HRR := Lib.hid (HRR.out.trans (if_pos ⟨rfl, rfl⟩))
  clear FB FS FW
  cases vf with
  | false =>
    have HV : Hid (RR = .error 2) := by show RR = _; rw [HRR.out, if_neg (by simp)]
    clear HRR
    have y1 := KN1.out.c3
    have lN1 := KN1.out.lt
    go_wp2_with fail
    refine (CV.out w1 B1.out).mono ?_
    rintro e w2 ⟨rfl, d2⟩
    have KS2 := Lib.hid (KS1.out.below' d2)
    have KW2 := Lib.hid (KW1.out.below' d2)
    have KN2 := Lib.hid (KN1.out.below' d2)
    have KR2 := Lib.hid (KR1.out.below' d2)
    have KO2 := Lib.hid (KO1.out.below' d2)
    have B2 := Lib.hid (chain0 B1.out d2)
    clear y1 lN1
    clear d2
    have lr := KR2.out.lt
    have zr := zero_cells KR2.out
    have zf := KR2.out.free
    go_wp2_with fail
    have KE := put10 KR2.out (.int .i64 0) (.int .i64 0) (.int .i64 0) (.int .i64 0) (.int .i64 0) (.int .i64 0) (.int .i64 0) (.int .i64 0) (.int .i64 0) (.int .i64 0)
    refine bodyPost_ret (v := .tuple #[.agg zero10, .int .i64 2]) (results_blk_tmp (p := 8) (u := 9) rfl rfl KE Tryz.underlying42 rfl (by kernel_rfl) rfl) rfl (one_err HV.out (below10 B2.out HG3.out (.int .i64 0) (.int .i64 0) (.int .i64 0) (.int .i64 0) (.int .i64 0) (.int .i64 0) (.int .i64 0) (.int .i64 0) (.int .i64 0) (.int .i64 0)))
  | true =>
  replace HRR := Lib.hid (HRR.out.trans (if_pos rfl))
  have hnz : (nat l1 = 0 ↔ l1.length = 0) ∧ (neg = true → l1.length ≠ 0) := by first | exact HNZ.out rfl | exact HNZ.out trivial | exact HNZ.out
  clear HNZ
  have y1 := KN1.out.c3
  have lN1 := KN1.out.lt
  go_wp2_with fail
  refine (CV.out w1 B1.out).mono ?_
  rintro e w2 ⟨rfl, d2⟩
  have KS2 := Lib.hid (KS1.out.below' d2)
  have KW2 := Lib.hid (KW1.out.below' d2)
  have KN2 := Lib.hid (KN1.out.below' d2)
  have KR2 := Lib.hid (KR1.out.below' d2)
  have KO2 := Lib.hid (KO1.out.below' d2)
  have B2 := Lib.hid (chain0 B1.out d2)
  clear y1 lN1
  clear d2
  have y2 := KN2.out.c3
  have lN2 := KN2.out.lt
  go_wp2_with fail
  refine (CG.out w2).mono ?_
  rintro e w3 ⟨rfl, d3⟩
  have KS3 := Lib.hid (KS2.out.below' d3)
  have KW3 := Lib.hid (KW2.out.below' d3)
  have KN3 := Lib.hid (KN2.out.below' d3)
  have KR3 := Lib.hid (KR2.out.below' d3)
  have KO3 := Lib.hid (KO2.out.below' d3)
  have B3 := Lib.hid (chain0 B2.out d3)
  clear y2 lN2
  clear d3
  by_cases hneg : neg = true
  case pos =>
    have e1 : signF neg l1.length = -1 := by unfold signF; rw [if_neg (hnz.2 hneg), if_pos hneg]
    have HV : Hid (RR = .error 4) := by show RR = _; rw [HRR.out, if_neg (by rw [hneg]; simp)]
    rw [e1]
    clear HRR e1 hnz
    have lr := KR3.out.lt
    have zr := zero_cells KR3.out
    have zf := KR3.out.free
    go_wp2_with fail
    have KE := put10 KR3.out (.int .i64 0) (.int .i64 0) (.int .i64 0) (.int .i64 0) (.int .i64 0) (.int .i64 0) (.int .i64 0) (.int .i64 0) (.int .i64 0) (.int .i64 0)
    refine bodyPost_ret (v := .tuple #[.agg zero10, .int .i64 4]) (results_blk_tmp (p := 8) (u := 9) rfl rfl KE Tryz.underlying42 rfl (by kernel_rfl) rfl) rfl (one_err HV.out (below10 B3.out HG3.out (.int .i64 0) (.int .i64 0) (.int .i64 0) (.int .i64 0) (.int .i64 0) (.int .i64 0) (.int .i64 0) (.int .i64 0) (.int .i64 0) (.int .i64 0)))
  have hneg : neg = false := by cases neg <;> simp at hneg ⊢
  subst hneg
  have hz : zb = true ∧ l1.length ≠ 0 := by simpa using HC.out
  have e1 : signF false l1.length = 1 := by unfold signF; rw [if_neg hz.2]; rfl
  have HV : Hid (RR = .error 4) := by show RR = _; rw [HRR.out, if_neg (fun h => hz.2 (hnz.1.1 (h.2.2 hz.1)))]
  rw [e1]
  obtain ⟨rfl, _⟩ := hz
  clear HRR e1 hnz
  have lr := KR3.out.lt
  have zr := zero_cells KR3.out
  have zf := KR3.out.free
  go_wp2_with fail
  have KE := put10 KR3.out (.int .i64 0) (.int .i64 0) (.int .i64 0) (.int .i64 0) (.int .i64 0) (.int .i64 0) (.int .i64 0) (.int .i64 0) (.int .i64 0) (.int .i64 0)
  refine bodyPost_ret (v := .tuple #[.agg zero10, .int .i64 4]) (results_blk_tmp (p := 8) (u := 9) rfl rfl KE Tryz.underlying42 rfl (by kernel_rfl) rfl) rfl (one_err HV.out (below10 B3.out HG3.out (.int .i64 0) (.int .i64 0) (.int .i64 0) (.int .i64 0) (.int .i64 0) (.int .i64 0) (.int .i64 0) (.int .i64 0) (.int .i64 0) (.int .i64 0)))
end Go.Proofs.YthehchdonmmpaaaGreatDoor.St
