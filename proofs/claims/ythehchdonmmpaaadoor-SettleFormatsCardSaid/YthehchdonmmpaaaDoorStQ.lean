/- Contract of the reference's Format of invoices. Printed by gen_stq.py. -/
import Derived.Test.YthehchdonmmpaaaDoorStP
import Derived.Test.YthehchdonmmpaaaDoorSt6
import Derived.Test.YthehchdonmmpaaaDoorSt7
import Derived.Deep.RegionHeld3
import Derived.Deep.QuietTactic
import Derived.BigQuiet
namespace Go.Proofs.YthehchdonmmpaaaDoor.St
open Go.ChangeShapes Go.WideShapes Go.ChangeAt Go.RowKit Gn Cat Lex Pr Ros Fr
set_option linter.unusedVariables false
set_option linter.unusedSimpArgs false
attribute [local go_sem] later_cell
theorem rstep_eq (t nm fs dr dn de : ByteArray) : t ++ (((((((((nm ++ ⟨#[32]⟩) ++ fs) ++ ⟨#[32]⟩) ++ dr) ++ ⟨#[32]⟩) ++ dn) ++ ⟨#[32]⟩) ++ de) ++ ⟨#[10]⟩) = ((((t ++ ((nm ++ sp1) ++ fs)) ++ (sp1 ++ dr)) ++ (sp1 ++ dn)) ++ (sp1 ++ de)) ++ nl1 := by
  apply ba_ext
  simp [ByteArray.data_append]
theorem invOk_is {ps : List Prod} {nb : Nat} {x : Inv} : invOk ps nb x = (decide (0 ≤ x.bidder) && (decide (x.bidder < (nb : Int)) && (!eq6 x.want zero6 && (rfitsB x.want ps && (decide (x.reserve = sumE Prod.reserve x.want ps) && (decide (0 ≤ x.net) && (decide (x.net ≤ 1000000) && decide (x.due = x.reserve + x.net)))))))) := rfl
theorem rfmt8_any (l : List Prod) (v : Value) (b : Nat → Int) (w : World) (hl : l.length ≤ 5000) (h : PS w v l) (hn : ∀ p ∈ l, p.name.size ≤ maxLen) :
    Calls Tryd.prog 42 #[v, .agg (arr b)] w fun e w' => e = .returned (.string (fmtS b l)) ∧ Below w.heap.size w w' := by
  obtain ⟨A, c, rfl, k1, k2, ha⟩ := ps_cases h
  unfold fmtS
  cases hv : rfitsB b l with
  | false => rw [if_neg (by simp)]; exact rformat_bad l _ b w hl h hn hv
  | true =>
    rw [if_pos rfl]
    have hz : checkE l = 0 := by unfold rfitsB at hv; simp at hv; exact hv.1
    obtain ⟨b1, o1, rfl, _, r⟩ := ha (checkE_zero hz).1
    exact rformat_some l b1 o1 c b w k1 k2 r hl h hn hv
theorem rnum_int (v : Int) (W : World) (h0 : 0 ≤ v) (h1 : v < 1000000000000) : Calls Tryd.prog 43 #[.int .i64 v] W fun e w' => e = .returned (.string (decS v)) ∧ Below W.heap.size W w' := by
  obtain ⟨n, rfl⟩ := Int.eq_ofNat_of_zero_le h0
  exact rnum_any n W (by omega)
set_option maxHeartbeats 16000000 in
set_option maxRecDepth 100000 in
theorem rsetfmt_any (ps : List Prod) (bs : List Bid) (vs : List Inv) (A1 A2 : Option Addr) (c1 c2 : Nat) (v3 v4 vv : Value) (w : World) (hs : SaleP w (.slice A1 ps.length c1) (.slice A2 bs.length c2) ps bs) (hv : InvS w vv vs) (hl : vs.length ≤ 20) :
    Calls Tryd.prog 21 #[.agg #[.slice A1 ps.length c1, .slice A2 bs.length c2, v3, v4], vv] w fun e w' => e = .returned (.string (setFmt ps bs vs)) ∧ Below w.heap.size w w' := by
  have CR := Lib.hid (fun W (b : Below w.heap.size w W) => rrevenue_any vs vv W (by omega) (hv.keep b))
  obtain ⟨Av, cv, rfl, _, _, hvr⟩ := sl_parts hv
  have CC := Lib.hid (fun W (b : Below w.heap.size w W) => rchecks_any ps bs (.slice A1 ps.length c1) (.slice A2 bs.length c2) v3 v4 W (hs.keep b))
  have CT := Lib.hid (fun p W (b : Below w.heap.size w W) => Cat.rfits_any ps (.slice A1 ps.length c1) p W hs.set.len (hs.set.sl.keep b) hs.set.names)
  have CV := Lib.hid (fun p (hf : rfitsB p ps = true) W (b : Below w.heap.size w W) => rres_any ps (.slice A1 ps.length c1) p W (hs.set.keep b) hf)
  have CF := Lib.hid (fun p W (b : Below w.heap.size w W) => rfmt8_any ps (.slice A1 ps.length c1) p W hs.set.len (hs.set.sl.keep b) hs.set.names)
  have HVR : Hid (∀ W, Below w.heap.size w W → 0 < vs.length → ∃ b o, Av = some ⟨b, o, none⟩ ∧ b < w.heap.size ∧ Row W b o (vs.flatMap Inv.cells)) := fun W bw h0 => by
    obtain ⟨b, o, e, hb, hr⟩ := hvr h0
    exact ⟨b, o, e, hb, hr.below hb bw⟩
  have HBR : Hid (∀ W, Below w.heap.size w W → ∀ k (hk : k < bs.length), ∃ b o, A2 = some ⟨b, o, none⟩ ∧ b < w.heap.size ∧ W.cell? ⟨b, o + k * 4, none⟩ = some (.string bs[k].name)) := fun W bw k hk => by
    obtain ⟨A, c, e, _, _, h⟩ := sl_parts hs.sl
    injection e with e1 e2 e3
    subst e1
    obtain ⟨b, o, e4, hlt, hr⟩ := h (by omega)
    exact ⟨b, o, e4, hlt, (BidRow.at_ (hr.below hlt bw) k hk).1⟩
  have b0 := below_new w (.cells #[.slice A1 ps.length c1, .slice A2 bs.length c2, v3, v4] 27)
  have HAT := Lib.hid (setup_cells w 27 (.slice A1 ps.length c1) (.slice A2 bs.length c2) v3 v4)
  obtain ⟨w0, hw0⟩ : ∃ W, W = w.alloc (.cells #[.slice A1 ps.length c1, .slice A2 bs.length c2, v3, v4] 27) := ⟨_, rfl⟩
  have HW0 := Lib.hid hw0.symm
  rw [← hw0] at HAT b0
  have B0 := Lib.hid b0
  have L0 : Hid (w.heap.size < w0.heap.size) := by show _ < _; rw [hw0, World.size_alloc]; omega
  have HVL : Hid (vs.length ≤ 20) := hl
  clear hw0 b0
  obtain ⟨RR, hRR⟩ : ∃ x, x = setFmt ps bs vs := ⟨_, rfl⟩
  have HNO := Lib.hid (fun h => hRR.trans (setFmt_no (vs := vs) h))
  have HYES := Lib.hid (fun h => hRR.trans (setFmt_yes (vs := vs) h))
  rw [← hRR]
  have HNM := Lib.hid (fun h i h0 h1 => name_size (bs := bs) h (i := i) h0 h1)
  clear hRR hs hv hl hvr
  by_cases hz : chkE ps bs = 0
  case neg =>
    have HV : Hid (RR = ⟨#[]⟩) := HNO.out (fun h => hz (chkE_zero.2 h))
    have q : (chkE ps bs != 0) = true := by simpa using hz
    clear HNO HYES CV CF CT
    generalize chkE ps bs = e0 at *
    go_enter Tryd.func21, Tryd.ntmps21
    go_upto_region 1 with fail
    rw [HW0.out]
    have E0 := Lib.hid (Below.refl w0.heap.size w0)
    have hat := HAT.out w0 E0.out
    have l0 := L0.out
    go_wp2_with fail
    clear hat l0
    refine (CC.out w0 B0.out).mono ?_
    rintro e w1 ⟨rfl, d1⟩
    have E1 := Lib.hid (chain0 E0.out d1)
    have B1 := Lib.hid (chain0 B0.out E1.out)
    have hat := HAT.out w1 E1.out
    have l0 := Nat.lt_of_lt_of_le L0.out E1.out.size
    clear d1
    go_wp2_with fail
    clear hat l0
    go_ret
    exact ⟨by rw [HV.out]; rfl, B1.out⟩
  obtain ⟨hz1, hr⟩ := chkE_zero.1 hz
  rw [hz] at CC
  have HRR := Lib.hid (HYES.out ⟨hz1, hr⟩)
  replace HNM := Lib.hid (fun i h0 h1 => HNM.out hr i h0 h1)
  clear HNO HYES hz hr hz1
  go_enter Tryd.func21, Tryd.ntmps21
  go_upto_region 1 with fail
  rw [HW0.out]
  have E0 := Lib.hid (Below.refl w0.heap.size w0)
  have hat := HAT.out w0 E0.out
  have l0 := L0.out
  go_wp2_with fail
  clear hat l0
  refine (CC.out w0 B0.out).mono ?_
  rintro e w1 ⟨rfl, d1⟩
  have E1 := Lib.hid (chain0 E0.out d1)
  have B1 := Lib.hid (chain0 B0.out E1.out)
  have hat := HAT.out w1 E1.out
  have l0 := Nat.lt_of_lt_of_le L0.out E1.out.size
  clear d1
  go_wp2_with fail
  clear hat l0
  clear CC
  obtain ⟨tot, htot⟩ : ∃ t, t = (dues vs).sum := ⟨_, rfl⟩
  rw [← htot] at HRR CR
  have HTOT : Hid (0 ≤ tot ∧ tot < 1000000000000) := by
    have h := sum_range_of (M := 1000000000) (by omega) (dues vs) (dues_range vs)
    have h2 := dues_len vs
    have h3 := HVL.out
    show 0 ≤ tot ∧ tot < 1000000000000
    have h4 : ((dues vs).length : Int) * 1000000000 ≤ 20 * 1000000000 := Int.mul_le_mul_of_nonneg_right (by omega) (by omega)
    omega
  clear htot
  go_loopw [6, 5] (fun iv tv wr => ∃ (k : Nat) (t : ByteArray), k ≤ vs.length ∧ iv = .int .i64 (k : Int) ∧ tv = .string t ∧ Hid (RR = fmtI ps bs tot (vs.drop k) t) ∧ Hid (t.size ≤ k * 4200) ∧ Hid (Below w0.heap.size w0 wr)) (fun iv _ _ => vs.length - (intOf iv).toNat)
  case atStart => exact ⟨0, ⟨#[]⟩, Nat.zero_le _, rfl, rfl, HRR.out, Nat.zero_le _, E1.out⟩
  case round =>
    obtain ⟨k, t, hk, rfl, rfl, HGO, HTS, HE⟩ := hrel
    have hk0 : (0 : Int) ≤ (k : Int) := by omega
    have hk5 : (k : Int) ≤ 20 := by have := HVL.out; omega
    have HB := Lib.hid (chain0 B0.out HE.out)
    have l0 := Nat.lt_of_lt_of_le L0.out HE.out.size
    by_cases hkn : k < vs.length
    · have hd2 : decide ((k : Int) < (vs.length : Int)) = true := decide_eq_true (by omega)
      have hkn1 : (k : Int) < (vs.length : Int) := by omega
      obtain ⟨b, o, eA, hb, hrow⟩ := HVR.out wr HB.out (by omega)
      subst eA
      have hx := inv_at hrow k hkn
      have hbl : b < wr.heap.size := Nat.lt_of_lt_of_le hb HB.out.size
      have HGD := Lib.hid (HGO.out.trans (fmtI_drop hkn t))
      clear hrow
      generalize vs[k] = x at *
      obtain ⟨bd, want, rs, nt, du⟩ := x
      dsimp only at hx
      go_upto_region 8 with fail
      clear hx
      have KX := Lib.hid (Blk.new wr 51 (invA ⟨bd, want, rs, nt, du⟩))
      have EX := Lib.hid (HE.out.alloc HE.out.size (.cells (invA ⟨bd, want, rs, nt, du⟩) 51))
      dsimp only [invA] at KX EX
      generalize wr.alloc (.cells #[.int .i64 bd, .int .i64 (want 0), .int .i64 (want 1), .int .i64 (want 2), .int .i64 (want 3), .int .i64 (want 4), .int .i64 (want 5), .int .i64 rs, .int .i64 nt, .int .i64 du] 51) = wx at *
      obtain ⟨gx, hgx⟩ : ∃ z, z = wr.heap.size := ⟨_, rfl⟩
      rw [← hgx] at KX
      rw [← hgx]
      clear hgx
      have BX := Lib.hid (chain0 B0.out EX.out)
      have LX := Lib.hid (Nat.lt_of_lt_of_le L0.out EX.out.size)
      have EQ := Lib.hid (fun W => eq27 want zero6 W)
      have hsr := sum_range (b := want) (l := ps)
      have hOK := Lib.hid (invOk_is (ps := ps) (nb := bs.length) (x := ⟨bd, want, rs, nt, du⟩))
      dsimp only at hOK
      generalize hR : invOk ps bs.length ⟨bd, want, rs, nt, du⟩ = R at *
      have HRok := Lib.hid hR
      clear hR
      have FT := Lib.hid (fun y => CT.out want (later wx y) (chain0 BX.out (later_below wx y)))
      have FR := Lib.hid (fun hf y => CV.out want hf (later wx y) (chain0 BX.out (later_below wx y)))
      obtain ⟨r, hr⟩ : ∃ r, r = sumE Prod.reserve want ps := ⟨_, rfl⟩
      rw [← hr] at FR hOK hsr
      obtain ⟨zb, hzb⟩ : ∃ zb, zb = eq6 want zero6 := ⟨_, rfl⟩
      rw [← hzb] at EQ hOK
      unfold arr zero6 at EQ
      unfold arr at FT FR
      have wadd := fun (h0 : 0 ≤ rs) (h1 : rs ≤ 24000000) (h2 : 0 ≤ nt) (h3 : nt ≤ 1000000) => (IntWalk.i64_in (rs + nt) (by omega) : IntKind.i64.wrap (rs + nt) = rs + nt)
      have hat := HAT.out wx EX.out
      have hxx := inv_cells (x := ⟨bd, want, rs, nt, du⟩) KX.out
      dsimp only at hxx
      have lgx := KX.out.lt
      have lst := LX.out
      clear hr hzb
      by_cases t0 : bd < 0
      case pos =>
        have d0 : decide (bd < 0) = true := decide_eq_true t0
        have HV : Hid (RR = ⟨#[]⟩) := HGD.out.trans (if_neg (by rw [hOK.out, decide_eq_false (show ¬ 0 ≤ bd by omega)]; simp))
        clear hOK hsr wadd EQ HGO HGD t0
        refine wp_region_later (by kernel_rfl) (by kernel_rfl) ?_
        repeat (first | go_big_quiet_step (first | (go_at_call 40; exact calls_later (FT.out _)) | (go_at_call 41; exact calls_later (FR.out _))) | quiet_step (first | (go_at_call 40; exact calls_later (FT.out _)) | (go_at_call 41; exact calls_later (FR.out _))))
        refine wpQuiet_nil ?_
        rintro _ ⟨y, rfl⟩
        go_wp2_with fail
        go_ret
        exact ⟨by rw [HV.out]; rfl, chain0 BX.out (later_below _ _)⟩
      have d0 : decide (bd < 0) = false := decide_eq_false t0
      have p0 : decide (0 ≤ bd) = true := decide_eq_true (by omega)
      by_cases t1 : (bs.length : Int) ≤ bd
      case pos =>
        have d1 : decide ((bs.length : Int) ≤ bd) = true := decide_eq_true t1
        have HV : Hid (RR = ⟨#[]⟩) := HGD.out.trans (if_neg (by rw [hOK.out, p0, decide_eq_false (show ¬ bd < (bs.length : Int) by omega)]; simp))
        clear hOK hsr wadd EQ HGO HGD t0 t1 p0
        refine wp_region_later (by kernel_rfl) (by kernel_rfl) ?_
        repeat (first | go_big_quiet_step (first | (go_at_call 40; exact calls_later (FT.out _)) | (go_at_call 41; exact calls_later (FR.out _))) | quiet_step (first | (go_at_call 40; exact calls_later (FT.out _)) | (go_at_call 41; exact calls_later (FR.out _))))
        refine wpQuiet_nil ?_
        rintro _ ⟨y, rfl⟩
        go_wp2_with fail
        go_ret
        exact ⟨by rw [HV.out]; rfl, chain0 BX.out (later_below _ _)⟩
      have d1 : decide ((bs.length : Int) ≤ bd) = false := decide_eq_false t1
      have p1 : decide (bd < (bs.length : Int)) = true := decide_eq_true (by omega)
      cases hf : rfitsB want ps with
      | false =>
        rw [hf] at FT
        have HV : Hid (RR = ⟨#[]⟩) := HGD.out.trans (if_neg (by rw [hOK.out, p0, p1, hf]; cases zb <;> simp))
        clear hOK hsr wadd EQ HGO HGD t0 t1 p0 p1 FR hf
        refine wp_region_later (by kernel_rfl) (by kernel_rfl) ?_
        repeat (first | go_big_quiet_step (first | (go_at_call 40; exact calls_later (FT.out _)) | (go_at_call 41; exact calls_later (FR.out _))) | quiet_step (first | (go_at_call 40; exact calls_later (FT.out _)) | (go_at_call 41; exact calls_later (FR.out _))))
        refine wpQuiet_nil ?_
        rintro _ ⟨y, rfl⟩
        go_wp2_with fail
        go_ret
        exact ⟨by rw [HV.out]; rfl, chain0 BX.out (later_below _ _)⟩
      | true =>
      rw [hf] at FT
      replace FR := Lib.hid (FR.out hf)
      have eq := EQ.out
      cases hz : zb with
      | true =>
        rw [hz] at eq
        have HV : Hid (RR = ⟨#[]⟩) := HGD.out.trans (if_neg (by rw [hOK.out, p0, p1, hz]; simp))
        clear hOK hsr wadd EQ HGO HGD t0 t1 p0 p1 hf hz
        refine wp_region_later (by kernel_rfl) (by kernel_rfl) ?_
        repeat (first | go_big_quiet_step (first | (go_at_call 40; exact calls_later (FT.out _)) | (go_at_call 41; exact calls_later (FR.out _))) | quiet_step (first | (go_at_call 40; exact calls_later (FT.out _)) | (go_at_call 41; exact calls_later (FR.out _))))
        refine wpQuiet_nil ?_
        rintro _ ⟨y, rfl⟩
        go_wp2_with fail
        go_ret
        exact ⟨by rw [HV.out]; rfl, chain0 BX.out (later_below _ _)⟩
      | false =>
      rw [hz] at eq
      by_cases t4 : rs = r
      case neg =>
        have d4 : (rs != r) = true := bne_iff_ne.2 t4
        have HV : Hid (RR = ⟨#[]⟩) := HGD.out.trans (if_neg (by rw [hOK.out, p0, p1, hz, hf, decide_eq_false t4]; simp))
        clear hOK hsr wadd EQ HGO HGD t0 t1 p0 p1 hf hz t4
        refine wp_region_later (by kernel_rfl) (by kernel_rfl) ?_
        repeat (first | go_big_quiet_step (first | (go_at_call 40; exact calls_later (FT.out _)) | (go_at_call 41; exact calls_later (FR.out _))) | quiet_step (first | (go_at_call 40; exact calls_later (FT.out _)) | (go_at_call 41; exact calls_later (FR.out _))))
        refine wpQuiet_nil ?_
        rintro _ ⟨y, rfl⟩
        go_wp2_with fail
        go_ret
        exact ⟨by rw [HV.out]; rfl, chain0 BX.out (later_below _ _)⟩
      have d4 : (rs != r) = false := by rw [t4]; simp
      by_cases t5 : nt < 0
      case pos =>
        have d5 : decide (nt < 0) = true := decide_eq_true t5
        have HV : Hid (RR = ⟨#[]⟩) := HGD.out.trans (if_neg (by rw [hOK.out, p0, p1, hz, hf, decide_eq_true t4, decide_eq_false (show ¬ 0 ≤ nt by omega)]; simp))
        clear hOK hsr wadd EQ HGO HGD t0 t1 p0 p1 hf hz t4 t5
        refine wp_region_later (by kernel_rfl) (by kernel_rfl) ?_
        repeat (first | go_big_quiet_step (first | (go_at_call 40; exact calls_later (FT.out _)) | (go_at_call 41; exact calls_later (FR.out _))) | quiet_step (first | (go_at_call 40; exact calls_later (FT.out _)) | (go_at_call 41; exact calls_later (FR.out _))))
        refine wpQuiet_nil ?_
        rintro _ ⟨y, rfl⟩
        go_wp2_with fail
        go_ret
        exact ⟨by rw [HV.out]; rfl, chain0 BX.out (later_below _ _)⟩
      have d5 : decide (nt < 0) = false := decide_eq_false t5
      have p5 : decide (0 ≤ nt) = true := decide_eq_true (by omega)
      by_cases t7 : 1000000 < nt
      case pos =>
        have d7 : decide (1000000 < nt) = true := decide_eq_true t7
        have HV : Hid (RR = ⟨#[]⟩) := HGD.out.trans (if_neg (by rw [hOK.out, p0, p1, hz, hf, decide_eq_true t4, p5, decide_eq_false (show ¬ nt ≤ 1000000 by omega)]; simp))
        clear hOK hsr wadd EQ HGO HGD t0 t1 p0 p1 hf hz t4 t5 t7 p5
        refine wp_region_later (by kernel_rfl) (by kernel_rfl) ?_
        repeat (first | go_big_quiet_step (first | (go_at_call 40; exact calls_later (FT.out _)) | (go_at_call 41; exact calls_later (FR.out _))) | quiet_step (first | (go_at_call 40; exact calls_later (FT.out _)) | (go_at_call 41; exact calls_later (FR.out _))))
        refine wpQuiet_nil ?_
        rintro _ ⟨y, rfl⟩
        go_wp2_with fail
        go_ret
        exact ⟨by rw [HV.out]; rfl, chain0 BX.out (later_below _ _)⟩
      have d7 : decide (1000000 < nt) = false := decide_eq_false t7
      have p7 : decide (nt ≤ 1000000) = true := decide_eq_true (by omega)
      have w0' := wadd (by omega) (by omega) (by omega) (by omega)
      by_cases t6 : du = rs + nt
      case neg =>
        have d6 : (du != rs + nt) = true := bne_iff_ne.2 t6
        have HV : Hid (RR = ⟨#[]⟩) := HGD.out.trans (if_neg (by rw [hOK.out, p0, p1, hz, hf, decide_eq_true t4, p5, p7, decide_eq_false t6]; simp))
        clear hOK hsr wadd EQ HGO HGD t0 t1 p0 p1 hf hz t4 t5 t6 t7 p5 p7
        refine wp_region_later (by kernel_rfl) (by kernel_rfl) ?_
        repeat (first | go_big_quiet_step (first | (go_at_call 40; exact calls_later (FT.out _)) | (go_at_call 41; exact calls_later (FR.out _))) | quiet_step (first | (go_at_call 40; exact calls_later (FT.out _)) | (go_at_call 41; exact calls_later (FR.out _))))
        refine wpQuiet_nil ?_
        rintro _ ⟨y, rfl⟩
        go_wp2_with fail
        go_ret
        exact ⟨by rw [HV.out]; rfl, chain0 BX.out (later_below _ _)⟩
      have d6 : (du != rs + nt) = false := by rw [t6]; simp
      have hok : R = true := by rw [hOK.out, p0, p1, hz, hf, decide_eq_true t4, p5, p7, decide_eq_true t6]; rfl
      have HG1 : Hid (RR = fmtI ps bs tot (vs.drop (k + 1)) (stepI ps bs t ⟨bd, want, rs, nt, du⟩)) := HGD.out.trans (if_pos hok)
      have HP : Hid (0 ≤ bd ∧ bd < (bs.length : Int) ∧ (0 ≤ rs ∧ rs < 1000000000000) ∧ (0 ≤ nt ∧ nt < 1000000000000) ∧ (0 ≤ du ∧ du < 1000000000000)) := by show _ ∧ _; omega
      have hfs := fmt_size want ps hf
      have hnm := HNM.out bd HP.out.1 HP.out.2.1
      have HI64 : Hid (I64 rs ∧ I64 nt ∧ I64 du) := by show I64 rs ∧ I64 nt ∧ I64 du; have := HP.out; unfold I64; omega
      have HSZ := Lib.hid (step_size (ps := ps) (bs := bs) (t := t) (x := ⟨bd, want, rs, nt, du⟩) hnm hfs HI64.out.1 HI64.out.2.1 HI64.out.2.2)
      have HFS := Lib.hid hfs
      clear hok hOK hsr wadd EQ HGO HGD t0 t1 p0 p1 hf hz t4 t5 t6 t7 p5 p7 hfs hnm
      refine wp_region_later (by kernel_rfl) (by kernel_rfl) ?_
      repeat (first | go_big_quiet_step (first | (go_at_call 40; exact calls_later (FT.out _)) | (go_at_call 41; exact calls_later (FR.out _))) | quiet_step (first | (go_at_call 40; exact calls_later (FT.out _)) | (go_at_call 41; exact calls_later (FR.out _))))
      refine wpQuiet_nil ?_
      rintro _ ⟨y, rfl⟩
      have EL := Lib.hid (chain0 EX.out (later_below wx y))
      have KL := Lib.hid (KX.out.below' (later_below wx y))
      clear hat hxx lgx lst
      generalize later wx y = w3 at *
      have B3 := Lib.hid (chain0 B0.out EL.out)
      obtain ⟨p1, p2, p3, p4, p5⟩ := HP.out
      obtain ⟨s, rfl⟩ : ∃ s : Nat, bd = (s : Int) := ⟨bd.toNat, by omega⟩
      have hsl : s < bs.length := by omega
      have hsl1 : (s : Int) < (bs.length : Int) := p2
      have hs0 : (0 : Int) ≤ (s : Int) := p1
      obtain ⟨bb, ob, eB, hbb, _⟩ := HBR.out w3 B3.out s hsl
      subst eB
      have HNMC : Hid (∀ W, Below w.heap.size w W → W.cell? ⟨bb, ob + s * 4, none⟩ = some (.string bs[s].name)) := fun W bw => by
        obtain ⟨b', o', e, _, h⟩ := HBR.out W bw s hsl
        injection e with e; injection e with e1 e2 e3
        subst e1 e2; exact h
      have hbbl : bb < w3.heap.size := Nat.lt_of_lt_of_le hbb B3.out.size
      have enm : bidName bs (s : Int) = bs[s].name := by unfold bidName; simp [List.getD, hsl]
      have hnm := HNM.out (s : Int) p1 p2
      unfold stepI at HG1 HSZ
      dsimp only at HG1 HSZ
      rw [enm] at HG1 HSZ hnm
      rw [← rstep_eq] at HG1 HSZ
      have CFW := Lib.hid (CF.out want)
      unfold arr at CFW
      have N1 := Lib.hid (fun W => rnum_int rs W p3.1 p3.2)
      have N2 := Lib.hid (fun W => rnum_int nt W p4.1 p4.2)
      have N3 := Lib.hid (fun W => rnum_int du W p5.1 p5.2)
      have z1 := decS_size HI64.out.1
      have z2 := decS_size HI64.out.2.1
      have z3 := decS_size HI64.out.2.2
      have hts := HTS.out
      have hfs := HFS.out
      have HK20 : Hid (k ≤ 20) := by have := HVL.out; show k ≤ 20; omega
      have hk20 := HK20.out
      clear HP HI64 HFS p1 p2 p3 p4 p5 enm
      generalize bs[s].name = nm at *
      generalize fmtS want ps = fs at *
      generalize decS rs = dr at *
      generalize decS nt = dn at *
      generalize decS du = de at *
      have s1 : (⟨#[32]⟩ : ByteArray).size = 1 := rfl
      have s2 : (⟨#[10]⟩ : ByteArray).size = 1 := rfl
      have a1 := fun W => str_add nm ⟨#[32]⟩ (by (try simp only [ByteArray.size_append]); omega) W
      have a2 := fun W => str_add (nm ++ ⟨#[32]⟩) fs (by (try simp only [ByteArray.size_append]); omega) W
      have a3 := fun W => str_add ((nm ++ ⟨#[32]⟩) ++ fs) ⟨#[32]⟩ (by (try simp only [ByteArray.size_append]); omega) W
      have a4 := fun W => str_add (((nm ++ ⟨#[32]⟩) ++ fs) ++ ⟨#[32]⟩) dr (by (try simp only [ByteArray.size_append]); omega) W
      have a5 := fun W => str_add ((((nm ++ ⟨#[32]⟩) ++ fs) ++ ⟨#[32]⟩) ++ dr) ⟨#[32]⟩ (by (try simp only [ByteArray.size_append]); omega) W
      have a6 := fun W => str_add (((((nm ++ ⟨#[32]⟩) ++ fs) ++ ⟨#[32]⟩) ++ dr) ++ ⟨#[32]⟩) dn (by (try simp only [ByteArray.size_append]); omega) W
      have a7 := fun W => str_add ((((((nm ++ ⟨#[32]⟩) ++ fs) ++ ⟨#[32]⟩) ++ dr) ++ ⟨#[32]⟩) ++ dn) ⟨#[32]⟩ (by (try simp only [ByteArray.size_append]); omega) W
      have a8 := fun W => str_add (((((((nm ++ ⟨#[32]⟩) ++ fs) ++ ⟨#[32]⟩) ++ dr) ++ ⟨#[32]⟩) ++ dn) ++ ⟨#[32]⟩) de (by (try simp only [ByteArray.size_append]); omega) W
      have a9 := fun W => str_add ((((((((nm ++ ⟨#[32]⟩) ++ fs) ++ ⟨#[32]⟩) ++ dr) ++ ⟨#[32]⟩) ++ dn) ++ ⟨#[32]⟩) ++ de) ⟨#[10]⟩ (by (try simp only [ByteArray.size_append]); omega) W
      have a10 := fun W => str_add t (((((((((nm ++ ⟨#[32]⟩) ++ fs) ++ ⟨#[32]⟩) ++ dr) ++ ⟨#[32]⟩) ++ dn) ++ ⟨#[32]⟩) ++ de) ++ ⟨#[10]⟩) (by (try simp only [ByteArray.size_append]); omega) W
      have HTS2 : Hid (∀ u : ByteArray, u.size ≤ t.size + 4000 + 100 → u.size ≤ (k + 1) * 4200) := fun u h => by omega
      clear hts hfs hnm hk20 z1 z2 z3 s1 s2
      have ED := Lib.hid EL.out.drew
      have KD := Lib.hid KL.out.drew
      have hat := HAT.out w3 EL.out
      have hxx := inv_cells (x := ⟨(s : Int), want, rs, nt, du⟩) KL.out
      dsimp only at hxx
      have lgx := KL.out.lt
      have lst := Nat.lt_of_lt_of_le L0.out EL.out.size
      have hnc := HNMC.out w3 B3.out
      go_wp2_with fail
      clear hat hxx hnc
      go_region_held3 (fun w' => (w'.cell? ⟨w.heap.size, 0, none⟩ = some (.slice A1 ps.length c1) ∧ w'.cell? ⟨w.heap.size, 1, none⟩ = some (.slice (some ⟨bb, ob, none⟩) bs.length c2)) ∧ (w'.cell? ⟨gx, 0, none⟩ = some (.int .i64 (s : Int)) ∧ w'.cell? ⟨gx, 1, none⟩ = some (.int .i64 (want 0)) ∧ w'.cell? ⟨gx, 2, none⟩ = some (.int .i64 (want 1)) ∧ w'.cell? ⟨gx, 3, none⟩ = some (.int .i64 (want 2)) ∧ w'.cell? ⟨gx, 4, none⟩ = some (.int .i64 (want 3)) ∧ w'.cell? ⟨gx, 5, none⟩ = some (.int .i64 (want 4)) ∧ w'.cell? ⟨gx, 6, none⟩ = some (.int .i64 (want 5)) ∧ w'.cell? ⟨gx, 7, none⟩ = some (.int .i64 rs) ∧ w'.cell? ⟨gx, 8, none⟩ = some (.int .i64 nt) ∧ w'.cell? ⟨gx, 9, none⟩ = some (.int .i64 du)) ∧ w'.cell? ⟨bb, ob + s * 4, none⟩ = some (.string nm)) (first | with_reducible exact ⟨⟨(HAT.out _ ED.out).1, (HAT.out _ ED.out).2.1⟩, ⟨KD.out.cell 0, KD.out.cell 1, KD.out.cell 2, KD.out.cell 3, KD.out.cell 4, KD.out.cell 5, KD.out.cell 6, KD.out.cell 7, KD.out.cell 8, KD.out.cell 9⟩, HNMC.out _ (chain0 B0.out ED.out)⟩ | exact ⟨⟨(HAT.out _ ED.out).1, (HAT.out _ ED.out).2.1⟩, ⟨KD.out.cell 0, KD.out.cell 1, KD.out.cell 2, KD.out.cell 3, KD.out.cell 4, KD.out.cell 5, KD.out.cell 6, KD.out.cell 7, KD.out.cell 8, KD.out.cell 9⟩, HNMC.out _ (chain0 B0.out ED.out)⟩ | go_keep) (first
          | (go_at_call 42; with_reducible refine (CFW.out _ (chain0 B0.out ED.out)).mono ?_; rintro e w9 ⟨rfl, dd⟩; replace ED := Lib.hid (chain0 ED.out dd); replace KD := Lib.hid (KD.out.below' dd); clear dd)
          | (go_at_call 43; with_reducible refine (N1.out _).mono ?_; rintro e w9 ⟨rfl, dd⟩; replace ED := Lib.hid (chain0 ED.out dd); replace KD := Lib.hid (KD.out.below' dd); clear dd)
          | (go_at_call 43; with_reducible refine (N2.out _).mono ?_; rintro e w9 ⟨rfl, dd⟩; replace ED := Lib.hid (chain0 ED.out dd); replace KD := Lib.hid (KD.out.below' dd); clear dd)
          | (go_at_call 43; with_reducible refine (N3.out _).mono ?_; rintro e w9 ⟨rfl, dd⟩; replace ED := Lib.hid (chain0 ED.out dd); replace KD := Lib.hid (KD.out.below' dd); clear dd)
          )
      go_wp2_with fail
      go_roundw
      case rel => exact ⟨k + 1, _, hkn, by go_num, rfl, HG1.out, HTS2.out _ HSZ.out, ED.out⟩
      case measure => simp [intOf]; omega
    · obtain rfl : k = vs.length := by omega
      have hd2 : decide ((vs.length : Int) < (vs.length : Int)) = false := decide_eq_false (Int.lt_irrefl _)
      have HV := Lib.hid (HGO.out.trans (fmtI_end t))
      have hts := HTS.out
      have hds := decS_size (show I64 tot by have := HTOT.out; unfold I64; omega)
      have ad1 := fun W => str_add t ⟨#[116, 111, 116, 97, 108, 32]⟩ (by have : (⟨#[116, 111, 116, 97, 108, 32]⟩ : ByteArray).size = 6 := rfl; have := HVL.out; omega) W
      have ad2 := fun W => str_add (t ++ tot1) (decS tot) (by rw [ByteArray.size_append]; have : tot1.size = 6 := rfl; have := HVL.out; omega) W
      have ad3 := fun W => str_add ((t ++ tot1) ++ decS tot) ⟨#[10]⟩ (by rw [ByteArray.size_append, ByteArray.size_append]; have : tot1.size = 6 := rfl; have : (⟨#[10]⟩ : ByteArray).size = 1 := rfl; have := HVL.out; omega) W
      have CN := Lib.hid (fun W => rnum_int tot W HTOT.out.1 HTOT.out.2)
      clear hts hds
      go_wp2_with fail
      refine (CR.out wr HB.out).mono ?_
      rintro e w7 ⟨rfl, d7⟩
      have B7 := Lib.hid (chain0 HB.out d7)
      clear d7
      go_wp2_with fail
      refine (CN.out w7).mono ?_
      rintro e w8 ⟨rfl, d8⟩
      have B8 := Lib.hid (chain0 B7.out d8)
      clear d8
      go_wp2_with fail
      go_ret
      exact ⟨by rw [HV.out]; rfl, B8.out⟩
end Go.Proofs.YthehchdonmmpaaaDoor.St
