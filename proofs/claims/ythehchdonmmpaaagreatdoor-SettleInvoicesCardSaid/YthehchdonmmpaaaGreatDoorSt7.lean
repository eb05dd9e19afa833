/- Contract of settle.Format. Printed by gen_st7.py. -/
import Derived.Test.YthehchdonmmpaaaGreatDoorSt5
import Derived.Test.YthehchdonmmpaaaGreatDoorStF
import Derived.Deep.RegionHeld3
namespace Go.Proofs.YthehchdonmmpaaaGreatDoor.St
open Go.ChangeShapes Go.WideShapes Go.ChangeAt Go.RowKit Gn Cat Lex Pr Ros Fr
set_option linter.unusedVariables false
set_option linter.unusedSimpArgs false
theorem fmt_size (b : Nat → Int) (l : List Prod) (h : rfitsB b l = true) : (fmtS b l).size ≤ 4000 := by
  have hfmt : fmtS b l = ⟨#[123]⟩ ++ joinS (fparts b l l.length) ++ ⟨#[125]⟩ := by unfold fmtS; rw [if_pos h]
  unfold rfitsB fitsB at h
  simp only [Bool.and_eq_true, beq_iff_eq] at h
  obtain ⟨hz, hv, ht⟩ := h
  have h6 := (checkE_zero hz).2.1
  have hm : ∀ x ∈ fparts b l l.length, x.size ≤ 14 := fparts_mem (fun p hp => nameOk_size (checkGo_range l 0 (checkE_zero hz).2.2 p hp).2) _ (Nat.le_refl _)
  have h1 := joinS_size _ hm
  have h2 := fparts_len b l l.length
  rw [hfmt]
  simp only [ByteArray.size_append]
  show 1 + _ + 1 ≤ 4000
  omega
theorem amf_any (v : Int) (w : World) (h : I64 v) (ht : Am.Tab w) : Calls Tryz.prog 29 #[.int .i64 v] w fun e w' => e = .returned (.string (decS v)) ∧ Below w.heap.size w w' := Am.format_any v w h.1 h.2 ht
theorem str_add (a b : ByteArray) (h : a.size + b.size ≤ 200000) (W : World) : (Op.stringOp .add a b).run Tryz.prog W = .ok (.string (a ++ b)) W := run_string_add_sum W _ _ (by omega)
set_option maxHeartbeats 8000000 in
set_option maxRecDepth 100000 in
theorem setfmt_any (ps : List Prod) (bs : List Bid) (vs : List Inv) (A1 A2 : Option Addr) (c1 c2 : Nat) (v3 v4 vv : Value) (w : World) (hs : SaleP w (.slice A1 ps.length c1) (.slice A2 bs.length c2) ps bs) (hv : InvS w vv vs) (hl : vs.length ≤ 20) (ht : Am.Tab w) :
    Calls Tryz.prog 11 #[.agg #[.slice A1 ps.length c1, .slice A2 bs.length c2, v3, v4], vv] w fun e w' => e = .returned (.string (setFmt ps bs vs)) ∧ Below w.heap.size w w' := by
  have CR := Lib.hid (fun W (b : Below w.heap.size w W) => revenue_any vs vv W (by omega) (hv.keep b))
  obtain ⟨Av, cv, rfl, _, _, hvr⟩ := sl_parts hv
  have CC : Hid (∀ W, Below w.heap.size w W → Calls Tryz.prog 12 #[.slice A1 ps.length c1] W fun e w' => e = .returned (.int .i64 (checkE ps)) ∧ Below W.heap.size W w') := fun W b => Cat.check_any ps (.slice A1 ps.length c1) W hs.set.len (hs.set.sl.keep b) hs.set.names
  have CT : Hid (∀ W, Below w.heap.size w W → Calls Tryz.prog 13 #[.slice A2 bs.length c2] W fun e w' => e = .returned (.int .i64 (rosE bs)) ∧ Below W.heap.size W w') := fun W b => Ros.check_any bs (.slice A2 bs.length c2) W hs.len (hs.sl.keep b) hs.names
  have CV := Lib.hid (fun x W (b : Below w.heap.size w W) => St.valid_any ps bs.length x (.slice A1 ps.length c1) v3 v4 A2 c2 W (hs.set.keep b))
  have CF := Lib.hid (fun p W (b : Below w.heap.size w W) => Cat.format_any ps (.slice A1 ps.length c1) p W hs.set.len (hs.set.sl.keep b) hs.set.names)
  have CA := Lib.hid (fun v (h : I64 v) W (b : Below w.heap.size w W) => amf_any v W h (tab_keep ht b))
  have HVR : Hid (∀ W, Below w.heap.size w W → 0 < vs.length → ∃ b o, Av = some ⟨b, o, none⟩ ∧ b < w.heap.size ∧ Row W b o (vs.flatMap Inv.cells)) := fun W bw h0 => by
    obtain ⟨b, o, e, hb, hr⟩ := hvr h0
    exact ⟨b, o, e, hb, hr.below hb bw⟩
  have HBR : Hid (∀ W, Below w.heap.size w W → ∀ k (hk : k < bs.length), ∃ b o, A2 = some ⟨b, o, none⟩ ∧ b < w.heap.size ∧ W.cell? ⟨b, o + k * 4, none⟩ = some (.string bs[k].name)) := fun W bw k hk => by
    obtain ⟨A, c, e, _, _, h⟩ := sl_parts hs.sl
    injection e with e1 e2 e3
    subst e1
    obtain ⟨b, o, e4, hlt, hr⟩ := h (by omega)
    exact ⟨b, o, e4, hlt, (BidRow.at_ (hr.below hlt bw) k hk).1⟩
  have b0 := below_new w (.cells #[.slice A1 ps.length c1, .slice A2 bs.length c2, v3, v4] 27)
  have HAT := Lib.hid (setup_cells w 27 (.slice A1 ps.length c1) (.slice A2 bs.length c2) v3 v4)
  obtain ⟨w0, hw0⟩ : ∃ W, W = w.alloc (.cells #[.slice A1 ps.length c1, .slice A2 bs.length c2, v3, v4] 27) := ⟨_, rfl⟩
  have HW0 := Lib.hid hw0.symm
  rw [← hw0] at HAT b0
  have B0 := Lib.hid b0
  have L0 : Hid (w.heap.size < w0.heap.size) := by show _ < _; rw [hw0, World.size_alloc]; omega
  have HVL : Hid (vs.length ≤ 20) := hl
  clear hw0 b0
  obtain ⟨RR, hRR⟩ : ∃ x, x = setFmt ps bs vs := ⟨_, rfl⟩
  have HNO := Lib.hid (fun h => hRR.trans (setFmt_no (vs := vs) h))
  have HYES := Lib.hid (fun h => hRR.trans (setFmt_yes (vs := vs) h))
  rw [← hRR]
  have HNM := Lib.hid (fun h i h0 h1 => name_size (bs := bs) h (i := i) h0 h1)
  clear hRR hs hv hl hvr ht
  by_cases hz : checkE ps = 0
  case neg =>
    have HV : Hid (RR = ⟨#[]⟩) := HNO.out (fun h => hz h.1)
    have q : (checkE ps != 0) = true := by simpa using hz
    clear HNO HYES CV CF CT
    generalize checkE ps = e0 at *
    go_enter Tryz.func11, Tryz.ntmps11
    go_upto_region 1 with fail
    rw [HW0.out]
    have E0 := Lib.hid (Below.refl w0.heap.size w0)
    have hat := HAT.out w0 E0.out
    have l0 := L0.out
    go_wp2_with fail
    clear hat l0
    refine (CC.out w0 B0.out).mono ?_
    rintro e w1 ⟨rfl, d1⟩
    have E1 := Lib.hid (chain0 E0.out d1)
    have B1 := Lib.hid (chain0 B0.out E1.out)
    have hat := HAT.out w1 E1.out
    have l0 := Nat.lt_of_lt_of_le L0.out E1.out.size
    clear d1
    go_wp2_with fail
    clear hat l0
    go_ret
    exact ⟨by rw [HV.out]; rfl, B1.out⟩
  rw [hz] at CC
  by_cases hr : rosE bs = 0
  case neg =>
    have HV : Hid (RR = ⟨#[]⟩) := HNO.out (fun h => hr h.2)
    have q : (rosE bs != 0) = true := by simpa using hr
    clear HNO HYES CV CF
    generalize rosE bs = e0 at *
    go_enter Tryz.func11, Tryz.ntmps11
    go_upto_region 1 with fail
    rw [HW0.out]
    have E0 := Lib.hid (Below.refl w0.heap.size w0)
    have hat := HAT.out w0 E0.out
    have l0 := L0.out
    go_wp2_with fail
    clear hat l0
    refine (CC.out w0 B0.out).mono ?_
    rintro e w1 ⟨rfl, d1⟩
    have E1 := Lib.hid (chain0 E0.out d1)
    have B1 := Lib.hid (chain0 B0.out E1.out)
    have hat := HAT.out w1 E1.out
    have l0 := Nat.lt_of_lt_of_le L0.out E1.out.size
    clear d1
    go_wp2_with fail
    clear hat l0
    refine (CT.out w1 B1.out).mono ?_
    rintro e w2 ⟨rfl, d2⟩
    have E2 := Lib.hid (chain0 E1.out d2)
    have B2 := Lib.hid (chain0 B0.out E2.out)
    have hat := HAT.out w2 E2.out
    have l0 := Nat.lt_of_lt_of_le L0.out E2.out.size
    clear d2
    go_wp2_with fail
    clear hat l0
    go_ret
    exact ⟨by rw [HV.out]; rfl, B2.out⟩
  rw [hr] at CT
  have HRR := Lib.hid (HYES.out ⟨hz, hr⟩)
  replace HNM := Lib.hid (fun i h0 h1 => HNM.out hr i h0 h1)
  clear HNO HYES hz hr
  go_enter Tryz.func11, Tryz.ntmps11
  go_upto_region 1 with fail
  rw [HW0.out]
  have E0 := Lib.hid (Below.refl w0.heap.size w0)
  have hat := HAT.out w0 E0.out
  have l0 := L0.out
  go_wp2_with fail
  clear hat l0
  refine (CC.out w0 B0.out).mono ?_
  rintro e w1 ⟨rfl, d1⟩
  have E1 := Lib.hid (chain0 E0.out d1)
  have B1 := Lib.hid (chain0 B0.out E1.out)
  have hat := HAT.out w1 E1.out
  have l0 := Nat.lt_of_lt_of_le L0.out E1.out.size
  clear d1
  go_wp2_with fail
  clear hat l0
  refine (CT.out w1 B1.out).mono ?_
  rintro e w2 ⟨rfl, d2⟩
  have E2 := Lib.hid (chain0 E1.out d2)
  have B2 := Lib.hid (chain0 B0.out E2.out)
  have hat := HAT.out w2 E2.out
  have l0 := Nat.lt_of_lt_of_le L0.out E2.out.size
  clear d2
  go_wp2_with fail
  clear hat l0
  clear CC CT
  obtain ⟨tot, htot⟩ : ∃ t, t = (dues vs).sum := ⟨_, rfl⟩
  rw [← htot] at HRR CR
  have HTOT : Hid (I64 tot) := by
    have h := sum_range_of (M := 1000000000) (by omega) (dues vs) (dues_range vs)
    have h2 := dues_len vs
    have h3 := HVL.out
    show I64 tot
    unfold I64
    have h4 : ((dues vs).length : Int) * 1000000000 ≤ 20 * 1000000000 := Int.mul_le_mul_of_nonneg_right (by omega) (by omega)
    omega
  clear htot
  go_loopw [22, 5] (fun iv tv wr => ∃ (k : Nat) (t : ByteArray), k ≤ vs.length ∧ iv = .int .i64 (k : Int) ∧ tv = .string t ∧ Hid (RR = fmtI ps bs tot (vs.drop k) t) ∧ Hid (t.size ≤ k * 4200) ∧ Hid (Below w0.heap.size w0 wr)) (fun iv _ _ => vs.length - (intOf iv).toNat)
  case atStart => exact ⟨0, ⟨#[]⟩, Nat.zero_le _, rfl, rfl, HRR.out, Nat.zero_le _, E2.out⟩
  case round =>
    obtain ⟨k, t, hk, rfl, rfl, HGO, HTS, HE⟩ := hrel
    have hk0 : (0 : Int) ≤ (k : Int) := by omega
    have hk5 : (k : Int) ≤ 20 := by have := HVL.out; omega
    have HB := Lib.hid (chain0 B0.out HE.out)
    have l0 := Nat.lt_of_lt_of_le L0.out HE.out.size
    by_cases hkn : k < vs.length
    · have hd2 : decide ((k : Int) < (vs.length : Int)) = true := decide_eq_true (by omega)
      have hkn1 : (k : Int) < (vs.length : Int) := by omega
      obtain ⟨b, o, eA, hb, hrow⟩ := HVR.out wr HB.out (by omega)
      subst eA
      have hx := inv_at hrow k hkn
      have hbl : b < wr.heap.size := Nat.lt_of_lt_of_le hb HB.out.size
      have HGD := Lib.hid (HGO.out.trans (fmtI_drop hkn t))
      clear hrow
      generalize vs[k] = x at *
      have hat := HAT.out wr HE.out
      obtain ⟨bd, want, rs, nt, du⟩ := x
      dsimp only at hx
      go_wp2_with fail
      clear hat hx
      have KX := Lib.hid (Blk.new wr 42 (invA ⟨bd, want, rs, nt, du⟩))
      have EX := Lib.hid (HE.out.alloc HE.out.size (.cells (invA ⟨bd, want, rs, nt, du⟩) 42))
      dsimp only [invA] at KX EX
      generalize wr.alloc (.cells #[.int .i64 bd, .int .i64 (want 0), .int .i64 (want 1), .int .i64 (want 2), .int .i64 (want 3), .int .i64 (want 4), .int .i64 (want 5), .int .i64 rs, .int .i64 nt, .int .i64 du] 42) = wx at *
      obtain ⟨gx, hgx⟩ : ∃ z, z = wr.heap.size := ⟨_, rfl⟩
      rw [← hgx] at KX
      rw [← hgx]
      clear hgx
      have BX := Lib.hid (chain0 B0.out EX.out)
      refine (CV.out ⟨bd, want, rs, nt, du⟩ wx BX.out).mono ?_
      rintro e w3 ⟨rfl, d3⟩
      have E3 := Lib.hid (chain0 EX.out d3)
      have B3 := Lib.hid (chain0 BX.out d3)
      have KX3 := Lib.hid (KX.out.below' d3)
      clear d3 KX EX BX l0
      have l0 := Nat.lt_of_lt_of_le L0.out E3.out.size
      cases hok : invOk ps bs.length ⟨bd, want, rs, nt, du⟩ with
      | false =>
        have HV : Hid (RR = ⟨#[]⟩) := HGD.out.trans (if_neg (by rw [hok]; simp))
        clear HGD HGO hok
        go_wp2_with fail
        go_ret
        exact ⟨by rw [HV.out]; rfl, B3.out⟩
      | true =>
        obtain ⟨p1, p2, p3, p4, p5, p6⟩ := invOk_parts hok
        dsimp only at p1 p2 p3 p4 p5 p6
        have HG1 : Hid (RR = fmtI ps bs tot (vs.drop (k + 1)) (stepI ps bs t ⟨bd, want, rs, nt, du⟩)) := HGD.out.trans (if_pos hok)
        have hnm := HNM.out bd p1 p2
        have hfs := fmt_size want ps p3
        have HSZ := Lib.hid (step_size (ps := ps) (bs := bs) (t := t) (x := ⟨bd, want, rs, nt, du⟩) hnm hfs p4 p5 p6)
        obtain ⟨s, rfl⟩ : ∃ s : Nat, bd = (s : Int) := ⟨bd.toNat, by omega⟩
        have hsl : s < bs.length := by omega
        have hsl1 : (s : Int) < (bs.length : Int) := p2
        have hs0 : (0 : Int) ≤ (s : Int) := p1
        obtain ⟨bb, ob, eB, hbb, _⟩ := HBR.out w3 B3.out s hsl
        subst eB
        have HNMC : Hid (∀ W, Below w.heap.size w W → W.cell? ⟨bb, ob + s * 4, none⟩ = some (.string bs[s].name)) := fun W bw => by
          obtain ⟨b', o', e, _, h⟩ := HBR.out W bw s hsl
          injection e with e; injection e with e1 e2 e3
          subst e1 e2; exact h
        have hbbl : bb < w3.heap.size := Nat.lt_of_lt_of_le hbb B3.out.size
        have enm : bidName bs (s : Int) = bs[s].name := by unfold bidName; simp [List.getD, hsl]
        unfold stepI at HG1 HSZ
        dsimp only at HG1 HSZ
        rw [enm] at HG1 HSZ hnm
        have CFW := Lib.hid (CF.out want)
        unfold arr at CFW
        have HP := Lib.hid (show I64 rs ∧ I64 nt ∧ I64 du from ⟨p4, p5, p6⟩)
        have hts := HTS.out
        have HK20 : Hid (k ≤ 20) := by have := HVL.out; show k ≤ 20; omega
        clear HGD HGO hok p3 p4 p5 p6 enm
        generalize bs[s].name = nm at *
        generalize fmtS want ps = fs at *
        have a1 := fun W => str_add nm ⟨#[32]⟩ (by have : (⟨#[32]⟩ : ByteArray).size = 1 := rfl; omega) W
        have a2 := fun W => str_add (nm ++ ⟨#[32]⟩) fs (by rw [ByteArray.size_append]; have : (⟨#[32]⟩ : ByteArray).size = 1 := rfl; omega) W
        have hk20 := HK20.out
        have a3 := fun W => str_add t ((nm ++ ⟨#[32]⟩) ++ fs) (by rw [ByteArray.size_append, ByteArray.size_append]; have : (⟨#[32]⟩ : ByteArray).size = 1 := rfl; omega) W
        have hz1 : (t ++ ((nm ++ sp1) ++ fs)).size ≤ 90000 := by simp only [ByteArray.size_append]; have : sp1.size = 1 := rfl; omega
        have HTS2 : Hid (∀ u : ByteArray, u.size ≤ t.size + 4000 + 100 → u.size ≤ (k + 1) * 4200) := fun u h => by omega
        clear hts hfs hnm hk20
        have ED := Lib.hid E3.out.drew
        have KD := Lib.hid KX3.out.drew
        have hat := HAT.out w3 E3.out
        have hxx := inv_cells (x := ⟨(s : Int), want, rs, nt, du⟩) KX3.out
        dsimp only at hxx
        have lgx := KX3.out.lt
        have hnc := HNMC.out w3 B3.out
        go_wp2_with fail
        clear hat hxx hnc
        go_region_held3 (fun w' => (w'.cell? ⟨w.heap.size, 0, none⟩ = some (.slice A1 ps.length c1) ∧ w'.cell? ⟨w.heap.size, 1, none⟩ = some (.slice (some ⟨bb, ob, none⟩) bs.length c2)) ∧ (w'.cell? ⟨gx, 0, none⟩ = some (.int .i64 (s : Int)) ∧ w'.cell? ⟨gx, 1, none⟩ = some (.int .i64 (want 0)) ∧ w'.cell? ⟨gx, 2, none⟩ = some (.int .i64 (want 1)) ∧ w'.cell? ⟨gx, 3, none⟩ = some (.int .i64 (want 2)) ∧ w'.cell? ⟨gx, 4, none⟩ = some (.int .i64 (want 3)) ∧ w'.cell? ⟨gx, 5, none⟩ = some (.int .i64 (want 4)) ∧ w'.cell? ⟨gx, 6, none⟩ = some (.int .i64 (want 5))) ∧ w'.cell? ⟨bb, ob + s * 4, none⟩ = some (.string nm)) (first | with_reducible exact ⟨⟨(HAT.out _ ED.out).1, (HAT.out _ ED.out).2.1⟩, ⟨KD.out.cell 0, KD.out.cell 1, KD.out.cell 2, KD.out.cell 3, KD.out.cell 4, KD.out.cell 5, KD.out.cell 6⟩, HNMC.out _ (chain0 B0.out ED.out)⟩ | exact ⟨⟨(HAT.out _ ED.out).1, (HAT.out _ ED.out).2.1⟩, ⟨KD.out.cell 0, KD.out.cell 1, KD.out.cell 2, KD.out.cell 3, KD.out.cell 4, KD.out.cell 5, KD.out.cell 6⟩, HNMC.out _ (chain0 B0.out ED.out)⟩ | go_keep) (first
          | (go_at_call 28; with_reducible refine (CFW.out _ (chain0 B0.out ED.out)).mono ?_; rintro e w9 ⟨rfl, dd⟩; replace ED := Lib.hid (chain0 ED.out dd); replace KD := Lib.hid (KD.out.below' dd); clear dd)
          )
        dsimp only [sp1, nl1] at HG1 HSZ hz1
        have hcx := inv_cells (x := ⟨(s : Int), want, rs, nt, du⟩) KD.out
        dsimp only at hcx
        have lg9 := KD.out.lt
        have hs1 := decS_size HP.out.1
        have hs2 := decS_size HP.out.2.1
        have hs3 := decS_size HP.out.2.2
        have CA1 := Lib.hid (CA.out rs HP.out.1)
        have CA2 := Lib.hid (CA.out nt HP.out.2.1)
        have CA3 := Lib.hid (CA.out du HP.out.2.2)
        clear a1 a2 a3 HP
        generalize decS rs = dr at *
        generalize decS nt = dn at *
        generalize decS du = de at *
        generalize t ++ (nm ++ ⟨#[32]⟩ ++ fs) = t1 at *
        have z1 : (⟨#[32]⟩ : ByteArray).size = 1 := rfl
        have z2 : (⟨#[10]⟩ : ByteArray).size = 1 := rfl
        have q1 := fun W => str_add ⟨#[32]⟩ dr (by omega) W
        have q2 := fun W => str_add t1 (⟨#[32]⟩ ++ dr) (by simp only [ByteArray.size_append]; omega) W
        have q3 := fun W => str_add ⟨#[32]⟩ dn (by omega) W
        have q4 := fun W => str_add (t1 ++ (⟨#[32]⟩ ++ dr)) (⟨#[32]⟩ ++ dn) (by simp only [ByteArray.size_append]; omega) W
        have q5 := fun W => str_add ⟨#[32]⟩ de (by omega) W
        have q6 := fun W => str_add (t1 ++ (⟨#[32]⟩ ++ dr) ++ (⟨#[32]⟩ ++ dn)) (⟨#[32]⟩ ++ de) (by simp only [ByteArray.size_append]; omega) W
        have q7 := fun W => str_add (t1 ++ (⟨#[32]⟩ ++ dr) ++ (⟨#[32]⟩ ++ dn) ++ (⟨#[32]⟩ ++ de)) ⟨#[10]⟩ (by simp only [ByteArray.size_append]; omega) W
        clear hs1 hs2 hs3 z1 z2 hz1
        go_wp2_with fail
        clear hcx lg9 lgx
        have KY := Lib.hid (Blk.new w9 2 #[.int .i64 rs, .int .i64 nt, .int .i64 du])
        have EY := Lib.hid (ED.out.alloc ED.out.size (.cells #[.int .i64 rs, .int .i64 nt, .int .i64 du] 2))
        clear ED KD
        generalize w9.alloc (.cells #[.int .i64 rs, .int .i64 nt, .int .i64 du] 2) = wy at *
        generalize w9.heap.size = gy at *
        have BY := Lib.hid (chain0 B0.out EY.out)
        have y1 := KY.out.c3
        have ly := KY.out.lt
        refine wp_loop_rounds 4 ?_
        rw [rounds_succ]
        go_wp2_with fail
        refine (CA1.out wy BY.out).mono ?_
        rintro e wz ⟨rfl, g1⟩
        have EZ1 := Lib.hid (chain0 EY.out g1)
        have BZ1 := Lib.hid (chain0 B0.out EZ1.out)
        have KZ1 := Lib.hid (KY.out.below' g1)
        clear g1 y1 ly
        have y1 := KZ1.out.c3
        have ly := KZ1.out.lt
        go_wp2_with fail
        rw [rounds_succ]
        go_wp2_with fail
        refine (CA2.out wz BZ1.out).mono ?_
        rintro e wq ⟨rfl, g1⟩
        have EZ2 := Lib.hid (chain0 EZ1.out g1)
        have BZ2 := Lib.hid (chain0 B0.out EZ2.out)
        have KZ2 := Lib.hid (KZ1.out.below' g1)
        clear g1 y1 ly
        have y1 := KZ2.out.c3
        have ly := KZ2.out.lt
        go_wp2_with fail
        rw [rounds_succ]
        go_wp2_with fail
        refine (CA3.out wq BZ2.out).mono ?_
        rintro e wr3 ⟨rfl, g1⟩
        have EZ3 := Lib.hid (chain0 EZ2.out g1)
        clear g1 y1 ly
        go_wp2_with fail
        rw [rounds_succ]
        go_wp2_with fail
        go_roundw
        case rel => exact ⟨k + 1, _, hkn, by go_num, rfl, HG1.out, HTS2.out _ HSZ.out, EZ3.out⟩
        case measure => simp [intOf]; omega
    · obtain rfl : k = vs.length := by omega
      have hd2 : decide ((vs.length : Int) < (vs.length : Int)) = false := decide_eq_false (Int.lt_irrefl _)
      have HV := Lib.hid (HGO.out.trans (fmtI_end t))
      have hts := HTS.out
      have hds := decS_size HTOT.out
      have ad1 := fun W => str_add t ⟨#[116, 111, 116, 97, 108, 32]⟩ (by have : (⟨#[116, 111, 116, 97, 108, 32]⟩ : ByteArray).size = 6 := rfl; have := HVL.out; omega) W
      have ad2 := fun W => str_add (t ++ tot1) (decS tot) (by rw [ByteArray.size_append]; have : tot1.size = 6 := rfl; have := HVL.out; omega) W
      have ad3 := fun W => str_add ((t ++ tot1) ++ decS tot) ⟨#[10]⟩ (by rw [ByteArray.size_append, ByteArray.size_append]; have : tot1.size = 6 := rfl; have : (⟨#[10]⟩ : ByteArray).size = 1 := rfl; have := HVL.out; omega) W
      clear hts hds
      go_wp2_with fail
      refine (CR.out wr HB.out).mono ?_
      rintro e w7 ⟨rfl, d7⟩
      have B7 := Lib.hid (chain0 HB.out d7)
      clear d7
      go_wp2_with fail
      refine (CA.out tot HTOT.out w7 B7.out).mono ?_
      rintro e w8 ⟨rfl, d8⟩
      have B8 := Lib.hid (chain0 B7.out d8)
      clear d8
      go_wp2_with fail
      go_ret
      exact ⟨by rw [HV.out]; rfl, B8.out⟩
end Go.Proofs.YthehchdonmmpaaaGreatDoor.St
