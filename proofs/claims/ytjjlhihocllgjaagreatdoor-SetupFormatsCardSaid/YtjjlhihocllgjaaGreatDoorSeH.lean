/- The reference's Format. Printed by gen_seH.py. -/
import Derived.Test.YtjjlhihocllgjaaGreatDoorSeG
import Derived.Deep.QuietTactic
import Derived.BigQuiet
namespace Go.Proofs.YtjjlhihocllgjaaGreatDoor.Se
open Go.ChangeShapes Go.WideShapes Go.ChangeAt Go.RowKit Gn Cat Lex Ros
set_option linter.unusedVariables false
set_option linter.unusedSimpArgs false

theorem cat_1 (t nm a b c d : ByteArray) : (t ++ ⟨#[112, 114, 111, 100, 117, 99, 116, 32]⟩ ++ nm ++ ⟨#[32]⟩ ++ a ++ ⟨#[32]⟩ ++ b ++ ⟨#[32]⟩ ++ c ++ ⟨#[32]⟩ ++ d ++ ⟨#[10]⟩ : ByteArray) = t ++ lineW [wProd, nm, a, b, c, d] := by
  apply ByteArray.ext
  apply Array.ext'
  simp [lineW, Lib.join, wProd, ByteArray.data_append]
theorem cat_2 (t nm a b c : ByteArray) : (t ++ ⟨#[98, 105, 100, 100, 101, 114, 32]⟩ ++ nm ++ ⟨#[32]⟩ ++ a ++ ⟨#[32]⟩ ++ b ++ ⟨#[32]⟩ ++ c ++ ⟨#[10]⟩ : ByteArray) = t ++ lineW [wBid, nm, a, b, c] := by
  apply ByteArray.ext
  apply Array.ext'
  simp [lineW, Lib.join, wBid, ByteArray.data_append]
theorem cat_3 (t nm a b : ByteArray) : (t ++ ⟨#[99, 97, 112, 32]⟩ ++ nm ++ ⟨#[32]⟩ ++ a ++ ⟨#[32]⟩ ++ b ++ ⟨#[10]⟩ : ByteArray) = t ++ lineW [wCap, nm, a, b] := by
  apply ByteArray.ext
  apply Array.ext'
  simp [lineW, Lib.join, wCap, ByteArray.data_append]
theorem cat_4 (t nm a b : ByteArray) : (t ++ ⟨#[97, 115, 105, 100, 101, 32]⟩ ++ nm ++ ⟨#[32]⟩ ++ a ++ ⟨#[32]⟩ ++ b ++ ⟨#[10]⟩ : ByteArray) = t ++ lineW [wAsd, nm, a, b] := by
  apply ByteArray.ext
  apply Array.ext'
  simp [lineW, Lib.join, wAsd, ByteArray.data_append]
set_option maxHeartbeats 8000000 in
set_option maxRecDepth 100000 in
theorem rformat_any (S : SetD) (v1 v2 v3 v4 : Value) (w : World) (h : SetW w v1 v2 v3 v4 S) : Calls Tryz.prog 19 #[.agg #[v1, v2, v3, v4]] w (FmtPost S w) := by
  obtain ⟨A1, c1, A2, c2, A3, c3, A4, c4, rfl, rfl, rfl, rfl⟩ := h.forms
  have CC := Lib.hid (fun W (b : Below w.heap.size w W) => rcheck_any S _ _ _ _ W (h.keep b))
  obtain ⟨A', c', e', _, _, hp⟩ := ps_cases h.p
  injection e' with e1 e2 e3
  subst e1 e3
  have HRP := Lib.hid hp
  obtain ⟨A', c', e', _, _, hb⟩ := sl_parts h.b
  injection e' with e1 e2 e3
  subst e1 e3
  have HRB := Lib.hid hb
  obtain ⟨A', c', e', _, _, hc⟩ := sl_parts h.c
  injection e' with e1 e2 e3
  subst e1 e3
  have HRC := Lib.hid hc
  obtain ⟨A', c', e', _, _, ha⟩ := sl_parts h.a
  injection e' with e1 e2 e3
  subst e1 e3
  have HRA := Lib.hid ha
  have hlp : (S.ps.length : Int) ≤ 5000 := by have := h.lp; omega
  have hlb : (S.bs.length : Int) ≤ 5000 := by have := h.lb; omega
  have hlc : (S.cs.length : Int) ≤ 5000 := by have := h.lc; omega
  have hla : (S.ad.length : Int) ≤ 5000 := by have := h.la; omega
  have BX := Lib.hid (below_new w (.cells #[.slice A1 S.ps.length c1, .slice A2 S.bs.length c2, .slice A3 S.cs.length c3, .slice A4 S.ad.length c4] 38))
  have KX := Lib.hid (Blk.new w 38 #[.slice A1 S.ps.length c1, .slice A2 S.bs.length c2, .slice A3 S.cs.length c3, .slice A4 S.ad.length c4])
  clear h hp hb hc ha
  go_enter Tryz.func19, Tryz.ntmps19
  go_wp2_with fail
  refine (CC.out _ BX.out).mono ?_
  rintro e w1 ⟨rfl, d1⟩
  have BB := Lib.hid (chain0 BX.out d1)
  have KK := Lib.hid (KX.out.below' d1)
  clear d1 BX KX CC
  have xx := KK.out.c4
  by_cases hz : S.err = 0
  case neg =>
    have t1 : (S.err != 0) = true := by simpa using hz
    have HV := Lib.hid (show fmtT S = ⟨#[]⟩ from if_neg hz)
    clear hz
    go_wp2_with fail
    go_ret2
    exact ⟨by rw [HV.out]; rfl, BB.out⟩
  have t1 : (S.err != 0) = false := by rw [hz]; rfl
  have HZ := Lib.hid hz
  obtain ⟨z1, z2, z3, z4⟩ := setE_parts hz
  have HG1 := Lib.hid (prods_good z1)
  have HG2 := Lib.hid (bids_good z2)
  have HG3 := Lib.hid (caps_good z2 z3)
  have HG4 := Lib.hid (asds_good z1 z4)
  have HL1 := Lib.hid (lines_1 hz)
  have HL2 := Lib.hid (lines_2 hz)
  have HL3 := Lib.hid (lines_3 hz)
  have HL4 := Lib.hid (lines_4 hz)
  have HN1 : Hid (S.ps.length ≤ 6) := (checkE_zero z1).2.1
  have HN2 : Hid (S.bs.length ≤ 8) := (rosE_zero z2).2.1
  have HN3 : Hid (S.cs.length ≤ 16) := (capsE_parts z3).1
  have HN4 : Hid (S.ad.length ≤ 6) := (asdsE_parts z4).1
  clear hz z1 z2 z3 z4
  go_wp2_with fail
  clear t1
  have HBASE : Hid ((⟨#[]⟩ : ByteArray).size ≤ 0 + 79 * 0) := Nat.le_refl 0
  go_loopw [6, 5] (fun iv ov wr => ∃ (k : Nat) (t : ByteArray), k ≤ S.ps.length ∧ iv = .int .i64 (k : Int) ∧ ov = .string t ∧ Hid (t = catL ⟨#[]⟩ ((S.ps.take k).map prodW)) ∧ Hid (t.size ≤ 0 + 79 * k) ∧ Hid (Below w.heap.size w wr) ∧ Hid (Blk wr w.heap.size 38 #[.slice A1 S.ps.length c1, .slice A2 S.bs.length c2, .slice A3 S.cs.length c3, .slice A4 S.ad.length c4])) (fun iv _ _ => S.ps.length - (intOf iv).toNat)
  case atStart => exact ⟨0, ⟨#[]⟩, Nat.zero_le _, rfl, rfl, rfl, HBASE.out, BB.out, KK.out⟩
  case round =>
    clear HBASE BB KK xx
    obtain ⟨k, t, hk, rfl, rfl, HT, HTZ, HB, HK⟩ := hrel
    have hk0 : (0 : Int) ≤ (k : Int) := by omega
    have cx := HK.out.c4
    have lx := HK.out.lt
    by_cases hkn : k < S.ps.length
    · have hd1 : decide (k < S.ps.length) = true := decide_eq_true hkn
      have hd2 : decide ((k : Int) < (S.ps.length : Int)) = true := decide_eq_true (by omega)
      have hkn1 : (k : Int) < (S.ps.length : Int) := by omega
      obtain ⟨b, o, e1, hb, hrow⟩ := HRP.out (by omega)
      subst e1
      have hat := (fun W (bw : Below w.heap.size w W) => (hrow.below hb bw).at_ k hkn) _ HB.out
      have hbr := Nat.lt_of_lt_of_le hb HB.out.size
      have HG := Lib.hid (HG1.out S.ps[k] (List.getElem_mem hkn))
      have hl79 := HL1.out S.ps[k] (List.getElem_mem hkn)
      have HT2 : Hid (t ++ lineW (prodW S.ps[k]) = catL ⟨#[]⟩ ((S.ps.take (k + 1)).map prodW)) := by show _ = _; rw [map_take _ _ _ hkn, catL_snoc, HT.out]
      obtain ⟨x, hx⟩ : ∃ x, x = S.ps[k] := ⟨_, rfl⟩
      rw [← hx] at hat HG hl79 HT2
      have htz := HTZ.out
      have hk36 : k ≤ 36 := by have := HN1.out; omega
      skip
      clear hx hrow HT HTZ
      have Ns := Lib.hid (fun W => rnumber_any (x.supply) W HG.out.s)
      have Nr := Lib.hid (fun W => rnumber_any (x.reserve) W HG.out.r)
      have Nt := Lib.hid (fun W => rnumber_any (x.points) W HG.out.t)
      have Ng := Lib.hid (fun W => rnumber_any (x.group) W HG.out.g)
      have HTZ2 : Hid ((t ++ lineW (prodW x)).size ≤ 0 + 79 * (k + 1)) := by show _ ≤ _; rw [ByteArray.size_append]; omega
      obtain ⟨nm, hnm⟩ : ∃ nm, nm = x.name := ⟨_, rfl⟩
      obtain ⟨a1, ea1⟩ : ∃ a : ByteArray, a = t ++ ⟨#[112, 114, 111, 100, 117, 99, 116, 32]⟩ := ⟨_, rfl⟩
      have za1 : a1.size = t.size + (⟨#[112, 114, 111, 100, 117, 99, 116, 32]⟩ : ByteArray).size := by rw [ea1, ByteArray.size_append]
      obtain ⟨a2, ea2⟩ : ∃ a : ByteArray, a = a1 ++ nm := ⟨_, rfl⟩
      have za2 : a2.size = a1.size + (nm : ByteArray).size := by rw [ea2, ByteArray.size_append]
      obtain ⟨a3, ea3⟩ : ∃ a : ByteArray, a = a2 ++ ⟨#[32]⟩ := ⟨_, rfl⟩
      have za3 : a3.size = a2.size + (⟨#[32]⟩ : ByteArray).size := by rw [ea3, ByteArray.size_append]
      obtain ⟨a4, ea4⟩ : ∃ a : ByteArray, a = a3 ++ (decS x.supply) := ⟨_, rfl⟩
      have za4 : a4.size = a3.size + ((decS x.supply) : ByteArray).size := by rw [ea4, ByteArray.size_append]
      obtain ⟨a5, ea5⟩ : ∃ a : ByteArray, a = a4 ++ ⟨#[32]⟩ := ⟨_, rfl⟩
      have za5 : a5.size = a4.size + (⟨#[32]⟩ : ByteArray).size := by rw [ea5, ByteArray.size_append]
      obtain ⟨a6, ea6⟩ : ∃ a : ByteArray, a = a5 ++ (decS x.reserve) := ⟨_, rfl⟩
      have za6 : a6.size = a5.size + ((decS x.reserve) : ByteArray).size := by rw [ea6, ByteArray.size_append]
      obtain ⟨a7, ea7⟩ : ∃ a : ByteArray, a = a6 ++ ⟨#[32]⟩ := ⟨_, rfl⟩
      have za7 : a7.size = a6.size + (⟨#[32]⟩ : ByteArray).size := by rw [ea7, ByteArray.size_append]
      obtain ⟨a8, ea8⟩ : ∃ a : ByteArray, a = a7 ++ (decS x.points) := ⟨_, rfl⟩
      have za8 : a8.size = a7.size + ((decS x.points) : ByteArray).size := by rw [ea8, ByteArray.size_append]
      obtain ⟨a9, ea9⟩ : ∃ a : ByteArray, a = a8 ++ ⟨#[32]⟩ := ⟨_, rfl⟩
      have za9 : a9.size = a8.size + (⟨#[32]⟩ : ByteArray).size := by rw [ea9, ByteArray.size_append]
      obtain ⟨a10, ea10⟩ : ∃ a : ByteArray, a = a9 ++ (decS x.group) := ⟨_, rfl⟩
      have za10 : a10.size = a9.size + ((decS x.group) : ByteArray).size := by rw [ea10, ByteArray.size_append]
      obtain ⟨a11, ea11⟩ : ∃ a : ByteArray, a = a10 ++ ⟨#[10]⟩ := ⟨_, rfl⟩
      have za11 : a11.size = a10.size + (⟨#[10]⟩ : ByteArray).size := by rw [ea11, ByteArray.size_append]
      have HEQ : Hid (a11 = t ++ lineW (prodW x)) := by show _ = _; rw [ea11, ea10, ea9, ea8, ea7, ea6, ea5, ea4, ea3, ea2, ea1, hnm]; exact cat_1 _ _ _ _ _ _
      have zl : a11.size ≤ 7000 + 79 := by rw [HEQ.out, ByteArray.size_append]; have := HN1.out; have := HN2.out; have := HN3.out; have := HN4.out; omega
      have sa1 : ∀ W, (Op.stringOp .add t ⟨#[112, 114, 111, 100, 117, 99, 116, 32]⟩).run Tryz.prog W = .ok (.string a1) W := fun W => by rw [ea1]; exact add_small t ⟨#[112, 114, 111, 100, 117, 99, 116, 32]⟩ (by omega) W
      have sa2 : ∀ W, (Op.stringOp .add a1 nm).run Tryz.prog W = .ok (.string a2) W := fun W => by rw [ea2]; exact add_small a1 nm (by omega) W
      have sa3 : ∀ W, (Op.stringOp .add a2 ⟨#[32]⟩).run Tryz.prog W = .ok (.string a3) W := fun W => by rw [ea3]; exact add_small a2 ⟨#[32]⟩ (by omega) W
      have sa4 : ∀ W, (Op.stringOp .add a3 (decS x.supply)).run Tryz.prog W = .ok (.string a4) W := fun W => by rw [ea4]; exact add_small a3 (decS x.supply) (by omega) W
      have sa5 : ∀ W, (Op.stringOp .add a4 ⟨#[32]⟩).run Tryz.prog W = .ok (.string a5) W := fun W => by rw [ea5]; exact add_small a4 ⟨#[32]⟩ (by omega) W
      have sa6 : ∀ W, (Op.stringOp .add a5 (decS x.reserve)).run Tryz.prog W = .ok (.string a6) W := fun W => by rw [ea6]; exact add_small a5 (decS x.reserve) (by omega) W
      have sa7 : ∀ W, (Op.stringOp .add a6 ⟨#[32]⟩).run Tryz.prog W = .ok (.string a7) W := fun W => by rw [ea7]; exact add_small a6 ⟨#[32]⟩ (by omega) W
      have sa8 : ∀ W, (Op.stringOp .add a7 (decS x.points)).run Tryz.prog W = .ok (.string a8) W := fun W => by rw [ea8]; exact add_small a7 (decS x.points) (by omega) W
      have sa9 : ∀ W, (Op.stringOp .add a8 ⟨#[32]⟩).run Tryz.prog W = .ok (.string a9) W := fun W => by rw [ea9]; exact add_small a8 ⟨#[32]⟩ (by omega) W
      have sa10 : ∀ W, (Op.stringOp .add a9 (decS x.group)).run Tryz.prog W = .ok (.string a10) W := fun W => by rw [ea10]; exact add_small a9 (decS x.group) (by omega) W
      have sa11 : ∀ W, (Op.stringOp .add a10 ⟨#[10]⟩).run Tryz.prog W = .ok (.string a11) W := fun W => by rw [ea11]; exact add_small a10 ⟨#[10]⟩ (by omega) W
      have HT3 : Hid (a11 = catL ⟨#[]⟩ ((S.ps.take (k + 1)).map prodW)) := HEQ.out.trans HT2.out
      have HTZ3 : Hid (a11.size ≤ 0 + 79 * (k + 1)) := by show _ ≤ _; rw [HEQ.out]; exact HTZ2.out
      clear HEQ HT2 HTZ2 zl ea1 za1 ea2 za2 ea3 za3 ea4 za4 ea5 za5 ea6 za6 ea7 za7 ea8 za8 ea9 za9 ea10 za10 ea11 za11
      generalize decS x.supply = zs at *
      generalize decS x.reserve = zr at *
      generalize decS x.points = zt at *
      generalize decS x.group = zg at *
      clear htz hl79
      obtain ⟨nm0, y1, y2, y3, y4⟩ := x
      dsimp only at *
      subst hnm
      have BA := Lib.hid (HB.out.alloc HB.out.size (.cells #[.string nm, .int .i64 y1, .int .i64 y2, .int .i64 y3, .int .i64 y4] 82))
      have YX := Lib.hid (Blk.new wr 82 #[.string nm, .int .i64 y1, .int .i64 y2, .int .i64 y3, .int .i64 y4])
      have KA := Lib.hid (HK.out.alloc (.cells #[.string nm, .int .i64 y1, .int .i64 y2, .int .i64 y3, .int .i64 y4] 82))
      go_wp2_with fail
      generalize wr.alloc _ = wa at *
      generalize wr.heap.size = gi at *
      clear hat hbr cx
      have HKP : Hid (∀ W, Below wa.heap.size wa W → W.cell? ⟨gi, 0, none⟩ = some (.string nm) ∧ W.cell? ⟨gi, 1, none⟩ = some (.int .i64 y1) ∧ W.cell? ⟨gi, 2, none⟩ = some (.int .i64 y2) ∧ W.cell? ⟨gi, 3, none⟩ = some (.int .i64 y3) ∧ W.cell? ⟨gi, 4, none⟩ = some (.int .i64 y4)) := fun W bw => ⟨(YX.out.below' bw).cell 0, (YX.out.below' bw).cell 1, (YX.out.below' bw).cell 2, (YX.out.below' bw).cell 3, (YX.out.below' bw).cell 4⟩
      have HA := HKP.out wa (Below.refl _ _)
      have ED := Lib.hid ((Below.refl wa.heap.size wa).drew)
      have li := YX.out.lt
      go_region_held3 (fun W => W.cell? ⟨gi, 0, none⟩ = some (.string nm) ∧ W.cell? ⟨gi, 1, none⟩ = some (.int .i64 y1) ∧ W.cell? ⟨gi, 2, none⟩ = some (.int .i64 y2) ∧ W.cell? ⟨gi, 3, none⟩ = some (.int .i64 y3) ∧ W.cell? ⟨gi, 4, none⟩ = some (.int .i64 y4)) (first | with_reducible exact HKP.out _ ED.out | exact HA | go_keep) (first | (go_at_call 52; with_reducible refine (Ns.out _).mono ?_; rintro e w9 ⟨rfl, rfl⟩; have HA9 := HKP.out _ ED.out) | (go_at_call 52; with_reducible refine (Nr.out _).mono ?_; rintro e w9 ⟨rfl, rfl⟩; have HA9 := HKP.out _ ED.out) | (go_at_call 52; with_reducible refine (Nt.out _).mono ?_; rintro e w9 ⟨rfl, rfl⟩; have HA9 := HKP.out _ ED.out) | (go_at_call 52; with_reducible refine (Ng.out _).mono ?_; rintro e w9 ⟨rfl, rfl⟩; have HA9 := HKP.out _ ED.out))
      all_goals go_wp2_with fail
      all_goals go_roundw
      all_goals first
        | exact ⟨k + 1, _, hkn, by go_num, rfl, HT3.out, HTZ3.out, chain0 BA.out ED.out, KA.out.below' ED.out⟩
        | (simp [intOf]; omega)
    · obtain rfl : k = S.ps.length := by omega
      have hd1 : decide (S.ps.length < S.ps.length) = false := decide_eq_false (Nat.lt_irrefl _)
      have hd2 : decide ((S.ps.length : Int) < (S.ps.length : Int)) = false := decide_eq_false (Int.lt_irrefl _)
      have HTE : Hid (t = catL ⟨#[]⟩ (S.ps.map prodW)) := by have h := HT.out; rw [List.take_length] at h; exact h
      have HBASE : Hid (t.size ≤ 2000 + 79 * 0) := by have h := HTZ.out; have h2 := HN1.out; show _ ≤ _; omega
      have BB := HB
      have KK := HK
      have xx := cx
      have t1E := HTE
      clear HTE HT HTZ HB HK hk hk0
      go_wp2_with fail
      clear hd1 hd2 cx
      generalize t = t1 at *
      go_loopw [8, 5] (fun iv ov wr => ∃ (k : Nat) (t : ByteArray), k ≤ S.bs.length ∧ iv = .int .i64 (k : Int) ∧ ov = .string t ∧ Hid (t = catL t1 ((S.bs.take k).map bidW)) ∧ Hid (t.size ≤ 2000 + 79 * k) ∧ Hid (Below w.heap.size w wr) ∧ Hid (Blk wr w.heap.size 38 #[.slice A1 S.ps.length c1, .slice A2 S.bs.length c2, .slice A3 S.cs.length c3, .slice A4 S.ad.length c4])) (fun iv _ _ => S.bs.length - (intOf iv).toNat)
      case atStart => exact ⟨0, t1, Nat.zero_le _, rfl, rfl, rfl, HBASE.out, BB.out, KK.out⟩
      case round =>
        clear HBASE BB KK xx
        obtain ⟨k, t, hk, rfl, rfl, HT, HTZ, HB, HK⟩ := hrel
        have hk0 : (0 : Int) ≤ (k : Int) := by omega
        have cx := HK.out.c4
        have lx := HK.out.lt
        by_cases hkn : k < S.bs.length
        · have hd1 : decide (k < S.bs.length) = true := decide_eq_true hkn
          have hd2 : decide ((k : Int) < (S.bs.length : Int)) = true := decide_eq_true (by omega)
          have hkn1 : (k : Int) < (S.bs.length : Int) := by omega
          obtain ⟨b, o, e1, hb, hrow⟩ := HRB.out (by omega)
          subst e1
          have hat := (fun W (bw : Below w.heap.size w W) => BidRow.at_ (show BidRow W b o S.bs from hrow.below hb bw) k hkn) _ HB.out
          have hbr := Nat.lt_of_lt_of_le hb HB.out.size
          have HG := Lib.hid (HG2.out S.bs[k] (List.getElem_mem hkn))
          have hl79 := HL2.out S.bs[k] (List.getElem_mem hkn)
          have HT2 : Hid (t ++ lineW (bidW S.bs[k]) = catL t1 ((S.bs.take (k + 1)).map bidW)) := by show _ = _; rw [map_take _ _ _ hkn, catL_snoc, HT.out]
          obtain ⟨x, hx⟩ : ∃ x, x = S.bs[k] := ⟨_, rfl⟩
          rw [← hx] at hat HG hl79 HT2
          have htz := HTZ.out
          have hk36 : k ≤ 36 := by have := HN2.out; omega
          skip
          clear hx hrow HT HTZ
          have Nc := Lib.hid (fun W => rnumber_any (x.cls) W HG.out.c)
          have Nb := Lib.hid (fun W => rnumber_any (x.budget) W HG.out.b)
          have Nt := Lib.hid (fun W => rnumber_any (x.points) W HG.out.t)
          have HTZ2 : Hid ((t ++ lineW (bidW x)).size ≤ 2000 + 79 * (k + 1)) := by show _ ≤ _; rw [ByteArray.size_append]; omega
          obtain ⟨nm, hnm⟩ : ∃ nm, nm = x.name := ⟨_, rfl⟩
          obtain ⟨a1, ea1⟩ : ∃ a : ByteArray, a = t ++ ⟨#[98, 105, 100, 100, 101, 114, 32]⟩ := ⟨_, rfl⟩
          have za1 : a1.size = t.size + (⟨#[98, 105, 100, 100, 101, 114, 32]⟩ : ByteArray).size := by rw [ea1, ByteArray.size_append]
          obtain ⟨a2, ea2⟩ : ∃ a : ByteArray, a = a1 ++ nm := ⟨_, rfl⟩
          have za2 : a2.size = a1.size + (nm : ByteArray).size := by rw [ea2, ByteArray.size_append]
          obtain ⟨a3, ea3⟩ : ∃ a : ByteArray, a = a2 ++ ⟨#[32]⟩ := ⟨_, rfl⟩
          have za3 : a3.size = a2.size + (⟨#[32]⟩ : ByteArray).size := by rw [ea3, ByteArray.size_append]
          obtain ⟨a4, ea4⟩ : ∃ a : ByteArray, a = a3 ++ (decS x.cls) := ⟨_, rfl⟩
          have za4 : a4.size = a3.size + ((decS x.cls) : ByteArray).size := by rw [ea4, ByteArray.size_append]
          obtain ⟨a5, ea5⟩ : ∃ a : ByteArray, a = a4 ++ ⟨#[32]⟩ := ⟨_, rfl⟩
          have za5 : a5.size = a4.size + (⟨#[32]⟩ : ByteArray).size := by rw [ea5, ByteArray.size_append]
          obtain ⟨a6, ea6⟩ : ∃ a : ByteArray, a = a5 ++ (decS x.budget) := ⟨_, rfl⟩
          have za6 : a6.size = a5.size + ((decS x.budget) : ByteArray).size := by rw [ea6, ByteArray.size_append]
          obtain ⟨a7, ea7⟩ : ∃ a : ByteArray, a = a6 ++ ⟨#[32]⟩ := ⟨_, rfl⟩
          have za7 : a7.size = a6.size + (⟨#[32]⟩ : ByteArray).size := by rw [ea7, ByteArray.size_append]
          obtain ⟨a8, ea8⟩ : ∃ a : ByteArray, a = a7 ++ (decS x.points) := ⟨_, rfl⟩
          have za8 : a8.size = a7.size + ((decS x.points) : ByteArray).size := by rw [ea8, ByteArray.size_append]
          obtain ⟨a9, ea9⟩ : ∃ a : ByteArray, a = a8 ++ ⟨#[10]⟩ := ⟨_, rfl⟩
          have za9 : a9.size = a8.size + (⟨#[10]⟩ : ByteArray).size := by rw [ea9, ByteArray.size_append]
          have HEQ : Hid (a9 = t ++ lineW (bidW x)) := by show _ = _; rw [ea9, ea8, ea7, ea6, ea5, ea4, ea3, ea2, ea1, hnm]; exact cat_2 _ _ _ _ _
          have zl : a9.size ≤ 7000 + 79 := by rw [HEQ.out, ByteArray.size_append]; have := HN1.out; have := HN2.out; have := HN3.out; have := HN4.out; omega
          have sa1 : ∀ W, (Op.stringOp .add t ⟨#[98, 105, 100, 100, 101, 114, 32]⟩).run Tryz.prog W = .ok (.string a1) W := fun W => by rw [ea1]; exact add_small t ⟨#[98, 105, 100, 100, 101, 114, 32]⟩ (by omega) W
          have sa2 : ∀ W, (Op.stringOp .add a1 nm).run Tryz.prog W = .ok (.string a2) W := fun W => by rw [ea2]; exact add_small a1 nm (by omega) W
          have sa3 : ∀ W, (Op.stringOp .add a2 ⟨#[32]⟩).run Tryz.prog W = .ok (.string a3) W := fun W => by rw [ea3]; exact add_small a2 ⟨#[32]⟩ (by omega) W
          have sa4 : ∀ W, (Op.stringOp .add a3 (decS x.cls)).run Tryz.prog W = .ok (.string a4) W := fun W => by rw [ea4]; exact add_small a3 (decS x.cls) (by omega) W
          have sa5 : ∀ W, (Op.stringOp .add a4 ⟨#[32]⟩).run Tryz.prog W = .ok (.string a5) W := fun W => by rw [ea5]; exact add_small a4 ⟨#[32]⟩ (by omega) W
          have sa6 : ∀ W, (Op.stringOp .add a5 (decS x.budget)).run Tryz.prog W = .ok (.string a6) W := fun W => by rw [ea6]; exact add_small a5 (decS x.budget) (by omega) W
          have sa7 : ∀ W, (Op.stringOp .add a6 ⟨#[32]⟩).run Tryz.prog W = .ok (.string a7) W := fun W => by rw [ea7]; exact add_small a6 ⟨#[32]⟩ (by omega) W
          have sa8 : ∀ W, (Op.stringOp .add a7 (decS x.points)).run Tryz.prog W = .ok (.string a8) W := fun W => by rw [ea8]; exact add_small a7 (decS x.points) (by omega) W
          have sa9 : ∀ W, (Op.stringOp .add a8 ⟨#[10]⟩).run Tryz.prog W = .ok (.string a9) W := fun W => by rw [ea9]; exact add_small a8 ⟨#[10]⟩ (by omega) W
          have HT3 : Hid (a9 = catL t1 ((S.bs.take (k + 1)).map bidW)) := HEQ.out.trans HT2.out
          have HTZ3 : Hid (a9.size ≤ 2000 + 79 * (k + 1)) := by show _ ≤ _; rw [HEQ.out]; exact HTZ2.out
          clear HEQ HT2 HTZ2 zl ea1 za1 ea2 za2 ea3 za3 ea4 za4 ea5 za5 ea6 za6 ea7 za7 ea8 za8 ea9 za9
          generalize decS x.cls = zc at *
          generalize decS x.budget = zb at *
          generalize decS x.points = zt at *
          clear htz hl79
          obtain ⟨nm0, y1, y2, y3⟩ := x
          dsimp only at *
          subst hnm
          have BA := Lib.hid (HB.out.alloc HB.out.size (.cells #[.string nm, .int .i64 y1, .int .i64 y2, .int .i64 y3] 87))
          have YX := Lib.hid (Blk.new wr 87 #[.string nm, .int .i64 y1, .int .i64 y2, .int .i64 y3])
          have KA := Lib.hid (HK.out.alloc (.cells #[.string nm, .int .i64 y1, .int .i64 y2, .int .i64 y3] 87))
          go_wp2_with fail
          generalize wr.alloc _ = wa at *
          generalize wr.heap.size = gi at *
          clear hat hbr cx
          have HKP : Hid (∀ W, Below wa.heap.size wa W → W.cell? ⟨gi, 0, none⟩ = some (.string nm) ∧ W.cell? ⟨gi, 1, none⟩ = some (.int .i64 y1) ∧ W.cell? ⟨gi, 2, none⟩ = some (.int .i64 y2) ∧ W.cell? ⟨gi, 3, none⟩ = some (.int .i64 y3)) := fun W bw => ⟨(YX.out.below' bw).cell 0, (YX.out.below' bw).cell 1, (YX.out.below' bw).cell 2, (YX.out.below' bw).cell 3⟩
          have HA := HKP.out wa (Below.refl _ _)
          have ED := Lib.hid ((Below.refl wa.heap.size wa).drew)
          have li := YX.out.lt
          go_region_held3 (fun W => W.cell? ⟨gi, 0, none⟩ = some (.string nm) ∧ W.cell? ⟨gi, 1, none⟩ = some (.int .i64 y1) ∧ W.cell? ⟨gi, 2, none⟩ = some (.int .i64 y2) ∧ W.cell? ⟨gi, 3, none⟩ = some (.int .i64 y3)) (first | with_reducible exact HKP.out _ ED.out | exact HA | go_keep) (first | (go_at_call 52; with_reducible refine (Nc.out _).mono ?_; rintro e w9 ⟨rfl, rfl⟩; have HA9 := HKP.out _ ED.out) | (go_at_call 52; with_reducible refine (Nb.out _).mono ?_; rintro e w9 ⟨rfl, rfl⟩; have HA9 := HKP.out _ ED.out) | (go_at_call 52; with_reducible refine (Nt.out _).mono ?_; rintro e w9 ⟨rfl, rfl⟩; have HA9 := HKP.out _ ED.out))
          all_goals go_wp2_with fail
          all_goals go_roundw
          all_goals first
            | exact ⟨k + 1, _, hkn, by go_num, rfl, HT3.out, HTZ3.out, chain0 BA.out ED.out, KA.out.below' ED.out⟩
            | (simp [intOf]; omega)
        · obtain rfl : k = S.bs.length := by omega
          have hd1 : decide (S.bs.length < S.bs.length) = false := decide_eq_false (Nat.lt_irrefl _)
          have hd2 : decide ((S.bs.length : Int) < (S.bs.length : Int)) = false := decide_eq_false (Int.lt_irrefl _)
          have HTE : Hid (t = catL t1 (S.bs.map bidW)) := by have h := HT.out; rw [List.take_length] at h; exact h
          have HBASE : Hid (t.size ≤ 4000 + 79 * 0) := by have h := HTZ.out; have h2 := HN2.out; show _ ≤ _; omega
          have BB := HB
          have KK := HK
          have xx := cx
          have t2E := HTE
          clear HTE HT HTZ HB HK hk hk0
          go_wp2_with fail
          clear hd1 hd2 cx
          generalize t = t2 at *
          go_loopw [10, 5] (fun iv ov wr => ∃ (k : Nat) (t : ByteArray), k ≤ S.cs.length ∧ iv = .int .i64 (k : Int) ∧ ov = .string t ∧ Hid (t = catL t2 ((S.cs.take k).map (capW S.bs))) ∧ Hid (t.size ≤ 4000 + 79 * k) ∧ Hid (Below w.heap.size w wr) ∧ Hid (Blk wr w.heap.size 38 #[.slice A1 S.ps.length c1, .slice A2 S.bs.length c2, .slice A3 S.cs.length c3, .slice A4 S.ad.length c4])) (fun iv _ _ => S.cs.length - (intOf iv).toNat)
          case atStart => exact ⟨0, t2, Nat.zero_le _, rfl, rfl, rfl, HBASE.out, BB.out, KK.out⟩
          case round =>
            clear HBASE BB KK xx
            obtain ⟨k, t, hk, rfl, rfl, HT, HTZ, HB, HK⟩ := hrel
            have hk0 : (0 : Int) ≤ (k : Int) := by omega
            have cx := HK.out.c4
            have lx := HK.out.lt
            by_cases hkn : k < S.cs.length
            · have hd1 : decide (k < S.cs.length) = true := decide_eq_true hkn
              have hd2 : decide ((k : Int) < (S.cs.length : Int)) = true := decide_eq_true (by omega)
              have hkn1 : (k : Int) < (S.cs.length : Int) := by omega
              obtain ⟨b, o, e1, hb, hrow⟩ := HRC.out (by omega)
              subst e1
              have hat := (fun W (bw : Below w.heap.size w W) => cap_at (hrow.below hb bw) k hkn) _ HB.out
              have hbr := Nat.lt_of_lt_of_le hb HB.out.size
              have HG := Lib.hid (HG3.out S.cs[k] (List.getElem_mem hkn))
              have hl79 := HL3.out S.cs[k] (List.getElem_mem hkn)
              have HT2 : Hid (t ++ lineW ((capW S.bs) S.cs[k]) = catL t2 ((S.cs.take (k + 1)).map (capW S.bs))) := by show _ = _; rw [map_take _ _ _ hkn, catL_snoc, HT.out]
              obtain ⟨x, hx⟩ : ∃ x, x = S.cs[k] := ⟨_, rfl⟩
              rw [← hx] at hat HG hl79 HT2
              have htz := HTZ.out
              have hk36 : k ≤ 36 := by have := HN3.out; omega
              clear hx hrow HT HTZ
              have Ng := Lib.hid (fun W => rnumber_any (x.group) W HG.out.g)
              have Nu := Lib.hid (fun W => rnumber_any (x.units) W HG.out.u)
              have HTZ2 : Hid ((t ++ lineW ((capW S.bs) x)).size ≤ 4000 + 79 * (k + 1)) := by show _ ≤ _; rw [ByteArray.size_append]; omega
              obtain ⟨nm, hnm⟩ : ∃ nm, nm = capN S.bs x.bidder := ⟨_, rfl⟩
              obtain ⟨a1, ea1⟩ : ∃ a : ByteArray, a = t ++ ⟨#[99, 97, 112, 32]⟩ := ⟨_, rfl⟩
              have za1 : a1.size = t.size + (⟨#[99, 97, 112, 32]⟩ : ByteArray).size := by rw [ea1, ByteArray.size_append]
              obtain ⟨a2, ea2⟩ : ∃ a : ByteArray, a = a1 ++ nm := ⟨_, rfl⟩
              have za2 : a2.size = a1.size + (nm : ByteArray).size := by rw [ea2, ByteArray.size_append]
              obtain ⟨a3, ea3⟩ : ∃ a : ByteArray, a = a2 ++ ⟨#[32]⟩ := ⟨_, rfl⟩
              have za3 : a3.size = a2.size + (⟨#[32]⟩ : ByteArray).size := by rw [ea3, ByteArray.size_append]
              obtain ⟨a4, ea4⟩ : ∃ a : ByteArray, a = a3 ++ (decS x.group) := ⟨_, rfl⟩
              have za4 : a4.size = a3.size + ((decS x.group) : ByteArray).size := by rw [ea4, ByteArray.size_append]
              obtain ⟨a5, ea5⟩ : ∃ a : ByteArray, a = a4 ++ ⟨#[32]⟩ := ⟨_, rfl⟩
              have za5 : a5.size = a4.size + (⟨#[32]⟩ : ByteArray).size := by rw [ea5, ByteArray.size_append]
              obtain ⟨a6, ea6⟩ : ∃ a : ByteArray, a = a5 ++ (decS x.units) := ⟨_, rfl⟩
              have za6 : a6.size = a5.size + ((decS x.units) : ByteArray).size := by rw [ea6, ByteArray.size_append]
              obtain ⟨a7, ea7⟩ : ∃ a : ByteArray, a = a6 ++ ⟨#[10]⟩ := ⟨_, rfl⟩
              have za7 : a7.size = a6.size + (⟨#[10]⟩ : ByteArray).size := by rw [ea7, ByteArray.size_append]
              have HEQ : Hid (a7 = t ++ lineW ((capW S.bs) x)) := by show _ = _; rw [ea7, ea6, ea5, ea4, ea3, ea2, ea1, hnm]; exact cat_3 _ _ _ _
              have zl : a7.size ≤ 7000 + 79 := by rw [HEQ.out, ByteArray.size_append]; have := HN1.out; have := HN2.out; have := HN3.out; have := HN4.out; omega
              have sa1 : ∀ W, (Op.stringOp .add t ⟨#[99, 97, 112, 32]⟩).run Tryz.prog W = .ok (.string a1) W := fun W => by rw [ea1]; exact add_small t ⟨#[99, 97, 112, 32]⟩ (by omega) W
              have sa2 : ∀ W, (Op.stringOp .add a1 nm).run Tryz.prog W = .ok (.string a2) W := fun W => by rw [ea2]; exact add_small a1 nm (by omega) W
              have sa3 : ∀ W, (Op.stringOp .add a2 ⟨#[32]⟩).run Tryz.prog W = .ok (.string a3) W := fun W => by rw [ea3]; exact add_small a2 ⟨#[32]⟩ (by omega) W
              have sa4 : ∀ W, (Op.stringOp .add a3 (decS x.group)).run Tryz.prog W = .ok (.string a4) W := fun W => by rw [ea4]; exact add_small a3 (decS x.group) (by omega) W
              have sa5 : ∀ W, (Op.stringOp .add a4 ⟨#[32]⟩).run Tryz.prog W = .ok (.string a5) W := fun W => by rw [ea5]; exact add_small a4 ⟨#[32]⟩ (by omega) W
              have sa6 : ∀ W, (Op.stringOp .add a5 (decS x.units)).run Tryz.prog W = .ok (.string a6) W := fun W => by rw [ea6]; exact add_small a5 (decS x.units) (by omega) W
              have sa7 : ∀ W, (Op.stringOp .add a6 ⟨#[10]⟩).run Tryz.prog W = .ok (.string a7) W := fun W => by rw [ea7]; exact add_small a6 ⟨#[10]⟩ (by omega) W
              have HT3 : Hid (a7 = catL t2 ((S.cs.take (k + 1)).map (capW S.bs))) := HEQ.out.trans HT2.out
              have HTZ3 : Hid (a7.size ≤ 4000 + 79 * (k + 1)) := by show _ ≤ _; rw [HEQ.out]; exact HTZ2.out
              clear HEQ HT2 HTZ2 zl ea1 za1 ea2 za2 ea3 za3 ea4 za4 ea5 za5 ea6 za6 ea7 za7
              generalize decS x.group = zg at *
              generalize decS x.units = zu at *
              clear htz hl79
              have hbid := HG.out.bid
              obtain ⟨xb, y1, y2⟩ := x
              dsimp only at *
              by_cases hb0 : 0 ≤ xb
              · have t0 : decide ((0 : Int) ≤ xb) = true := decide_eq_true hb0
                have BA := Lib.hid (HB.out.alloc HB.out.size (.cells #[.int .i64 xb, .int .i64 y1, .int .i64 y2] 78))
                have YX := Lib.hid (Blk.new wr 78 #[.int .i64 xb, .int .i64 y1, .int .i64 y2])
                have KA := Lib.hid (HK.out.alloc (.cells #[.int .i64 xb, .int .i64 y1, .int .i64 y2] 78))
                obtain ⟨n, hn⟩ : ∃ n : Nat, xb = (n : Int) := ⟨xb.toNat, by omega⟩
                subst hn
                have hnp : n < S.bs.length := by rcases hbid with h | h <;> omega
                have hnm2 : nm = S.bs[n].name := by rw [hnm]; unfold capN; rw [if_pos hb0, Int.toNat_natCast]; simp [List.getD, hnp]
                obtain ⟨bp, op, e1, hbp, hprow⟩ := HRB.out (by omega)
                subst e1
                have HPT := Lib.hid (fun W (bw : Below w.heap.size w W) => (BidRow.at_ (show BidRow W bp op S.bs from hprow.below hbp bw) n hnp).1)
                rw [← hnm2] at HPT
                have hpt := HPT.out _ HB.out
                have hbpr := Nat.lt_of_lt_of_le hbp HB.out.size
                have hn0 : (0 : Int) ≤ (n : Int) := by omega
                have hn5 : (n : Int) < (S.bs.length : Int) := by omega
                clear hnm hnm2 hprow hbid
                go_wp2_with fail
                generalize wr.alloc _ = wa at *
                generalize wr.heap.size = gi at *
                clear hat hbr cx hpt hbpr
                have HKP : Hid (∀ W, Below wa.heap.size wa W → W.cell? ⟨gi, 1, none⟩ = some (.int .i64 y1) ∧ W.cell? ⟨gi, 2, none⟩ = some (.int .i64 y2)) := fun W bw => ⟨(YX.out.below' bw).cell 1, (YX.out.below' bw).cell 2⟩
                have HA := HKP.out wa (Below.refl _ _)
                have ED := Lib.hid ((Below.refl wa.heap.size wa).drew)
                have li := YX.out.lt
                go_region_held3 (fun W => W.cell? ⟨gi, 1, none⟩ = some (.int .i64 y1) ∧ W.cell? ⟨gi, 2, none⟩ = some (.int .i64 y2)) (first | with_reducible exact HKP.out _ ED.out | exact HA | go_keep) (first | (go_at_call 52; with_reducible refine (Ng.out _).mono ?_; rintro e w9 ⟨rfl, rfl⟩; have HA9 := HKP.out _ ED.out) | (go_at_call 52; with_reducible refine (Nu.out _).mono ?_; rintro e w9 ⟨rfl, rfl⟩; have HA9 := HKP.out _ ED.out))
                all_goals go_wp2_with fail
                all_goals go_roundw
                all_goals first
                  | exact ⟨k + 1, _, hkn, by go_num, rfl, HT3.out, HTZ3.out, chain0 BA.out ED.out, KA.out.below' ED.out⟩
                  | (simp [intOf]; omega)
              · have t0 : decide ((0 : Int) ≤ xb) = false := decide_eq_false hb0
                have hnm2 : nm = wAny := by rw [hnm]; unfold capN; rw [if_neg hb0]
                subst hnm2
                have BA := Lib.hid (HB.out.alloc HB.out.size (.cells #[.int .i64 xb, .int .i64 y1, .int .i64 y2] 78))
                have YX := Lib.hid (Blk.new wr 78 #[.int .i64 xb, .int .i64 y1, .int .i64 y2])
                have KA := Lib.hid (HK.out.alloc (.cells #[.int .i64 xb, .int .i64 y1, .int .i64 y2] 78))
                clear hnm hbid
                go_wp2_with fail
                generalize wr.alloc _ = wa at *
                generalize wr.heap.size = gi at *
                clear hat hbr cx
                have HKP : Hid (∀ W, Below wa.heap.size wa W → W.cell? ⟨gi, 1, none⟩ = some (.int .i64 y1) ∧ W.cell? ⟨gi, 2, none⟩ = some (.int .i64 y2)) := fun W bw => ⟨(YX.out.below' bw).cell 1, (YX.out.below' bw).cell 2⟩
                have HA := HKP.out wa (Below.refl _ _)
                have ED := Lib.hid ((Below.refl wa.heap.size wa).drew)
                have li := YX.out.lt
                go_region_held3 (fun W => W.cell? ⟨gi, 1, none⟩ = some (.int .i64 y1) ∧ W.cell? ⟨gi, 2, none⟩ = some (.int .i64 y2)) (first | with_reducible exact HKP.out _ ED.out | exact HA | go_keep) (first | (go_at_call 52; with_reducible refine (Ng.out _).mono ?_; rintro e w9 ⟨rfl, rfl⟩; have HA9 := HKP.out _ ED.out) | (go_at_call 52; with_reducible refine (Nu.out _).mono ?_; rintro e w9 ⟨rfl, rfl⟩; have HA9 := HKP.out _ ED.out))
                all_goals go_wp2_with fail
                all_goals go_roundw
                all_goals first
                  | exact ⟨k + 1, _, hkn, by go_num, rfl, HT3.out, HTZ3.out, chain0 BA.out ED.out, KA.out.below' ED.out⟩
                  | (simp [intOf]; omega)
            · obtain rfl : k = S.cs.length := by omega
              have hd1 : decide (S.cs.length < S.cs.length) = false := decide_eq_false (Nat.lt_irrefl _)
              have hd2 : decide ((S.cs.length : Int) < (S.cs.length : Int)) = false := decide_eq_false (Int.lt_irrefl _)
              have HTE : Hid (t = catL t2 (S.cs.map (capW S.bs))) := by have h := HT.out; rw [List.take_length] at h; exact h
              have HBASE : Hid (t.size ≤ 6000 + 79 * 0) := by have h := HTZ.out; have h2 := HN3.out; show _ ≤ _; omega
              have BB := HB
              have KK := HK
              have xx := cx
              have t3E := HTE
              clear HTE HT HTZ HB HK hk hk0
              go_wp2_with fail
              clear hd1 hd2 cx
              generalize t = t3 at *
              go_loopw [13, 5] (fun iv ov wr => ∃ (k : Nat) (t : ByteArray), k ≤ S.ad.length ∧ iv = .int .i64 (k : Int) ∧ ov = .string t ∧ Hid (t = catL t3 ((S.ad.take k).map (asdW S.ps))) ∧ Hid (t.size ≤ 6000 + 79 * k) ∧ Hid (Below w.heap.size w wr) ∧ Hid (Blk wr w.heap.size 38 #[.slice A1 S.ps.length c1, .slice A2 S.bs.length c2, .slice A3 S.cs.length c3, .slice A4 S.ad.length c4])) (fun iv _ _ => S.ad.length - (intOf iv).toNat)
              case atStart => exact ⟨0, t3, Nat.zero_le _, rfl, rfl, rfl, HBASE.out, BB.out, KK.out⟩
              case round =>
                clear HBASE BB KK xx
                obtain ⟨k, t, hk, rfl, rfl, HT, HTZ, HB, HK⟩ := hrel
                have hk0 : (0 : Int) ≤ (k : Int) := by omega
                have cx := HK.out.c4
                have lx := HK.out.lt
                by_cases hkn : k < S.ad.length
                · have hd1 : decide (k < S.ad.length) = true := decide_eq_true hkn
                  have hd2 : decide ((k : Int) < (S.ad.length : Int)) = true := decide_eq_true (by omega)
                  have hkn1 : (k : Int) < (S.ad.length : Int) := by omega
                  obtain ⟨b, o, e1, hb, hrow⟩ := HRA.out (by omega)
                  subst e1
                  have hat := (fun W (bw : Below w.heap.size w W) => asd_at (hrow.below hb bw) k hkn) _ HB.out
                  have hbr := Nat.lt_of_lt_of_le hb HB.out.size
                  have HG := Lib.hid (HG4.out S.ad[k] (List.getElem_mem hkn))
                  have hl79 := HL4.out S.ad[k] (List.getElem_mem hkn)
                  have HT2 : Hid (t ++ lineW ((asdW S.ps) S.ad[k]) = catL t3 ((S.ad.take (k + 1)).map (asdW S.ps))) := by show _ = _; rw [map_take _ _ _ hkn, catL_snoc, HT.out]
                  obtain ⟨x, hx⟩ : ∃ x, x = S.ad[k] := ⟨_, rfl⟩
                  rw [← hx] at hat HG hl79 HT2
                  have htz := HTZ.out
                  have hk36 : k ≤ 36 := by have := HN4.out; omega
                  clear hx hrow HT HTZ
                  have Ng := Lib.hid (fun W => rnumber_any (x.cls) W HG.out.g)
                  have Nu := Lib.hid (fun W => rnumber_any (x.units) W HG.out.u)
                  have HTZ2 : Hid ((t ++ lineW ((asdW S.ps) x)).size ≤ 6000 + 79 * (k + 1)) := by show _ ≤ _; rw [ByteArray.size_append]; omega
                  obtain ⟨nm, hnm⟩ : ∃ nm, nm = (S.ps.getD x.prod.toNat Prod.none).name := ⟨_, rfl⟩
                  obtain ⟨a1, ea1⟩ : ∃ a : ByteArray, a = t ++ ⟨#[97, 115, 105, 100, 101, 32]⟩ := ⟨_, rfl⟩
                  have za1 : a1.size = t.size + (⟨#[97, 115, 105, 100, 101, 32]⟩ : ByteArray).size := by rw [ea1, ByteArray.size_append]
                  obtain ⟨a2, ea2⟩ : ∃ a : ByteArray, a = a1 ++ nm := ⟨_, rfl⟩
                  have za2 : a2.size = a1.size + (nm : ByteArray).size := by rw [ea2, ByteArray.size_append]
                  obtain ⟨a3, ea3⟩ : ∃ a : ByteArray, a = a2 ++ ⟨#[32]⟩ := ⟨_, rfl⟩
                  have za3 : a3.size = a2.size + (⟨#[32]⟩ : ByteArray).size := by rw [ea3, ByteArray.size_append]
                  obtain ⟨a4, ea4⟩ : ∃ a : ByteArray, a = a3 ++ (decS x.cls) := ⟨_, rfl⟩
                  have za4 : a4.size = a3.size + ((decS x.cls) : ByteArray).size := by rw [ea4, ByteArray.size_append]
                  obtain ⟨a5, ea5⟩ : ∃ a : ByteArray, a = a4 ++ ⟨#[32]⟩ := ⟨_, rfl⟩
                  have za5 : a5.size = a4.size + (⟨#[32]⟩ : ByteArray).size := by rw [ea5, ByteArray.size_append]
                  obtain ⟨a6, ea6⟩ : ∃ a : ByteArray, a = a5 ++ (decS x.units) := ⟨_, rfl⟩
                  have za6 : a6.size = a5.size + ((decS x.units) : ByteArray).size := by rw [ea6, ByteArray.size_append]
                  obtain ⟨a7, ea7⟩ : ∃ a : ByteArray, a = a6 ++ ⟨#[10]⟩ := ⟨_, rfl⟩
                  have za7 : a7.size = a6.size + (⟨#[10]⟩ : ByteArray).size := by rw [ea7, ByteArray.size_append]
                  have HEQ : Hid (a7 = t ++ lineW ((asdW S.ps) x)) := by show _ = _; rw [ea7, ea6, ea5, ea4, ea3, ea2, ea1, hnm]; exact cat_4 _ _ _ _
                  have zl : a7.size ≤ 7000 + 79 := by rw [HEQ.out, ByteArray.size_append]; have := HN1.out; have := HN2.out; have := HN3.out; have := HN4.out; omega
                  have sa1 : ∀ W, (Op.stringOp .add t ⟨#[97, 115, 105, 100, 101, 32]⟩).run Tryz.prog W = .ok (.string a1) W := fun W => by rw [ea1]; exact add_small t ⟨#[97, 115, 105, 100, 101, 32]⟩ (by omega) W
                  have sa2 : ∀ W, (Op.stringOp .add a1 nm).run Tryz.prog W = .ok (.string a2) W := fun W => by rw [ea2]; exact add_small a1 nm (by omega) W
                  have sa3 : ∀ W, (Op.stringOp .add a2 ⟨#[32]⟩).run Tryz.prog W = .ok (.string a3) W := fun W => by rw [ea3]; exact add_small a2 ⟨#[32]⟩ (by omega) W
                  have sa4 : ∀ W, (Op.stringOp .add a3 (decS x.cls)).run Tryz.prog W = .ok (.string a4) W := fun W => by rw [ea4]; exact add_small a3 (decS x.cls) (by omega) W
                  have sa5 : ∀ W, (Op.stringOp .add a4 ⟨#[32]⟩).run Tryz.prog W = .ok (.string a5) W := fun W => by rw [ea5]; exact add_small a4 ⟨#[32]⟩ (by omega) W
                  have sa6 : ∀ W, (Op.stringOp .add a5 (decS x.units)).run Tryz.prog W = .ok (.string a6) W := fun W => by rw [ea6]; exact add_small a5 (decS x.units) (by omega) W
                  have sa7 : ∀ W, (Op.stringOp .add a6 ⟨#[10]⟩).run Tryz.prog W = .ok (.string a7) W := fun W => by rw [ea7]; exact add_small a6 ⟨#[10]⟩ (by omega) W
                  have HT3 : Hid (a7 = catL t3 ((S.ad.take (k + 1)).map (asdW S.ps))) := HEQ.out.trans HT2.out
                  have HTZ3 : Hid (a7.size ≤ 6000 + 79 * (k + 1)) := by show _ ≤ _; rw [HEQ.out]; exact HTZ2.out
                  clear HEQ HT2 HTZ2 zl ea1 za1 ea2 za2 ea3 za3 ea4 za4 ea5 za5 ea6 za6 ea7 za7
                  generalize decS x.cls = zg at *
                  generalize decS x.units = zu at *
                  clear htz hl79
                  have hprd := HG.out.prod
                  obtain ⟨xb, y1, y2⟩ := x
                  dsimp only at *
                  have BA := Lib.hid (HB.out.alloc HB.out.size (.cells #[.int .i64 xb, .int .i64 y1, .int .i64 y2] 80))
                  have YX := Lib.hid (Blk.new wr 80 #[.int .i64 xb, .int .i64 y1, .int .i64 y2])
                  have KA := Lib.hid (HK.out.alloc (.cells #[.int .i64 xb, .int .i64 y1, .int .i64 y2] 80))
                  obtain ⟨n, hn⟩ : ∃ n : Nat, xb = (n : Int) := ⟨xb.toNat, by omega⟩
                  subst hn
                  have hnp : n < S.ps.length := by omega
                  rw [Int.toNat_natCast, getD_prod S.ps n hnp] at hnm
                  obtain ⟨bp, op, e1, hbp, hprow⟩ := HRP.out (by omega)
                  subst e1
                  have HPT := Lib.hid (fun W (bw : Below w.heap.size w W) => ((hprow.below hbp bw).at_ n hnp).1)
                  rw [← hnm] at HPT
                  have hn0 : (0 : Int) ≤ (n : Int) := by omega
                  have hn5 : (n : Int) < (S.ps.length : Int) := by omega
                  clear hnm hprow hprd
                  go_wp2_with fail
                  generalize wr.alloc _ = wa at *
                  generalize wr.heap.size = gi at *
                  clear hat hbr cx
                  have HKP : Hid (∀ W, Below wa.heap.size wa W → W.cell? ⟨w.heap.size, 0, none⟩ = some (.slice (some ⟨bp, op, none⟩) S.ps.length c1) ∧ W.cell? ⟨bp, op + n * 5, none⟩ = some (.string nm) ∧ W.cell? ⟨gi, 0, none⟩ = some (.int .i64 (n : Int)) ∧ W.cell? ⟨gi, 1, none⟩ = some (.int .i64 y1) ∧ W.cell? ⟨gi, 2, none⟩ = some (.int .i64 y2)) := fun W bw => ⟨(KA.out.below' bw).cell 0, HPT.out W (chain0 BA.out bw), (YX.out.below' bw).cell 0, (YX.out.below' bw).cell 1, (YX.out.below' bw).cell 2⟩
                  have HA := HKP.out wa (Below.refl _ _)
                  have ED := Lib.hid ((Below.refl wa.heap.size wa).drew)
                  have li := YX.out.lt
                  have lp := KA.out.lt
                  have hbpw : bp < wa.heap.size := Nat.lt_of_lt_of_le hbp BA.out.size
                  go_region_held3 (fun W => W.cell? ⟨w.heap.size, 0, none⟩ = some (.slice (some ⟨bp, op, none⟩) S.ps.length c1) ∧ W.cell? ⟨bp, op + n * 5, none⟩ = some (.string nm) ∧ W.cell? ⟨gi, 0, none⟩ = some (.int .i64 (n : Int)) ∧ W.cell? ⟨gi, 1, none⟩ = some (.int .i64 y1) ∧ W.cell? ⟨gi, 2, none⟩ = some (.int .i64 y2)) (first | with_reducible exact HKP.out _ ED.out | exact HA | go_keep) (first | (go_at_call 52; with_reducible refine (Ng.out _).mono ?_; rintro e w9 ⟨rfl, rfl⟩; have HA9 := HKP.out _ ED.out) | (go_at_call 52; with_reducible refine (Nu.out _).mono ?_; rintro e w9 ⟨rfl, rfl⟩; have HA9 := HKP.out _ ED.out))
                  all_goals go_wp2_with fail
                  all_goals go_roundw
                  all_goals first
                    | exact ⟨k + 1, _, hkn, by go_num, rfl, HT3.out, HTZ3.out, chain0 BA.out ED.out, KA.out.below' ED.out⟩
                    | (simp [intOf]; omega)
                · obtain rfl : k = S.ad.length := by omega
                  have hd1 : decide (S.ad.length < S.ad.length) = false := decide_eq_false (Nat.lt_irrefl _)
                  have hd2 : decide ((S.ad.length : Int) < (S.ad.length : Int)) = false := decide_eq_false (Int.lt_irrefl _)
                  have HTE : Hid (t = catL t3 (S.ad.map (asdW S.ps))) := by have h := HT.out; rw [List.take_length] at h; exact h
                  have HFT : Hid (fmtT S = t) := by
                    show fmtT S = t
                    unfold fmtT
                    rw [if_pos HZ.out, textS_eq, HTE.out, t3E.out, t2E.out, t1E.out]
                  go_wp2_with fail
                  go_ret2
                  exact ⟨by rw [HFT.out, HZ.out]; rfl, HB.out⟩
end Go.Proofs.YtjjlhihocllgjaaGreatDoor.Se
