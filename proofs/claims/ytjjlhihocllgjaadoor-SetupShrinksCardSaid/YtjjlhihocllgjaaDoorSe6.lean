/- Contracts of setup.line and Format. Printed by gen_se6.py. -/
import Derived.Test.YtjjlhihocllgjaaDoorSe2
import Derived.Test.YtjjlhihocllgjaaDoorSeR
import Derived.Deep.RegionHeld3
namespace Go.Proofs.YtjjlhihocllgjaaDoor.Se
open Go.ChangeShapes Go.WideShapes Go.ChangeAt Go.RowKit Gn Cat Lex Ros
set_option linter.unusedVariables false
set_option linter.unusedSimpArgs false
/-- a list of strings in memory -/
abbrev StrS (w : World) (v : Value) (ws : List ByteArray) : Prop := Sl w 1 v ws.length (ws.map Value.string)
theorem strS_new (w : World) (ws : List ByteArray) (t : TypeId) (h : ws.length ≤ maxLen) : StrS (w.alloc (.cells (ws.map Value.string).toArray t)) (.slice (some ⟨w.heap.size, 0, none⟩) ws.length ws.length) ws := by
  refine ⟨by simp, _, _, rfl, Nat.le_refl _, h, fun _ => ⟨w.heap.size, 0, rfl, by rw [World.size_alloc]; omega, fun j u hu => ?_⟩⟩
  rw [Nat.zero_add, (Blk.new w t _).cell]
  simpa using hu
set_option maxRecDepth 100000 in
theorem line_any (ws : List ByteArray) (v : Value) (w : World) (h : StrS w v ws) (h0 : ws ≠ []) (hw : ws.length ≤ 1000) (hs : (lineW ws).size ≤ 1000) : Calls Tryd.prog 84 #[v] w fun e w' => e = .returned (.string (lineW ws)) ∧ Below w.heap.size w w' := by
  obtain ⟨A, c, rfl, k1, k2, hr⟩ := sl_parts h
  obtain ⟨b, o, e1, hb, hrow⟩ := hr (List.length_pos_iff.2 h0)
  subst e1
  have hj : (Lib.join (ws.map (·.data.toList)) (⟨#[32]⟩ : ByteArray).data.toList).length ≤ 1000 := by
    have h2 : (lineW ws).data.toList.length ≤ 1000 := hs
    rw [lineW_data, List.length_append] at h2
    have h3 : (lineB ws).length ≤ 1000 := by omega
    exact h3
  have hl : ws.length ≤ 140737488355328 := by omega
  have CJ := Lib.hid (Tryd.strings_Join b o c ws ⟨#[32]⟩ w (fun j x hx => hrow j _ (by rw [List.getElem?_map, hx]; rfl)) hb hl k1 (by omega))
  have hsz : (⟨(Lib.join (ws.map (·.data.toList)) (⟨#[32]⟩ : ByteArray).data.toList).toArray⟩ : ByteArray).size ≤ 1000 := by
    show ((Lib.join _ _).toArray).size ≤ _
    rw [List.size_toArray]
    exact hj
  have HAD := Lib.hid (fun W => add_small ⟨(Lib.join (ws.map (·.data.toList)) (⟨#[32]⟩ : ByteArray).data.toList).toArray⟩ ⟨#[10]⟩ (by show _ + 1 ≤ _; omega) W)
  have HE : Hid ((⟨(Lib.join (ws.map (·.data.toList)) (⟨#[32]⟩ : ByteArray).data.toList).toArray⟩ : ByteArray) ++ ⟨#[10]⟩ = lineW ws) := rfl
  generalize (⟨(Lib.join (ws.map (·.data.toList)) (⟨#[32]⟩ : ByteArray).data.toList).toArray⟩ : ByteArray) = J at *
  generalize lineW ws = R at *
  have had := HAD.out
  clear h hr hrow hj hs hsz
  go_enter Tryd.func84, Tryd.ntmps84
  go_wp2_with fail
  refine CJ.out.mono ?_
  rintro e w1 ⟨rfl, d1⟩
  have B1 := Lib.hid d1
  clear d1
  go_wp2_with fail
  go_ret
  exact ⟨by rw [← HE.out]; rfl, B1.out⟩
def fmtT (S : SetD) : ByteArray := if S.err = 0 then textS S else ⟨#[]⟩
abbrev FmtPost (S : SetD) (w : World) : Ending → World → Prop := fun e w' => e = .returned (.tuple #[.string (fmtT S), .int .i64 S.err]) ∧ Below w.heap.size w w'
theorem textS_eq (S : SetD) : textS S = catL (catL (catL (catL ⟨#[]⟩ (S.ps.map prodW)) (S.bs.map bidW)) (S.cs.map (capW S.bs))) (S.ad.map (asdW S.ps)) := by
  unfold textS linesW
  rw [catL_app, catL_app, catL_app]
theorem i64_of {v : Int} (h : 0 ≤ v ∧ v < 1000000000) : I64 v := by unfold I64; omega

theorem lines_1 {S : SetD} (h : S.err = 0) : ∀ x ∈ S.ps, (lineW (prodW x)).size ≤ 79 := fun x hx => lines_size h _ (by unfold linesW; exact List.mem_append_left _ (List.mem_map_of_mem hx))
theorem lines_2 {S : SetD} (h : S.err = 0) : ∀ x ∈ S.bs, (lineW (bidW x)).size ≤ 79 := fun x hx => lines_size h _ (by unfold linesW; exact List.mem_append_right _ (List.mem_append_left _ (List.mem_map_of_mem hx)))
theorem lines_3 {S : SetD} (h : S.err = 0) : ∀ x ∈ S.cs, (lineW (capW S.bs x)).size ≤ 79 := fun x hx => lines_size h _ (by unfold linesW; exact List.mem_append_right _ (List.mem_append_right _ (List.mem_append_left _ (List.mem_map_of_mem hx))))
theorem lines_4 {S : SetD} (h : S.err = 0) : ∀ x ∈ S.ad, (lineW (asdW S.ps x)).size ≤ 79 := fun x hx => lines_size h _ (by unfold linesW; exact List.mem_append_right _ (List.mem_append_right _ (List.mem_append_right _ (List.mem_map_of_mem hx))))

set_option maxHeartbeats 8000000 in
set_option maxRecDepth 100000 in
theorem format_any (S : SetD) (v1 v2 v3 v4 : Value) (w : World) (h : SetW w v1 v2 v3 v4 S) (ht : Env w) : Calls Tryd.prog 39 #[.agg #[v1, v2, v3, v4]] w (FmtPost S w) := by
  obtain ⟨A1, c1, A2, c2, A3, c3, A4, c4, rfl, rfl, rfl, rfl⟩ := h.forms
  have CC := Lib.hid (fun W (b : Below w.heap.size w W) => check_any S _ _ _ _ W (h.keep b))
  have HENV := Lib.hid (fun W (b : Below w.heap.size w W) => ht.keep b)
  obtain ⟨A', c', e', _, _, hp⟩ := ps_cases h.p
  injection e' with e1 e2 e3
  subst e1 e3
  have HRP := Lib.hid hp
  obtain ⟨A', c', e', _, _, hb⟩ := sl_parts h.b
  injection e' with e1 e2 e3
  subst e1 e3
  have HRB := Lib.hid hb
  obtain ⟨A', c', e', _, _, hc⟩ := sl_parts h.c
  injection e' with e1 e2 e3
  subst e1 e3
  have HRC := Lib.hid hc
  obtain ⟨A', c', e', _, _, ha⟩ := sl_parts h.a
  injection e' with e1 e2 e3
  subst e1 e3
  have HRA := Lib.hid ha
  have hlp : (S.ps.length : Int) ≤ 5000 := by have := h.lp; omega
  have hlb : (S.bs.length : Int) ≤ 5000 := by have := h.lb; omega
  have hlc : (S.cs.length : Int) ≤ 5000 := by have := h.lc; omega
  have hla : (S.ad.length : Int) ≤ 5000 := by have := h.la; omega
  have BX := Lib.hid (below_new w (.cells #[.slice A1 S.ps.length c1, .slice A2 S.bs.length c2, .slice A3 S.cs.length c3, .slice A4 S.ad.length c4] 43))
  have KX := Lib.hid (Blk.new w 43 #[.slice A1 S.ps.length c1, .slice A2 S.bs.length c2, .slice A3 S.cs.length c3, .slice A4 S.ad.length c4])
  clear h hp hb hc ha ht
  go_enter Tryd.func39, Tryd.ntmps39
  go_wp2_with fail
  refine (CC.out _ BX.out).mono ?_
  rintro e w1 ⟨rfl, d1⟩
  have BB := Lib.hid (chain0 BX.out d1)
  have KK := Lib.hid (KX.out.below' d1)
  clear d1 BX KX CC
  have xx := KK.out.c4
  by_cases hz : S.err = 0
  case neg =>
    have t1 : (S.err != 0) = true := by simpa using hz
    have HV := Lib.hid (show fmtT S = ⟨#[]⟩ from if_neg hz)
    clear hz
    go_wp2_with fail
    go_ret2
    exact ⟨by rw [HV.out]; rfl, BB.out⟩
  have t1 : (S.err != 0) = false := by rw [hz]; rfl
  have HZ := Lib.hid hz
  obtain ⟨z1, z2, z3, z4⟩ := setE_parts hz
  have HG1 := Lib.hid (prods_good z1)
  have HG2 := Lib.hid (bids_good z2)
  have HG3 := Lib.hid (caps_good z2 z3)
  have HG4 := Lib.hid (asds_good z1 z4)
  have HL1 := Lib.hid (lines_1 hz)
  have HL2 := Lib.hid (lines_2 hz)
  have HL3 := Lib.hid (lines_3 hz)
  have HL4 := Lib.hid (lines_4 hz)
  have HN1 : Hid (S.ps.length ≤ 6) := (checkE_zero z1).2.1
  have HN2 : Hid (S.bs.length ≤ 8) := (rosE_zero z2).2.1
  have HN3 : Hid (S.cs.length ≤ 16) := (capsE_parts z3).1
  have HN4 : Hid (S.ad.length ≤ 6) := (asdsE_parts z4).1
  clear hz z1 z2 z3 z4
  go_wp2_with fail
  clear t1
  have HBASE : Hid ((⟨#[]⟩ : ByteArray).size ≤ 0 + 79 * 0) := Nat.le_refl 0
  go_loopw [23, 5] (fun iv ov wr => ∃ (k : Nat) (t : ByteArray), k ≤ S.ps.length ∧ iv = .int .i64 (k : Int) ∧ ov = .string t ∧ Hid (t = catL ⟨#[]⟩ ((S.ps.take k).map prodW)) ∧ Hid (t.size ≤ 0 + 79 * k) ∧ Hid (Below w.heap.size w wr) ∧ Hid (Blk wr w.heap.size 43 #[.slice A1 S.ps.length c1, .slice A2 S.bs.length c2, .slice A3 S.cs.length c3, .slice A4 S.ad.length c4])) (fun iv _ _ => S.ps.length - (intOf iv).toNat)
  case atStart => exact ⟨0, ⟨#[]⟩, Nat.zero_le _, rfl, rfl, rfl, HBASE.out, BB.out, KK.out⟩
  case round =>
    clear HBASE BB KK xx
    obtain ⟨k, t, hk, rfl, rfl, HT, HTZ, HB, HK⟩ := hrel
    have hk0 : (0 : Int) ≤ (k : Int) := by omega
    have cx := HK.out.c4
    have lx := HK.out.lt
    by_cases hkn : k < S.ps.length
    · have hd1 : decide (k < S.ps.length) = true := decide_eq_true hkn
      have hd2 : decide ((k : Int) < (S.ps.length : Int)) = true := decide_eq_true (by omega)
      have hkn1 : (k : Int) < (S.ps.length : Int) := by omega
      obtain ⟨b, o, e1, hb, hrow⟩ := HRP.out (by omega)
      subst e1
      have hat := (fun W (bw : Below w.heap.size w W) => (hrow.below hb bw).at_ k hkn) _ HB.out
      have hbr := Nat.lt_of_lt_of_le hb HB.out.size
      have HG := Lib.hid (HG1.out S.ps[k] (List.getElem_mem hkn))
      have hl79 := HL1.out S.ps[k] (List.getElem_mem hkn)
      have HT2 : Hid (t ++ lineW (prodW S.ps[k]) = catL ⟨#[]⟩ ((S.ps.take (k + 1)).map prodW)) := by show _ = _; rw [map_take _ _ _ hkn, catL_snoc, HT.out]
      obtain ⟨x, hx⟩ : ∃ x, x = S.ps[k] := ⟨_, rfl⟩
      rw [← hx] at hat HG hl79 HT2
      have htz := HTZ.out
      have hk36 : k ≤ 36 := by have := HN1.out; omega
      skip
      clear hx hrow HT HTZ
      have Ns := Lib.hid (fun W (bw : Below w.heap.size w W) => itoa_any (x.supply) W (i64_of HG.out.s) (HENV.out W bw))
      have Nr := Lib.hid (fun W (bw : Below w.heap.size w W) => fmt_any (x.reserve) W (i64_of HG.out.r) (HENV.out W bw))
      have Nt := Lib.hid (fun W (bw : Below w.heap.size w W) => itoa_any (x.points) W (i64_of HG.out.t) (HENV.out W bw))
      have Ng := Lib.hid (fun W (bw : Below w.heap.size w W) => itoa_any (x.group) W (i64_of HG.out.g) (HENV.out W bw))
      have CL := Lib.hid (fun W v (bw : Below w.heap.size w W) (hi : StrS W v [wProd, x.name, decS x.supply, decS x.reserve, decS x.points, decS x.group]) => Se.line_any [wProd, x.name, decS x.supply, decS x.reserve, decS x.points, decS x.group] v W hi (by simp) (by simp) (by exact Nat.le_trans hl79 (by omega)))
      have had := fun W => add_small t (lineW (prodW x)) (by omega) W
      have HTZ2 : Hid ((t ++ lineW (prodW x)).size ≤ 0 + 79 * (k + 1)) := by show _ ≤ _; rw [ByteArray.size_append]; omega
      have CL2 : Hid (∀ W v (bw : Below w.heap.size w W) (hi : StrS W v [wProd, x.name, decS x.supply, decS x.reserve, decS x.points, decS x.group]), Calls Tryd.prog 84 #[v] W fun e w' => e = .returned (.string (lineW (prodW x))) ∧ Below W.heap.size W w') := CL.out
      generalize lineW (prodW x) = ln at *
      generalize decS x.supply = zs at *
      generalize decS x.reserve = zr at *
      generalize decS x.points = zt at *
      generalize decS x.group = zg at *
      clear CL htz hl79
      obtain ⟨nm, y1, y2, y3, y4⟩ := x
      dsimp only at *
      have BA := Lib.hid (HB.out.alloc HB.out.size (.cells #[.string nm, .int .i64 y1, .int .i64 y2, .int .i64 y3, .int .i64 y4] 77))
      have YX := Lib.hid (Blk.new wr 77 #[.string nm, .int .i64 y1, .int .i64 y2, .int .i64 y3, .int .i64 y4])
      have KA := Lib.hid (HK.out.alloc (.cells #[.string nm, .int .i64 y1, .int .i64 y2, .int .i64 y3, .int .i64 y4] 77))
      go_wp2_with fail
      generalize wr.alloc _ = wa at *
      generalize wr.heap.size = gi at *
      clear hat hbr cx
      have HKP : Hid (∀ W, Below wa.heap.size wa W → W.cell? ⟨gi, 0, none⟩ = some (.string nm) ∧ W.cell? ⟨gi, 1, none⟩ = some (.int .i64 y1) ∧ W.cell? ⟨gi, 2, none⟩ = some (.int .i64 y2) ∧ W.cell? ⟨gi, 3, none⟩ = some (.int .i64 y3) ∧ W.cell? ⟨gi, 4, none⟩ = some (.int .i64 y4)) := fun W bw => ⟨(YX.out.below' bw).cell 0, (YX.out.below' bw).cell 1, (YX.out.below' bw).cell 2, (YX.out.below' bw).cell 3, (YX.out.below' bw).cell 4⟩
      have HA := HKP.out wa (Below.refl _ _)
      have ED := Lib.hid ((Below.refl wa.heap.size wa).drew)
      have li := YX.out.lt
      go_region_held3 (fun W => W.cell? ⟨gi, 0, none⟩ = some (.string nm) ∧ W.cell? ⟨gi, 1, none⟩ = some (.int .i64 y1) ∧ W.cell? ⟨gi, 2, none⟩ = some (.int .i64 y2) ∧ W.cell? ⟨gi, 3, none⟩ = some (.int .i64 y3) ∧ W.cell? ⟨gi, 4, none⟩ = some (.int .i64 y4)) (first | with_reducible exact HKP.out _ ED.out | exact HA | go_keep) (first | (go_at_call 85; with_reducible refine (Ns.out _ (chain0 BA.out ED.out)).mono ?_; rintro e w9 ⟨rfl, dd⟩; replace ED := Lib.hid (chain0 ED.out dd); have HA9 := HKP.out _ ED.out; clear dd) | (go_at_call 56; with_reducible refine (Nr.out _ (chain0 BA.out ED.out)).mono ?_; rintro e w9 ⟨rfl, dd⟩; replace ED := Lib.hid (chain0 ED.out dd); have HA9 := HKP.out _ ED.out; clear dd) | (go_at_call 85; with_reducible refine (Nt.out _ (chain0 BA.out ED.out)).mono ?_; rintro e w9 ⟨rfl, dd⟩; replace ED := Lib.hid (chain0 ED.out dd); have HA9 := HKP.out _ ED.out; clear dd) | (go_at_call 85; with_reducible refine (Ng.out _ (chain0 BA.out ED.out)).mono ?_; rintro e w9 ⟨rfl, dd⟩; replace ED := Lib.hid (chain0 ED.out dd); have HA9 := HKP.out _ ED.out; clear dd) | (go_at_call 84; have EA := Lib.hid (chain0 BA.out ED.out); refine (CL2.out _ _ (by first | exact EA.out.alloc EA.out.size _ | exact (EA.out.alloc EA.out.size _).drew) (by first | exact strS_new _ [wProd, nm, zs, zr, zt, zg] _ (by unfold maxLen; simp) | exact (strS_new _ [wProd, nm, zs, zr, zt, zg] _ (by unfold maxLen; simp)).keep (Below.refl _ _).drew)).mono ?_; rintro e w9 ⟨rfl, dd⟩; replace ED := Lib.hid (by first | exact chain1 ED.out dd | exact chain0 (ED.out.alloc ED.out.size _).drew dd); have HA9 := HKP.out _ ED.out; clear dd))
      all_goals go_wp2_with fail
      all_goals go_roundw
      all_goals first
        | exact ⟨k + 1, _, hkn, by go_num, rfl, HT2.out, HTZ2.out, chain0 BA.out ED.out, KA.out.below' ED.out⟩
        | (simp [intOf]; omega)
    · obtain rfl : k = S.ps.length := by omega
      have hd1 : decide (S.ps.length < S.ps.length) = false := decide_eq_false (Nat.lt_irrefl _)
      have hd2 : decide ((S.ps.length : Int) < (S.ps.length : Int)) = false := decide_eq_false (Int.lt_irrefl _)
      have HTE : Hid (t = catL ⟨#[]⟩ (S.ps.map prodW)) := by have h := HT.out; rw [List.take_length] at h; exact h
      have HBASE : Hid (t.size ≤ 2000 + 79 * 0) := by have h := HTZ.out; have h2 := HN1.out; show _ ≤ _; omega
      have BB := HB
      have KK := HK
      have xx := cx
      have t1E := HTE
      clear HTE HT HTZ HB HK hk hk0
      go_wp2_with fail
      clear hd1 hd2 cx
      generalize t = t1 at *
      go_loopw [49, 5] (fun iv ov wr => ∃ (k : Nat) (t : ByteArray), k ≤ S.bs.length ∧ iv = .int .i64 (k : Int) ∧ ov = .string t ∧ Hid (t = catL t1 ((S.bs.take k).map bidW)) ∧ Hid (t.size ≤ 2000 + 79 * k) ∧ Hid (Below w.heap.size w wr) ∧ Hid (Blk wr w.heap.size 43 #[.slice A1 S.ps.length c1, .slice A2 S.bs.length c2, .slice A3 S.cs.length c3, .slice A4 S.ad.length c4])) (fun iv _ _ => S.bs.length - (intOf iv).toNat)
      case atStart => exact ⟨0, t1, Nat.zero_le _, rfl, rfl, rfl, HBASE.out, BB.out, KK.out⟩
      case round =>
        clear HBASE BB KK xx
        obtain ⟨k, t, hk, rfl, rfl, HT, HTZ, HB, HK⟩ := hrel
        have hk0 : (0 : Int) ≤ (k : Int) := by omega
        have cx := HK.out.c4
        have lx := HK.out.lt
        by_cases hkn : k < S.bs.length
        · have hd1 : decide (k < S.bs.length) = true := decide_eq_true hkn
          have hd2 : decide ((k : Int) < (S.bs.length : Int)) = true := decide_eq_true (by omega)
          have hkn1 : (k : Int) < (S.bs.length : Int) := by omega
          obtain ⟨b, o, e1, hb, hrow⟩ := HRB.out (by omega)
          subst e1
          have hat := (fun W (bw : Below w.heap.size w W) => BidRow.at_ (show BidRow W b o S.bs from hrow.below hb bw) k hkn) _ HB.out
          have hbr := Nat.lt_of_lt_of_le hb HB.out.size
          have HG := Lib.hid (HG2.out S.bs[k] (List.getElem_mem hkn))
          have hl79 := HL2.out S.bs[k] (List.getElem_mem hkn)
          have HT2 : Hid (t ++ lineW (bidW S.bs[k]) = catL t1 ((S.bs.take (k + 1)).map bidW)) := by show _ = _; rw [map_take _ _ _ hkn, catL_snoc, HT.out]
          obtain ⟨x, hx⟩ : ∃ x, x = S.bs[k] := ⟨_, rfl⟩
          rw [← hx] at hat HG hl79 HT2
          have htz := HTZ.out
          have hk36 : k ≤ 36 := by have := HN2.out; omega
          skip
          clear hx hrow HT HTZ
          have Nc := Lib.hid (fun W (bw : Below w.heap.size w W) => itoa_any (x.cls) W (i64_of HG.out.c) (HENV.out W bw))
          have Nb := Lib.hid (fun W (bw : Below w.heap.size w W) => fmt_any (x.budget) W (i64_of HG.out.b) (HENV.out W bw))
          have Nt := Lib.hid (fun W (bw : Below w.heap.size w W) => itoa_any (x.points) W (i64_of HG.out.t) (HENV.out W bw))
          have CL := Lib.hid (fun W v (bw : Below w.heap.size w W) (hi : StrS W v [wBid, x.name, decS x.cls, decS x.budget, decS x.points]) => Se.line_any [wBid, x.name, decS x.cls, decS x.budget, decS x.points] v W hi (by simp) (by simp) (by exact Nat.le_trans hl79 (by omega)))
          have had := fun W => add_small t (lineW (bidW x)) (by omega) W
          have HTZ2 : Hid ((t ++ lineW (bidW x)).size ≤ 2000 + 79 * (k + 1)) := by show _ ≤ _; rw [ByteArray.size_append]; omega
          have CL2 : Hid (∀ W v (bw : Below w.heap.size w W) (hi : StrS W v [wBid, x.name, decS x.cls, decS x.budget, decS x.points]), Calls Tryd.prog 84 #[v] W fun e w' => e = .returned (.string (lineW (bidW x))) ∧ Below W.heap.size W w') := CL.out
          generalize lineW (bidW x) = ln at *
          generalize decS x.cls = zc at *
          generalize decS x.budget = zb at *
          generalize decS x.points = zt at *
          clear CL htz hl79
          obtain ⟨nm, y1, y2, y3⟩ := x
          dsimp only at *
          have BA := Lib.hid (HB.out.alloc HB.out.size (.cells #[.string nm, .int .i64 y1, .int .i64 y2, .int .i64 y3] 116))
          have YX := Lib.hid (Blk.new wr 116 #[.string nm, .int .i64 y1, .int .i64 y2, .int .i64 y3])
          have KA := Lib.hid (HK.out.alloc (.cells #[.string nm, .int .i64 y1, .int .i64 y2, .int .i64 y3] 116))
          go_wp2_with fail
          generalize wr.alloc _ = wa at *
          generalize wr.heap.size = gi at *
          clear hat hbr cx
          have HKP : Hid (∀ W, Below wa.heap.size wa W → W.cell? ⟨gi, 0, none⟩ = some (.string nm) ∧ W.cell? ⟨gi, 1, none⟩ = some (.int .i64 y1) ∧ W.cell? ⟨gi, 2, none⟩ = some (.int .i64 y2) ∧ W.cell? ⟨gi, 3, none⟩ = some (.int .i64 y3)) := fun W bw => ⟨(YX.out.below' bw).cell 0, (YX.out.below' bw).cell 1, (YX.out.below' bw).cell 2, (YX.out.below' bw).cell 3⟩
          have HA := HKP.out wa (Below.refl _ _)
          have ED := Lib.hid ((Below.refl wa.heap.size wa).drew)
          have li := YX.out.lt
          go_region_held3 (fun W => W.cell? ⟨gi, 0, none⟩ = some (.string nm) ∧ W.cell? ⟨gi, 1, none⟩ = some (.int .i64 y1) ∧ W.cell? ⟨gi, 2, none⟩ = some (.int .i64 y2) ∧ W.cell? ⟨gi, 3, none⟩ = some (.int .i64 y3)) (first | with_reducible exact HKP.out _ ED.out | exact HA | go_keep) (first | (go_at_call 85; with_reducible refine (Nc.out _ (chain0 BA.out ED.out)).mono ?_; rintro e w9 ⟨rfl, dd⟩; replace ED := Lib.hid (chain0 ED.out dd); have HA9 := HKP.out _ ED.out; clear dd) | (go_at_call 56; with_reducible refine (Nb.out _ (chain0 BA.out ED.out)).mono ?_; rintro e w9 ⟨rfl, dd⟩; replace ED := Lib.hid (chain0 ED.out dd); have HA9 := HKP.out _ ED.out; clear dd) | (go_at_call 85; with_reducible refine (Nt.out _ (chain0 BA.out ED.out)).mono ?_; rintro e w9 ⟨rfl, dd⟩; replace ED := Lib.hid (chain0 ED.out dd); have HA9 := HKP.out _ ED.out; clear dd) | (go_at_call 84; have EA := Lib.hid (chain0 BA.out ED.out); refine (CL2.out _ _ (by first | exact EA.out.alloc EA.out.size _ | exact (EA.out.alloc EA.out.size _).drew) (by first | exact strS_new _ [wBid, nm, zc, zb, zt] _ (by unfold maxLen; simp) | exact (strS_new _ [wBid, nm, zc, zb, zt] _ (by unfold maxLen; simp)).keep (Below.refl _ _).drew)).mono ?_; rintro e w9 ⟨rfl, dd⟩; replace ED := Lib.hid (by first | exact chain1 ED.out dd | exact chain0 (ED.out.alloc ED.out.size _).drew dd); have HA9 := HKP.out _ ED.out; clear dd))
          all_goals go_wp2_with fail
          all_goals go_roundw
          all_goals first
            | exact ⟨k + 1, _, hkn, by go_num, rfl, HT2.out, HTZ2.out, chain0 BA.out ED.out, KA.out.below' ED.out⟩
            | (simp [intOf]; omega)
        · obtain rfl : k = S.bs.length := by omega
          have hd1 : decide (S.bs.length < S.bs.length) = false := decide_eq_false (Nat.lt_irrefl _)
          have hd2 : decide ((S.bs.length : Int) < (S.bs.length : Int)) = false := decide_eq_false (Int.lt_irrefl _)
          have HTE : Hid (t = catL t1 (S.bs.map bidW)) := by have h := HT.out; rw [List.take_length] at h; exact h
          have HBASE : Hid (t.size ≤ 4000 + 79 * 0) := by have h := HTZ.out; have h2 := HN2.out; show _ ≤ _; omega
          have BB := HB
          have KK := HK
          have xx := cx
          have t2E := HTE
          clear HTE HT HTZ HB HK hk hk0
          go_wp2_with fail
          clear hd1 hd2 cx
          generalize t = t2 at *
          go_loopw [72, 5] (fun iv ov wr => ∃ (k : Nat) (t : ByteArray), k ≤ S.cs.length ∧ iv = .int .i64 (k : Int) ∧ ov = .string t ∧ Hid (t = catL t2 ((S.cs.take k).map (capW S.bs))) ∧ Hid (t.size ≤ 4000 + 79 * k) ∧ Hid (Below w.heap.size w wr) ∧ Hid (Blk wr w.heap.size 43 #[.slice A1 S.ps.length c1, .slice A2 S.bs.length c2, .slice A3 S.cs.length c3, .slice A4 S.ad.length c4])) (fun iv _ _ => S.cs.length - (intOf iv).toNat)
          case atStart => exact ⟨0, t2, Nat.zero_le _, rfl, rfl, rfl, HBASE.out, BB.out, KK.out⟩
          case round =>
            clear HBASE BB KK xx
            obtain ⟨k, t, hk, rfl, rfl, HT, HTZ, HB, HK⟩ := hrel
            have hk0 : (0 : Int) ≤ (k : Int) := by omega
            have cx := HK.out.c4
            have lx := HK.out.lt
            by_cases hkn : k < S.cs.length
            · have hd1 : decide (k < S.cs.length) = true := decide_eq_true hkn
              have hd2 : decide ((k : Int) < (S.cs.length : Int)) = true := decide_eq_true (by omega)
              have hkn1 : (k : Int) < (S.cs.length : Int) := by omega
              obtain ⟨b, o, e1, hb, hrow⟩ := HRC.out (by omega)
              subst e1
              have hat := (fun W (bw : Below w.heap.size w W) => cap_at (hrow.below hb bw) k hkn) _ HB.out
              have hbr := Nat.lt_of_lt_of_le hb HB.out.size
              have HG := Lib.hid (HG3.out S.cs[k] (List.getElem_mem hkn))
              have hl79 := HL3.out S.cs[k] (List.getElem_mem hkn)
              have HT2 : Hid (t ++ lineW ((capW S.bs) S.cs[k]) = catL t2 ((S.cs.take (k + 1)).map (capW S.bs))) := by show _ = _; rw [map_take _ _ _ hkn, catL_snoc, HT.out]
              obtain ⟨x, hx⟩ : ∃ x, x = S.cs[k] := ⟨_, rfl⟩
              rw [← hx] at hat HG hl79 HT2
              have htz := HTZ.out
              have hk36 : k ≤ 36 := by have := HN3.out; omega
              clear hx hrow HT HTZ
              have Ng := Lib.hid (fun W (bw : Below w.heap.size w W) => itoa_any (x.group) W (i64_of HG.out.g) (HENV.out W bw))
              have Nu := Lib.hid (fun W (bw : Below w.heap.size w W) => itoa_any (x.units) W (i64_of HG.out.u) (HENV.out W bw))
              have CL := Lib.hid (fun W v (bw : Below w.heap.size w W) (hi : StrS W v [wCap, capN S.bs x.bidder, decS x.group, decS x.units]) => Se.line_any [wCap, capN S.bs x.bidder, decS x.group, decS x.units] v W hi (by simp) (by simp) (by exact Nat.le_trans hl79 (by omega)))
              have had := fun W => add_small t (lineW ((capW S.bs) x)) (by omega) W
              have HTZ2 : Hid ((t ++ lineW ((capW S.bs) x)).size ≤ 4000 + 79 * (k + 1)) := by show _ ≤ _; rw [ByteArray.size_append]; omega
              have CL2 : Hid (∀ W v (bw : Below w.heap.size w W) (hi : StrS W v [wCap, capN S.bs x.bidder, decS x.group, decS x.units]), Calls Tryd.prog 84 #[v] W fun e w' => e = .returned (.string (lineW ((capW S.bs) x))) ∧ Below W.heap.size W w') := CL.out
              generalize lineW ((capW S.bs) x) = ln at *
              generalize decS x.group = zg at *
              generalize decS x.units = zu at *
              obtain ⟨nm, hnm⟩ : ∃ nm, nm = capN S.bs x.bidder := ⟨_, rfl⟩
              rw [← hnm] at CL2
              clear CL htz hl79
              have hbid := HG.out.bid
              obtain ⟨xb, y1, y2⟩ := x
              dsimp only at *
              by_cases hb0 : 0 ≤ xb
              · have t0 : decide ((0 : Int) ≤ xb) = true := decide_eq_true hb0
                have BA := Lib.hid (HB.out.alloc HB.out.size (.cells #[.int .i64 xb, .int .i64 y1, .int .i64 y2] 111))
                have YX := Lib.hid (Blk.new wr 111 #[.int .i64 xb, .int .i64 y1, .int .i64 y2])
                have KA := Lib.hid (HK.out.alloc (.cells #[.int .i64 xb, .int .i64 y1, .int .i64 y2] 111))
                obtain ⟨n, hn⟩ : ∃ n : Nat, xb = (n : Int) := ⟨xb.toNat, by omega⟩
                subst hn
                have hnp : n < S.bs.length := by rcases hbid with h | h <;> omega
                have hnm2 : nm = S.bs[n].name := by rw [hnm]; unfold capN; rw [if_pos hb0, Int.toNat_natCast]; simp [List.getD, hnp]
                obtain ⟨bp, op, e1, hbp, hprow⟩ := HRB.out (by omega)
                subst e1
                have HPT := Lib.hid (fun W (bw : Below w.heap.size w W) => (BidRow.at_ (show BidRow W bp op S.bs from hprow.below hbp bw) n hnp).1)
                rw [← hnm2] at HPT
                have hpt := HPT.out _ HB.out
                have hbpr := Nat.lt_of_lt_of_le hbp HB.out.size
                have hn0 : (0 : Int) ≤ (n : Int) := by omega
                have hn5 : (n : Int) < (S.bs.length : Int) := by omega
                clear hnm hnm2 hprow hbid
                go_wp2_with fail
                generalize wr.alloc _ = wa at *
                generalize wr.heap.size = gi at *
                clear hat hbr cx hpt hbpr
                have HKP : Hid (∀ W, Below wa.heap.size wa W → W.cell? ⟨gi, 1, none⟩ = some (.int .i64 y1) ∧ W.cell? ⟨gi, 2, none⟩ = some (.int .i64 y2)) := fun W bw => ⟨(YX.out.below' bw).cell 1, (YX.out.below' bw).cell 2⟩
                have HA := HKP.out wa (Below.refl _ _)
                have ED := Lib.hid ((Below.refl wa.heap.size wa).drew)
                have li := YX.out.lt
                go_region_held3 (fun W => W.cell? ⟨gi, 1, none⟩ = some (.int .i64 y1) ∧ W.cell? ⟨gi, 2, none⟩ = some (.int .i64 y2)) (first | with_reducible exact HKP.out _ ED.out | exact HA | go_keep) (first | (go_at_call 85; with_reducible refine (Ng.out _ (chain0 BA.out ED.out)).mono ?_; rintro e w9 ⟨rfl, dd⟩; replace ED := Lib.hid (chain0 ED.out dd); have HA9 := HKP.out _ ED.out; clear dd) | (go_at_call 85; with_reducible refine (Nu.out _ (chain0 BA.out ED.out)).mono ?_; rintro e w9 ⟨rfl, dd⟩; replace ED := Lib.hid (chain0 ED.out dd); have HA9 := HKP.out _ ED.out; clear dd) | (go_at_call 84; have EA := Lib.hid (chain0 BA.out ED.out); refine (CL2.out _ _ (by first | exact EA.out.alloc EA.out.size _ | exact (EA.out.alloc EA.out.size _).drew) (by first | exact strS_new _ [wCap, nm, zg, zu] _ (by unfold maxLen; simp) | exact (strS_new _ [wCap, nm, zg, zu] _ (by unfold maxLen; simp)).keep (Below.refl _ _).drew)).mono ?_; rintro e w9 ⟨rfl, dd⟩; replace ED := Lib.hid (by first | exact chain1 ED.out dd | exact chain0 (ED.out.alloc ED.out.size _).drew dd); have HA9 := HKP.out _ ED.out; clear dd))
                all_goals go_wp2_with fail
                all_goals go_roundw
                all_goals first
                  | exact ⟨k + 1, _, hkn, by go_num, rfl, HT2.out, HTZ2.out, chain0 BA.out ED.out, KA.out.below' ED.out⟩
                  | (simp [intOf]; omega)
              · have t0 : decide ((0 : Int) ≤ xb) = false := decide_eq_false hb0
                have hnm2 : nm = wAny := by rw [hnm]; unfold capN; rw [if_neg hb0]
                subst hnm2
                have BA := Lib.hid (HB.out.alloc HB.out.size (.cells #[.int .i64 xb, .int .i64 y1, .int .i64 y2] 111))
                have YX := Lib.hid (Blk.new wr 111 #[.int .i64 xb, .int .i64 y1, .int .i64 y2])
                have KA := Lib.hid (HK.out.alloc (.cells #[.int .i64 xb, .int .i64 y1, .int .i64 y2] 111))
                clear hnm hbid
                go_wp2_with fail
                generalize wr.alloc _ = wa at *
                generalize wr.heap.size = gi at *
                clear hat hbr cx
                have HKP : Hid (∀ W, Below wa.heap.size wa W → W.cell? ⟨gi, 1, none⟩ = some (.int .i64 y1) ∧ W.cell? ⟨gi, 2, none⟩ = some (.int .i64 y2)) := fun W bw => ⟨(YX.out.below' bw).cell 1, (YX.out.below' bw).cell 2⟩
                have HA := HKP.out wa (Below.refl _ _)
                have ED := Lib.hid ((Below.refl wa.heap.size wa).drew)
                have li := YX.out.lt
                go_region_held3 (fun W => W.cell? ⟨gi, 1, none⟩ = some (.int .i64 y1) ∧ W.cell? ⟨gi, 2, none⟩ = some (.int .i64 y2)) (first | with_reducible exact HKP.out _ ED.out | exact HA | go_keep) (first | (go_at_call 85; with_reducible refine (Ng.out _ (chain0 BA.out ED.out)).mono ?_; rintro e w9 ⟨rfl, dd⟩; replace ED := Lib.hid (chain0 ED.out dd); have HA9 := HKP.out _ ED.out; clear dd) | (go_at_call 85; with_reducible refine (Nu.out _ (chain0 BA.out ED.out)).mono ?_; rintro e w9 ⟨rfl, dd⟩; replace ED := Lib.hid (chain0 ED.out dd); have HA9 := HKP.out _ ED.out; clear dd) | (go_at_call 84; have EA := Lib.hid (chain0 BA.out ED.out); refine (CL2.out _ _ (by first | exact EA.out.alloc EA.out.size _ | exact (EA.out.alloc EA.out.size _).drew) (by first | exact strS_new _ [wCap, wAny, zg, zu] _ (by unfold maxLen; simp) | exact (strS_new _ [wCap, wAny, zg, zu] _ (by unfold maxLen; simp)).keep (Below.refl _ _).drew)).mono ?_; rintro e w9 ⟨rfl, dd⟩; replace ED := Lib.hid (by first | exact chain1 ED.out dd | exact chain0 (ED.out.alloc ED.out.size _).drew dd); have HA9 := HKP.out _ ED.out; clear dd))
                all_goals go_wp2_with fail
                all_goals go_roundw
                all_goals first
                  | exact ⟨k + 1, _, hkn, by go_num, rfl, HT2.out, HTZ2.out, chain0 BA.out ED.out, KA.out.below' ED.out⟩
                  | (simp [intOf]; omega)
            · obtain rfl : k = S.cs.length := by omega
              have hd1 : decide (S.cs.length < S.cs.length) = false := decide_eq_false (Nat.lt_irrefl _)
              have hd2 : decide ((S.cs.length : Int) < (S.cs.length : Int)) = false := decide_eq_false (Int.lt_irrefl _)
              have HTE : Hid (t = catL t2 (S.cs.map (capW S.bs))) := by have h := HT.out; rw [List.take_length] at h; exact h
              have HBASE : Hid (t.size ≤ 6000 + 79 * 0) := by have h := HTZ.out; have h2 := HN3.out; show _ ≤ _; omega
              have BB := HB
              have KK := HK
              have xx := cx
              have t3E := HTE
              clear HTE HT HTZ HB HK hk hk0
              go_wp2_with fail
              clear hd1 hd2 cx
              generalize t = t3 at *
              go_loopw [101, 5] (fun iv ov wr => ∃ (k : Nat) (t : ByteArray), k ≤ S.ad.length ∧ iv = .int .i64 (k : Int) ∧ ov = .string t ∧ Hid (t = catL t3 ((S.ad.take k).map (asdW S.ps))) ∧ Hid (t.size ≤ 6000 + 79 * k) ∧ Hid (Below w.heap.size w wr) ∧ Hid (Blk wr w.heap.size 43 #[.slice A1 S.ps.length c1, .slice A2 S.bs.length c2, .slice A3 S.cs.length c3, .slice A4 S.ad.length c4])) (fun iv _ _ => S.ad.length - (intOf iv).toNat)
              case atStart => exact ⟨0, t3, Nat.zero_le _, rfl, rfl, rfl, HBASE.out, BB.out, KK.out⟩
              case round =>
                clear HBASE BB KK xx
                obtain ⟨k, t, hk, rfl, rfl, HT, HTZ, HB, HK⟩ := hrel
                have hk0 : (0 : Int) ≤ (k : Int) := by omega
                have cx := HK.out.c4
                have lx := HK.out.lt
                by_cases hkn : k < S.ad.length
                · have hd1 : decide (k < S.ad.length) = true := decide_eq_true hkn
                  have hd2 : decide ((k : Int) < (S.ad.length : Int)) = true := decide_eq_true (by omega)
                  have hkn1 : (k : Int) < (S.ad.length : Int) := by omega
                  obtain ⟨b, o, e1, hb, hrow⟩ := HRA.out (by omega)
                  subst e1
                  have hat := (fun W (bw : Below w.heap.size w W) => asd_at (hrow.below hb bw) k hkn) _ HB.out
                  have hbr := Nat.lt_of_lt_of_le hb HB.out.size
                  have HG := Lib.hid (HG4.out S.ad[k] (List.getElem_mem hkn))
                  have hl79 := HL4.out S.ad[k] (List.getElem_mem hkn)
                  have HT2 : Hid (t ++ lineW ((asdW S.ps) S.ad[k]) = catL t3 ((S.ad.take (k + 1)).map (asdW S.ps))) := by show _ = _; rw [map_take _ _ _ hkn, catL_snoc, HT.out]
                  obtain ⟨x, hx⟩ : ∃ x, x = S.ad[k] := ⟨_, rfl⟩
                  rw [← hx] at hat HG hl79 HT2
                  have htz := HTZ.out
                  have hk36 : k ≤ 36 := by have := HN4.out; omega
                  clear hx hrow HT HTZ
                  have Ng := Lib.hid (fun W (bw : Below w.heap.size w W) => itoa_any (x.cls) W (i64_of HG.out.g) (HENV.out W bw))
                  have Nu := Lib.hid (fun W (bw : Below w.heap.size w W) => itoa_any (x.units) W (i64_of HG.out.u) (HENV.out W bw))
                  have CL := Lib.hid (fun W v (bw : Below w.heap.size w W) (hi : StrS W v [wAsd, (S.ps.getD x.prod.toNat Prod.none).name, decS x.cls, decS x.units]) => Se.line_any [wAsd, (S.ps.getD x.prod.toNat Prod.none).name, decS x.cls, decS x.units] v W hi (by simp) (by simp) (by exact Nat.le_trans hl79 (by omega)))
                  have had := fun W => add_small t (lineW ((asdW S.ps) x)) (by omega) W
                  have HTZ2 : Hid ((t ++ lineW ((asdW S.ps) x)).size ≤ 6000 + 79 * (k + 1)) := by show _ ≤ _; rw [ByteArray.size_append]; omega
                  have CL2 : Hid (∀ W v (bw : Below w.heap.size w W) (hi : StrS W v [wAsd, (S.ps.getD x.prod.toNat Prod.none).name, decS x.cls, decS x.units]), Calls Tryd.prog 84 #[v] W fun e w' => e = .returned (.string (lineW ((asdW S.ps) x))) ∧ Below W.heap.size W w') := CL.out
                  generalize lineW ((asdW S.ps) x) = ln at *
                  generalize decS x.cls = zg at *
                  generalize decS x.units = zu at *
                  obtain ⟨nm, hnm⟩ : ∃ nm, nm = (S.ps.getD x.prod.toNat Prod.none).name := ⟨_, rfl⟩
                  rw [← hnm] at CL2
                  clear CL htz hl79
                  have hprd := HG.out.prod
                  obtain ⟨xb, y1, y2⟩ := x
                  dsimp only at *
                  have BA := Lib.hid (HB.out.alloc HB.out.size (.cells #[.int .i64 xb, .int .i64 y1, .int .i64 y2] 114))
                  have YX := Lib.hid (Blk.new wr 114 #[.int .i64 xb, .int .i64 y1, .int .i64 y2])
                  have KA := Lib.hid (HK.out.alloc (.cells #[.int .i64 xb, .int .i64 y1, .int .i64 y2] 114))
                  obtain ⟨n, hn⟩ : ∃ n : Nat, xb = (n : Int) := ⟨xb.toNat, by omega⟩
                  subst hn
                  have hnp : n < S.ps.length := by omega
                  rw [Int.toNat_natCast, getD_prod S.ps n hnp] at hnm
                  obtain ⟨bp, op, e1, hbp, hprow⟩ := HRP.out (by omega)
                  subst e1
                  have HPT := Lib.hid (fun W (bw : Below w.heap.size w W) => ((hprow.below hbp bw).at_ n hnp).1)
                  rw [← hnm] at HPT
                  have hn0 : (0 : Int) ≤ (n : Int) := by omega
                  have hn5 : (n : Int) < (S.ps.length : Int) := by omega
                  clear hnm hprow hprd
                  go_wp2_with fail
                  generalize wr.alloc _ = wa at *
                  generalize wr.heap.size = gi at *
                  clear hat hbr cx
                  have HKP : Hid (∀ W, Below wa.heap.size wa W → W.cell? ⟨w.heap.size, 0, none⟩ = some (.slice (some ⟨bp, op, none⟩) S.ps.length c1) ∧ W.cell? ⟨bp, op + n * 5, none⟩ = some (.string nm) ∧ W.cell? ⟨gi, 0, none⟩ = some (.int .i64 (n : Int)) ∧ W.cell? ⟨gi, 1, none⟩ = some (.int .i64 y1) ∧ W.cell? ⟨gi, 2, none⟩ = some (.int .i64 y2)) := fun W bw => ⟨(KA.out.below' bw).cell 0, HPT.out W (chain0 BA.out bw), (YX.out.below' bw).cell 0, (YX.out.below' bw).cell 1, (YX.out.below' bw).cell 2⟩
                  have HA := HKP.out wa (Below.refl _ _)
                  have ED := Lib.hid ((Below.refl wa.heap.size wa).drew)
                  have li := YX.out.lt
                  have lp := KA.out.lt
                  have hbpw : bp < wa.heap.size := Nat.lt_of_lt_of_le hbp BA.out.size
                  go_region_held3 (fun W => W.cell? ⟨w.heap.size, 0, none⟩ = some (.slice (some ⟨bp, op, none⟩) S.ps.length c1) ∧ W.cell? ⟨bp, op + n * 5, none⟩ = some (.string nm) ∧ W.cell? ⟨gi, 0, none⟩ = some (.int .i64 (n : Int)) ∧ W.cell? ⟨gi, 1, none⟩ = some (.int .i64 y1) ∧ W.cell? ⟨gi, 2, none⟩ = some (.int .i64 y2)) (first | with_reducible exact HKP.out _ ED.out | exact HA | go_keep) (first | (go_at_call 85; with_reducible refine (Ng.out _ (chain0 BA.out ED.out)).mono ?_; rintro e w9 ⟨rfl, dd⟩; replace ED := Lib.hid (chain0 ED.out dd); have HA9 := HKP.out _ ED.out; clear dd) | (go_at_call 85; with_reducible refine (Nu.out _ (chain0 BA.out ED.out)).mono ?_; rintro e w9 ⟨rfl, dd⟩; replace ED := Lib.hid (chain0 ED.out dd); have HA9 := HKP.out _ ED.out; clear dd) | (go_at_call 84; have EA := Lib.hid (chain0 BA.out ED.out); refine (CL2.out _ _ (by first | exact EA.out.alloc EA.out.size _ | exact (EA.out.alloc EA.out.size _).drew) (by first | exact strS_new _ [wAsd, nm, zg, zu] _ (by unfold maxLen; simp) | exact (strS_new _ [wAsd, nm, zg, zu] _ (by unfold maxLen; simp)).keep (Below.refl _ _).drew)).mono ?_; rintro e w9 ⟨rfl, dd⟩; replace ED := Lib.hid (by first | exact chain1 ED.out dd | exact chain0 (ED.out.alloc ED.out.size _).drew dd); have HA9 := HKP.out _ ED.out; clear dd))
                  all_goals go_wp2_with fail
                  all_goals go_roundw
                  all_goals first
                    | exact ⟨k + 1, _, hkn, by go_num, rfl, HT2.out, HTZ2.out, chain0 BA.out ED.out, KA.out.below' ED.out⟩
                    | (simp [intOf]; omega)
                · obtain rfl : k = S.ad.length := by omega
                  have hd1 : decide (S.ad.length < S.ad.length) = false := decide_eq_false (Nat.lt_irrefl _)
                  have hd2 : decide ((S.ad.length : Int) < (S.ad.length : Int)) = false := decide_eq_false (Int.lt_irrefl _)
                  have HTE : Hid (t = catL t3 (S.ad.map (asdW S.ps))) := by have h := HT.out; rw [List.take_length] at h; exact h
                  have HFT : Hid (fmtT S = t) := by
                    show fmtT S = t
                    unfold fmtT
                    rw [if_pos HZ.out, textS_eq, HTE.out, t3E.out, t2E.out, t1E.out]
                  go_wp2_with fail
                  go_ret2
                  exact ⟨by rw [HFT.out, HZ.out]; rfl, HB.out⟩
end Go.Proofs.YtjjlhihocllgjaaDoor.Se
