/- Contract of the reference's Invoices. Printed by gen_stv.py. -/
import Derived.Test.YthehchdonmmpaaaGreatDoorStY
import Derived.Test.YthehchdonmmpaaaGreatDoorStX
import Derived.Test.YthehchdonmmpaaaGreatDoorStO
import Derived.Test.YthehchdonmmpaaaGreatDoorFs1
import Derived.Test.YthehchdonmmpaaaGreatDoorStU
import Derived.Deep.RegionHeld3
import Derived.Deep.QuietTactic
import Derived.BigQuiet
import Derived.Deep.CutBlock
namespace Go.Proofs.YthehchdonmmpaaaGreatDoor.St
open Go.ChangeShapes Go.WideShapes Go.ChangeAt Go.RowKit Gn Cat Lex Pr Ros Fr
set_option linter.unusedVariables false
set_option linter.unusedSimpArgs false
attribute [local go_sem] later_cell
theorem invsR_chk {ps : List Prod} {bs : List Bid} {won : List (Nat → Int)} {net : List Frc} : invsR ps bs won net = if chkE ps bs ≠ 0 then .error (chkE ps bs) else if won.length ≠ bs.length ∨ net.length ≠ bs.length then .error 3 else invsGo ps bs won net bs.length := by
  unfold invsR chkE
  by_cases h : checkE ps = 0 <;> simp [h]
section
variable {ps : List Prod} {bud : Int} {i : Nat} {won : Nat → Int} {f : Frc}
theorem invR_e1 (h : ¬ (validB won = true ∧ within6 won (supP ps) = true)) : invR ps bud i won f = .error 4 := if_neg h
theorem invR_e2 (h1 : validB won = true ∧ within6 won (supP ps) = true) (h : validF f.neg f.num f.den = false) : invR ps bud i won f = .error 2 := by
  unfold invR
  rw [if_pos h1, if_neg (by rw [h]; decide)]
theorem invR_e3 (h1 : validB won = true ∧ within6 won (supP ps) = true) (h2 : validF f.neg f.num f.den = true) (h : ¬ (f.neg = false ∧ upN f ≤ 1000000 ∧ (eq6 won zero6 = true → nat f.num = 0))) : invR ps bud i won f = .error 4 := by
  unfold invR
  rw [if_pos h1, if_pos h2, if_neg h]
theorem invR_e4 (h1 : validB won = true ∧ within6 won (supP ps) = true) (h2 : validF f.neg f.num f.den = true) (h3 : f.neg = false ∧ upN f ≤ 1000000 ∧ (eq6 won zero6 = true → nat f.num = 0)) (h : ¬ sumE Prod.reserve won ps + (upN f : Int) ≤ 1000000) : invR ps bud i won f = .error 4 := by
  unfold invR
  rw [if_pos h1, if_pos h2, if_pos h3, if_neg h]
theorem invR_e5 (h1 : validB won = true ∧ within6 won (supP ps) = true) (h2 : validF f.neg f.num f.den = true) (h3 : f.neg = false ∧ upN f ≤ 1000000 ∧ (eq6 won zero6 = true → nat f.num = 0)) (h4 : sumE Prod.reserve won ps + (upN f : Int) ≤ 1000000) (h : bud ≠ 0 ∧ bud < sumE Prod.reserve won ps + (upN f : Int)) : invR ps bud i won f = .error 17 := by
  unfold invR
  rw [if_pos h1, if_pos h2, if_pos h3, if_pos h4, if_pos h]
theorem invR_yes (h1 : validB won = true ∧ within6 won (supP ps) = true) (h2 : validF f.neg f.num f.den = true) (h3 : f.neg = false ∧ upN f ≤ 1000000 ∧ (eq6 won zero6 = true → nat f.num = 0)) (h4 : sumE Prod.reserve won ps + (upN f : Int) ≤ 1000000) (h : ¬ (bud ≠ 0 ∧ bud < sumE Prod.reserve won ps + (upN f : Int))) : invR ps bud i won f = .ok ⟨(i : Int), won, sumE Prod.reserve won ps, (upN f : Int), sumE Prod.reserve won ps + (upN f : Int)⟩ := by
  unfold invR
  rw [if_pos h1, if_pos h2, if_pos h3, if_pos h4, if_neg h]
end
abbrev c10 (k : Int) (p : Nat → Int) (s m u : Int) : Array Value := #[.int .i64 k, .int .i64 (p 0), .int .i64 (p 1), .int .i64 (p 2), .int .i64 (p 3), .int .i64 (p 4), .int .i64 (p 5), .int .i64 s, .int .i64 m, .int .i64 u]
/-- the round's invoice in memory -/
structure RSt (w0 wr : World) (g : Nat) (k : Int) (p : Nat → Int) (s m u : Int) (W : World) : Prop where
  e : Below w0.heap.size w0 W
  f : Below wr.heap.size wr W
  k : Blk W g 43 (c10 k p s m u)
  g : wr.heap.size ≤ g ∧ w0.heap.size ≤ g
section
variable {w0 wr : World} {g : Nat} {k : Int} {p : Nat → Int} {s m u : Int} {W : World}
theorem RSt.keep {W' : World} (h : RSt w0 wr g k p s m u W) (b : Below W.heap.size W W') : RSt w0 wr g k p s m u W' := ⟨chain0 h.e b, chain0 h.f b, h.k.below' b, h.g⟩
theorem RSt.cells (h : RSt w0 wr g k p s m u W) : W.cell? ⟨g, 0, none⟩ = some (.int .i64 k) ∧ W.cell? ⟨g, 1, none⟩ = some (.int .i64 (p 0)) ∧ W.cell? ⟨g, 2, none⟩ = some (.int .i64 (p 1)) ∧ W.cell? ⟨g, 3, none⟩ = some (.int .i64 (p 2)) ∧ W.cell? ⟨g, 4, none⟩ = some (.int .i64 (p 3)) ∧ W.cell? ⟨g, 5, none⟩ = some (.int .i64 (p 4)) ∧ W.cell? ⟨g, 6, none⟩ = some (.int .i64 (p 5)) ∧ W.cell? ⟨g, 7, none⟩ = some (.int .i64 s) ∧ W.cell? ⟨g, 8, none⟩ = some (.int .i64 m) ∧ W.cell? ⟨g, 9, none⟩ = some (.int .i64 u) :=
  ⟨h.k.cell 0, h.k.cell 1, h.k.cell 2, h.k.cell 3, h.k.cell 4, h.k.cell 5, h.k.cell 6, h.k.cell 7, h.k.cell 8, h.k.cell 9⟩
theorem RSt.put8 (h : RSt w0 wr g k p s m u W) (m' : Int) : RSt w0 wr g k p s m' u (W.setCell ⟨g, 8, none⟩ (.int .i64 m')) :=
  ⟨((OnlyG.refl g W).put 8 (.int .i64 m')).below h.e h.g.2, ((OnlyG.refl g W).put 8 (.int .i64 m')).below h.f h.g.1, by have := h.k.put 8 (.int .i64 m'); simpa [c10] using this, h.g⟩
theorem RSt.put9 (h : RSt w0 wr g k p s m u W) (u' : Int) : RSt w0 wr g k p s m u' (W.setCell ⟨g, 9, none⟩ (.int .i64 u')) :=
  ⟨((OnlyG.refl g W).put 9 (.int .i64 u')).below h.e h.g.2, ((OnlyG.refl g W).put 9 (.int .i64 u')).below h.f h.g.1, by have := h.k.put 9 (.int .i64 u'); simpa [c10] using this, h.g⟩
end
theorem rinv_info : (Tryz.prog.info? 43).map (fun i => (i.zero, i.size, i.bytes)) = some (some (.agg #[.int .i64 0, .int .i64 0, .int .i64 0, .int .i64 0, .int .i64 0, .int .i64 0, .int .i64 0, .int .i64 0, .int .i64 0, .int .i64 0]), 10, 80) := by kernel_rfl
theorem max_cast (a b : Nat) : max (a : Int) ((b : Int) + 1) = ((max a (b + 1) : Nat) : Int) := by omega
set_option maxHeartbeats 16000000 in
set_option maxRecDepth 100000 in
theorem rinvoices_any (ps : List Prod) (bs : List Bid) (won : List (Nat → Int)) (net : List Frc) (A1 A2 : Option Addr) (c1 c2 : Nat) (v3 v4 vw vn : Value) (w : World) (hs : SaleP w (.slice A1 ps.length c1) (.slice A2 bs.length c2) ps bs) (hw : BunS w vw won) (hn : FrcS w vn net) (hf : FrcOk w net) (hl : ∀ f ∈ net, f.num.length ≤ 1000 ∧ f.den.length ≤ 1000) (hwl : won.length ≤ 100) (hnl : net.length ≤ 100) :
    Calls Tryz.prog 7 #[.agg #[.slice A1 ps.length c1, .slice A2 bs.length c2, v3, v4], vw, vn] w (InvsPost (invsR ps bs won net) w) := by
  obtain ⟨Aw, cw, rfl, _, _, hwr⟩ := sl_parts hw
  obtain ⟨An, cn, rfl, _, _, hnr⟩ := sl_parts hn
  have CC := Lib.hid (fun W (b : Below w.heap.size w W) => rchecks_any ps bs (.slice A1 ps.length c1) (.slice A2 bs.length c2) v3 v4 W (hs.keep b))
  have CR := Lib.hid (fun p (hz : checkE ps = 0) W (b : Below w.heap.size w W) => rres_gen ps (.slice A1 ps.length c1) p W (hs.set.keep b) hz)
  have CSU : Hid (∀ W, Below w.heap.size w W → Calls Tryz.prog 19 #[.slice A1 ps.length c1] W fun e w' => e = .returned (.agg (arr (supP ps))) ∧ Below W.heap.size W w') := fun W b => Cat.rsupply_any ps (.slice A1 ps.length c1) W hs.set.len (hs.set.sl.keep b)
  have HFM := Lib.hid (fun k (hk : k < net.length) => And.intro (hf _ (List.getElem_mem hk)) (hl _ (List.getElem_mem hk)))
  have HWR : Hid (∀ W, Below w.heap.size w W → ∀ k (hk : k < won.length), ∃ b o, Aw = some ⟨b, o, none⟩ ∧ b < w.heap.size ∧ W.cell? ⟨b, o + k * 6, none⟩ = some (.int .i64 (won[k] 0)) ∧ W.cell? ⟨b, o + k * 6 + 1, none⟩ = some (.int .i64 (won[k] 1)) ∧ W.cell? ⟨b, o + k * 6 + 2, none⟩ = some (.int .i64 (won[k] 2)) ∧ W.cell? ⟨b, o + k * 6 + 3, none⟩ = some (.int .i64 (won[k] 3)) ∧ W.cell? ⟨b, o + k * 6 + 4, none⟩ = some (.int .i64 (won[k] 4)) ∧ W.cell? ⟨b, o + k * 6 + 5, none⟩ = some (.int .i64 (won[k] 5))) := fun W bw k hk => by
    obtain ⟨b, o, e, hb, hr⟩ := hwr (by omega)
    exact ⟨b, o, e, hb, bun_at (hr.below hb bw) k hk⟩
  have HNR : Hid (∀ W, Below w.heap.size w W → ∀ k (hk : k < net.length), ∃ b o, An = some ⟨b, o, none⟩ ∧ b < w.heap.size ∧ W.cell? ⟨b, o + k * 3, none⟩ = some (.bool net[k].neg) ∧ W.cell? ⟨b, o + k * 3 + 1, none⟩ = some net[k].v1 ∧ W.cell? ⟨b, o + k * 3 + 2, none⟩ = some net[k].v2) := fun W bw k hk => by
    obtain ⟨b, o, e, hb, hr⟩ := hnr (by omega)
    exact ⟨b, o, e, hb, frc_at (hr.below hb bw) k hk⟩
  have HBR : Hid (∀ W, Below w.heap.size w W → ∀ k (hk : k < bs.length), ∃ b o, A2 = some ⟨b, o, none⟩ ∧ b < w.heap.size ∧ W.cell? ⟨b, o + k * 4 + 2, none⟩ = some (.int .i64 bs[k].budget)) := fun W bw k hk => by
    obtain ⟨A, c, e, _, _, h⟩ := sl_parts hs.sl
    injection e with e1 e2 e3
    subst e1
    obtain ⟨b, o, e4, hlt, hr⟩ := h (by omega)
    exact ⟨b, o, e4, hlt, (BidRow.at_ (hr.below hlt bw) k hk).2.2.1⟩
  have b0 := below_new w (.cells #[.slice A1 ps.length c1, .slice A2 bs.length c2, v3, v4] 27)
  have HAT := Lib.hid (setup_cells w 27 (.slice A1 ps.length c1) (.slice A2 bs.length c2) v3 v4)
  obtain ⟨w0, hw0⟩ : ∃ W, W = w.alloc (.cells #[.slice A1 ps.length c1, .slice A2 bs.length c2, v3, v4] 27) := ⟨_, rfl⟩
  have HW0 := Lib.hid hw0.symm
  rw [← hw0] at HAT b0
  have B0 := Lib.hid b0
  have L0 : Hid (w.heap.size < w0.heap.size) := by show _ < _; rw [hw0, World.size_alloc]; omega
  clear hw0 b0
  obtain ⟨RR, hRR⟩ : ∃ x, x = invsR ps bs won net := ⟨_, rfl⟩
  have HRR := Lib.hid (hRR.trans invsR_chk)
  rw [← hRR]
  clear hRR hs hw hn hf hl hwr hnr
  have HCK := Lib.hid (fun h : chkE ps bs = 0 => And.intro (chkE_zero.1 h).1 (rosE_zero (chkE_zero.1 h).2).2.1)
  by_cases hz : chkE ps bs = 0
  case neg =>
    have HV : Hid (RR = .error (chkE ps bs)) := by show RR = _; rw [HRR.out, if_pos hz]
    have q : (chkE ps bs != 0) = true := by simpa using hz
    clear HRR CR CSU HCK HFM HWR HNR HBR
    generalize chkE ps bs = e0 at *
    go_enter Tryz.func7, Tryz.ntmps7
    go_upto_region 1 with fail
    rw [HW0.out]
    have E0 := Lib.hid (Below.refl w0.heap.size w0)
    have hat := HAT.out w0 E0.out
    have l0 := L0.out
    go_wp2_with fail
    clear hat l0
    refine (CC.out w0 B0.out).mono ?_
    rintro e w1 ⟨rfl, d1⟩
    have E1 := Lib.hid (chain0 E0.out d1)
    have B1 := Lib.hid (chain0 B0.out E1.out)
    have hat := HAT.out w1 E1.out
    have l0 := Nat.lt_of_lt_of_le L0.out E1.out.size
    clear d1
    go_wp2_with fail
    clear hat l0
    go_ret2
    exact invs_err HV.out B1.out
  obtain ⟨hz1, hb8⟩ := HCK.out hz
  rw [hz] at CC
  replace HRR := Lib.hid (HRR.out.trans (if_neg (fun h => h hz)))
  replace CR := Lib.hid (fun p => CR.out p hz1)
  by_cases hw1 : won.length = bs.length
  case neg =>
    have HV : Hid (RR = .error 3) := by show RR = _; rw [HRR.out, if_pos (.inl hw1)]
    have q : ((won.length : Int) != (bs.length : Int)) = true := by simp; omega
    clear HRR CR hw1 HWR HNR HFM HBR hwl hnl CSU HCK
    generalize won.length = nw at *
    generalize bs.length = nb at *
    go_enter Tryz.func7, Tryz.ntmps7
    go_upto_region 1 with fail
    rw [HW0.out]
    have E0 := Lib.hid (Below.refl w0.heap.size w0)
    have hat := HAT.out w0 E0.out
    have l0 := L0.out
    go_wp2_with fail
    clear hat l0
    refine (CC.out w0 B0.out).mono ?_
    rintro e w1 ⟨rfl, d1⟩
    have E1 := Lib.hid (chain0 E0.out d1)
    have B1 := Lib.hid (chain0 B0.out E1.out)
    have hat := HAT.out w1 E1.out
    have l0 := Nat.lt_of_lt_of_le L0.out E1.out.size
    clear d1
    go_wp2_with fail
    clear hat l0
    go_ret2
    exact invs_err HV.out B1.out
  by_cases hn1 : net.length = bs.length
  case neg =>
    have HV : Hid (RR = .error 3) := by show RR = _; rw [HRR.out, if_pos (.inr hn1)]
    have q0 : ((won.length : Int) != (bs.length : Int)) = false := by simp; omega
    have q : ((net.length : Int) != (bs.length : Int)) = true := by simp; omega
    clear HRR CR hw1 hn1 HWR HNR HFM HBR hwl hnl CSU HCK
    generalize won.length = nw at *
    generalize bs.length = nb at *
    generalize net.length = nn at *
    go_enter Tryz.func7, Tryz.ntmps7
    go_upto_region 1 with fail
    rw [HW0.out]
    have E0 := Lib.hid (Below.refl w0.heap.size w0)
    have hat := HAT.out w0 E0.out
    have l0 := L0.out
    go_wp2_with fail
    clear hat l0
    refine (CC.out w0 B0.out).mono ?_
    rintro e w1 ⟨rfl, d1⟩
    have E1 := Lib.hid (chain0 E0.out d1)
    have B1 := Lib.hid (chain0 B0.out E1.out)
    have hat := HAT.out w1 E1.out
    have l0 := Nat.lt_of_lt_of_le L0.out E1.out.size
    clear d1
    go_wp2_with fail
    clear hat l0
    go_ret2
    exact invs_err HV.out B1.out
  replace HRR := Lib.hid (HRR.out.trans (if_neg (fun h => h.elim (fun h => h hw1) (fun h => h hn1))))
  have HWL : Hid (won.length = bs.length ∧ net.length = bs.length ∧ bs.length ≤ 8) := ⟨hw1, hn1, hb8⟩
  have q0 : ((won.length : Int) != (bs.length : Int)) = false := by simp; omega
  have q1 : ((net.length : Int) != (bs.length : Int)) = false := by simp; omega
  obtain ⟨j0, hj0, hy0, hy1, hy2⟩ := info_parts rinv_info
  have HER := Lib.hid (fun k e (h : invsGo ps bs won net k = .error e) (hk : k ≤ bs.length) => (HRR.out.trans (invsGo_err h bs.length hk)))
  have HST := Lib.hid (fun k L (h : invsGo ps bs won net k = .ok L) => invsGo_step h)
  have HLE := Lib.hid (fun k L (h : invsGo ps bs won net k = .ok L) => invsGo_len h)
  have HGA : Hid (∀ k (h1 : k < bs.length) (h2 : k < won.length) (h3 : k < net.length), invAt ps bs won net k = invR ps bs[k].budget k won[k] net[k]) := fun k h1 h2 h3 => by
    unfold invAt
    simp [List.getD, h1, h2, h3]
  have HGW : Hid (∀ k (h2 : k < won.length), won.getD k zero6 = won[k]) := fun k h2 => by simp [List.getD, h2]
  clear hz hw1 hn1 hb8 hz1 HCK
  go_enter Tryz.func7, Tryz.ntmps7
  go_upto_region 1 with fail
  rw [HW0.out]
  have E0 := Lib.hid (Below.refl w0.heap.size w0)
  have hat := HAT.out w0 E0.out
  have l0 := L0.out
  go_wp2_with fail
  clear hat l0
  refine (CC.out w0 B0.out).mono ?_
  rintro e w1 ⟨rfl, d1⟩
  have E1 := Lib.hid (chain0 E0.out d1)
  have B1 := Lib.hid (chain0 B0.out E1.out)
  have hat := HAT.out w1 E1.out
  have l0 := Nat.lt_of_lt_of_le L0.out E1.out.size
  clear d1
  go_wp2_with fail
  clear hat l0
  clear CC
  go_loopw [10, 9] (fun iv ov wr => ∃ (k : Nat) (L : List Inv) (A : Option Addr) (c : Nat), k ≤ won.length ∧ iv = .int .i64 (k : Int) ∧ ov = .slice A L.length c ∧ Hid (invsGo ps bs won net k = .ok L) ∧ Hid (wr.ownsRow w0.heap.size 43 10 (.slice A L.length c) L.length (L.flatMap Inv.cells)) ∧ Hid (Below w0.heap.size w0 wr)) (fun iv _ _ => won.length - (intOf iv).toNat)
  case atStart => exact ⟨0, [], none, 0, Nat.zero_le _, rfl, rfl, rfl, World.ownsRow_nil _ _ _ _, E1.out⟩
  case round =>
    obtain ⟨k, L, A, c, hk, rfl, rfl, HGO, HO, HE⟩ := hrel
    obtain ⟨wo, hwo⟩ : ∃ z, z = wr := ⟨_, rfl⟩
    subst hwo
    have hk0 : (0 : Int) ≤ (k : Int) := by omega
    have hk5 : (k : Int) ≤ 8 := by have := HWL.out; omega
    have HB := Lib.hid (chain0 B0.out HE.out)
    by_cases hkw : k < won.length
    case neg =>
      obtain rfl : k = won.length := by omega
      have hd2 : decide ((won.length : Int) < (won.length : Int)) = false := decide_eq_false (Int.lt_irrefl _)
      have HV : Hid (RR = .ok L) := by show RR = _; rw [HRR.out, ← HWL.out.1]; exact HGO.out
      go_wp2_with fail
      go_ret2
      refine ⟨_, by rw [HV.out]; rfl, ?_, HB.out⟩
      rw [HV.out]
      exact Sl.of_own HO.out
    have hd2 : decide ((k : Int) < (won.length : Int)) = true := decide_eq_true (by omega)
    have hkn : k < bs.length := by have := HWL.out; omega
    have hkf : k < net.length := by have := HWL.out; omega
    have hkw1 : (k : Int) < (won.length : Int) := by omega
    have hkf1 : (k : Int) < (net.length : Int) := by omega
    have hkb1 : (k : Int) < (bs.length : Int) := by omega
    obtain ⟨bw, ow, eW, hbw, _⟩ := HWR.out _ HB.out k hkw
    obtain ⟨bn, on, eN, hbn, _⟩ := HNR.out _ HB.out k hkf
    obtain ⟨bb, ob, eB, hbb, _⟩ := HBR.out _ HB.out k hkn
    subst eW eN eB
    have HAW : Hid (∀ W, Below w.heap.size w W → W.cell? ⟨bw, ow + k * 6, none⟩ = some (.int .i64 (won[k] 0)) ∧ W.cell? ⟨bw, ow + k * 6 + 1, none⟩ = some (.int .i64 (won[k] 1)) ∧ W.cell? ⟨bw, ow + k * 6 + 2, none⟩ = some (.int .i64 (won[k] 2)) ∧ W.cell? ⟨bw, ow + k * 6 + 3, none⟩ = some (.int .i64 (won[k] 3)) ∧ W.cell? ⟨bw, ow + k * 6 + 4, none⟩ = some (.int .i64 (won[k] 4)) ∧ W.cell? ⟨bw, ow + k * 6 + 5, none⟩ = some (.int .i64 (won[k] 5))) := fun W bww => by
      obtain ⟨b', o', e, _, h⟩ := HWR.out W bww k hkw
      injection e with e; injection e with e1 e2 e3
      subst e1 e2; exact h
    have HAN : Hid (∀ W, Below w.heap.size w W → W.cell? ⟨bn, on + k * 3, none⟩ = some (.bool net[k].neg) ∧ W.cell? ⟨bn, on + k * 3 + 1, none⟩ = some net[k].v1 ∧ W.cell? ⟨bn, on + k * 3 + 2, none⟩ = some net[k].v2) := fun W bww => by
      obtain ⟨b', o', e, _, h⟩ := HNR.out W bww k hkf
      injection e with e; injection e with e1 e2 e3
      subst e1 e2; exact h
    have HAB : Hid (∀ W, Below w.heap.size w W → W.cell? ⟨bb, ob + k * 4 + 2, none⟩ = some (.int .i64 bs[k].budget)) := fun W bww => by
      obtain ⟨b', o', e, _, h⟩ := HBR.out W bww k hkn
      injection e with e; injection e with e1 e2 e3
      subst e1 e2; exact h
    obtain ⟨⟨fn1, fn2, fd1, fd2⟩, fl1, fl2⟩ := HFM.out k hkf
    obtain ⟨A3, c3, ev1, _⟩ := ns_cases fn1
    obtain ⟨A4, c4, ev2, _⟩ := ns_cases fn2
    have hst := HST.out k L HGO.out
    rw [HGA.out k hkn hkw hkf, HGW.out k hkw] at hst
    have hll := HLE.out k L HGO.out
    have HEK := HER.out (k + 1)
    have HEQ := Lib.hid (fun W => eq27 won[k] zero6 W)
    generalize won[k] = wk at *
    generalize hnk : net[k] = f at *
    generalize bs[k].budget = bd at *
    clear hnk
    obtain ⟨neg, fv1, fv2, l1, l2⟩ := f
    dsimp only at ev1 ev2 HAN hst fn1 fn2 fd1 fd2 fl1 fl2
    subst ev1 ev2
    have NS1 := Lib.hid (fun W (b : Below w.heap.size w W) => fn1.keep b)
    have NS2 := Lib.hid (fun W (b : Below w.heap.size w W) => fn2.keep b)
    have CVL := Lib.hid (fun W (b : Below w.heap.size w W) => rfvalid_any neg A3 A4 c3 c4 l1 l2 W fl1 fl2 fd1 fd2 (fn1.keep b) (fn2.keep b))
    obtain ⟨RK, hRK⟩ : ∃ x, x = invR ps bd k wk ⟨neg, .slice A3 l1.length c3, .slice A4 l2.length c4, l1, l2⟩ := ⟨_, rfl⟩
    rw [← hRK] at hst
    have HERR : Hid (∀ c, RK = .error c → RR = .error c) := fun c h => HEK c (by rw [hst, h]) (by omega)
    have HOK : Hid (∀ x, RK = .ok x → invsGo ps bs won net (k + 1) = .ok (if eq6 wk zero6 = true then L else L ++ [x])) := fun x h => by rw [hst, h]
    have HRK := Lib.hid hRK
    obtain ⟨zb, hzb⟩ : ∃ z, z = eq6 wk zero6 := ⟨_, rfl⟩
    rw [← hzb] at HEQ HOK
    have HZB := Lib.hid hzb
    unfold arr zero6 at HEQ
    have CRk := Lib.hid (CR.out wk)
    have CKc := Lib.hid (fun W => r7check_any wk W)
    have CWi := Lib.hid (fun W => r7within_any wk (supP ps) W)
    unfold arr at CRk CKc CWi
    have CSUk := CSU
    unfold arr at CSUk
    have HKL : Hid (L.length ≤ k ∧ k ≤ 8) := ⟨hll, by have := HWL.out; omega⟩
    have HBL := Lib.hid (show bw < w.heap.size ∧ bn < w.heap.size ∧ bb < w.heap.size from ⟨hbw, hbn, hbb⟩)
    have HFL := Lib.hid (And.intro fl1 fl2)
    clear hst hRK hzb hll HEK fn1 fn2 fd1 fd2 fl1 fl2 hbw hbn hbb
    -- region 10
    have hat := HAT.out wo HE.out
    have haw := HAW.out wo HB.out
    have l0 := Nat.lt_of_lt_of_le L0.out HE.out.size
    have lbw := Nat.lt_of_lt_of_le HBL.out.1 HB.out.size
    go_upto_region 10 with fail
    go_cut [11] from 39 to 164 (fun s wx => ∃ (gx : Nat) (sr : Int), s = .pointer (some ⟨gx, 0, none⟩) ∧ Hid (validB wk = true → sr = sumE Prod.reserve wk ps) ∧ Hid (RSt w0 wo gx (k : Int) wk sr 0 0 wx))
    case first =>
      have ED := Lib.hid HE.out.drew
      have FD := Lib.hid ((Below.refl wo.heap.size wo).drew)
      have EA := Lib.hid (HE.out.alloc HE.out.size (.cells zero10 43)).drew
      have FA := Lib.hid (below_new wo (.cells zero10 43)).drew
      have KA := Lib.hid (Blk.new wo 43 zero10).drew
      clear hat haw
      go_region_held3 (fun w' => (w'.cell? ⟨w.heap.size, 0, none⟩ = some (.slice A1 ps.length c1) ∧ w'.cell? ⟨w.heap.size, 1, none⟩ = some (.slice (some ⟨bb, ob, none⟩) bs.length c2) ∧ w'.cell? ⟨w.heap.size, 2, none⟩ = some v3 ∧ w'.cell? ⟨w.heap.size, 3, none⟩ = some v4) ∧ (w'.cell? ⟨bw, ow + k * 6, none⟩ = some (.int .i64 (wk 0)) ∧ w'.cell? ⟨bw, ow + k * 6 + 1, none⟩ = some (.int .i64 (wk 1)) ∧ w'.cell? ⟨bw, ow + k * 6 + 2, none⟩ = some (.int .i64 (wk 2)) ∧ w'.cell? ⟨bw, ow + k * 6 + 3, none⟩ = some (.int .i64 (wk 3)) ∧ w'.cell? ⟨bw, ow + k * 6 + 4, none⟩ = some (.int .i64 (wk 4)) ∧ w'.cell? ⟨bw, ow + k * 6 + 5, none⟩ = some (.int .i64 (wk 5)))) (first | with_reducible exact ⟨HAT.out _ ED.out, HAW.out _ (chain0 B0.out ED.out)⟩ | with_reducible exact ⟨HAT.out _ EA.out, HAW.out _ (chain0 B0.out EA.out)⟩ | with_reducible exact ⟨HAT.out _ (ED.out.alloc ED.out.size _), HAW.out _ (chain0 B0.out (ED.out.alloc ED.out.size _))⟩ | with_reducible exact ⟨HAT.out _ (below10 ED.out HE.out.size _ _ _ _ _ _ _ _ _ _), HAW.out _ (chain0 B0.out (below10 ED.out HE.out.size _ _ _ _ _ _ _ _ _ _))⟩ | go_keep) (first
        | (go_at_call 16; with_reducible refine (CRk.out wo.drew (chain0 B0.out ED.out)).mono ?_; rintro e w9 ⟨sr, rfl, hsr, dd⟩; have HSR := Lib.hid hsr; replace ED := Lib.hid (chain0 ED.out dd); replace FD := Lib.hid (chain0 FD.out dd); clear dd hsr)
        | (go_at_call 16; with_reducible refine (CRk.out (wo.alloc (.cells zero10 43)).drew (chain0 B0.out EA.out)).mono ?_; rintro e w9 ⟨sr, rfl, hsr, dd⟩; have HSR := Lib.hid hsr; replace ED := Lib.hid (chain0 EA.out dd); replace FD := Lib.hid (chain0 FA.out dd); have KZ := Lib.hid (KA.out.below' dd); have zc := zero_cells KZ.out; have zf := KZ.out.free; have zl := KZ.out.lt; clear dd hsr)
        )
      · go_wp2_with fail
        go_meet
        exact ⟨_, sr, rfl, HSR.out, ED.out.alloc ED.out.size _, FD.out.alloc FD.out.size _, Blk.new _ _ _, FD.out.size, ED.out.size⟩
      · go_wp2_with fail
        go_meet
        exact ⟨_, sr, rfl, HSR.out, below10 ED.out HE.out.size _ _ _ _ _ _ _ _ _ _, below10 FD.out (Nat.le_refl _) _ _ _ _ _ _ _ _ _ _, put10 KZ.out _ _ _ _ _ _ _ _ _ _, Nat.le_refl _, HE.out.size⟩
    case rest =>
    obtain ⟨gx, sr, rfl, HSR, HS⟩ := hcut
    clear hat haw l0 lbw
    -- region 11
    have BX := Lib.hid (chain0 B0.out HS.out.e)
    have l0 := Nat.lt_of_lt_of_le L0.out HS.out.e.size
    have lbw := Nat.lt_of_lt_of_le HBL.out.1 BX.out.size
    have lbn := Nat.lt_of_lt_of_le HBL.out.2.1 BX.out.size
    have lbb := Nat.lt_of_lt_of_le HBL.out.2.2 BX.out.size
    have lgx := HS.out.k.lt
    have hat := HAT.out wc HS.out.e
    have haw := HAW.out wc BX.out
    have FK := Lib.hid (fun y => CKc.out (later wc y))
    have FW := Lib.hid (fun y => CWi.out (later wc y))
    have FS := Lib.hid (fun y => CSUk.out (later wc y) (chain0 BX.out (later_below wc y)))
    go_upto_region 11 with fail
    cases hvb : validB wk with
    | false =>
      have e4 : valE wk = 4 := if_neg (by rw [hvb]; decide)
      have HV : Hid (RR = .error 4) := HERR.out 4 (HRK.out.trans (invR_e1 (fun h => by rw [hvb] at h; exact absurd h.1 (by decide))))
      have q4 : ((4 : Int) != 0) = true := rfl
      rw [e4] at FK
      clear e4
      refine wp_region_later (by kernel_rfl) (by kernel_rfl) ?_
      repeat (first | go_big_quiet_step (first | (go_at_call 17; exact calls_later (FK.out _)) | (go_at_call 18; exact calls_later (FW.out _)) | (go_at_call 19; exact calls_later (FS.out _))) | quiet_step (first | (go_at_call 17; exact calls_later (FK.out _)) | (go_at_call 18; exact calls_later (FW.out _)) | (go_at_call 19; exact calls_later (FS.out _))))
      refine wpQuiet_nil ?_
      rintro _ ⟨y, rfl⟩
      have HS2 := Lib.hid (HS.out.keep (later_below wc y))
      go_wp2_with fail
      go_ret2
      exact invs_err HV.out (chain0 B0.out HS2.out.e)
    | true =>
    have e4 : valE wk = 0 := if_pos hvb
    have q4 : ((0 : Int) != 0) = false := rfl
    rw [e4] at FK
    replace HSR := Lib.hid (HSR.out hvb)
    clear e4
    cases hwi : within6 wk (supP ps) with
    | false =>
      have HV : Hid (RR = .error 4) := HERR.out 4 (HRK.out.trans (invR_e1 (fun h => by rw [hwi] at h; exact absurd h.2 (by decide))))
      rw [hwi] at FW
      clear hwi hvb
      refine wp_region_later (by kernel_rfl) (by kernel_rfl) ?_
      repeat (first | go_big_quiet_step (first | (go_at_call 17; exact calls_later (FK.out _)) | (go_at_call 18; exact calls_later (FW.out _)) | (go_at_call 19; exact calls_later (FS.out _))) | quiet_step (first | (go_at_call 17; exact calls_later (FK.out _)) | (go_at_call 18; exact calls_later (FW.out _)) | (go_at_call 19; exact calls_later (FS.out _))))
      refine wpQuiet_nil ?_
      rintro _ ⟨y, rfl⟩
      have HS2 := Lib.hid (HS.out.keep (later_below wc y))
      go_wp2_with fail
      go_ret2
      exact invs_err HV.out (chain0 B0.out HS2.out.e)
    | true =>
    rw [hwi] at FW
    have H1 : Hid (validB wk = true ∧ within6 wk (supP ps) = true) := ⟨hvb, hwi⟩
    clear hwi hvb
    refine wp_region_later (by kernel_rfl) (by kernel_rfl) ?_
    repeat (first | go_big_quiet_step (first | (go_at_call 17; exact calls_later (FK.out _)) | (go_at_call 18; exact calls_later (FW.out _)) | (go_at_call 19; exact calls_later (FS.out _))) | quiet_step (first | (go_at_call 17; exact calls_later (FK.out _)) | (go_at_call 18; exact calls_later (FW.out _)) | (go_at_call 19; exact calls_later (FS.out _))))
    refine wpQuiet_nil ?_
    rintro _ ⟨y, rfl⟩
    clear BX l0 lbw lbn lbb lgx hat haw
    clear FK FW FS
    have HS2 := Lib.hid (HS.out.keep (later_below wc y))
    clear HS
    generalize later wc y = wd at *
    obtain rfl := HSR.out
    clear HSR
    -- region 13
    have BX := Lib.hid (chain0 B0.out HS2.out.e)
    have l0 := Nat.lt_of_lt_of_le L0.out HS2.out.e.size
    have lbw := Nat.lt_of_lt_of_le HBL.out.1 BX.out.size
    have lbn := Nat.lt_of_lt_of_le HBL.out.2.1 BX.out.size
    have lbb := Nat.lt_of_lt_of_le HBL.out.2.2 BX.out.size
    have lgx := HS2.out.k.lt
    have han := HAN.out wd BX.out
    go_wp2_with fail
    refine (CVL.out wd BX.out).mono ?_
    rintro e we ⟨rfl, dd⟩
    have HS := Lib.hid (HS2.out.keep dd)
    clear BX l0 lbw lbn lbb lgx han dd HS2
    cases hvf : validF neg l1 l2 with
    | false =>
      have HV : Hid (RR = .error 2) := HERR.out 2 (HRK.out.trans (invR_e2 H1.out hvf))
      clear hvf
      go_wp2_with fail
      go_ret2
      exact invs_err HV.out (chain0 B0.out HS.out.e)
    | true =>
    obtain ⟨en1, en2, hd0⟩ := validF_den hvf
    have H2 := Lib.hid hvf
    clear hvf CVL
    obtain ⟨n, hn⟩ : ∃ n, n = nat l1 := ⟨_, rfl⟩
    obtain ⟨d, hd⟩ : ∃ d, d = nat l2 := ⟨_, rfl⟩
    rw [← hn] at en1
    rw [← hd] at en2 hd0
    have HN := Lib.hid hn
    have HD := Lib.hid hd
    have HD0 := Lib.hid hd0
    clear hn hd hd0
    subst en1 en2
    obtain ⟨up, hup⟩ : ∃ u, u = ceilN n d := ⟨_, rfl⟩
    have HUP := Lib.hid hup
    have HUF : Hid (upN ⟨neg, .slice A3 (digs n).length c3, .slice A4 (digs d).length c4, digs n, digs d⟩ = up) := by show ceilN (nat (digs n)) (nat (digs d)) = up; rw [nat_digs, nat_digs, hup]
    clear hup
    have CM := Lib.hid (fun W => (int_pos 1000000 W (by omega) : Calls _ _ _ _ _))
    obtain ⟨mil, hmil⟩ : ∃ m : Nat, m = 1000000 := ⟨_, rfl⟩
    obtain ⟨one, hone⟩ : ∃ m : Nat, m = 1 := ⟨_, rfl⟩
    have CMI : Hid (∀ W, Calls Tryz.prog 22 #[.int .i64 1000000] W (PosPost mil one W)) := fun W => by rw [hmil, hone]; exact int_pos 1000000 W (by omega)
    have CCM : Hid (∀ (A7 A8 : Option Addr) (c7 c8 : Nat) W, Below w.heap.size w W → NS W (.slice A7 (digs mil).length c7) (digs mil) → NS W (.slice A8 (digs one).length c8) (digs one) → Calls Tryz.prog 21 #[.agg #[.bool false, .slice A3 (digs n).length c3, .slice A4 (digs d).length c4], .agg #[.bool false, .slice A7 (digs mil).length c7, .slice A8 (digs one).length c8]] W (CmpP (n * 1) (mil * d) W)) := fun A7 A8 c7 c8 W b h7 h8 => by rw [hone] at h8 ⊢; exact rcmp_pos A3 A4 A7 A8 c3 c4 c7 c8 n d mil 1 W HFL.out.1 HFL.out.2 (by have := digs_small (m := mil) (by omega); omega) (by decide) HD0.out (by decide) (NS1.out W b) (NS2.out W b) h7 h8
    have HMI : Hid (mil * d < n * 1 ↔ 1000000 < up) := by show _ ↔ _; rw [Nat.mul_one, ceil_above HD0.out, hmil, HUP.out]
    have HONE := Lib.hid hone
    have CSG := Lib.hid (fun W => rsign_any false A3 c3 (digs n).length (.slice A4 (digs d).length c4) W)
    have HSG : Hid (∀ s : Int, s = signI false (digs n).length → ((s != 0) = true ↔ n ≠ 0)) := fun s hs => by
      have := sign_is (n := n)
      rw [← hs] at this
      simp only [bne_iff_ne, ne_eq]
      constructor
      · intro h; exact this.1.1 (by omega)
      · intro h; have := this.1.2 h; omega
    obtain ⟨sg, hsg⟩ : ∃ s : Int, s = signI false (digs n).length := ⟨_, rfl⟩
    rw [← hsg] at CSG
    replace HSG := Lib.hid (HSG.out sg hsg)
    obtain ⟨BAD, hBAD⟩ : ∃ b : Bool, b = decide (¬ (neg = false ∧ up ≤ 1000000 ∧ (zb = true → n = 0))) := ⟨_, rfl⟩
    have HBAD := Lib.hid hBAD
    clear hmil hone hsg hBAD CM
    -- region 15
    have BX := Lib.hid (chain0 B0.out HS.out.e)
    have l0 := Nat.lt_of_lt_of_le L0.out HS.out.e.size
    have lbw := Nat.lt_of_lt_of_le HBL.out.1 BX.out.size
    have lbn := Nat.lt_of_lt_of_le HBL.out.2.1 BX.out.size
    have lbb := Nat.lt_of_lt_of_le HBL.out.2.2 BX.out.size
    have lgx := HS.out.k.lt
    have haw := HAW.out we BX.out
    have han := HAN.out we BX.out
    go_upto_region 15 with fail
    go_cut [104] from 75 to 164 (fun c wx => c = .bool BAD ∧ Hid (RSt w0 wo gx (k : Int) wk (sumE Prod.reserve wk ps) 0 0 wx))
    case first =>
      have eq := HEQ.out
      cases neg with
      | true =>
        have HB1 : Hid (BAD = true) := by show BAD = true; rw [HBAD.out]; simp
        clear HBAD
        refine wp_region_later (by kernel_rfl) (by kernel_rfl) ?_
        repeat (first | go_big_quiet_step (fail) | quiet_step (fail))
        refine wpQuiet_nil ?_
        rintro _ ⟨y, rfl⟩
        go_wp2_with fail
        go_meet
        exact ⟨by rw [HB1.out], HS.out.keep (later_below _ _)⟩
      | false =>
        have SD := Lib.hid (HS.out.keep (Below.refl _ _).drew)
        clear haw han
        by_cases hu : 1000000 < up
        case pos =>
          have HB1 : Hid (BAD = true) := by show BAD = true; rw [HBAD.out]; simp; omega
          have HM1 := Lib.hid (HMI.out.2 hu)
          clear HBAD hu
          refine wp_region_held_drew (S := (fun w' => w'.cell? ⟨bn, on + k * 3, none⟩ = some (.bool false) ∧ w'.cell? ⟨bn, on + k * 3 + 1, none⟩ = some (.slice A3 (digs n).length c3) ∧ w'.cell? ⟨bn, on + k * 3 + 2, none⟩ = some (.slice A4 (digs d).length c4))) (by kernel_rfl) ?_ (fun hHeld => ?_)
          · (try dsimp only)
            with_reducible exact HAN.out _ (chain0 B0.out SD.out.e)
          refine wpAnyH_take (i := 0) (oi := ({ dst := some 75, op := Op.move (Operand.tmp 2), type := 29, pos := "ref.go:55", after := #[], guard := none } : Oper)) (v := ?v0) rfl (by kernel_rfl) (by kernel_rfl) (by kernel_rfl) (fun _ _ _ h => h) (Or.inl ⟨by rfl, ?h0⟩) (by assumption) ?r0
          case h0 =>
            intro w hSw
            (try dsimp only at hSw)
            go_simp
            try with_reducible rfl
          (try simp only [Act.put, List.setIfInBounds_toArray, List.set_cons_zero, List.set_cons_succ])
          refine wpAnyH_take (i := 1) (oi := ({ dst := some 76, op := Op.move (Operand.tmp 10), type := 3, pos := "ref.go:55", after := #[], guard := none } : Oper)) (v := ?v1) rfl (by kernel_rfl) (by kernel_rfl) (by kernel_rfl) (fun _ _ _ h => h) (Or.inl ⟨by rfl, ?h1⟩) (by assumption) ?r1
          case h1 =>
            intro w hSw
            (try dsimp only at hSw)
            go_simp
            try with_reducible rfl
          (try simp only [Act.put, List.setIfInBounds_toArray, List.set_cons_zero, List.set_cons_succ])
          refine wpAnyH_take (i := 2) (oi := ({ dst := some 77, op := Op.indexAddr 29 (Operand.tmp 75) (Operand.tmp 76), type := 0, pos := "ref.go:55", after := #[{ on := 0, ground := Ground.data }, { on := 1, ground := Ground.data }], guard := none } : Oper)) (v := ?v2) rfl (by kernel_rfl) (by kernel_rfl) (by kernel_rfl) (fun _ _ _ h => h) (Or.inl ⟨by rfl, ?h2⟩) (by assumption) ?r2
          case h2 =>
            intro w hSw
            (try dsimp only at hSw)
            go_simp
            try with_reducible rfl
          (try simp only [Act.put, List.setIfInBounds_toArray, List.set_cons_zero, List.set_cons_succ])
          refine wpAnyH_take (i := 3) (oi := ({ dst := some 78, op := Op.fieldAddr 47 (Operand.tmp 77) 0, type := 0, pos := "ref.go:55", after := #[{ on := 2, ground := Ground.data }], guard := none } : Oper)) (v := ?v3) rfl (by kernel_rfl) (by kernel_rfl) (by kernel_rfl) (fun _ _ _ h => h) (Or.inl ⟨by rfl, ?h3⟩) (by assumption) ?r3
          case h3 =>
            intro w hSw
            (try dsimp only at hSw)
            go_simp
            try with_reducible rfl
          (try simp only [Act.put, List.setIfInBounds_toArray, List.set_cons_zero, List.set_cons_succ])
          refine wpAnyH_take (i := 4) (oi := ({ dst := some 79, op := Op.load 4 (Operand.tmp 78), type := 4, pos := "ref.go:55", after := #[{ on := 3, ground := Ground.data }], guard := none } : Oper)) (v := ?v4) rfl (by kernel_rfl) (by kernel_rfl) (by kernel_rfl) (fun _ _ _ h => h) (Or.inl ⟨by rfl, ?h4⟩) (by assumption) ?r4
          case h4 =>
            intro w hSw
            (try dsimp only at hSw)
            go_simp
            try with_reducible rfl
          (try simp only [Act.put, List.setIfInBounds_toArray, List.set_cons_zero, List.set_cons_succ])
          refine wpAnyH_take (i := 5) (oi := ({ dst := some 80, op := Op.move (Operand.tmp 79), type := 4, pos := "ref.go:55", after := #[{ on := 4, ground := Ground.data }], guard := none } : Oper)) (v := ?v5) rfl (by kernel_rfl) (by kernel_rfl) (by kernel_rfl) (fun _ _ _ h => h) (Or.inl ⟨by rfl, ?h5⟩) (by assumption) ?r5
          case h5 =>
            intro w hSw
            (try dsimp only at hSw)
            go_simp
            try with_reducible rfl
          (try simp only [Act.put, List.setIfInBounds_toArray, List.set_cons_zero, List.set_cons_succ])
          refine wpAnyH_take (i := 6) (oi := ({ dst := some 81, op := Op.move (Operand.tmp 2), type := 29, pos := "ref.go:55", after := #[{ on := 5, ground := Ground.guard }], guard := some (5, false) } : Oper)) (v := ?v6) rfl (by kernel_rfl) (by kernel_rfl) (by kernel_rfl) (fun _ _ _ h => h) (Or.inl ⟨by rfl, ?h6⟩) (by assumption) ?r6
          case h6 =>
            intro w hSw
            (try dsimp only at hSw)
            go_simp
            try with_reducible rfl
          (try simp only [Act.put, List.setIfInBounds_toArray, List.set_cons_zero, List.set_cons_succ])
          refine wpAnyH_take (i := 7) (oi := ({ dst := some 82, op := Op.move (Operand.tmp 10), type := 3, pos := "ref.go:55", after := #[{ on := 5, ground := Ground.guard }], guard := some (5, false) } : Oper)) (v := ?v7) rfl (by kernel_rfl) (by kernel_rfl) (by kernel_rfl) (fun _ _ _ h => h) (Or.inl ⟨by rfl, ?h7⟩) (by assumption) ?r7
          case h7 =>
            intro w hSw
            (try dsimp only at hSw)
            go_simp
            try with_reducible rfl
          (try simp only [Act.put, List.setIfInBounds_toArray, List.set_cons_zero, List.set_cons_succ])
          refine wpAnyH_take (i := 8) (oi := ({ dst := some 83, op := Op.indexAddr 29 (Operand.tmp 81) (Operand.tmp 82), type := 0, pos := "ref.go:55", after := #[{ on := 6, ground := Ground.data }, { on := 7, ground := Ground.data }, { on := 5, ground := Ground.guard }], guard := some (5, false) } : Oper)) (v := ?v8) rfl (by kernel_rfl) (by kernel_rfl) (by kernel_rfl) (fun _ _ _ h => h) (Or.inl ⟨by rfl, ?h8⟩) (by assumption) ?r8
          case h8 =>
            intro w hSw
            (try dsimp only at hSw)
            go_simp
            try with_reducible rfl
          (try simp only [Act.put, List.setIfInBounds_toArray, List.set_cons_zero, List.set_cons_succ])
          refine wpAnyH_take (i := 9) (oi := ({ dst := some 84, op := Op.load 47 (Operand.tmp 83), type := 47, pos := "ref.go:55", after := #[{ on := 8, ground := Ground.data }, { on := 5, ground := Ground.guard }], guard := some (5, false) } : Oper)) (v := ?v9) rfl (by kernel_rfl) (by kernel_rfl) (by kernel_rfl) (fun _ _ _ h => h) (Or.inl ⟨by rfl, ?h9⟩) (by assumption) ?r9
          case h9 =>
            intro w hSw
            (try dsimp only at hSw)
            go_simp
            try with_reducible rfl
          (try simp only [Act.put, List.setIfInBounds_toArray, List.set_cons_zero, List.set_cons_succ])
          refine wpAnyH_ready (rs := [10]) (by kernel_rfl) (by simp) ?_
          refine AllReadyH.cons (o := ({ dst := some 85, op := Op.call { callee := Callee.value (Operand.func 22), args := #[Operand.const (Value.int IntKind.i64 1000000)], argTypes := #[2] }, type := 47, pos := "ref.go:55", after := #[{ on := 5, ground := Ground.chain }, { on := 5, ground := Ground.guard }], guard := some (5, false) } : Oper)) rfl (fun KK hKK => ?_) AllReadyH.nil
          first | (go_at_call 22) | (go_simp; go_at_call 22) | (rw [if_pos (by rfl)]; go_at_call 22) | go_simp
          with_reducible refine (CMI.out _).mono ?_
          rintro e w9 ⟨A7, c7, A8, c8, rfl, i7, i8, dd⟩
          have I7 := Lib.hid i7
          have I8 := Lib.hid i8
          replace SD := Lib.hid (SD.out.keep dd)
          clear dd i7 i8
          refine hKK.out _ _ ?_ (fun hHeld2 => ?_)
          · (try dsimp only)
            with_reducible exact HAN.out _ (chain0 B0.out SD.out.e)
          clear hKK KK hHeld
          have hHeld := hHeld2
          clear hHeld2
          (try simp only [Act.put, List.setIfInBounds_toArray, List.set_cons_zero, List.set_cons_succ])
          refine wpAnyH_ready (rs := [11]) (by kernel_rfl) (by simp) ?_
          refine AllReadyH.cons (o := ({ dst := some 86, op := Op.call { callee := Callee.value (Operand.func 21), args := #[Operand.tmp 84, Operand.tmp 85], argTypes := #[47, 47] }, type := 3, pos := "ref.go:55", after := #[{ on := 9, ground := Ground.data }, { on := 10, ground := Ground.data }, { on := 10, ground := Ground.chain }, { on := 5, ground := Ground.guard }], guard := some (5, false) } : Oper)) rfl (fun KK hKK => ?_) AllReadyH.nil
          first | (go_at_call 21) | (go_simp; go_at_call 21) | (rw [if_pos (by rfl)]; go_at_call 21) | go_simp
          with_reducible refine (CCM.out _ _ _ _ _ (chain0 B0.out SD.out.e) I7.out I8.out).mono ?_
          rintro e w9 ⟨s, rfl, hs1, hs2, dd⟩
          have sd : decide (0 < s) = true := decide_eq_true (hs1.2 HM1.out)
          replace SD := Lib.hid (SD.out.keep dd)
          clear dd hs1 hs2
          refine hKK.out _ _ ?_ (fun hHeld2 => ?_)
          · (try dsimp only)
            with_reducible exact HAN.out _ (chain0 B0.out SD.out.e)
          clear hKK KK hHeld
          have hHeld := hHeld2
          clear hHeld2
          (try simp only [Act.put, List.setIfInBounds_toArray, List.set_cons_zero, List.set_cons_succ])
          refine wpAnyH_take (i := 12) (oi := ({ dst := some 87, op := Op.binOp BinOp.gtr 3 (Operand.tmp 86) (Operand.const (Value.int IntKind.i64 0)) 3, type := 4, pos := "ref.go:55", after := #[{ on := 11, ground := Ground.data }, { on := 5, ground := Ground.guard }], guard := some (5, false) } : Oper)) (v := ?v12) rfl (by kernel_rfl) (by kernel_rfl) (by kernel_rfl) (fun _ _ _ h => h) (Or.inl ⟨by rfl, ?h12⟩) (by assumption) ?r12
          case h12 =>
            intro w hSw
            (try dsimp only at hSw)
            go_simp
            try with_reducible rfl
          (try simp only [Act.put, List.setIfInBounds_toArray, List.set_cons_zero, List.set_cons_succ])
          refine wpAnyH_take (i := 13) (oi := ({ dst := some 88, op := Op.pick (Operand.tmp 80) (Operand.const (Value.bool true)) (Operand.tmp 87), type := 4, pos := "ref.go:55", after := #[{ on := 5, ground := Ground.data }, { on := 12, ground := Ground.data }], guard := none } : Oper)) (v := ?v13) rfl (by kernel_rfl) (by kernel_rfl) (by kernel_rfl) (fun _ _ _ h => h) (Or.inl ⟨by rfl, ?h13⟩) (by assumption) ?r13
          case h13 =>
            intro w hSw
            (try dsimp only at hSw)
            go_simp
            try with_reducible rfl
          (try simp only [Act.put, List.setIfInBounds_toArray, List.set_cons_zero, List.set_cons_succ])
          refine wpAnyH_take (i := 14) (oi := ({ dst := some 89, op := Op.move (Operand.tmp 88), type := 4, pos := "ref.go:55", after := #[{ on := 13, ground := Ground.data }, { on := 11, ground := Ground.chain }], guard := none } : Oper)) (v := ?v14) rfl (by kernel_rfl) (by kernel_rfl) (by kernel_rfl) (fun _ _ _ h => h) (Or.inl ⟨by rfl, ?h14⟩) (by assumption) ?r14
          case h14 =>
            intro w hSw
            (try dsimp only at hSw)
            go_simp
            try with_reducible rfl
          (try simp only [Act.put, List.setIfInBounds_toArray, List.set_cons_zero, List.set_cons_succ])
          refine wpAnyH_take (i := 15) (oi := ({ dst := some 90, op := Op.move (Operand.tmp 1), type := 28, pos := "ref.go:55", after := #[{ on := 14, ground := Ground.guard }], guard := some (14, false) } : Oper)) (v := undef) rfl (by kernel_rfl) (by kernel_rfl) (by kernel_rfl) (fun _ _ _ h => h) (Or.inr ⟨by rfl, rfl⟩) (by assumption) ?_
          (try simp only [Act.put, List.setIfInBounds_toArray, List.set_cons_zero, List.set_cons_succ])
          refine wpAnyH_take (i := 16) (oi := ({ dst := some 91, op := Op.move (Operand.tmp 10), type := 3, pos := "ref.go:55", after := #[{ on := 14, ground := Ground.guard }], guard := some (14, false) } : Oper)) (v := undef) rfl (by kernel_rfl) (by kernel_rfl) (by kernel_rfl) (fun _ _ _ h => h) (Or.inr ⟨by rfl, rfl⟩) (by assumption) ?_
          (try simp only [Act.put, List.setIfInBounds_toArray, List.set_cons_zero, List.set_cons_succ])
          refine wpAnyH_take (i := 17) (oi := ({ dst := some 92, op := Op.indexAddr 28 (Operand.tmp 90) (Operand.tmp 91), type := 0, pos := "ref.go:55", after := #[{ on := 15, ground := Ground.data }, { on := 16, ground := Ground.data }, { on := 14, ground := Ground.guard }], guard := some (14, false) } : Oper)) (v := undef) rfl (by kernel_rfl) (by kernel_rfl) (by kernel_rfl) (fun _ _ _ h => h) (Or.inr ⟨by rfl, rfl⟩) (by assumption) ?_
          (try simp only [Act.put, List.setIfInBounds_toArray, List.set_cons_zero, List.set_cons_succ])
          refine wpAnyH_take (i := 18) (oi := ({ dst := some 93, op := Op.load 40 (Operand.tmp 92), type := 40, pos := "ref.go:55", after := #[{ on := 17, ground := Ground.data }, { on := 14, ground := Ground.guard }], guard := some (14, false) } : Oper)) (v := undef) rfl (by kernel_rfl) (by kernel_rfl) (by kernel_rfl) (fun _ _ _ h => h) (Or.inr ⟨by rfl, rfl⟩) (by assumption) ?_
          (try simp only [Act.put, List.setIfInBounds_toArray, List.set_cons_zero, List.set_cons_succ])
          refine wpAnyH_take (i := 19) (oi := ({ dst := some 94, op := Op.build 40 #[], type := 40, pos := "ref.go:55", after := #[{ on := 14, ground := Ground.guard }], guard := some (14, false) } : Oper)) (v := undef) rfl (by kernel_rfl) (by kernel_rfl) (by kernel_rfl) (fun _ _ _ h => h) (Or.inr ⟨by rfl, rfl⟩) (by assumption) ?_
          (try simp only [Act.put, List.setIfInBounds_toArray, List.set_cons_zero, List.set_cons_succ])
          refine wpAnyH_take (i := 20) (oi := ({ dst := some 95, op := Op.binOp BinOp.eql 40 (Operand.tmp 93) (Operand.tmp 94) 40, type := 4, pos := "ref.go:55", after := #[{ on := 18, ground := Ground.data }, { on := 19, ground := Ground.data }, { on := 14, ground := Ground.guard }], guard := some (14, false) } : Oper)) (v := undef) rfl (by kernel_rfl) (by kernel_rfl) (by kernel_rfl) (fun _ _ _ h => h) (Or.inr ⟨by rfl, rfl⟩) (by assumption) ?_
          (try simp only [Act.put, List.setIfInBounds_toArray, List.set_cons_zero, List.set_cons_succ])
          refine wpAnyH_take (i := 21) (oi := ({ dst := some 96, op := Op.move (Operand.tmp 95), type := 4, pos := "ref.go:55", after := #[{ on := 20, ground := Ground.data }, { on := 14, ground := Ground.chain }, { on := 14, ground := Ground.guard }], guard := some (14, false) } : Oper)) (v := undef) rfl (by kernel_rfl) (by kernel_rfl) (by kernel_rfl) (fun _ _ _ h => h) (Or.inr ⟨by rfl, rfl⟩) (by assumption) ?_
          (try simp only [Act.put, List.setIfInBounds_toArray, List.set_cons_zero, List.set_cons_succ])
          refine wpAnyH_take (i := 22) (oi := ({ dst := some 97, op := Op.move (Operand.tmp 2), type := 29, pos := "ref.go:55", after := #[{ on := 21, ground := Ground.guard }], guard := some (21, true) } : Oper)) (v := undef) rfl (by kernel_rfl) (by kernel_rfl) (by kernel_rfl) (fun _ _ _ h => h) (Or.inr ⟨by rfl, rfl⟩) (by assumption) ?_
          (try simp only [Act.put, List.setIfInBounds_toArray, List.set_cons_zero, List.set_cons_succ])
          refine wpAnyH_take (i := 23) (oi := ({ dst := some 98, op := Op.move (Operand.tmp 10), type := 3, pos := "ref.go:55", after := #[{ on := 21, ground := Ground.guard }], guard := some (21, true) } : Oper)) (v := undef) rfl (by kernel_rfl) (by kernel_rfl) (by kernel_rfl) (fun _ _ _ h => h) (Or.inr ⟨by rfl, rfl⟩) (by assumption) ?_
          (try simp only [Act.put, List.setIfInBounds_toArray, List.set_cons_zero, List.set_cons_succ])
          refine wpAnyH_take (i := 24) (oi := ({ dst := some 99, op := Op.indexAddr 29 (Operand.tmp 97) (Operand.tmp 98), type := 0, pos := "ref.go:55", after := #[{ on := 22, ground := Ground.data }, { on := 23, ground := Ground.data }, { on := 21, ground := Ground.guard }], guard := some (21, true) } : Oper)) (v := undef) rfl (by kernel_rfl) (by kernel_rfl) (by kernel_rfl) (fun _ _ _ h => h) (Or.inr ⟨by rfl, rfl⟩) (by assumption) ?_
          (try simp only [Act.put, List.setIfInBounds_toArray, List.set_cons_zero, List.set_cons_succ])
          refine wpAnyH_take (i := 25) (oi := ({ dst := some 100, op := Op.load 47 (Operand.tmp 99), type := 47, pos := "ref.go:55", after := #[{ on := 24, ground := Ground.data }, { on := 21, ground := Ground.guard }], guard := some (21, true) } : Oper)) (v := undef) rfl (by kernel_rfl) (by kernel_rfl) (by kernel_rfl) (fun _ _ _ h => h) (Or.inr ⟨by rfl, rfl⟩) (by assumption) ?_
          (try simp only [Act.put, List.setIfInBounds_toArray, List.set_cons_zero, List.set_cons_succ])
          refine wpAnyH_take (i := 26) (oi := ({ dst := some 101, op := Op.call { callee := Callee.value (Operand.func 23), args := #[Operand.tmp 100], argTypes := #[47] }, type := 3, pos := "ref.go:55", after := #[{ on := 25, ground := Ground.data }, { on := 21, ground := Ground.chain }, { on := 21, ground := Ground.guard }], guard := some (21, true) } : Oper)) (v := undef) rfl (by kernel_rfl) (by kernel_rfl) (by kernel_rfl) (fun _ _ _ h => h) (Or.inr ⟨by rfl, rfl⟩) (by assumption) ?_
          (try simp only [Act.put, List.setIfInBounds_toArray, List.set_cons_zero, List.set_cons_succ])
          refine wpAnyH_take (i := 27) (oi := ({ dst := some 102, op := Op.binOp BinOp.neq 3 (Operand.tmp 101) (Operand.const (Value.int IntKind.i64 0)) 3, type := 4, pos := "ref.go:55", after := #[{ on := 26, ground := Ground.data }, { on := 21, ground := Ground.guard }], guard := some (21, true) } : Oper)) (v := undef) rfl (by kernel_rfl) (by kernel_rfl) (by kernel_rfl) (fun _ _ _ h => h) (Or.inr ⟨by rfl, rfl⟩) (by assumption) ?_
          (try simp only [Act.put, List.setIfInBounds_toArray, List.set_cons_zero, List.set_cons_succ])
          refine wpAnyH_take (i := 28) (oi := ({ dst := some 103, op := Op.pick (Operand.tmp 96) (Operand.tmp 102) (Operand.const (Value.bool false)), type := 4, pos := "ref.go:55", after := #[{ on := 21, ground := Ground.data }, { on := 27, ground := Ground.data }, { on := 14, ground := Ground.guard }], guard := some (14, false) } : Oper)) (v := undef) rfl (by kernel_rfl) (by kernel_rfl) (by kernel_rfl) (fun _ _ _ h => h) (Or.inr ⟨by rfl, rfl⟩) (by assumption) ?_
          (try simp only [Act.put, List.setIfInBounds_toArray, List.set_cons_zero, List.set_cons_succ])
          refine wpAnyH_take (i := 29) (oi := ({ dst := some 104, op := Op.pick (Operand.tmp 89) (Operand.const (Value.bool true)) (Operand.tmp 103), type := 4, pos := "ref.go:55", after := #[{ on := 14, ground := Ground.data }, { on := 28, ground := Ground.data }], guard := none } : Oper)) (v := ?v29) rfl (by kernel_rfl) (by kernel_rfl) (by kernel_rfl) (fun _ _ _ h => h) (Or.inl ⟨by rfl, ?h29⟩) (by assumption) ?r29
          case h29 =>
            intro w hSw
            (try dsimp only at hSw)
            go_simp
            try with_reducible rfl
          (try simp only [Act.put, List.setIfInBounds_toArray, List.set_cons_zero, List.set_cons_succ])
          refine wpAnyH_done (by kernel_rfl) ?_ _
          all_goals go_wp2_with fail
          all_goals go_meet
          all_goals exact ⟨by rw [HB1.out], SD.out⟩
        have HM1 := Lib.hid (fun h => hu (HMI.out.1 h))
        cases zb with
        | false =>
          have HB1 : Hid (BAD = false) := by show BAD = false; rw [HBAD.out]; simp; omega
          clear HBAD hu
          refine wp_region_held_drew (S := (fun w' => (w'.cell? ⟨bn, on + k * 3, none⟩ = some (.bool false) ∧ w'.cell? ⟨bn, on + k * 3 + 1, none⟩ = some (.slice A3 (digs n).length c3) ∧ w'.cell? ⟨bn, on + k * 3 + 2, none⟩ = some (.slice A4 (digs d).length c4)) ∧ (w'.cell? ⟨bw, ow + k * 6, none⟩ = some (.int .i64 (wk 0)) ∧ w'.cell? ⟨bw, ow + k * 6 + 1, none⟩ = some (.int .i64 (wk 1)) ∧ w'.cell? ⟨bw, ow + k * 6 + 2, none⟩ = some (.int .i64 (wk 2)) ∧ w'.cell? ⟨bw, ow + k * 6 + 3, none⟩ = some (.int .i64 (wk 3)) ∧ w'.cell? ⟨bw, ow + k * 6 + 4, none⟩ = some (.int .i64 (wk 4)) ∧ w'.cell? ⟨bw, ow + k * 6 + 5, none⟩ = some (.int .i64 (wk 5))))) (by kernel_rfl) ?_ (fun hHeld => ?_)
          · (try dsimp only)
            with_reducible exact ⟨HAN.out _ (chain0 B0.out SD.out.e), HAW.out _ (chain0 B0.out SD.out.e)⟩
          refine wpAnyH_take (i := 0) (oi := ({ dst := some 75, op := Op.move (Operand.tmp 2), type := 29, pos := "ref.go:55", after := #[], guard := none } : Oper)) (v := ?vb0) rfl (by kernel_rfl) (by kernel_rfl) (by kernel_rfl) (fun _ _ _ h => h) (Or.inl ⟨by rfl, ?hb0⟩) (by assumption) ?rb0
          case hb0 =>
            intro w hSw
            (try dsimp only at hSw)
            go_simp
            try with_reducible rfl
          (try simp only [Act.put, List.setIfInBounds_toArray, List.set_cons_zero, List.set_cons_succ])
          refine wpAnyH_take (i := 1) (oi := ({ dst := some 76, op := Op.move (Operand.tmp 10), type := 3, pos := "ref.go:55", after := #[], guard := none } : Oper)) (v := ?vb1) rfl (by kernel_rfl) (by kernel_rfl) (by kernel_rfl) (fun _ _ _ h => h) (Or.inl ⟨by rfl, ?hb1⟩) (by assumption) ?rb1
          case hb1 =>
            intro w hSw
            (try dsimp only at hSw)
            go_simp
            try with_reducible rfl
          (try simp only [Act.put, List.setIfInBounds_toArray, List.set_cons_zero, List.set_cons_succ])
          refine wpAnyH_take (i := 2) (oi := ({ dst := some 77, op := Op.indexAddr 29 (Operand.tmp 75) (Operand.tmp 76), type := 0, pos := "ref.go:55", after := #[{ on := 0, ground := Ground.data }, { on := 1, ground := Ground.data }], guard := none } : Oper)) (v := ?vb2) rfl (by kernel_rfl) (by kernel_rfl) (by kernel_rfl) (fun _ _ _ h => h) (Or.inl ⟨by rfl, ?hb2⟩) (by assumption) ?rb2
          case hb2 =>
            intro w hSw
            (try dsimp only at hSw)
            go_simp
            try with_reducible rfl
          (try simp only [Act.put, List.setIfInBounds_toArray, List.set_cons_zero, List.set_cons_succ])
          refine wpAnyH_take (i := 3) (oi := ({ dst := some 78, op := Op.fieldAddr 47 (Operand.tmp 77) 0, type := 0, pos := "ref.go:55", after := #[{ on := 2, ground := Ground.data }], guard := none } : Oper)) (v := ?vb3) rfl (by kernel_rfl) (by kernel_rfl) (by kernel_rfl) (fun _ _ _ h => h) (Or.inl ⟨by rfl, ?hb3⟩) (by assumption) ?rb3
          case hb3 =>
            intro w hSw
            (try dsimp only at hSw)
            go_simp
            try with_reducible rfl
          (try simp only [Act.put, List.setIfInBounds_toArray, List.set_cons_zero, List.set_cons_succ])
          refine wpAnyH_take (i := 4) (oi := ({ dst := some 79, op := Op.load 4 (Operand.tmp 78), type := 4, pos := "ref.go:55", after := #[{ on := 3, ground := Ground.data }], guard := none } : Oper)) (v := ?vb4) rfl (by kernel_rfl) (by kernel_rfl) (by kernel_rfl) (fun _ _ _ h => h) (Or.inl ⟨by rfl, ?hb4⟩) (by assumption) ?rb4
          case hb4 =>
            intro w hSw
            (try dsimp only at hSw)
            go_simp
            try with_reducible rfl
          (try simp only [Act.put, List.setIfInBounds_toArray, List.set_cons_zero, List.set_cons_succ])
          refine wpAnyH_take (i := 5) (oi := ({ dst := some 80, op := Op.move (Operand.tmp 79), type := 4, pos := "ref.go:55", after := #[{ on := 4, ground := Ground.data }], guard := none } : Oper)) (v := ?vb5) rfl (by kernel_rfl) (by kernel_rfl) (by kernel_rfl) (fun _ _ _ h => h) (Or.inl ⟨by rfl, ?hb5⟩) (by assumption) ?rb5
          case hb5 =>
            intro w hSw
            (try dsimp only at hSw)
            go_simp
            try with_reducible rfl
          (try simp only [Act.put, List.setIfInBounds_toArray, List.set_cons_zero, List.set_cons_succ])
          refine wpAnyH_take (i := 6) (oi := ({ dst := some 81, op := Op.move (Operand.tmp 2), type := 29, pos := "ref.go:55", after := #[{ on := 5, ground := Ground.guard }], guard := some (5, false) } : Oper)) (v := ?vb6) rfl (by kernel_rfl) (by kernel_rfl) (by kernel_rfl) (fun _ _ _ h => h) (Or.inl ⟨by rfl, ?hb6⟩) (by assumption) ?rb6
          case hb6 =>
            intro w hSw
            (try dsimp only at hSw)
            go_simp
            try with_reducible rfl
          (try simp only [Act.put, List.setIfInBounds_toArray, List.set_cons_zero, List.set_cons_succ])
          refine wpAnyH_take (i := 7) (oi := ({ dst := some 82, op := Op.move (Operand.tmp 10), type := 3, pos := "ref.go:55", after := #[{ on := 5, ground := Ground.guard }], guard := some (5, false) } : Oper)) (v := ?vb7) rfl (by kernel_rfl) (by kernel_rfl) (by kernel_rfl) (fun _ _ _ h => h) (Or.inl ⟨by rfl, ?hb7⟩) (by assumption) ?rb7
          case hb7 =>
            intro w hSw
            (try dsimp only at hSw)
            go_simp
            try with_reducible rfl
          (try simp only [Act.put, List.setIfInBounds_toArray, List.set_cons_zero, List.set_cons_succ])
          refine wpAnyH_take (i := 8) (oi := ({ dst := some 83, op := Op.indexAddr 29 (Operand.tmp 81) (Operand.tmp 82), type := 0, pos := "ref.go:55", after := #[{ on := 6, ground := Ground.data }, { on := 7, ground := Ground.data }, { on := 5, ground := Ground.guard }], guard := some (5, false) } : Oper)) (v := ?vb8) rfl (by kernel_rfl) (by kernel_rfl) (by kernel_rfl) (fun _ _ _ h => h) (Or.inl ⟨by rfl, ?hb8⟩) (by assumption) ?rb8
          case hb8 =>
            intro w hSw
            (try dsimp only at hSw)
            go_simp
            try with_reducible rfl
          (try simp only [Act.put, List.setIfInBounds_toArray, List.set_cons_zero, List.set_cons_succ])
          refine wpAnyH_take (i := 9) (oi := ({ dst := some 84, op := Op.load 47 (Operand.tmp 83), type := 47, pos := "ref.go:55", after := #[{ on := 8, ground := Ground.data }, { on := 5, ground := Ground.guard }], guard := some (5, false) } : Oper)) (v := ?vb9) rfl (by kernel_rfl) (by kernel_rfl) (by kernel_rfl) (fun _ _ _ h => h) (Or.inl ⟨by rfl, ?hb9⟩) (by assumption) ?rb9
          case hb9 =>
            intro w hSw
            (try dsimp only at hSw)
            go_simp
            try with_reducible rfl
          (try simp only [Act.put, List.setIfInBounds_toArray, List.set_cons_zero, List.set_cons_succ])
          refine wpAnyH_ready (rs := [10]) (by kernel_rfl) (by simp) ?_
          refine AllReadyH.cons (o := ({ dst := some 85, op := Op.call { callee := Callee.value (Operand.func 22), args := #[Operand.const (Value.int IntKind.i64 1000000)], argTypes := #[2] }, type := 47, pos := "ref.go:55", after := #[{ on := 5, ground := Ground.chain }, { on := 5, ground := Ground.guard }], guard := some (5, false) } : Oper)) rfl (fun KK hKK => ?_) AllReadyH.nil
          first | (go_at_call 22) | (go_simp; go_at_call 22) | (rw [if_pos (by rfl)]; go_at_call 22) | go_simp
          with_reducible refine (CMI.out _).mono ?_
          rintro e w9 ⟨A7, c7, A8, c8, rfl, i7, i8, dd⟩
          have I7 := Lib.hid i7
          have I8 := Lib.hid i8
          replace SD := Lib.hid (SD.out.keep dd)
          clear dd i7 i8
          refine hKK.out _ _ ?_ (fun hHeld2 => ?_)
          · (try dsimp only)
            with_reducible exact ⟨HAN.out _ (chain0 B0.out SD.out.e), HAW.out _ (chain0 B0.out SD.out.e)⟩
          clear hKK KK hHeld
          have hHeld := hHeld2
          clear hHeld2
          (try simp only [Act.put, List.setIfInBounds_toArray, List.set_cons_zero, List.set_cons_succ])
          refine wpAnyH_ready (rs := [11]) (by kernel_rfl) (by simp) ?_
          refine AllReadyH.cons (o := ({ dst := some 86, op := Op.call { callee := Callee.value (Operand.func 21), args := #[Operand.tmp 84, Operand.tmp 85], argTypes := #[47, 47] }, type := 3, pos := "ref.go:55", after := #[{ on := 9, ground := Ground.data }, { on := 10, ground := Ground.data }, { on := 10, ground := Ground.chain }, { on := 5, ground := Ground.guard }], guard := some (5, false) } : Oper)) rfl (fun KK hKK => ?_) AllReadyH.nil
          first | (go_at_call 21) | (go_simp; go_at_call 21) | (rw [if_pos (by rfl)]; go_at_call 21) | go_simp
          with_reducible refine (CCM.out _ _ _ _ _ (chain0 B0.out SD.out.e) I7.out I8.out).mono ?_
          rintro e w9 ⟨s, rfl, hs1, hs2, dd⟩
          have sd : decide (0 < s) = false := decide_eq_false (fun h => HM1.out (hs1.1 h))
          replace SD := Lib.hid (SD.out.keep dd)
          clear dd hs1 hs2
          refine hKK.out _ _ ?_ (fun hHeld2 => ?_)
          · (try dsimp only)
            with_reducible exact ⟨HAN.out _ (chain0 B0.out SD.out.e), HAW.out _ (chain0 B0.out SD.out.e)⟩
          clear hKK KK hHeld
          have hHeld := hHeld2
          clear hHeld2
          (try simp only [Act.put, List.setIfInBounds_toArray, List.set_cons_zero, List.set_cons_succ])
          refine wpAnyH_take (i := 12) (oi := ({ dst := some 87, op := Op.binOp BinOp.gtr 3 (Operand.tmp 86) (Operand.const (Value.int IntKind.i64 0)) 3, type := 4, pos := "ref.go:55", after := #[{ on := 11, ground := Ground.data }, { on := 5, ground := Ground.guard }], guard := some (5, false) } : Oper)) (v := ?vb12) rfl (by kernel_rfl) (by kernel_rfl) (by kernel_rfl) (fun _ _ _ h => h) (Or.inl ⟨by rfl, ?hb12⟩) (by assumption) ?rb12
          case hb12 =>
            intro w hSw
            (try dsimp only at hSw)
            go_simp
            try with_reducible rfl
          (try simp only [Act.put, List.setIfInBounds_toArray, List.set_cons_zero, List.set_cons_succ])
          refine wpAnyH_take (i := 13) (oi := ({ dst := some 88, op := Op.pick (Operand.tmp 80) (Operand.const (Value.bool true)) (Operand.tmp 87), type := 4, pos := "ref.go:55", after := #[{ on := 5, ground := Ground.data }, { on := 12, ground := Ground.data }], guard := none } : Oper)) (v := ?vb13) rfl (by kernel_rfl) (by kernel_rfl) (by kernel_rfl) (fun _ _ _ h => h) (Or.inl ⟨by rfl, ?hb13⟩) (by assumption) ?rb13
          case hb13 =>
            intro w hSw
            (try dsimp only at hSw)
            go_simp
            try with_reducible rfl
          (try simp only [Act.put, List.setIfInBounds_toArray, List.set_cons_zero, List.set_cons_succ])
          refine wpAnyH_take (i := 14) (oi := ({ dst := some 89, op := Op.move (Operand.tmp 88), type := 4, pos := "ref.go:55", after := #[{ on := 13, ground := Ground.data }, { on := 11, ground := Ground.chain }], guard := none } : Oper)) (v := ?vb14) rfl (by kernel_rfl) (by kernel_rfl) (by kernel_rfl) (fun _ _ _ h => h) (Or.inl ⟨by rfl, ?hb14⟩) (by assumption) ?rb14
          case hb14 =>
            intro w hSw
            (try dsimp only at hSw)
            go_simp
            try with_reducible rfl
          (try simp only [Act.put, List.setIfInBounds_toArray, List.set_cons_zero, List.set_cons_succ])
          refine wpAnyH_take (i := 15) (oi := ({ dst := some 90, op := Op.move (Operand.tmp 1), type := 28, pos := "ref.go:55", after := #[{ on := 14, ground := Ground.guard }], guard := some (14, false) } : Oper)) (v := ?vb15) rfl (by kernel_rfl) (by kernel_rfl) (by kernel_rfl) (fun _ _ _ h => h) (Or.inl ⟨by rfl, ?hb15⟩) (by assumption) ?rb15
          case hb15 =>
            intro w hSw
            (try dsimp only at hSw)
            go_simp
            try with_reducible rfl
          (try simp only [Act.put, List.setIfInBounds_toArray, List.set_cons_zero, List.set_cons_succ])
          refine wpAnyH_take (i := 16) (oi := ({ dst := some 91, op := Op.move (Operand.tmp 10), type := 3, pos := "ref.go:55", after := #[{ on := 14, ground := Ground.guard }], guard := some (14, false) } : Oper)) (v := ?vb16) rfl (by kernel_rfl) (by kernel_rfl) (by kernel_rfl) (fun _ _ _ h => h) (Or.inl ⟨by rfl, ?hb16⟩) (by assumption) ?rb16
          case hb16 =>
            intro w hSw
            (try dsimp only at hSw)
            go_simp
            try with_reducible rfl
          (try simp only [Act.put, List.setIfInBounds_toArray, List.set_cons_zero, List.set_cons_succ])
          refine wpAnyH_take (i := 17) (oi := ({ dst := some 92, op := Op.indexAddr 28 (Operand.tmp 90) (Operand.tmp 91), type := 0, pos := "ref.go:55", after := #[{ on := 15, ground := Ground.data }, { on := 16, ground := Ground.data }, { on := 14, ground := Ground.guard }], guard := some (14, false) } : Oper)) (v := ?vb17) rfl (by kernel_rfl) (by kernel_rfl) (by kernel_rfl) (fun _ _ _ h => h) (Or.inl ⟨by rfl, ?hb17⟩) (by assumption) ?rb17
          case hb17 =>
            intro w hSw
            (try dsimp only at hSw)
            go_simp
            try with_reducible rfl
          (try simp only [Act.put, List.setIfInBounds_toArray, List.set_cons_zero, List.set_cons_succ])
          refine wpAnyH_take (i := 18) (oi := ({ dst := some 93, op := Op.load 40 (Operand.tmp 92), type := 40, pos := "ref.go:55", after := #[{ on := 17, ground := Ground.data }, { on := 14, ground := Ground.guard }], guard := some (14, false) } : Oper)) (v := ?vb18) rfl (by kernel_rfl) (by kernel_rfl) (by kernel_rfl) (fun _ _ _ h => h) (Or.inl ⟨by rfl, ?hb18⟩) (by assumption) ?rb18
          case hb18 =>
            intro w hSw
            (try dsimp only at hSw)
            go_simp
            try with_reducible rfl
          (try simp only [Act.put, List.setIfInBounds_toArray, List.set_cons_zero, List.set_cons_succ])
          refine wpAnyH_take (i := 19) (oi := ({ dst := some 94, op := Op.build 40 #[], type := 40, pos := "ref.go:55", after := #[{ on := 14, ground := Ground.guard }], guard := some (14, false) } : Oper)) (v := ?vb19) rfl (by kernel_rfl) (by kernel_rfl) (by kernel_rfl) (fun _ _ _ h => h) (Or.inl ⟨by rfl, ?hb19⟩) (by assumption) ?rb19
          case hb19 =>
            intro w hSw
            (try dsimp only at hSw)
            go_simp
            try with_reducible rfl
          (try simp only [Act.put, List.setIfInBounds_toArray, List.set_cons_zero, List.set_cons_succ])
          refine wpAnyH_take (i := 20) (oi := ({ dst := some 95, op := Op.binOp BinOp.eql 40 (Operand.tmp 93) (Operand.tmp 94) 40, type := 4, pos := "ref.go:55", after := #[{ on := 18, ground := Ground.data }, { on := 19, ground := Ground.data }, { on := 14, ground := Ground.guard }], guard := some (14, false) } : Oper)) (v := ?vb20) rfl (by kernel_rfl) (by kernel_rfl) (by kernel_rfl) (fun _ _ _ h => h) (Or.inl ⟨by rfl, ?hb20⟩) (by assumption) ?rb20
          case hb20 =>
            intro w hSw
            (try dsimp only at hSw)
            go_simp
            try with_reducible rfl
          (try simp only [Act.put, List.setIfInBounds_toArray, List.set_cons_zero, List.set_cons_succ])
          refine wpAnyH_take (i := 21) (oi := ({ dst := some 96, op := Op.move (Operand.tmp 95), type := 4, pos := "ref.go:55", after := #[{ on := 20, ground := Ground.data }, { on := 14, ground := Ground.chain }, { on := 14, ground := Ground.guard }], guard := some (14, false) } : Oper)) (v := ?vb21) rfl (by kernel_rfl) (by kernel_rfl) (by kernel_rfl) (fun _ _ _ h => h) (Or.inl ⟨by rfl, ?hb21⟩) (by assumption) ?rb21
          case hb21 =>
            intro w hSw
            (try dsimp only at hSw)
            go_simp
            try with_reducible rfl
          (try simp only [Act.put, List.setIfInBounds_toArray, List.set_cons_zero, List.set_cons_succ])
          refine wpAnyH_take (i := 22) (oi := ({ dst := some 97, op := Op.move (Operand.tmp 2), type := 29, pos := "ref.go:55", after := #[{ on := 21, ground := Ground.guard }], guard := some (21, true) } : Oper)) (v := undef) rfl (by kernel_rfl) (by kernel_rfl) (by kernel_rfl) (fun _ _ _ h => h) (Or.inr ⟨by rfl, rfl⟩) (by assumption) ?_
          (try simp only [Act.put, List.setIfInBounds_toArray, List.set_cons_zero, List.set_cons_succ])
          refine wpAnyH_take (i := 23) (oi := ({ dst := some 98, op := Op.move (Operand.tmp 10), type := 3, pos := "ref.go:55", after := #[{ on := 21, ground := Ground.guard }], guard := some (21, true) } : Oper)) (v := undef) rfl (by kernel_rfl) (by kernel_rfl) (by kernel_rfl) (fun _ _ _ h => h) (Or.inr ⟨by rfl, rfl⟩) (by assumption) ?_
          (try simp only [Act.put, List.setIfInBounds_toArray, List.set_cons_zero, List.set_cons_succ])
          refine wpAnyH_take (i := 24) (oi := ({ dst := some 99, op := Op.indexAddr 29 (Operand.tmp 97) (Operand.tmp 98), type := 0, pos := "ref.go:55", after := #[{ on := 22, ground := Ground.data }, { on := 23, ground := Ground.data }, { on := 21, ground := Ground.guard }], guard := some (21, true) } : Oper)) (v := undef) rfl (by kernel_rfl) (by kernel_rfl) (by kernel_rfl) (fun _ _ _ h => h) (Or.inr ⟨by rfl, rfl⟩) (by assumption) ?_
          (try simp only [Act.put, List.setIfInBounds_toArray, List.set_cons_zero, List.set_cons_succ])
          refine wpAnyH_take (i := 25) (oi := ({ dst := some 100, op := Op.load 47 (Operand.tmp 99), type := 47, pos := "ref.go:55", after := #[{ on := 24, ground := Ground.data }, { on := 21, ground := Ground.guard }], guard := some (21, true) } : Oper)) (v := undef) rfl (by kernel_rfl) (by kernel_rfl) (by kernel_rfl) (fun _ _ _ h => h) (Or.inr ⟨by rfl, rfl⟩) (by assumption) ?_
          (try simp only [Act.put, List.setIfInBounds_toArray, List.set_cons_zero, List.set_cons_succ])
          refine wpAnyH_take (i := 26) (oi := ({ dst := some 101, op := Op.call { callee := Callee.value (Operand.func 23), args := #[Operand.tmp 100], argTypes := #[47] }, type := 3, pos := "ref.go:55", after := #[{ on := 25, ground := Ground.data }, { on := 21, ground := Ground.chain }, { on := 21, ground := Ground.guard }], guard := some (21, true) } : Oper)) (v := undef) rfl (by kernel_rfl) (by kernel_rfl) (by kernel_rfl) (fun _ _ _ h => h) (Or.inr ⟨by rfl, rfl⟩) (by assumption) ?_
          (try simp only [Act.put, List.setIfInBounds_toArray, List.set_cons_zero, List.set_cons_succ])
          refine wpAnyH_take (i := 27) (oi := ({ dst := some 102, op := Op.binOp BinOp.neq 3 (Operand.tmp 101) (Operand.const (Value.int IntKind.i64 0)) 3, type := 4, pos := "ref.go:55", after := #[{ on := 26, ground := Ground.data }, { on := 21, ground := Ground.guard }], guard := some (21, true) } : Oper)) (v := undef) rfl (by kernel_rfl) (by kernel_rfl) (by kernel_rfl) (fun _ _ _ h => h) (Or.inr ⟨by rfl, rfl⟩) (by assumption) ?_
          (try simp only [Act.put, List.setIfInBounds_toArray, List.set_cons_zero, List.set_cons_succ])
          refine wpAnyH_take (i := 28) (oi := ({ dst := some 103, op := Op.pick (Operand.tmp 96) (Operand.tmp 102) (Operand.const (Value.bool false)), type := 4, pos := "ref.go:55", after := #[{ on := 21, ground := Ground.data }, { on := 27, ground := Ground.data }, { on := 14, ground := Ground.guard }], guard := some (14, false) } : Oper)) (v := ?vb28) rfl (by kernel_rfl) (by kernel_rfl) (by kernel_rfl) (fun _ _ _ h => h) (Or.inl ⟨by rfl, ?hb28⟩) (by assumption) ?rb28
          case hb28 =>
            intro w hSw
            (try dsimp only at hSw)
            go_simp
            try with_reducible rfl
          (try simp only [Act.put, List.setIfInBounds_toArray, List.set_cons_zero, List.set_cons_succ])
          refine wpAnyH_take (i := 29) (oi := ({ dst := some 104, op := Op.pick (Operand.tmp 89) (Operand.const (Value.bool true)) (Operand.tmp 103), type := 4, pos := "ref.go:55", after := #[{ on := 14, ground := Ground.data }, { on := 28, ground := Ground.data }], guard := none } : Oper)) (v := ?vb29) rfl (by kernel_rfl) (by kernel_rfl) (by kernel_rfl) (fun _ _ _ h => h) (Or.inl ⟨by rfl, ?hb29⟩) (by assumption) ?rb29
          case hb29 =>
            intro w hSw
            (try dsimp only at hSw)
            go_simp
            try with_reducible rfl
          (try simp only [Act.put, List.setIfInBounds_toArray, List.set_cons_zero, List.set_cons_succ])
          refine wpAnyH_done (by kernel_rfl) ?_ _
          all_goals go_wp2_with fail
          all_goals go_meet
          all_goals exact ⟨by rw [HB1.out], SD.out⟩
        | true =>
          have HB1 : Hid (BAD = (sg != 0)) := by
            show BAD = _
            have h1 := HSG.out
            rw [HBAD.out]
            by_cases h : n = 0
            · have : (sg != 0) = false := by cases hh : (sg != 0) with
                | false => rfl
                | true => exact absurd h (h1.1 hh)
              rw [this]; simp [h]; omega
            · rw [h1.2 h]; simp [h]
          clear HBAD hu
          go_region_held3 (fun w' => (w'.cell? ⟨bn, on + k * 3, none⟩ = some (.bool false) ∧ w'.cell? ⟨bn, on + k * 3 + 1, none⟩ = some (.slice A3 (digs n).length c3) ∧ w'.cell? ⟨bn, on + k * 3 + 2, none⟩ = some (.slice A4 (digs d).length c4)) ∧ (w'.cell? ⟨bw, ow + k * 6, none⟩ = some (.int .i64 (wk 0)) ∧ w'.cell? ⟨bw, ow + k * 6 + 1, none⟩ = some (.int .i64 (wk 1)) ∧ w'.cell? ⟨bw, ow + k * 6 + 2, none⟩ = some (.int .i64 (wk 2)) ∧ w'.cell? ⟨bw, ow + k * 6 + 3, none⟩ = some (.int .i64 (wk 3)) ∧ w'.cell? ⟨bw, ow + k * 6 + 4, none⟩ = some (.int .i64 (wk 4)) ∧ w'.cell? ⟨bw, ow + k * 6 + 5, none⟩ = some (.int .i64 (wk 5)))) (first | with_reducible exact ⟨HAN.out _ (chain0 B0.out SD.out.e), HAW.out _ (chain0 B0.out SD.out.e)⟩ | go_keep) (first
          | (go_at_call 22; with_reducible refine (CMI.out _).mono ?_; rintro e w9 ⟨A7, c7, A8, c8, rfl, i7, i8, dd⟩; have I7 := Lib.hid i7; have I8 := Lib.hid i8; replace SD := Lib.hid (SD.out.keep dd); clear dd i7 i8)
          | (go_at_call 21; with_reducible refine (CCM.out _ _ _ _ _ (chain0 B0.out SD.out.e) I7.out I8.out).mono ?_; rintro e w9 ⟨s, rfl, hs1, hs2, dd⟩; have sd : decide (0 < s) = false := decide_eq_false (fun h => HM1.out (hs1.1 h)); replace SD := Lib.hid (SD.out.keep dd); clear dd hs1 hs2)
          | (go_at_call 23; with_reducible refine (CSG.out _).mono ?_; rintro e w9 ⟨rfl, dd⟩; replace SD := Lib.hid (SD.out.keep dd); clear dd)
          )
          all_goals go_wp2_with fail
          all_goals go_meet
          all_goals exact ⟨by rw [HB1.out], SD.out⟩
    case rest =>
    clear BX l0 lbw lbn lbb lgx haw han HS
    obtain ⟨rfl, HS⟩ := hcut
    cases hbad : BAD with
    | true =>
      have HV : Hid (RR = .error 4) := HERR.out 4 (HRK.out.trans (invR_e3 H1.out H2.out (by
        have h := HBAD.out
        rw [hbad] at h
        have h := of_decide_eq_true h.symm
        dsimp only
        rw [HUF.out, ← HZB.out, nat_digs]
        exact h)))
      clear hbad HBAD
      go_wp2_with fail
      go_ret2
      exact invs_err HV.out (chain0 B0.out HS.out.e)
    | false =>
    have H3x : neg = false ∧ up ≤ 1000000 ∧ (zb = true → n = 0) := by
      have h := HBAD.out
      rw [hbad] at h
      have h := of_decide_eq_false h.symm
      exact Decidable.not_not.1 h
    obtain ⟨rfl, hu6, hzn⟩ := H3x
    have H3 : Hid (upN ⟨false, .slice A3 (digs n).length c3, .slice A4 (digs d).length c4, digs n, digs d⟩ ≤ 1000000 ∧ (eq6 wk zero6 = true → nat (digs n) = 0)) := by
      refine ⟨by rw [HUF.out]; exact hu6, ?_⟩
      rw [← HZB.out, nat_digs]
      exact hzn
    have HU6 := Lib.hid hu6
    clear hbad HBAD hzn hu6 HMI CCM CMI CSG HSG
    have HR0 := Lib.hid (sum_range0 (p := wk) (ps := ps))
    obtain ⟨r, hr⟩ : ∃ r, r = sumE Prod.reserve wk ps := ⟨_, rfl⟩
    rw [← hr] at HS HR0
    have HRE := Lib.hid hr
    clear hr
    -- the inner loop
    go_wp2_with fail
    go_loopw [12] (fun _ wr => ∃ m : Nat, Hid (m ≤ up) ∧ Hid (RSt w0 wo gx (k : Int) wk r (m : Int) 0 wr)) (fun _ wr => up - (intOf ((wr.cell? ⟨gx, 8, none⟩).getD (.int .i64 0))).toNat)
    case atStart => exact ⟨0, Nat.zero_le _, HS.out⟩
    case round =>
    clear HS
    obtain ⟨m, HM, HS⟩ := hrel
    have HK8 : Hid (wr.cell? ⟨gx, 8, none⟩ = some (.int .i64 (m : Int))) := HS.out.cells.2.2.2.2.2.2.2.2.1
    have hm0 : (0 : Int) ≤ (m : Int) := by omega
    have CIm : Hid (∀ W, Calls Tryz.prog 22 #[.int .i64 (m : Int)] W (PosPost m one W)) := fun W => by rw [HONE.out]; exact int_pos m W (by have := HM.out; have := HU6.out; omega)
    have CCm : Hid (∀ (A7 A8 : Option Addr) (c7 c8 : Nat) W, Below w.heap.size w W → NS W (.slice A7 (digs m).length c7) (digs m) → NS W (.slice A8 (digs one).length c8) (digs one) → Calls Tryz.prog 21 #[.agg #[.bool false, .slice A7 (digs m).length c7, .slice A8 (digs one).length c8], .agg #[.bool false, .slice A3 (digs n).length c3, .slice A4 (digs d).length c4]] W (CmpP (m * d) (n * 1) W)) := fun A7 A8 c7 c8 W b h7 h8 => by rw [HONE.out] at h8 ⊢; exact rcmp_pos A7 A8 A3 A4 c7 c8 c3 c4 m 1 n d W (by have := digs_small (m := m) (by have := HM.out; have := HU6.out; omega); omega) (by decide) HFL.out.1 HFL.out.2 (by decide) HD0.out h7 h8 (NS1.out W b) (NS2.out W b)
    have HMC : Hid (m * d < n * 1 ↔ m < up) := by show _ ↔ _; rw [Nat.mul_one, ceil_above HD0.out, HUP.out]
    obtain ⟨lt, hlt⟩ : ∃ b : Bool, b = decide (m < up) := ⟨_, rfl⟩
    have HLT := Lib.hid hlt
    clear hlt
    have BX := Lib.hid (chain0 B0.out HS.out.e)
    have l0 := Nat.lt_of_lt_of_le L0.out HS.out.e.size
    have lbw := Nat.lt_of_lt_of_le HBL.out.1 BX.out.size
    have lbn := Nat.lt_of_lt_of_le HBL.out.2.1 BX.out.size
    have lbb := Nat.lt_of_lt_of_le HBL.out.2.2 BX.out.size
    have lgx := HS.out.k.lt
    have han := HAN.out wr BX.out
    have kx := HS.out.cells
    go_upto_region 17 with fail
    go_cut [113] from 105 to 127 (fun c wx => c = .bool lt ∧ Hid (RSt w0 wo gx (k : Int) wk r (m : Int) 0 wx))
    case first =>
      have SD := Lib.hid (HS.out.keep (Below.refl _ _).drew)
      clear han kx
      go_region_held3 (fun w' => w'.cell? ⟨gx, 8, none⟩ = some (.int .i64 (m : Int)) ∧ (w'.cell? ⟨bn, on + k * 3, none⟩ = some (.bool false) ∧ w'.cell? ⟨bn, on + k * 3 + 1, none⟩ = some (.slice A3 (digs n).length c3) ∧ w'.cell? ⟨bn, on + k * 3 + 2, none⟩ = some (.slice A4 (digs d).length c4))) (first | with_reducible exact ⟨SD.out.cells.2.2.2.2.2.2.2.2.1, HAN.out _ (chain0 B0.out SD.out.e)⟩ | go_keep) (first
        | (go_at_call 22; with_reducible refine (CIm.out _).mono ?_; rintro e w9 ⟨A7, c7, A8, c8, rfl, i7, i8, dd⟩; have I7 := Lib.hid i7; have I8 := Lib.hid i8; replace SD := Lib.hid (SD.out.keep dd); clear dd i7 i8)
        | (go_at_call 21; with_reducible refine (CCm.out _ _ _ _ _ (chain0 B0.out SD.out.e) I7.out I8.out).mono ?_; rintro e w9 ⟨s, rfl, hs1, hs2, dd⟩; have HS2 := Lib.hid hs2; replace SD := Lib.hid (SD.out.keep dd); clear dd hs1 hs2)
        )
      have HL2 : Hid (decide (s < 0) = lt) := by
        show _ = _
        have h1 := HS2.out
        have h2 := HMC.out
        rw [HLT.out]
        by_cases h : m < up
        · rw [decide_eq_true h, decide_eq_true (h1.2 (h2.2 h))]
        · rw [decide_eq_false h, decide_eq_false (fun h3 => h (h2.1 (h1.1 h3)))]
      go_wp2_with fail
      go_meet
      exact ⟨by rw [← HL2.out], SD.out⟩
    case rest =>
    clear BX l0 lbw lbn lbb lgx han kx HS
    obtain ⟨rfl, HS⟩ := hcut
    clear CIm CCm HMC
    cases hb : lt with
    | true =>
      have hmu : m < up := by have h := HLT.out; rw [hb] at h; exact of_decide_eq_true h.symm
      have HQ := Lib.hid (floor_ceil (n := n) HD0.out)
      have CFL := Lib.hid (fun W (b : Below w.heap.size w W) => rfloor_pos A3 A4 c3 c4 n d W (by have := HFL.out.1; omega) (by have := HFL.out.2; omega) HD0.out (NS1.out W b) (NS2.out W b))
      obtain ⟨q, hq⟩ : ∃ q, q = n / d := ⟨_, rfl⟩
      rw [← hq, ← HUP.out] at HQ
      rw [← hq] at CFL
      have HMU := Lib.hid hmu
      clear hq hb HLT hmu
      have BX := Lib.hid (chain0 B0.out HS.out.e)
      have l0 := Nat.lt_of_lt_of_le L0.out HS.out.e.size
      have lbw := Nat.lt_of_lt_of_le HBL.out.1 BX.out.size
      have lbn := Nat.lt_of_lt_of_le HBL.out.2.1 BX.out.size
      have lbb := Nat.lt_of_lt_of_le HBL.out.2.2 BX.out.size
      have lgx := HS.out.k.lt
      have han := HAN.out wc BX.out
      have kx := HS.out.cells
      have kf := HS.out.k.free
      go_wp2_with fail
      refine (CFL.out _ BX.out).mono ?_
      rintro e w9 ⟨v, b9, ⟨rfl, dd⟩, hv1, hv2⟩
      obtain ⟨rfl, rfl⟩ := hv1 (by have := HQ.out; have := HU6.out; omega)
      have HS9 := Lib.hid (HS.out.keep dd)
      clear hv1 hv2 dd CFL
      clear BX l0 lbw lbn lbb lgx han kx kf HS
      have BX := Lib.hid (chain0 B0.out HS9.out.e)
      have l0 := Nat.lt_of_lt_of_le L0.out HS9.out.e.size
      have lbw := Nat.lt_of_lt_of_le HBL.out.1 BX.out.size
      have lbn := Nat.lt_of_lt_of_le HBL.out.2.1 BX.out.size
      have lbb := Nat.lt_of_lt_of_le HBL.out.2.2 BX.out.size
      have lgx := HS9.out.k.lt
      have kx := HS9.out.cells
      have kf := HS9.out.k.free
      have mc := max_cast q m
      have mw : IntKind.i64.wrap ((m : Int) + 1) = (m : Int) + 1 := IntWalk.i64_in _ (by have := HM.out; have := HU6.out; omega)
      go_wp2_with fail
      go_roundw
      case rel =>
        have hm2 : max q (m + 1) ≤ up := by have := HQ.out; have := HMU.out; omega
        exact ⟨max q (m + 1), hm2, HS9.out.put8 _⟩
      case measure =>
        have h := (HS9.out.put8 ((max q (m + 1) : Nat) : Int)).cells.2.2.2.2.2.2.2.2.1
        rw [h, HK8.out]
        have h1 := HMU.out
        have h2 := HQ.out
        simp only [Option.getD_some, intOf]
        omega
    | false =>
    have hmu : m = up := by have h := HLT.out; rw [hb] at h; have h2 := of_decide_eq_false h.symm; have := HM.out; omega
    clear hb HLT HM
    subst hmu
    have hu0 := HU6.out
    have hr0 := HR0.out
    have w1 : IntKind.i64.wrap (r + (m : Int)) = r + (m : Int) := IntWalk.i64_in _ (by omega)
    have SP9 := Lib.hid (HS.out.put9 (r + (m : Int)))
    have BX := Lib.hid (chain0 B0.out HS.out.e)
    have l0 := Nat.lt_of_lt_of_le L0.out HS.out.e.size
    have lbw := Nat.lt_of_lt_of_le HBL.out.1 BX.out.size
    have lbn := Nat.lt_of_lt_of_le HBL.out.2.1 BX.out.size
    have lbb := Nat.lt_of_lt_of_le HBL.out.2.2 BX.out.size
    have lgx := HS.out.k.lt
    have kx := HS.out.cells
    have kf := HS.out.k.free
    go_upto_region 21 with fail
    clear BX l0 lbw lbn lbb lgx kx kf
    clear HS
    generalize wc.setCell ⟨gx, 9, none⟩ (.int .i64 (r + (m : Int))) = wp at *
    have BX := Lib.hid (chain0 B0.out SP9.out.e)
    have l0 := Nat.lt_of_lt_of_le L0.out SP9.out.e.size
    have lbw := Nat.lt_of_lt_of_le HBL.out.1 BX.out.size
    have lbn := Nat.lt_of_lt_of_le HBL.out.2.1 BX.out.size
    have lbb := Nat.lt_of_lt_of_le HBL.out.2.2 BX.out.size
    have lgx := SP9.out.k.lt
    have kx := SP9.out.cells
    by_cases h4 : r + (m : Int) ≤ 1000000
    case neg =>
      have d4 : decide (1000000 < r + (m : Int)) = true := decide_eq_true (by omega)
      have HV : Hid (RR = .error 4) := HERR.out 4 (HRK.out.trans (invR_e4 H1.out H2.out ⟨rfl, H3.out⟩ (by rw [HUF.out, ← HRE.out]; exact h4)))
      clear h4
      go_wp2_with fail
      go_ret2
      exact invs_err HV.out (chain0 B0.out SP9.out.e)
    have d4 : decide (1000000 < r + (m : Int)) = false := decide_eq_false (by omega)
    have H4 := Lib.hid h4
    clear h4
    go_upto_region 23 with fail
    clear BX l0 lbw lbn lbb lgx kx
    have BX := Lib.hid (chain0 B0.out SP9.out.e)
    have l0 := Nat.lt_of_lt_of_le L0.out SP9.out.e.size
    have lbw := Nat.lt_of_lt_of_le HBL.out.1 BX.out.size
    have lbn := Nat.lt_of_lt_of_le HBL.out.2.1 BX.out.size
    have lbb := Nat.lt_of_lt_of_le HBL.out.2.2 BX.out.size
    have lgx := SP9.out.k.lt
    have hat := HAT.out wp SP9.out.e
    have hab := HAB.out wp BX.out
    have kx := SP9.out.cells
    obtain ⟨over, hov⟩ : ∃ b : Bool, b = decide (bd ≠ 0 ∧ bd < r + (m : Int)) := ⟨_, rfl⟩
    have HOV := Lib.hid hov
    clear hov hu0 hr0 w1 d4
    obtain ⟨du, hdu⟩ : ∃ x, x = r + (m : Int) := ⟨_, rfl⟩
    rw [← hdu] at SP9 kx
    have HDU := Lib.hid hdu
    go_cut [154] from 137 to 164 (fun c wx => c = .bool over ∧ Hid (RSt w0 wo gx (k : Int) wk r (m : Int) du wx))
    case first =>
      rw [← hdu] at HOV
      clear hdu
      by_cases hb0 : bd = 0
      case pos =>
        have q5 : (bd != 0) = false := by rw [hb0]; rfl
        have HO1 : Hid (over = false) := by show over = false; rw [HOV.out]; simp [hb0]
        clear HOV hb0
        refine wp_region_later (by kernel_rfl) (by kernel_rfl) ?_
        repeat (first | go_big_quiet_step (fail) | quiet_step (fail))
        refine wpQuiet_nil ?_
        rintro _ ⟨y, rfl⟩
        go_wp2_with fail
        go_meet
        exact ⟨by rw [HO1.out], SP9.out.keep (later_below _ _)⟩
      have q5 : (bd != 0) = true := bne_iff_ne.2 hb0
      by_cases hb1 : bd < du
      case pos =>
        have q6 : decide (bd < du) = true := decide_eq_true hb1
        have HO1 : Hid (over = true) := by show over = true; rw [HOV.out]; simp [hb0, hb1]
        clear HOV hb0 hb1
        refine wp_region_later (by kernel_rfl) (by kernel_rfl) ?_
        repeat (first | go_big_quiet_step (fail) | quiet_step (fail))
        refine wpQuiet_nil ?_
        rintro _ ⟨y, rfl⟩
        go_wp2_with fail
        go_meet
        exact ⟨by rw [HO1.out], SP9.out.keep (later_below _ _)⟩
      have q6 : decide (bd < du) = false := decide_eq_false hb1
      have HO1 : Hid (over = false) := by show over = false; rw [HOV.out]; simp [hb1]
      clear HOV hb0 hb1
      refine wp_region_later (by kernel_rfl) (by kernel_rfl) ?_
      repeat (first | go_big_quiet_step (fail) | quiet_step (fail))
      refine wpQuiet_nil ?_
      rintro _ ⟨y, rfl⟩
      go_wp2_with fail
      go_meet
      exact ⟨by rw [HO1.out], SP9.out.keep (later_below _ _)⟩
    case rest =>
    clear hdu
    clear BX l0 lbw lbn lbb lgx hat hab kx SP9
    obtain ⟨rfl, HS⟩ := hcut
    cases hovr : over with
    | true =>
      have HV : Hid (RR = .error 17) := HERR.out 17 (HRK.out.trans (invR_e5 H1.out H2.out ⟨rfl, H3.out⟩ (by rw [HUF.out, ← HRE.out]; exact H4.out) (by
        have h := HOV.out
        rw [hovr] at h
        rw [HUF.out, ← HRE.out]
        exact of_decide_eq_true h.symm)))
      clear hovr HOV
      go_wp2_with fail
      go_ret2
      exact invs_err HV.out (chain0 B0.out HS.out.e)
    | false =>
    have HYES : Hid (RK = .ok ⟨(k : Int), wk, r, (m : Int), du⟩) := by
      have h := invR_yes (i := k) (f := ⟨false, .slice A3 (digs n).length c3, .slice A4 (digs d).length c4, digs n, digs d⟩) H1.out H2.out ⟨rfl, H3.out⟩ (by rw [HUF.out, ← HRE.out]; exact H4.out) (by
        have h := HOV.out
        rw [hovr] at h
        rw [HUF.out, ← HRE.out]
        exact of_decide_eq_false h.symm)
      show RK = _
      rw [HRK.out, h, HUF.out, ← HRE.out, ← HDU.out]
    clear hovr HOV
    have HGO2 := Lib.hid (HOK.out _ HYES.out)
    have eq := HEQ.out
    have OX := Lib.hid (own_below HO.out HS.out.f)
    have BX := Lib.hid (chain0 B0.out HS.out.e)
    have l0 := Nat.lt_of_lt_of_le L0.out HS.out.e.size
    have lbw := Nat.lt_of_lt_of_le HBL.out.1 BX.out.size
    have lbn := Nat.lt_of_lt_of_le HBL.out.2.1 BX.out.size
    have lbb := Nat.lt_of_lt_of_le HBL.out.2.2 BX.out.size
    have lgx := HS.out.k.lt
    have haw := HAW.out wc BX.out
    have kx := HS.out.cells
    cases zb with
    | true =>
      have HG1 : Hid (invsGo ps bs won net (k + 1) = .ok L) := HGO2.out
      clear HGO2
      go_wp2_with fail
      go_roundw
      case rel => exact ⟨k + 1, L, A, c, hkw, by go_num, rfl, HG1.out, OX.out, HS.out.e⟩
      case measure => simp [intOf]; omega
    | false =>
      have HG1 : Hid (invsGo ps bs won net (k + 1) = .ok (L ++ [⟨(k : Int), wk, r, (m : Int), du⟩])) := HGO2.out
      clear HGO2
      obtain ⟨x, hx⟩ : ∃ x : Inv, x = ⟨(k : Int), wk, r, (m : Int), du⟩ := ⟨_, rfl⟩
      have EX := Lib.hid HS.out.e
      go_wp2_with (at_builtin; refine wpList_append_own _ rfl _ _ 36 rfl w0.heap.size 43 j0 _ 10 80 Tryz.underlying36 hj0 hy0 hy1 hy2 rfl (by decide) (.slice A L.length c) L.length _ rfl (OX.out.alloc _) ⟨wc.heap.size, 0, none⟩ 1 1 (Inv.cells ⟨(k : Int), wk, r, (m : Int), du⟩) rfl rfl (cells_new wc (Inv.cells ⟨(k : Int), wk, r, (m : Int), du⟩) _) (fun u hu => inv_one1 _ u hu) (by unfold maxLen; have := HKL.out; omega) (by have := HKL.out; omega) (by have := EX.out.size; simp; omega) ?_)
      intro v' w4 hown hgr _
      obtain ⟨A5, c5, rfl⟩ := Gn.own_form hown
      have O5 : Hid (w4.ownsRow w0.heap.size 43 10 (.slice A5 (L ++ [(⟨(k : Int), wk, r, (m : Int), du⟩ : Inv)]).length c5) (L ++ [(⟨(k : Int), wk, r, (m : Int), du⟩ : Inv)]).length ((L ++ [(⟨(k : Int), wk, r, (m : Int), du⟩ : Inv)]).flatMap Inv.cells)) := by show World.ownsRow _ _ _ _ _ _ _; rw [inv_flat, List.length_append]; exact hown
      have E5 : Hid (Below w0.heap.size w0 w4) := (EX.out.alloc EX.out.size _).grown hgr (by have := EX.out.size; simp; omega) (fun q hq => (OX.out.lt q hq).1)
      clear hown hgr
      go_wp2_with fail
      go_roundw
      case rel => exact ⟨k + 1, L ++ [(⟨(k : Int), wk, r, (m : Int), du⟩ : Inv)], A5, c5, hkw, by go_num, (by rw [List.length_append]; rfl), HG1.out, O5.out, E5.out⟩
      case measure => simp [intOf]; omega
end Go.Proofs.YthehchdonmmpaaaGreatDoor.St
