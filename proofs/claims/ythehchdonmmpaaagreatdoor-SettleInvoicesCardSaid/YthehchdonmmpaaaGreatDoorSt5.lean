/- Contract of settle.Invoices. Printed by gen_st5.py. -/
import Derived.Test.YthehchdonmmpaaaGreatDoorSt4
import Derived.Test.YthehchdonmmpaaaGreatDoorRos2
import Derived.Deep.RegionHeld3
namespace Go.Proofs.YthehchdonmmpaaaGreatDoor.St
open Go.ChangeShapes Go.WideShapes Go.ChangeAt Go.RowKit Gn Cat Lex Pr Ros Fr
set_option linter.unusedVariables false
set_option linter.unusedSimpArgs false
/-- a sale as the call gets it -/
structure SaleP (w : World) (v1 v2 : Value) (ps : List Prod) (bs : List Bid) : Prop where
  set : SetP w v1 ps
  sl : BidS w v2 bs
  len : bs.length ≤ 5000
  names : ∀ p ∈ bs, p.name.size ≤ maxLen
theorem SaleP.keep {w w' : World} {v1 v2 : Value} {ps : List Prod} {bs : List Bid} (h : SaleP w v1 v2 ps bs) (b : Below w.heap.size w w') : SaleP w' v1 v2 ps bs := ⟨h.set.keep b, h.sl.keep b, h.len, h.names⟩
theorem bun_at {w : World} {b o : Nat} {l : List (Nat → Int)} (h : Row w b o (l.flatMap bunCells)) (k : Nat) (hk : k < l.length) : w.cell? ⟨b, o + k * 6, none⟩ = some (.int .i64 (l[k] 0)) ∧ w.cell? ⟨b, o + k * 6 + 1, none⟩ = some (.int .i64 (l[k] 1)) ∧ w.cell? ⟨b, o + k * 6 + 2, none⟩ = some (.int .i64 (l[k] 2)) ∧ w.cell? ⟨b, o + k * 6 + 3, none⟩ = some (.int .i64 (l[k] 3)) ∧ w.cell? ⟨b, o + k * 6 + 4, none⟩ = some (.int .i64 (l[k] 4)) ∧ w.cell? ⟨b, o + k * 6 + 5, none⟩ = some (.int .i64 (l[k] 5)) :=
  ⟨h.elem0 bun_len k hk (by omega) _ rfl, h.elem bun_len k hk 1 (by omega) _ rfl, h.elem bun_len k hk 2 (by omega) _ rfl, h.elem bun_len k hk 3 (by omega) _ rfl, h.elem bun_len k hk 4 (by omega) _ rfl, h.elem bun_len k hk 5 (by omega) _ rfl⟩
theorem frc_at {w : World} {b o : Nat} {l : List Frc} (h : Row w b o (l.flatMap Frc.cells)) (k : Nat) (hk : k < l.length) : w.cell? ⟨b, o + k * 3, none⟩ = some (.bool l[k].neg) ∧ w.cell? ⟨b, o + k * 3 + 1, none⟩ = some l[k].v1 ∧ w.cell? ⟨b, o + k * 3 + 2, none⟩ = some l[k].v2 :=
  ⟨h.elem0 frc_len k hk (by omega) _ rfl, h.elem frc_len k hk 1 (by omega) _ rfl, h.elem frc_len k hk 2 (by omega) _ rfl⟩
theorem setup_cells (w : World) (t : TypeId) (a b c d : Value) : ∀ W, Below (w.alloc (.cells #[a, b, c, d] t)).heap.size (w.alloc (.cells #[a, b, c, d] t)) W → W.cell? ⟨w.heap.size, 0, none⟩ = some a ∧ W.cell? ⟨w.heap.size, 1, none⟩ = some b ∧ W.cell? ⟨w.heap.size, 2, none⟩ = some c ∧ W.cell? ⟨w.heap.size, 3, none⟩ = some d := fun W bw =>
  have K := (Blk.new w t #[a, b, c, d]).below' bw
  ⟨K.cell 0, K.cell 1, K.cell 2, K.cell 3⟩
def okI : Except Int (List Inv) → List Inv
  | .ok L => L
  | .error _ => []
def erI : Except Int (List Inv) → Int
  | .ok _ => 0
  | .error x => x
def InvsPost (R : Except Int (List Inv)) (w : World) (e : Ending) (w' : World) : Prop := ∃ v', e = .returned (.tuple #[v', .int .i64 (erI R)]) ∧ InvS w' v' (okI R) ∧ Below w.heap.size w w'
theorem invs_err {R : Except Int (List Inv)} {c : Int} {w w' : World} (h : R = .error c) (b : Below w.heap.size w w') : InvsPost R w (.returned (.tuple #[.slice none 0 0, .int .i64 c])) w' := by subst h; exact ⟨_, rfl, Sl.nil w' 10, b⟩
theorem sinv_info : (Tryz.prog.info? 42).map (fun i => (i.zero, i.size, i.bytes)) = some (some (.agg #[.int .i64 0, .int .i64 0, .int .i64 0, .int .i64 0, .int .i64 0, .int .i64 0, .int .i64 0, .int .i64 0, .int .i64 0, .int .i64 0]), 10, 80) := by kernel_rfl
theorem inv_one1 (x : Inv) : ∀ u ∈ x.cells, u.oneCell' = true := fun u hu => by
  simp only [Inv.cells, List.mem_cons, List.not_mem_nil, or_false] at hu
  rcases hu with h | h | h | h | h | h | h | h | h | h <;> (subst h; rfl)
theorem inv_flat (L : List Inv) (x : Inv) : (L ++ [x]).flatMap Inv.cells = L.flatMap Inv.cells ++ x.cells := by rw [List.flatMap_append]; simp
set_option maxHeartbeats 8000000 in
set_option maxRecDepth 100000 in
theorem invoices_any (ps : List Prod) (bs : List Bid) (won : List (Nat → Int)) (net : List Frc) (A1 A2 : Option Addr) (c1 c2 : Nat) (v3 v4 vw vn : Value) (w : World) (hs : SaleP w (.slice A1 ps.length c1) (.slice A2 bs.length c2) ps bs) (hw : BunS w vw won) (hn : FrcS w vn net) (hf : FrcOk w net) (hl : ∀ f ∈ net, f.num.length ≤ 1000 ∧ f.den.length ≤ 1000) (hwl : won.length ≤ 100) (hnl : net.length ≤ 100) :
    Calls Tryz.prog 6 #[.agg #[.slice A1 ps.length c1, .slice A2 bs.length c2, v3, v4], vw, vn] w (InvsPost (invsR ps bs won net) w) := by
  obtain ⟨Aw, cw, rfl, _, _, hwr⟩ := sl_parts hw
  obtain ⟨An, cn, rfl, _, _, hnr⟩ := sl_parts hn
  have CC : Hid (∀ W, Below w.heap.size w W → Calls Tryz.prog 12 #[.slice A1 ps.length c1] W fun e w' => e = .returned (.int .i64 (checkE ps)) ∧ Below W.heap.size W w') := fun W b => Cat.check_any ps (.slice A1 ps.length c1) W hs.set.len (hs.set.sl.keep b) hs.set.names
  have CT : Hid (∀ W, Below w.heap.size w W → Calls Tryz.prog 13 #[.slice A2 bs.length c2] W fun e w' => e = .returned (.int .i64 (rosE bs)) ∧ Below W.heap.size W w') := fun W b => Ros.check_any bs (.slice A2 bs.length c2) W hs.len (hs.sl.keep b) hs.names
  have CI := Lib.hid (fun k (hk : k < bs.length) wk (f : Frc) A3 A4 c3 c4 (e1 : f.v1 = .slice A3 f.num.length c3) (e2 : f.v2 = .slice A4 f.den.length c4) (hfm : f ∈ net) W (b : Below w.heap.size w W) => invoice_any ps bs A1 A2 A3 A4 c1 c2 c3 c4 v3 v4 k hk wk f.neg f.num f.den W (hs.set.keep b) (hs.sl.keep b) hs.len (hl f hfm).1 (hl f hfm).2 (hf f hfm).2.2.1 (hf f hfm).2.2.2 (by rw [← e1]; exact (hf f hfm).1.keep b) (by rw [← e2]; exact (hf f hfm).2.1.keep b))
  have HFM := Lib.hid (fun k (hk : k < net.length) => hf _ (List.getElem_mem hk))
  have HWR : Hid (∀ W, Below w.heap.size w W → ∀ k (hk : k < won.length), ∃ b o, Aw = some ⟨b, o, none⟩ ∧ b < w.heap.size ∧ W.cell? ⟨b, o + k * 6, none⟩ = some (.int .i64 (won[k] 0)) ∧ W.cell? ⟨b, o + k * 6 + 1, none⟩ = some (.int .i64 (won[k] 1)) ∧ W.cell? ⟨b, o + k * 6 + 2, none⟩ = some (.int .i64 (won[k] 2)) ∧ W.cell? ⟨b, o + k * 6 + 3, none⟩ = some (.int .i64 (won[k] 3)) ∧ W.cell? ⟨b, o + k * 6 + 4, none⟩ = some (.int .i64 (won[k] 4)) ∧ W.cell? ⟨b, o + k * 6 + 5, none⟩ = some (.int .i64 (won[k] 5))) := fun W bw k hk => by
    obtain ⟨b, o, e, hb, hr⟩ := hwr (by omega)
    exact ⟨b, o, e, hb, bun_at (hr.below hb bw) k hk⟩
  have HNR : Hid (∀ W, Below w.heap.size w W → ∀ k (hk : k < net.length), ∃ b o, An = some ⟨b, o, none⟩ ∧ b < w.heap.size ∧ W.cell? ⟨b, o + k * 3, none⟩ = some (.bool net[k].neg) ∧ W.cell? ⟨b, o + k * 3 + 1, none⟩ = some net[k].v1 ∧ W.cell? ⟨b, o + k * 3 + 2, none⟩ = some net[k].v2) := fun W bw k hk => by
    obtain ⟨b, o, e, hb, hr⟩ := hnr (by omega)
    exact ⟨b, o, e, hb, frc_at (hr.below hb bw) k hk⟩
  have b0 := below_new w (.cells #[.slice A1 ps.length c1, .slice A2 bs.length c2, v3, v4] 27)
  have HAT := Lib.hid (setup_cells w 27 (.slice A1 ps.length c1) (.slice A2 bs.length c2) v3 v4)
  obtain ⟨w0, hw0⟩ : ∃ W, W = w.alloc (.cells #[.slice A1 ps.length c1, .slice A2 bs.length c2, v3, v4] 27) := ⟨_, rfl⟩
  have HW0 := Lib.hid hw0.symm
  rw [← hw0] at HAT b0
  have B0 := Lib.hid b0
  have L0 : Hid (w.heap.size < w0.heap.size) := by show _ < _; rw [hw0, World.size_alloc]; omega
  clear hw0 b0
  obtain ⟨RR, hRR⟩ : ∃ x, x = invsR ps bs won net := ⟨_, rfl⟩
  have HRR : Hid (RR = if checkE ps ≠ 0 then .error (checkE ps) else if rosE bs ≠ 0 then .error (rosE bs) else if won.length ≠ bs.length ∨ net.length ≠ bs.length then .error 3 else invsGo ps bs won net bs.length) := hRR
  rw [← hRR]
  have HLN := Lib.hid (fun h => (rosE_zero (l := bs) h).2.1)
  clear hRR hs hw hn hf hl hwr hnr
  have hbl : bs.length ≤ 5000 ∨ True := .inr trivial
  clear hbl
  by_cases hz : checkE ps = 0
  case neg =>
    have HV : Hid (RR = .error (checkE ps)) := by show RR = _; rw [HRR.out, if_pos hz]
    have q : (checkE ps != 0) = true := by simpa using hz
    clear HRR CI CT
    generalize checkE ps = e0 at *
    go_enter Tryz.func6, Tryz.ntmps6
    go_upto_region 1 with fail
    rw [HW0.out]
    have E0 := Lib.hid (Below.refl w0.heap.size w0)
    have hat := HAT.out w0 E0.out
    have l0 := L0.out
    go_wp2_with fail
    clear hat l0
    refine (CC.out w0 B0.out).mono ?_
    rintro e w1 ⟨rfl, d1⟩
    have E1 := Lib.hid (chain0 E0.out d1)
    have B1 := Lib.hid (chain0 B0.out E1.out)
    have hat := HAT.out w1 E1.out
    have l0 := Nat.lt_of_lt_of_le L0.out E1.out.size
    clear d1
    go_wp2_with fail
    clear hat l0
    go_ret2
    exact invs_err HV.out B1.out
  rw [hz] at CC
  replace HRR := Lib.hid (HRR.out.trans (if_neg (fun h => h hz)))
  by_cases ht : rosE bs = 0
  case neg =>
    have HV : Hid (RR = .error (rosE bs)) := by show RR = _; rw [HRR.out, if_pos ht]
    have q : (rosE bs != 0) = true := by simpa using ht
    clear HRR CI
    generalize rosE bs = e0 at *
    go_enter Tryz.func6, Tryz.ntmps6
    go_upto_region 1 with fail
    rw [HW0.out]
    have E0 := Lib.hid (Below.refl w0.heap.size w0)
    have hat := HAT.out w0 E0.out
    have l0 := L0.out
    go_wp2_with fail
    clear hat l0
    refine (CC.out w0 B0.out).mono ?_
    rintro e w1 ⟨rfl, d1⟩
    have E1 := Lib.hid (chain0 E0.out d1)
    have B1 := Lib.hid (chain0 B0.out E1.out)
    have hat := HAT.out w1 E1.out
    have l0 := Nat.lt_of_lt_of_le L0.out E1.out.size
    clear d1
    go_wp2_with fail
    clear hat l0
    refine (CT.out w1 B1.out).mono ?_
    rintro e w2 ⟨rfl, d2⟩
    have E2 := Lib.hid (chain0 E1.out d2)
    have B2 := Lib.hid (chain0 B0.out E2.out)
    have hat := HAT.out w2 E2.out
    have l0 := Nat.lt_of_lt_of_le L0.out E2.out.size
    clear d2
    go_wp2_with fail
    clear hat l0
    go_ret2
    exact invs_err HV.out B2.out
  have hb8 := HLN.out ht
  rw [ht] at CT
  replace HRR := Lib.hid (HRR.out.trans (if_neg (fun h => h ht)))
  by_cases hw1 : won.length = bs.length
  case neg =>
    have HV : Hid (RR = .error 3) := by show RR = _; rw [HRR.out, if_pos (.inl hw1)]
    have q : ((won.length : Int) != (bs.length : Int)) = true := by simp; omega
    clear HRR CI hw1 HWR HNR HFM HLN hwl hnl
    generalize won.length = nw at *
    generalize bs.length = nb at *
    go_enter Tryz.func6, Tryz.ntmps6
    go_upto_region 1 with fail
    rw [HW0.out]
    have E0 := Lib.hid (Below.refl w0.heap.size w0)
    have hat := HAT.out w0 E0.out
    have l0 := L0.out
    go_wp2_with fail
    clear hat l0
    refine (CC.out w0 B0.out).mono ?_
    rintro e w1 ⟨rfl, d1⟩
    have E1 := Lib.hid (chain0 E0.out d1)
    have B1 := Lib.hid (chain0 B0.out E1.out)
    have hat := HAT.out w1 E1.out
    have l0 := Nat.lt_of_lt_of_le L0.out E1.out.size
    clear d1
    go_wp2_with fail
    clear hat l0
    refine (CT.out w1 B1.out).mono ?_
    rintro e w2 ⟨rfl, d2⟩
    have E2 := Lib.hid (chain0 E1.out d2)
    have B2 := Lib.hid (chain0 B0.out E2.out)
    have hat := HAT.out w2 E2.out
    have l0 := Nat.lt_of_lt_of_le L0.out E2.out.size
    clear d2
    go_wp2_with fail
    clear hat l0
    go_ret2
    exact invs_err HV.out B2.out
  by_cases hn1 : net.length = bs.length
  case neg =>
    have HV : Hid (RR = .error 3) := by show RR = _; rw [HRR.out, if_pos (.inr hn1)]
    have q0 : ((won.length : Int) != (bs.length : Int)) = false := by simp; omega
    have q : ((net.length : Int) != (bs.length : Int)) = true := by simp; omega
    clear HRR CI hw1 hn1 HWR HNR HFM HLN hwl hnl
    generalize won.length = nw at *
    generalize bs.length = nb at *
    generalize net.length = nn at *
    go_enter Tryz.func6, Tryz.ntmps6
    go_upto_region 1 with fail
    rw [HW0.out]
    have E0 := Lib.hid (Below.refl w0.heap.size w0)
    have hat := HAT.out w0 E0.out
    have l0 := L0.out
    go_wp2_with fail
    clear hat l0
    refine (CC.out w0 B0.out).mono ?_
    rintro e w1 ⟨rfl, d1⟩
    have E1 := Lib.hid (chain0 E0.out d1)
    have B1 := Lib.hid (chain0 B0.out E1.out)
    have hat := HAT.out w1 E1.out
    have l0 := Nat.lt_of_lt_of_le L0.out E1.out.size
    clear d1
    go_wp2_with fail
    clear hat l0
    refine (CT.out w1 B1.out).mono ?_
    rintro e w2 ⟨rfl, d2⟩
    have E2 := Lib.hid (chain0 E1.out d2)
    have B2 := Lib.hid (chain0 B0.out E2.out)
    have hat := HAT.out w2 E2.out
    have l0 := Nat.lt_of_lt_of_le L0.out E2.out.size
    clear d2
    go_wp2_with fail
    clear hat l0
    go_ret2
    exact invs_err HV.out B2.out
  replace HRR := Lib.hid (HRR.out.trans (if_neg (fun h => h.elim (fun h => h hw1) (fun h => h hn1))))
  have HWL : Hid (won.length = bs.length ∧ net.length = bs.length ∧ bs.length ≤ 8) := ⟨hw1, hn1, hb8⟩
  have q0 : ((won.length : Int) != (bs.length : Int)) = false := by simp; omega
  have q1 : ((net.length : Int) != (bs.length : Int)) = false := by simp; omega
  obtain ⟨j0, hj0, hy0, hy1, hy2⟩ := info_parts sinv_info
  have HER := Lib.hid (fun k e (h : invsGo ps bs won net k = .error e) (hk : k ≤ bs.length) => (HRR.out.trans (invsGo_err h bs.length hk)))
  have HST := Lib.hid (fun k L (h : invsGo ps bs won net k = .ok L) => invsGo_step h)
  have HLE := Lib.hid (fun k L (h : invsGo ps bs won net k = .ok L) => invsGo_len h)
  have HGA : Hid (∀ k (h1 : k < bs.length) (h2 : k < won.length) (h3 : k < net.length), invAt ps bs won net k = invR ps bs[k].budget k won[k] net[k]) := fun k h1 h2 h3 => by
    unfold invAt
    simp [List.getD, h1, h2, h3]
  have HGW : Hid (∀ k (h2 : k < won.length), won.getD k zero6 = won[k]) := fun k h2 => by simp [List.getD, h2]
  clear hz ht hw1 hn1 hb8
  go_enter Tryz.func6, Tryz.ntmps6
  go_upto_region 1 with fail
  rw [HW0.out]
  have E0 := Lib.hid (Below.refl w0.heap.size w0)
  have hat := HAT.out w0 E0.out
  have l0 := L0.out
  go_wp2_with fail
  clear hat l0
  refine (CC.out w0 B0.out).mono ?_
  rintro e w1 ⟨rfl, d1⟩
  have E1 := Lib.hid (chain0 E0.out d1)
  have B1 := Lib.hid (chain0 B0.out E1.out)
  have hat := HAT.out w1 E1.out
  have l0 := Nat.lt_of_lt_of_le L0.out E1.out.size
  clear d1
  go_wp2_with fail
  clear hat l0
  refine (CT.out w1 B1.out).mono ?_
  rintro e w2 ⟨rfl, d2⟩
  have E2 := Lib.hid (chain0 E1.out d2)
  have B2 := Lib.hid (chain0 B0.out E2.out)
  have hat := HAT.out w2 E2.out
  have l0 := Nat.lt_of_lt_of_le L0.out E2.out.size
  clear d2
  go_wp2_with fail
  clear hat l0
  clear CC CT
  go_loopw [43, 10] (fun iv ov wr => ∃ (k : Nat) (L : List Inv) (A : Option Addr) (c : Nat), k ≤ bs.length ∧ iv = .int .i64 (k : Int) ∧ ov = .slice A L.length c ∧ Hid (invsGo ps bs won net k = .ok L) ∧ Hid (wr.ownsRow w0.heap.size 42 10 (.slice A L.length c) L.length (L.flatMap Inv.cells)) ∧ Hid (Below w0.heap.size w0 wr)) (fun iv _ _ => bs.length - (intOf iv).toNat)
  case atStart => exact ⟨0, [], none, 0, Nat.zero_le _, rfl, rfl, rfl, World.ownsRow_nil _ _ _ _, E2.out⟩
  case round =>
    obtain ⟨k, L, A, c, hk, rfl, rfl, HGO, HO, HE⟩ := hrel
    have hk0 : (0 : Int) ≤ (k : Int) := by omega
    have hk5 : (k : Int) ≤ 8 := by have := HWL.out; omega
    have HB := Lib.hid (chain0 B0.out HE.out)
    by_cases hkn : k < bs.length
    · have hd2 : decide ((k : Int) < (bs.length : Int)) = true := decide_eq_true (by omega)
      have hkw : k < won.length := by have := HWL.out; omega
      have hkf : k < net.length := by have := HWL.out; omega
      have hkw1 : (k : Int) < (won.length : Int) := by omega
      have hkf1 : (k : Int) < (net.length : Int) := by omega
      obtain ⟨bw, ow, eW, hbw, _⟩ := HWR.out _ HB.out k hkw
      obtain ⟨bn, on, eN, hbn, _⟩ := HNR.out _ HB.out k hkf
      subst eW eN
      have HAW : Hid (∀ W, Below w.heap.size w W → W.cell? ⟨bw, ow + k * 6, none⟩ = some (.int .i64 (won[k] 0)) ∧ W.cell? ⟨bw, ow + k * 6 + 1, none⟩ = some (.int .i64 (won[k] 1)) ∧ W.cell? ⟨bw, ow + k * 6 + 2, none⟩ = some (.int .i64 (won[k] 2)) ∧ W.cell? ⟨bw, ow + k * 6 + 3, none⟩ = some (.int .i64 (won[k] 3)) ∧ W.cell? ⟨bw, ow + k * 6 + 4, none⟩ = some (.int .i64 (won[k] 4)) ∧ W.cell? ⟨bw, ow + k * 6 + 5, none⟩ = some (.int .i64 (won[k] 5))) := fun W bww => by
        obtain ⟨b', o', e, _, h⟩ := HWR.out W bww k hkw
        injection e with e; injection e with e1 e2 e3
        subst e1 e2; exact h
      have HAN : Hid (∀ W, Below w.heap.size w W → W.cell? ⟨bn, on + k * 3, none⟩ = some (.bool net[k].neg) ∧ W.cell? ⟨bn, on + k * 3 + 1, none⟩ = some net[k].v1 ∧ W.cell? ⟨bn, on + k * 3 + 2, none⟩ = some net[k].v2) := fun W bww => by
        obtain ⟨b', o', e, _, h⟩ := HNR.out W bww k hkf
        injection e with e; injection e with e1 e2 e3
        subst e1 e2; exact h
      have hfm := HFM.out k hkf
      obtain ⟨A3, c3, ev1, _⟩ := ns_cases hfm.1
      obtain ⟨A4, c4, ev2, _⟩ := ns_cases hfm.2.1
      have CK := Lib.hid (CI.out k hkn won[k] net[k] A3 A4 c3 c4 ev1 ev2 (List.getElem_mem hkf))
      have hst := HST.out k L HGO.out
      rw [HGA.out k hkn hkw hkf, HGW.out k hkw] at hst
      have hll := HLE.out k L HGO.out
      have HEQ := Lib.hid (fun W => eq27 won[k] zero6 W)
      have HEK := HER.out (k + 1)
      generalize won[k] = wk at *
      generalize hnk : net[k] = f at *
      generalize bs[k].budget = bd at *
      clear hnk hfm
      obtain ⟨neg, fv1, fv2, l1, l2⟩ := f
      dsimp only at ev1 ev2 HAN CK hst
      subst ev1 ev2
      obtain ⟨RK, hRK⟩ : ∃ x, x = invR ps bd k wk ⟨neg, .slice A3 l1.length c3, .slice A4 l2.length c4, l1, l2⟩ := ⟨_, rfl⟩
      rw [← hRK] at CK hst
      have HNE5 := Lib.hid (fun e (h : RK = .error e) => invR_ne (hRK.symm.trans h))
      clear hRK
      have HKL : Hid (L.length ≤ k ∧ k ≤ 8) := ⟨hll, by have := HWL.out; omega⟩
      have hbwl : bw < wr.heap.size := Nat.lt_of_lt_of_le hbw HB.out.size
      have hbnl : bn < wr.heap.size := Nat.lt_of_lt_of_le hbn HB.out.size
      have l0 := Nat.lt_of_lt_of_le L0.out HE.out.size
      unfold OnePost at CK
      unfold arr zero6 at HEQ
      clear hll
      cases RK with
      | error e5 =>
        have HV := Lib.hid (HEK e5 hst (by omega))
        have ne5 := HNE5.out e5 rfl
        have q5 : (e5 != 0) = true := by simpa using ne5
        have CK2 : Hid (∀ W, Below w.heap.size w W → Calls Tryz.prog 14 #[.agg #[.slice A1 ps.length c1, .slice A2 bs.length c2, v3, v4], .int .i64 (k : Int), .agg #[.int .i64 (wk 0), .int .i64 (wk 1), .int .i64 (wk 2), .int .i64 (wk 3), .int .i64 (wk 4), .int .i64 (wk 5)], .agg #[.bool neg, .slice A3 l1.length c3, .slice A4 l2.length c4]] W fun e w' => e = .returned (.tuple #[.agg zero10, .int .i64 e5]) ∧ Below W.heap.size W w') := CK.out
        replace CK := CK2
        clear CK2
        have hat := HAT.out wr HE.out
        have haw := HAW.out wr HB.out
        have han := HAN.out wr HB.out
        have ED := Lib.hid HE.out.drew
        have FD := Lib.hid ((Below.refl wr.heap.size wr).drew)
        have EA := Lib.hid (HE.out.alloc HE.out.size (.cells zero10 42)).drew
        have FA := Lib.hid (below_new wr (.cells zero10 42)).drew
        have KA := Lib.hid (Blk.new wr 42 zero10).drew
        go_wp2_with fail
        clear hat haw han
        go_region_held3 (fun w' => (w'.cell? ⟨w.heap.size, 0, none⟩ = some (.slice A1 ps.length c1) ∧ w'.cell? ⟨w.heap.size, 1, none⟩ = some (.slice A2 bs.length c2) ∧ w'.cell? ⟨w.heap.size, 2, none⟩ = some v3 ∧ w'.cell? ⟨w.heap.size, 3, none⟩ = some v4) ∧ (w'.cell? ⟨bw, ow + k * 6, none⟩ = some (.int .i64 (wk 0)) ∧ w'.cell? ⟨bw, ow + k * 6 + 1, none⟩ = some (.int .i64 (wk 1)) ∧ w'.cell? ⟨bw, ow + k * 6 + 2, none⟩ = some (.int .i64 (wk 2)) ∧ w'.cell? ⟨bw, ow + k * 6 + 3, none⟩ = some (.int .i64 (wk 3)) ∧ w'.cell? ⟨bw, ow + k * 6 + 4, none⟩ = some (.int .i64 (wk 4)) ∧ w'.cell? ⟨bw, ow + k * 6 + 5, none⟩ = some (.int .i64 (wk 5))) ∧ w'.cell? ⟨bn, on + k * 3, none⟩ = some (.bool neg) ∧ w'.cell? ⟨bn, on + k * 3 + 1, none⟩ = some (.slice A3 l1.length c3) ∧ w'.cell? ⟨bn, on + k * 3 + 2, none⟩ = some (.slice A4 l2.length c4)) (first | with_reducible exact ⟨HAT.out _ ED.out, HAW.out _ (chain0 B0.out ED.out), HAN.out _ (chain0 B0.out ED.out)⟩ | with_reducible exact ⟨HAT.out _ EA.out, HAW.out _ (chain0 B0.out EA.out), HAN.out _ (chain0 B0.out EA.out)⟩ | with_reducible exact ⟨HAT.out _ (ED.out.alloc ED.out.size _), HAW.out _ (chain0 B0.out (ED.out.alloc ED.out.size _)), HAN.out _ (chain0 B0.out (ED.out.alloc ED.out.size _))⟩ | with_reducible exact ⟨HAT.out _ (below10 ED.out HE.out.size _ _ _ _ _ _ _ _ _ _), HAW.out _ (chain0 B0.out (below10 ED.out HE.out.size _ _ _ _ _ _ _ _ _ _)), HAN.out _ (chain0 B0.out (below10 ED.out HE.out.size _ _ _ _ _ _ _ _ _ _))⟩ | go_keep) (first
          | (go_at_call 14; with_reducible refine (CK.out wr.drew (chain0 B0.out ED.out)).mono ?_; rintro e w9 ⟨rfl, dd⟩; replace ED := Lib.hid (chain0 ED.out dd); replace FD := Lib.hid (chain0 FD.out dd); clear dd)
          | (go_at_call 14; with_reducible refine (CK.out (wr.alloc (.cells zero10 42)).drew (chain0 B0.out EA.out)).mono ?_; rintro e w9 ⟨rfl, dd⟩; replace ED := Lib.hid (chain0 EA.out dd); replace FD := Lib.hid (chain0 FA.out dd); have KZ := Lib.hid (KA.out.below' dd); have zc := zero_cells KZ.out; have zf := KZ.out.free; have zl := KZ.out.lt; clear dd)
          )
        all_goals go_wp2_with fail
        all_goals go_ret2
        all_goals refine invs_err HV.out ?_
        all_goals first
          | with_reducible exact chain0 B0.out (ED.out.alloc ED.out.size _)
          | with_reducible exact chain0 B0.out (below10 ED.out HE.out.size _ _ _ _ _ _ _ _ _ _)
          | with_reducible exact chain0 B0.out ED.out
      | ok x =>
        have CK2 : Hid (∀ W, Below w.heap.size w W → Calls Tryz.prog 14 #[.agg #[.slice A1 ps.length c1, .slice A2 bs.length c2, v3, v4], .int .i64 (k : Int), .agg #[.int .i64 (wk 0), .int .i64 (wk 1), .int .i64 (wk 2), .int .i64 (wk 3), .int .i64 (wk 4), .int .i64 (wk 5)], .agg #[.bool neg, .slice A3 l1.length c3, .slice A4 l2.length c4]] W fun e w' => e = .returned (.tuple #[.agg (invA x), .int .i64 0]) ∧ Below W.heap.size W w') := CK.out
        replace CK := CK2
        clear CK2
        have hat := HAT.out wr HE.out
        have haw := HAW.out wr HB.out
        have han := HAN.out wr HB.out
        have ED := Lib.hid HE.out.drew
        have FD := Lib.hid ((Below.refl wr.heap.size wr).drew)
        have EA := Lib.hid (HE.out.alloc HE.out.size (.cells zero10 42)).drew
        have FA := Lib.hid (below_new wr (.cells zero10 42)).drew
        have KA := Lib.hid (Blk.new wr 42 zero10).drew
        go_wp2_with fail
        clear hat haw han
        go_region_held3 (fun w' => (w'.cell? ⟨w.heap.size, 0, none⟩ = some (.slice A1 ps.length c1) ∧ w'.cell? ⟨w.heap.size, 1, none⟩ = some (.slice A2 bs.length c2) ∧ w'.cell? ⟨w.heap.size, 2, none⟩ = some v3 ∧ w'.cell? ⟨w.heap.size, 3, none⟩ = some v4) ∧ (w'.cell? ⟨bw, ow + k * 6, none⟩ = some (.int .i64 (wk 0)) ∧ w'.cell? ⟨bw, ow + k * 6 + 1, none⟩ = some (.int .i64 (wk 1)) ∧ w'.cell? ⟨bw, ow + k * 6 + 2, none⟩ = some (.int .i64 (wk 2)) ∧ w'.cell? ⟨bw, ow + k * 6 + 3, none⟩ = some (.int .i64 (wk 3)) ∧ w'.cell? ⟨bw, ow + k * 6 + 4, none⟩ = some (.int .i64 (wk 4)) ∧ w'.cell? ⟨bw, ow + k * 6 + 5, none⟩ = some (.int .i64 (wk 5))) ∧ w'.cell? ⟨bn, on + k * 3, none⟩ = some (.bool neg) ∧ w'.cell? ⟨bn, on + k * 3 + 1, none⟩ = some (.slice A3 l1.length c3) ∧ w'.cell? ⟨bn, on + k * 3 + 2, none⟩ = some (.slice A4 l2.length c4)) (first | with_reducible exact ⟨HAT.out _ ED.out, HAW.out _ (chain0 B0.out ED.out), HAN.out _ (chain0 B0.out ED.out)⟩ | with_reducible exact ⟨HAT.out _ EA.out, HAW.out _ (chain0 B0.out EA.out), HAN.out _ (chain0 B0.out EA.out)⟩ | with_reducible exact ⟨HAT.out _ (ED.out.alloc ED.out.size _), HAW.out _ (chain0 B0.out (ED.out.alloc ED.out.size _)), HAN.out _ (chain0 B0.out (ED.out.alloc ED.out.size _))⟩ | with_reducible exact ⟨HAT.out _ (below10 ED.out HE.out.size _ _ _ _ _ _ _ _ _ _), HAW.out _ (chain0 B0.out (below10 ED.out HE.out.size _ _ _ _ _ _ _ _ _ _)), HAN.out _ (chain0 B0.out (below10 ED.out HE.out.size _ _ _ _ _ _ _ _ _ _))⟩ | go_keep) (first
          | (go_at_call 14; with_reducible refine (CK.out wr.drew (chain0 B0.out ED.out)).mono ?_; rintro e w9 ⟨rfl, dd⟩; replace ED := Lib.hid (chain0 ED.out dd); replace FD := Lib.hid (chain0 FD.out dd); clear dd)
          | (go_at_call 14; with_reducible refine (CK.out (wr.alloc (.cells zero10 42)).drew (chain0 B0.out EA.out)).mono ?_; rintro e w9 ⟨rfl, dd⟩; replace ED := Lib.hid (chain0 EA.out dd); replace FD := Lib.hid (chain0 FA.out dd); have KZ := Lib.hid (KA.out.below' dd); have zc := zero_cells KZ.out; have zf := KZ.out.free; have zl := KZ.out.lt; clear dd)
          )
        · have EX := Lib.hid (ED.out.alloc ED.out.size (.cells (invA x) 42))
          have KX := Lib.hid (Blk.new w9 42 (invA x))
          have FX := Lib.hid (FD.out.alloc FD.out.size (.cells (invA x) 42))
          clear ED FD EA FA KA
          generalize w9.alloc (.cells (invA x) 42) = wx at *
          generalize w9.heap.size = gx at *
          have BX := Lib.hid (chain0 B0.out EX.out)
          have OX := Lib.hid (own_below HO.out FX.out)
          have haw := HAW.out wx BX.out
          have hbwx : bw < wx.heap.size := Nat.lt_of_lt_of_le hbwl FX.out.size
          have ix := inv_cells (x := x) KX.out
          have lgx := KX.out.lt
          have eq := HEQ.out
          obtain ⟨zb, hzb⟩ : ∃ z, z = eq6 wk zero6 := ⟨_, rfl⟩
          unfold zero6 at hzb
          rw [← hzb] at eq
          unfold zero6 at hst
          rw [← hzb] at hst
          have HHS := Lib.hid hst
          clear hst hzb
          cases zb with
          | true =>
            have HG1 : Hid (invsGo ps bs won net (k + 1) = .ok L) := HHS.out
            clear HHS
            go_wp2_with fail
            go_roundw
            case rel => exact ⟨k + 1, L, A, c, hkn, by go_num, rfl, HG1.out, OX.out, EX.out⟩
            case measure => simp [intOf]; omega
          | false =>
            have HG1 : Hid (invsGo ps bs won net (k + 1) = .ok (L ++ [x])) := HHS.out
            clear HHS
            go_wp2_with (at_builtin; refine wpList_append_own _ rfl _ _ 32 rfl w0.heap.size 42 j0 _ 10 80 Tryz.underlying32 hj0 hy0 hy1 hy2 rfl (by decide) (.slice A L.length c) L.length _ rfl (OX.out.alloc _) ⟨wx.heap.size, 0, none⟩ 1 1 x.cells rfl rfl (cells_new wx x.cells _) (fun u hu => inv_one1 x u hu) (by unfold maxLen; have := HKL.out; omega) (by have := HKL.out; omega) (by have := EX.out.size; simp; omega) ?_)
            intro v' w4 hown hgr _
            obtain ⟨A5, c5, rfl⟩ := Gn.own_form hown
            have O5 : Hid (w4.ownsRow w0.heap.size 42 10 (.slice A5 (L ++ [x]).length c5) (L ++ [x]).length ((L ++ [x]).flatMap Inv.cells)) := by show World.ownsRow _ _ _ _ _ _ _; rw [inv_flat, List.length_append]; exact hown
            have E5 : Hid (Below w0.heap.size w0 w4) := (EX.out.alloc EX.out.size _).grown hgr (by have := EX.out.size; simp; omega) (fun q hq => (OX.out.lt q hq).1)
            clear hown hgr
            go_wp2_with fail
            go_roundw
            case rel => exact ⟨k + 1, L ++ [x], A5, c5, hkn, by go_num, (by rw [List.length_append]; rfl), HG1.out, O5.out, E5.out⟩
            case measure => simp [intOf]; omega
        · have EX := Lib.hid (below10 ED.out HE.out.size (.int .i64 x.bidder) (.int .i64 (x.want 0)) (.int .i64 (x.want 1)) (.int .i64 (x.want 2)) (.int .i64 (x.want 3)) (.int .i64 (x.want 4)) (.int .i64 (x.want 5)) (.int .i64 x.reserve) (.int .i64 x.net) (.int .i64 x.due))
          have KX : Hid (Blk ((((((((((w9.setCell ⟨wr.heap.size, 0, none⟩ (.int .i64 x.bidder)).setCell ⟨wr.heap.size, 1, none⟩ (.int .i64 (x.want 0))).setCell ⟨wr.heap.size, 2, none⟩ (.int .i64 (x.want 1))).setCell ⟨wr.heap.size, 3, none⟩ (.int .i64 (x.want 2))).setCell ⟨wr.heap.size, 4, none⟩ (.int .i64 (x.want 3))).setCell ⟨wr.heap.size, 5, none⟩ (.int .i64 (x.want 4))).setCell ⟨wr.heap.size, 6, none⟩ (.int .i64 (x.want 5))).setCell ⟨wr.heap.size, 7, none⟩ (.int .i64 x.reserve)).setCell ⟨wr.heap.size, 8, none⟩ (.int .i64 x.net)).setCell ⟨wr.heap.size, 9, none⟩ (.int .i64 x.due)) wr.heap.size 42 (invA x)) := put10 KZ.out (.int .i64 x.bidder) (.int .i64 (x.want 0)) (.int .i64 (x.want 1)) (.int .i64 (x.want 2)) (.int .i64 (x.want 3)) (.int .i64 (x.want 4)) (.int .i64 (x.want 5)) (.int .i64 x.reserve) (.int .i64 x.net) (.int .i64 x.due)
          have FX := Lib.hid (below10 FD.out (Nat.le_refl _) (.int .i64 x.bidder) (.int .i64 (x.want 0)) (.int .i64 (x.want 1)) (.int .i64 (x.want 2)) (.int .i64 (x.want 3)) (.int .i64 (x.want 4)) (.int .i64 (x.want 5)) (.int .i64 x.reserve) (.int .i64 x.net) (.int .i64 x.due))
          clear ED FD EA FA KA KZ zc zf zl
          generalize ((((((((((w9.setCell ⟨wr.heap.size, 0, none⟩ (.int .i64 x.bidder)).setCell ⟨wr.heap.size, 1, none⟩ (.int .i64 (x.want 0))).setCell ⟨wr.heap.size, 2, none⟩ (.int .i64 (x.want 1))).setCell ⟨wr.heap.size, 3, none⟩ (.int .i64 (x.want 2))).setCell ⟨wr.heap.size, 4, none⟩ (.int .i64 (x.want 3))).setCell ⟨wr.heap.size, 5, none⟩ (.int .i64 (x.want 4))).setCell ⟨wr.heap.size, 6, none⟩ (.int .i64 (x.want 5))).setCell ⟨wr.heap.size, 7, none⟩ (.int .i64 x.reserve)).setCell ⟨wr.heap.size, 8, none⟩ (.int .i64 x.net)).setCell ⟨wr.heap.size, 9, none⟩ (.int .i64 x.due)) = wx at *
          obtain ⟨gx, hgx⟩ : ∃ z, z = wr.heap.size := ⟨_, rfl⟩
          rw [← hgx] at KX
          rw [← hgx]
          clear hgx
          have BX := Lib.hid (chain0 B0.out EX.out)
          have OX := Lib.hid (own_below HO.out FX.out)
          have haw := HAW.out wx BX.out
          have hbwx : bw < wx.heap.size := Nat.lt_of_lt_of_le hbwl FX.out.size
          have ix := inv_cells (x := x) KX.out
          have lgx := KX.out.lt
          have eq := HEQ.out
          obtain ⟨zb, hzb⟩ : ∃ z, z = eq6 wk zero6 := ⟨_, rfl⟩
          unfold zero6 at hzb
          rw [← hzb] at eq
          unfold zero6 at hst
          rw [← hzb] at hst
          have HHS := Lib.hid hst
          clear hst hzb
          cases zb with
          | true =>
            have HG1 : Hid (invsGo ps bs won net (k + 1) = .ok L) := HHS.out
            clear HHS
            go_wp2_with fail
            go_roundw
            case rel => exact ⟨k + 1, L, A, c, hkn, by go_num, rfl, HG1.out, OX.out, EX.out⟩
            case measure => simp [intOf]; omega
          | false =>
            have HG1 : Hid (invsGo ps bs won net (k + 1) = .ok (L ++ [x])) := HHS.out
            clear HHS
            go_wp2_with (at_builtin; refine wpList_append_own _ rfl _ _ 32 rfl w0.heap.size 42 j0 _ 10 80 Tryz.underlying32 hj0 hy0 hy1 hy2 rfl (by decide) (.slice A L.length c) L.length _ rfl (OX.out.alloc _) ⟨wx.heap.size, 0, none⟩ 1 1 x.cells rfl rfl (cells_new wx x.cells _) (fun u hu => inv_one1 x u hu) (by unfold maxLen; have := HKL.out; omega) (by have := HKL.out; omega) (by have := EX.out.size; simp; omega) ?_)
            intro v' w4 hown hgr _
            obtain ⟨A5, c5, rfl⟩ := Gn.own_form hown
            have O5 : Hid (w4.ownsRow w0.heap.size 42 10 (.slice A5 (L ++ [x]).length c5) (L ++ [x]).length ((L ++ [x]).flatMap Inv.cells)) := by show World.ownsRow _ _ _ _ _ _ _; rw [inv_flat, List.length_append]; exact hown
            have E5 : Hid (Below w0.heap.size w0 w4) := (EX.out.alloc EX.out.size _).grown hgr (by have := EX.out.size; simp; omega) (fun q hq => (OX.out.lt q hq).1)
            clear hown hgr
            go_wp2_with fail
            go_roundw
            case rel => exact ⟨k + 1, L ++ [x], A5, c5, hkn, by go_num, (by rw [List.length_append]; rfl), HG1.out, O5.out, E5.out⟩
            case measure => simp [intOf]; omega
    · obtain rfl : k = bs.length := by omega
      have hd2 : decide ((bs.length : Int) < (bs.length : Int)) = false := decide_eq_false (Int.lt_irrefl _)
      have HV : Hid (RR = .ok L) := by show RR = _; rw [HRR.out]; exact HGO.out
      go_wp2_with fail
      go_ret2
      refine ⟨_, by rw [HV.out]; rfl, ?_, HB.out⟩
      rw [HV.out]
      exact Sl.of_own HO.out
end Go.Proofs.YthehchdonmmpaaaGreatDoor.St
