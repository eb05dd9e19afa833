/- Contracts of the reference's reserve, checks. Printed by gen_stpz.py (a turned gen_stp.py). -/
import Derived.Test.YthehchdonmmpaaaGreatDoorSt5
import Derived.Test.YthehchdonmmpaaaGreatDoorPs13
namespace Go.Proofs.YthehchdonmmpaaaGreatDoor.St
open Go.ChangeShapes Go.WideShapes Go.ChangeAt Go.RowKit Gn Cat Lex Pr Ros Fr
set_option linter.unusedVariables false
set_option linter.unusedSimpArgs false
set_option maxHeartbeats 1000000 in
theorem rres_ok (ps : List Prod) (v : Value) (b : Nat → Int) (w : World) (hs : SetP w v ps) (hz : checkE ps = 0) (hv : validB b = true) : Calls Tryz.prog 16 #[v, .agg (arr b)] w fun e w' => e = .returned (.int .i64 (sumE Prod.reserve b ps)) ∧ Below w.heap.size w w' := by
  obtain ⟨A, c, rfl, _, _, ha⟩ := ps_cases hs.sl
  obtain ⟨h0, h6, hg⟩ := checkE_zero hz
  obtain ⟨b1, o1, rfl, _, h1⟩ := ha h0
  have hb1 : b1 < w.heap.size := block_lt_of_cell (h1.at_ 0 h0).1
  have HR := Lib.hid fun w' => h1.below (w' := w') hb1
  have HK := Lib.hid (fun w1 (k : Below (w.alloc (.cells (arr b) 40)).heap.size (w.alloc (.cells (arr b) 40)) w1) => (box_new w b 40).below k (by go_size))
  have HV := Lib.hid (validB_iff.1 hv)
  have HP := Lib.hid (fun p hp => rangeOk_iff.1 (checkGo_range ps 0 hg p hp).1)
  have HS2 := Lib.hid (sw_le (f := Prod.reserve) (b := b) (l := ps) (validB_iff.1 hv) (fun p hp => by have := rangeOk_iff.1 (checkGo_range ps 0 hg p hp).1; omega) h6)
  have HU : Hid (∀ f k, sw f b ps (k + 1) = sw f b ps k + b k * f (ps.getD k Prod.none)) := fun _ _ => rfl
  have HE : Hid (sumE Prod.reserve b ps = sw Prod.reserve b ps ps.length) := if_pos ⟨hz, hv⟩
  rw [HE.out]
  clear h1 hz hv hg hs HE
  have BN := Lib.hid (below_new w (.cells (arr b) 40))
  have K0 := Lib.hid (HK.out _ (Below.refl _ _))
  unfold arr at BN K0
  unfold arr
  go_enter Tryz.func16, Tryz.ntmps16
  go_wp2_with fail
  go_loopw [6, 5] (fun i r wr => ∃ k : Nat, k ≤ ps.length ∧ i = .int .i64 (k : Int) ∧ r = .int .i64 (sw Prod.reserve b ps k) ∧ Hid (Box wr w.heap.size b) ∧ Hid (Below w.heap.size w wr)) (fun i _ _ => ps.length - (intOf i).toNat)
  case atStart => exact ⟨0, by omega, rfl, rfl, K0.out, BN.out⟩
  case round =>
    obtain ⟨k, hk, rfl, rfl, K, B⟩ := hrel
    by_cases hlt : k < ps.length
    · have hd : decide ((k : Int) < (ps.length : Int)) = true := by simp; omega
      have hi0 : (0 : Int) ≤ (k : Int) := by omega
      have hk6 : k < 6 := by omega
      have h6k : (k : Int) < 6 := by omega
      have d6 : decide ((k : Int) < 6) = true := decide_eq_true h6k
      have hl1 : (k : Int) < (ps.length : Int) := by omega
      have hs2 := HS2.out k (by omega)
      have E2 := Lib.hid (HU.out Prod.reserve k)
      rw [getD_prod ps k hlt] at E2
      have hp := HP.out ps[k] (List.getElem_mem hlt)
      have hbb := HV.out k hk6
      have et := (HR.out wr B.out).at_ k hlt
      have hbr : b1 < wr.heap.size := by have := B.out.size; omega
      generalize ps[k] = p at *
      generalize sw Prod.reserve b ps k = s2 at *
      have hbk := K.out.cell k hk6
      have gz := K.out.lt
      have hm0 : 0 ≤ p.reserve * b k := Int.mul_nonneg hp.2.1.1 hbb.1
      have hm1 : p.reserve * b k ≤ 1000000 * 4 := Int.mul_le_mul hp.2.1.2 hbb.2 hbb.1 (by omega)
      have w1 : IntKind.i64.wrap (b k) = b k := IntWalk.i64_in _ (by omega)
      have w2 : IntKind.i64.wrap (p.reserve * b k) = p.reserve * b k := IntWalk.i64_in _ (by omega)
      have w3 : IntKind.i64.wrap (s2 + p.reserve * b k) = s2 + p.reserve * b k := IntWalk.i64_in _ (by omega)
      have F2 : Hid (s2 + p.reserve * b k = sw Prod.reserve b ps (k + 1)) := by show _ = _; rw [E2.out, Int.mul_comm]
      clear hp hbb E2 hm0 hm1
      go_wp2_with fail
      go_quiet (fail)
      go_wp2_with fail
      have B3 : Hid (Below w.heap.size w (wr.drewN nq)) := chain0 B.out (Fr.drewN_below _ _)
      have K3 : Hid (Box (wr.drewN nq) w.heap.size b) := K.out.below (Fr.drewN_below _ _) K.out.lt
      go_roundw
      case rel => exact ⟨k + 1, by omega, by go_num, by rw [F2.out], K3.out, B3.out⟩
      case measure => simp [intOf]; omega
    · obtain rfl : k = ps.length := by omega
      have hd : decide ((ps.length : Int) < (ps.length : Int)) = false := by simp
      go_wp2_with fail
      go_ret
      exact ⟨rfl, B.out⟩
theorem rres_any (ps : List Prod) (v : Value) (b : Nat → Int) (w : World) (hs : SetP w v ps) (hf : rfitsB b ps = true) : Calls Tryz.prog 16 #[v, .agg (arr b)] w fun e w' => e = .returned (.int .i64 (sumE Prod.reserve b ps)) ∧ Below w.heap.size w w' :=
  rres_ok ps v b w hs (by unfold rfitsB at hf; simp at hf; exact hf.1) (by unfold rfitsB fitsB at hf; simp at hf; exact hf.2.1)
/-- the error of the products or of the bidders -/
def chkE (ps : List Prod) (bs : List Bid) : Int := if checkE ps ≠ 0 then checkE ps else rosE bs
theorem chkE_zero {ps : List Prod} {bs : List Bid} : chkE ps bs = 0 ↔ checkE ps = 0 ∧ rosE bs = 0 := by
  unfold chkE
  split <;> omega
theorem rchecks_any (ps : List Prod) (bs : List Bid) (v1 v2 v3 v4 : Value) (w : World) (hs : SaleP w v1 v2 ps bs) : Calls Tryz.prog 15 #[.agg #[v1, v2, v3, v4]] w fun e w' => e = .returned (.int .i64 (chkE ps bs)) ∧ Below w.heap.size w w' := by
  have C1 : Hid (∀ W, Below w.heap.size w W → Calls Tryz.prog 42 #[v1] W fun e w' => e = .returned (.int .i64 (checkE ps)) ∧ Below W.heap.size W w') := fun W b => Cat.rcheck_any ps v1 W hs.set.len (hs.set.sl.keep b) hs.set.names
  have C2 : Hid (∀ W, Below w.heap.size w W → Calls Tryz.prog 43 #[v2] W fun e w' => e = .returned (.int .i64 (rosE bs)) ∧ Below W.heap.size W w') := fun W b => Ros.rcheck_any bs v2 W hs.len (hs.sl.keep b) hs.names
  have B0 := Lib.hid (below_new w (.cells #[v1, v2, v3, v4] 27))
  have HAT := Lib.hid (setup_cells w 27 v1 v2 v3 v4)
  obtain ⟨w0, hw0⟩ : ∃ W, W = w.alloc (.cells #[v1, v2, v3, v4] 27) := ⟨_, rfl⟩
  have HW0 := Lib.hid hw0.symm
  rw [← hw0] at HAT B0
  have L0 : Hid (w.heap.size < w0.heap.size) := by show _ < _; rw [hw0, World.size_alloc]; omega
  have HC : Hid (chkE ps bs = if checkE ps ≠ 0 then checkE ps else rosE bs) := rfl
  generalize chkE ps bs = R at *
  clear hw0 hs
  by_cases hz : checkE ps = 0
  case neg =>
    have HV : Hid (R = checkE ps) := HC.out.trans (if_pos hz)
    have q : (checkE ps != 0) = true := by simpa using hz
    clear HC hz
    generalize checkE ps = e0 at *
    go_enter Tryz.func15, Tryz.ntmps15
    go_upto_region 1 with fail
    rw [HW0.out]
    have hat := HAT.out w0 (Below.refl _ _)
    have l0 := L0.out
    go_wp2_with fail
    refine (C1.out w0 B0.out).mono ?_
    rintro e w1 ⟨rfl, d1⟩
    have B1 := Lib.hid (chain0 B0.out d1)
    clear d1 hat l0
    go_wp2_with fail
    go_ret
    exact ⟨by rw [HV.out]; rfl, B1.out⟩
  have HV : Hid (R = rosE bs) := HC.out.trans (if_neg (fun h => h hz))
  rw [hz] at C1
  clear HC hz
  generalize rosE bs = e0 at *
  go_enter Tryz.func15, Tryz.ntmps15
  go_upto_region 1 with fail
  rw [HW0.out]
  have hat := HAT.out w0 (Below.refl _ _)
  have l0 := L0.out
  go_wp2_with fail
  refine (C1.out w0 B0.out).mono ?_
  rintro e w1 ⟨rfl, d1⟩
  have B1 := Lib.hid (chain0 B0.out d1)
  have hat1 := HAT.out w1 d1
  have l1 := Nat.lt_of_lt_of_le L0.out d1.size
  clear d1 hat l0
  go_wp2_with fail
  refine (C2.out w1 B1.out).mono ?_
  rintro e w2 ⟨rfl, d2⟩
  have B2 := Lib.hid (chain0 B1.out d2)
  clear d2
  go_wp2_with fail
  go_ret
  exact ⟨by rw [HV.out]; rfl, B2.out⟩
end Go.Proofs.YthehchdonmmpaaaGreatDoor.St
