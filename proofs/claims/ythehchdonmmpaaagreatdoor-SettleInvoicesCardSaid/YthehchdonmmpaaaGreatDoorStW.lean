/- Contract of light: what a sale that is light keeps to. Printed by gen_stw.py. -/
import Derived.Test.YthehchdonmmpaaaGreatDoorSt5
namespace Go.Proofs.YthehchdonmmpaaaGreatDoor.St
open Go.ChangeShapes Go.WideShapes Go.ChangeAt Go.RowKit Gn Cat Lex Pr Ros Fr
set_option linter.unusedVariables false
set_option linter.unusedSimpArgs false
def LightP (ps : List Prod) (bs : List Bid) (nw : Nat) (net : List Frc) : Prop := ps.length ≤ 8 ∧ bs.length ≤ 10 ∧ nw ≤ 12 ∧ net.length ≤ 12 ∧ ∀ f ∈ net, f.num.length ≤ 2 ∧ f.den.length ≤ 2
def LightPost (ps : List Prod) (bs : List Bid) (nw : Nat) (net : List Frc) (w : World) (e : Ending) (w' : World) : Prop := ∃ lb, e = .returned (.bool lb) ∧ (lb = true → LightP ps bs nw net) ∧ Below w.heap.size w w'
set_option maxHeartbeats 4000000 in
set_option maxRecDepth 100000 in
theorem light_any (ps : List Prod) (bs : List Bid) (nw : Nat) (net : List Frc) (A1 A2 Aw : Option Addr) (c1 c2 cw : Nat) (v3 v4 vn : Value) (w : World) (hs : PS w (.slice A1 ps.length c1) ps) (hb : BidS w (.slice A2 bs.length c2) bs) (hn : FrcS w vn net) (hf : FrcOk w net) :
    Calls Tryz.prog 4 #[.agg #[.slice A1 ps.length c1, .slice A2 bs.length c2, v3, v4], .slice Aw nw cw, vn] w (LightPost ps bs nw net w) := by
  obtain ⟨An, cn, rfl, _, _, hnr⟩ := sl_parts hn
  have b0 := below_new w (.cells #[.slice A1 ps.length c1, .slice A2 bs.length c2, v3, v4] 27)
  have hat := setup_cells w 27 (.slice A1 ps.length c1) (.slice A2 bs.length c2) v3 v4 _ (Below.refl _ _)
  have HPR : Hid (∀ k (hk : k < ps.length), ∃ b o, A1 = some ⟨b, o, none⟩ ∧ (w.alloc (.cells #[.slice A1 ps.length c1, .slice A2 bs.length c2, v3, v4] 27)).cell? ⟨b, o + k * 5, none⟩ = some (.string ps[k].name)) := fun k hk => by
    obtain ⟨A, c, e, _, _, h⟩ := ps_cases hs
    injection e with e1 e2 e3
    subst e1
    obtain ⟨b, o, e4, hlt, hr⟩ := h (by omega)
    have e5 := ProdRow.at_ (hr.below hlt b0) k hk
    exact ⟨b, o, e4, by first | exact e5.1 | exact e5⟩
  have HBR : Hid (∀ k (hk : k < bs.length), ∃ b o, A2 = some ⟨b, o, none⟩ ∧ (w.alloc (.cells #[.slice A1 ps.length c1, .slice A2 bs.length c2, v3, v4] 27)).cell? ⟨b, o + k * 4, none⟩ = some (.string bs[k].name)) := fun k hk => by
    obtain ⟨A, c, e, _, _, h⟩ := sl_parts hb
    injection e with e1 e2 e3
    subst e1
    obtain ⟨b, o, e4, hlt, hr⟩ := h (by omega)
    exact ⟨b, o, e4, (BidRow.at_ (hr.below hlt b0) k hk).1⟩
  have HNR : Hid (∀ k (hk : k < net.length), ∃ b o A3 c3 A4 c4, An = some ⟨b, o, none⟩ ∧ (w.alloc (.cells #[.slice A1 ps.length c1, .slice A2 bs.length c2, v3, v4] 27)).cell? ⟨b, o + k * 3 + 1, none⟩ = some (.slice A3 net[k].num.length c3) ∧ (w.alloc (.cells #[.slice A1 ps.length c1, .slice A2 bs.length c2, v3, v4] 27)).cell? ⟨b, o + k * 3 + 2, none⟩ = some (.slice A4 net[k].den.length c4)) := fun k hk => by
    obtain ⟨b, o, e4, hlt, hr⟩ := hnr (by omega)
    obtain ⟨x0, x1, x2⟩ := frc_at (hr.below hlt b0) k hk
    have hg := hf _ (List.getElem_mem hk)
    obtain ⟨A3, c3, g3, _⟩ := ns_cases hg.1
    obtain ⟨A4, c4, g4, _⟩ := ns_cases hg.2.1
    rw [g3] at x1
    rw [g4] at x2
    exact ⟨b, o, A3, c3, A4, c4, e4, x1, x2⟩
  have B0 := Lib.hid b0
  have L0 : Hid (w.heap.size < (w.alloc (.cells #[.slice A1 ps.length c1, .slice A2 bs.length c2, v3, v4] 27)).heap.size) := by show _ < _; rw [World.size_alloc]; omega
  obtain ⟨w0, hw0⟩ : ∃ W, W = w.alloc (.cells #[.slice A1 ps.length c1, .slice A2 bs.length c2, v3, v4] 27) := ⟨_, rfl⟩
  have HW0 := Lib.hid hw0.symm
  rw [← hw0] at hat B0 HPR HBR HNR L0
  have l0 := L0.out
  have HLP : Hid (∀ h : LightP ps bs nw net, True) := fun _ => trivial
  clear hw0 hs hb hn hf hnr b0 HLP
  by_cases t0 : 8 < ps.length
  case pos =>
    have d0 : decide ((8 : Int) < (ps.length : Int)) = true := decide_eq_true (by omega)
    have e0 : decide (8 < ps.length) = true := decide_eq_true t0
    clear t0
    go_enter Tryz.func4, Tryz.ntmps4
    go_upto_region 1 with fail
    rw [HW0.out]
    go_wp2_with fail
    go_ret
    exact ⟨false, rfl, (fun h => by cases h), B0.out⟩
  have d0 : decide ((8 : Int) < (ps.length : Int)) = false := decide_eq_false (by omega)
  have e0 : decide (8 < ps.length) = false := decide_eq_false t0
  by_cases t1 : 10 < bs.length
  case pos =>
    have d1 : decide ((10 : Int) < (bs.length : Int)) = true := decide_eq_true (by omega)
    have e1 : decide (10 < bs.length) = true := decide_eq_true t1
    clear t0 t1
    go_enter Tryz.func4, Tryz.ntmps4
    go_upto_region 1 with fail
    rw [HW0.out]
    go_wp2_with fail
    go_ret
    exact ⟨false, rfl, (fun h => by cases h), B0.out⟩
  have d1 : decide ((10 : Int) < (bs.length : Int)) = false := decide_eq_false (by omega)
  have e1 : decide (10 < bs.length) = false := decide_eq_false t1
  by_cases t2 : 12 < nw
  case pos =>
    have d2 : decide ((12 : Int) < (nw : Int)) = true := decide_eq_true (by omega)
    have e2 : decide (12 < nw) = true := decide_eq_true t2
    clear t0 t1 t2
    go_enter Tryz.func4, Tryz.ntmps4
    go_upto_region 1 with fail
    rw [HW0.out]
    go_wp2_with fail
    go_ret
    exact ⟨false, rfl, (fun h => by cases h), B0.out⟩
  have d2 : decide ((12 : Int) < (nw : Int)) = false := decide_eq_false (by omega)
  have e2 : decide (12 < nw) = false := decide_eq_false t2
  by_cases t3 : 12 < net.length
  case pos =>
    have d3 : decide ((12 : Int) < (net.length : Int)) = true := decide_eq_true (by omega)
    have e3 : decide (12 < net.length) = true := decide_eq_true t3
    clear t0 t1 t2 t3
    go_enter Tryz.func4, Tryz.ntmps4
    go_upto_region 1 with fail
    rw [HW0.out]
    go_wp2_with fail
    go_ret
    exact ⟨false, rfl, (fun h => by cases h), B0.out⟩
  have d3 : decide ((12 : Int) < (net.length : Int)) = false := decide_eq_false (by omega)
  have e3 : decide (12 < net.length) = false := decide_eq_false t3
  have HLL : Hid (ps.length ≤ 8 ∧ bs.length ≤ 10 ∧ nw ≤ 12 ∧ net.length ≤ 12) := by show _ ∧ _; omega
  clear t0 t1 t2 t3
  go_enter Tryz.func4, Tryz.ntmps4
  go_upto_region 1 with fail
  rw [HW0.out]
  go_wp2_with fail
  go_loopw [7] (fun iv wr => ∃ k : Nat, k ≤ net.length ∧ iv = .int .i64 (k : Int) ∧ Hid (∀ j (hj : j < net.length), j < k → net[j].num.length ≤ 2 ∧ net[j].den.length ≤ 2) ∧ w0 = wr) (fun iv _ => net.length - (intOf iv).toNat)
  case atStart => exact ⟨0, Nat.zero_le _, rfl, fun j _ h => absurd h (by omega), rfl⟩
  case round =>
    obtain ⟨k, hk, rfl, HF, rfl⟩ := hrel
    have hk0 : (0 : Int) ≤ (k : Int) := by omega
    have hk5 : (k : Int) ≤ 12 := by have := HLL.out; omega
    by_cases hkn : k < net.length
    · have hd2 : decide ((k : Int) < (net.length : Int)) = true := decide_eq_true (by omega)
      have hkn1 : (k : Int) < (net.length : Int) := by omega
      obtain ⟨b, o, A3, c3, A4, c4, eA, x1, x2⟩ := HNR.out k hkn
      subst eA
      obtain ⟨n1, hn1⟩ : ∃ n, n = net[k].num.length := ⟨_, rfl⟩
      obtain ⟨n2, hn2⟩ : ∃ n, n = net[k].den.length := ⟨_, rfl⟩
      rw [← hn1] at x1
      rw [← hn2] at x2
      have HN := Lib.hid (And.intro hn1 hn2)
      clear hn1 hn2
      by_cases u1 : 2 < n1
      · have y1 : decide ((2 : Int) < (n1 : Int)) = true := decide_eq_true (by omega)
        have z1 : decide (2 < n1) = true := decide_eq_true u1
        clear u1
        go_wp2_with fail
        go_ret
        exact ⟨false, rfl, (fun h => by cases h), B0.out⟩
      · have y1 : decide ((2 : Int) < (n1 : Int)) = false := decide_eq_false (by omega)
        have z1 : decide (2 < n1) = false := decide_eq_false u1
        by_cases u2 : 2 < n2
        · have y2 : decide ((2 : Int) < (n2 : Int)) = true := decide_eq_true (by omega)
          have z2 : decide (2 < n2) = true := decide_eq_true u2
          clear u1 u2
          go_wp2_with fail
          go_ret
          exact ⟨false, rfl, (fun h => by cases h), B0.out⟩
        · have y2 : decide ((2 : Int) < (n2 : Int)) = false := decide_eq_false (by omega)
          have z2 : decide (2 < n2) = false := decide_eq_false u2
          have HF2 : Hid (∀ j (hj : j < net.length), j < k + 1 → net[j].num.length ≤ 2 ∧ net[j].den.length ≤ 2) := fun j hj h => by
            by_cases e : j = k
            · subst e; have := HN.out; omega
            · exact HF.out j hj (by omega)
          clear u1 u2
          go_wp2_with fail
          go_roundw
          case rel => exact ⟨k + 1, hkn, by go_num, HF2.out, by first | rfl | trivial⟩
          case measure => simp [intOf]; omega
    · obtain rfl : k = net.length := by omega
      have hd2 : decide ((net.length : Int) < (net.length : Int)) = false := decide_eq_false (Int.lt_irrefl _)
      have HFF : Hid (∀ f ∈ net, f.num.length ≤ 2 ∧ f.den.length ≤ 2) := fun f hf => by
        obtain ⟨i, hi, rfl⟩ := List.getElem_of_mem hf
        exact HF.out i hi hi
      clear HF hk0 hk5
      go_wp2_with fail
      go_loopw [8] (fun iv wr => ∃ k : Nat, k ≤ ps.length ∧ iv = .int .i64 (k : Int) ∧ w0 = wr) (fun iv _ => ps.length - (intOf iv).toNat)
      case atStart => exact ⟨0, Nat.zero_le _, rfl, rfl⟩
      case round =>
      obtain ⟨k, hk, rfl, rfl⟩ := hrel
      have hk0 : (0 : Int) ≤ (k : Int) := by omega
      have hk5 : (k : Int) ≤ 8 := by have := HLL.out; omega
      by_cases hkn : k < ps.length
      · have hd2 : decide ((k : Int) < (ps.length : Int)) = true := decide_eq_true (by omega)
        have hkn1 : (k : Int) < (ps.length : Int) := by omega
        obtain ⟨b, o, eA, x1⟩ := HPR.out k hkn
        subst eA
        generalize ps[k].name = nm at *
        by_cases u1 : 40 < nm.size
        · have y1 : decide ((40 : Int) < (nm.size : Int)) = true := decide_eq_true (by omega)
          have z1 : decide (40 < nm.size) = true := decide_eq_true u1
          go_wp2_with fail
          go_ret
          exact ⟨false, rfl, (fun h => by cases h), B0.out⟩
        · have y1 : decide ((40 : Int) < (nm.size : Int)) = false := decide_eq_false (by omega)
          have z1 : decide (40 < nm.size) = false := decide_eq_false u1
          go_wp2_with fail
          go_roundw
          case rel => exact ⟨k + 1, hkn, by go_num, by first | rfl | trivial⟩
          case measure => simp [intOf]; omega
      obtain rfl : k = ps.length := by omega
      clear hd2
      have hd2 : decide ((ps.length : Int) < (ps.length : Int)) = false := decide_eq_false (Int.lt_irrefl _)
      clear hk0 hk5
      go_wp2_with fail
      go_loopw [9] (fun iv wr => ∃ k : Nat, k ≤ bs.length ∧ iv = .int .i64 (k : Int) ∧ w0 = wr) (fun iv _ => bs.length - (intOf iv).toNat)
      case atStart => exact ⟨0, Nat.zero_le _, rfl, rfl⟩
      case round =>
      obtain ⟨k, hk, rfl, rfl⟩ := hrel
      have hk0 : (0 : Int) ≤ (k : Int) := by omega
      have hk5 : (k : Int) ≤ 10 := by have := HLL.out; omega
      by_cases hkn : k < bs.length
      · have hd2 : decide ((k : Int) < (bs.length : Int)) = true := decide_eq_true (by omega)
        have hkn1 : (k : Int) < (bs.length : Int) := by omega
        obtain ⟨b, o, eA, x1⟩ := HBR.out k hkn
        subst eA
        generalize bs[k].name = nm at *
        by_cases u1 : 40 < nm.size
        · have y1 : decide ((40 : Int) < (nm.size : Int)) = true := decide_eq_true (by omega)
          have z1 : decide (40 < nm.size) = true := decide_eq_true u1
          go_wp2_with fail
          go_ret
          exact ⟨false, rfl, (fun h => by cases h), B0.out⟩
        · have y1 : decide ((40 : Int) < (nm.size : Int)) = false := decide_eq_false (by omega)
          have z1 : decide (40 < nm.size) = false := decide_eq_false u1
          go_wp2_with fail
          go_roundw
          case rel => exact ⟨k + 1, hkn, by go_num, by first | rfl | trivial⟩
          case measure => simp [intOf]; omega
      obtain rfl : k = bs.length := by omega
      clear hd2
      have hd2 : decide ((bs.length : Int) < (bs.length : Int)) = false := decide_eq_false (Int.lt_irrefl _)
      clear hk0 hk5
      go_wp2_with fail
      go_ret
      exact ⟨true, rfl, fun _ => ⟨HLL.out.1, HLL.out.2.1, HLL.out.2.2.1, HLL.out.2.2.2, HFF.out⟩, B0.out⟩
end Go.Proofs.YthehchdonmmpaaaGreatDoor.St
