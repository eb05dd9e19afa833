/- The reference's form and range of a node, its depth, its nodes, its Check. Printed by gen_ex5.py. -/
import Derived.Test.YtjjlhihocllgjaaGreatDoorEx4
import Derived.Test.YtjjlhihocllgjaaGreatDoorPz07
import Derived.Deep.Onto
namespace Go.Proofs.YtjjlhihocllgjaaGreatDoor.Ex
open Go.ChangeShapes Go.WideShapes Go.ChangeAt Go.RowKit Gn Cat Lex
set_option linter.unusedVariables false
set_option linter.unusedSimpArgs false
def valE (p : Nat → Int) : Int := if validB p = true then 0 else 4
theorem valE_bad {p : Nat → Int} {k : Nat} (hk : k < 6) (h : ¬ (0 ≤ p k ∧ p k ≤ 4)) : valE p = 4 := if_neg (fun hv => h (validB_iff.1 hv k hk))
theorem valE_ok {p : Nat → Int} (h : ∀ k, k < 6 → 0 ≤ p k ∧ p k ≤ 4) : valE p = 0 := if_pos (validB_iff.2 h)
set_option maxHeartbeats 1000000 in
theorem r7check_any (p : Nat → Int) (w : World) : Calls Tryz.prog 134 #[.agg (arr p)] w fun e w' => e = .returned (.int .i64 (valE p)) ∧ Below w.heap.size w w' := by
  have K0 := Lib.hid (box_new w p 25)
  have B0 := Lib.hid (below_new w (.cells (arr p) 25))
  have HB := Lib.hid (fun k (hk : k < 6) (h : ¬ (0 ≤ p k ∧ p k ≤ 4)) => valE_bad hk h)
  have HO := Lib.hid (fun h => valE_ok (p := p) h)
  unfold arr at K0 B0
  unfold arr
  go_enter Tryz.func134, Tryz.ntmps134
  go_wp2_with fail
  obtain ⟨w0, hw0⟩ : ∃ W, W = w.alloc (.cells #[.int .i64 (p 0), .int .i64 (p 1), .int .i64 (p 2), .int .i64 (p 3), .int .i64 (p 4), .int .i64 (p 5)] 25) := ⟨_, rfl⟩
  rw [← hw0] at K0 B0 ⊢
  clear hw0
  go_loopw [3] (fun i wr => ∃ k : Nat, k ≤ 6 ∧ i = .int .i64 (k : Int) ∧ Hid (∀ j, j < k → 0 ≤ p j ∧ p j ≤ 4) ∧ w0 = wr) (fun i _ => 6 - (intOf i).toNat)
  case atStart => exact ⟨0, by omega, rfl, fun j h => absurd h (by omega), rfl⟩
  case round =>
    obtain ⟨k, hk, rfl, HP, rfl⟩ := hrel
    by_cases hlt : k < 6
    · have hd : decide ((k : Int) < 6) = true := decide_eq_true (by omega)
      have hi0 : (0 : Int) ≤ (k : Int) := by omega
      have hk6 : (k : Int) < 6 := by omega
      have hbk := K0.out.cell k hlt
      have gz := K0.out.lt
      have HPB := Lib.hid (HB.out k hlt)
      have HPK : Hid (0 ≤ p k ∧ p k ≤ 4 → ∀ j, j < k + 1 → 0 ≤ p j ∧ p j ≤ 4) := fun h j hj => by
        by_cases e : j = k
        · rw [e]; exact h
        · exact HP.out j (by omega)
      generalize p k = pk at *
      by_cases h0 : pk < 0
      · have d0 : decide (pk < 0) = true := decide_eq_true h0
        have HV := Lib.hid (HPB.out (by omega))
        go_wp2_with fail
        go_ret
        exact ⟨by rw [HV.out]; rfl, B0.out⟩
      · have d0 : decide (pk < 0) = false := decide_eq_false h0
        by_cases h4 : 4 < pk
        · have d4 : decide (4 < pk) = true := decide_eq_true h4
          have HV := Lib.hid (HPB.out (by omega))
          go_wp2_with fail
          go_ret
          exact ⟨by rw [HV.out]; rfl, B0.out⟩
        · have d4 : decide (4 < pk) = false := decide_eq_false h4
          have HP2 := Lib.hid (HPK.out (by omega))
          go_wp2_with fail
          go_roundw
          case rel => exact ⟨k + 1, by omega, by go_num, HP2.out, by first | rfl | trivial⟩
          case measure => simp [intOf]; omega
    · obtain rfl : k = 6 := by omega
      have hd : decide (((6 : Nat) : Int) < 6) = false := by decide
      have HV := Lib.hid (HO.out HP.out)
      go_wp2_with fail
      go_ret
      exact ⟨by rw [HV.out]; rfl, B0.out⟩
set_option maxHeartbeats 1000000 in
theorem r7total_any (p : Nat → Int) (w : World) (h : validB p = true) : Calls Tryz.prog 135 #[.agg (arr p)] w fun e w' => e = .returned (.int .i64 (total6 p)) ∧ Below w.heap.size w w' := by
  have K0 := Lib.hid (box_new w p 25)
  have B0 := Lib.hid (below_new w (.cells (arr p) 25))
  have HL := Lib.hid (totK_le h)
  have HV := Lib.hid (validB_iff.1 h)
  have HS := Lib.hid (totK_six p)
  have HU : Hid (∀ k, totK p (k + 1) = totK p k + p k) := fun _ => rfl
  clear h
  generalize total6 p = R at *
  unfold arr at K0 B0
  unfold arr
  go_enter Tryz.func135, Tryz.ntmps135
  go_wp2_with fail
  obtain ⟨w0, hw0⟩ : ∃ W, W = w.alloc (.cells #[.int .i64 (p 0), .int .i64 (p 1), .int .i64 (p 2), .int .i64 (p 3), .int .i64 (p 4), .int .i64 (p 5)] 25) := ⟨_, rfl⟩
  rw [← hw0] at K0 B0 ⊢
  clear hw0
  go_loopw [4, 3] (fun i nv wr => ∃ k : Nat, k ≤ 6 ∧ i = .int .i64 (k : Int) ∧ nv = .int .i64 (totK p k) ∧ w0 = wr) (fun i _ _ => 6 - (intOf i).toNat)
  case atStart => exact ⟨0, by omega, rfl, rfl, rfl⟩
  case round =>
    obtain ⟨k, hk, rfl, rfl, rfl⟩ := hrel
    by_cases hlt : k < 6
    · have hd : decide ((k : Int) < 6) = true := decide_eq_true (by omega)
      have hi0 : (0 : Int) ≤ (k : Int) := by omega
      have hk6 : (k : Int) < 6 := by omega
      have hbk := K0.out.cell k hlt
      have gz := K0.out.lt
      have hl1 := HL.out k (by omega)
      have hp1 := HV.out k hlt
      have wr2 : IntKind.i64.wrap (totK p k + p k) = totK p k + p k := IntWalk.i64_in _ (by omega)
      clear hl1 hp1
      go_wp2_with fail
      go_roundw
      case rel => exact ⟨k + 1, by omega, by go_num, by rw [HU.out k]; try rfl, by first | rfl | trivial⟩
      case measure => simp [intOf]; omega
    · obtain rfl : k = 6 := by omega
      have hd : decide (((6 : Nat) : Int) < 6) = false := by decide
      go_wp2_with fail
      go_ret
      exact ⟨by rw [HS.out]; rfl, B0.out⟩

set_option maxHeartbeats 4000000 in
set_option maxRecDepth 100000 in
theorem rform_any (e : Tree) (w : World) : Calls Tryz.prog 99 #[e.val] w fun r w' => r = .returned (.bool (formB e)) ∧ Below w.heap.size w w' := by
  have BX := Lib.hid ((below_new w (.cells #[.int .i64 e.op, .int .i64 (e.want 0), .int .i64 (e.want 1), .int .i64 (e.want 2), .int .i64 (e.want 3), .int .i64 (e.want 4), .int .i64 (e.want 5), .int .i64 e.value, .slice e.a e.args.length e.c] 28)).alloc (below_new w (.cells #[.int .i64 e.op, .int .i64 (e.want 0), .int .i64 (e.want 1), .int .i64 (e.want 2), .int .i64 (e.want 3), .int .i64 (e.want 4), .int .i64 (e.want 5), .int .i64 e.value, .slice e.a e.args.length e.c] 28)).size (.cells #[.int .i64 0, .int .i64 0, .int .i64 0, .int .i64 0, .int .i64 0, .int .i64 0] 25))
  have KX := Lib.hid ((Blk.new w 28 #[.int .i64 e.op, .int .i64 (e.want 0), .int .i64 (e.want 1), .int .i64 (e.want 2), .int .i64 (e.want 3), .int .i64 (e.want 4), .int .i64 (e.want 5), .int .i64 e.value, .slice e.a e.args.length e.c]).alloc (.cells #[.int .i64 0, .int .i64 0, .int .i64 0, .int .i64 0, .int .i64 0, .int .i64 0] 25))
  have qq := eq27 e.want zero6
  unfold arr zero6 at qq
  obtain ⟨R, hR⟩ : ∃ R, R = formB e := ⟨_, rfl⟩
  have HR := Lib.hid (hR.trans (form_eq e))
  rw [← hR]
  clear hR
  generalize hq6 : eq6 e.want (fun _ => 0) = b6 at *
  have HQ6 : Hid (eq6 e.want zero6 = b6) := hq6
  clear hq6
  rw [HQ6.out] at HR
  obtain ⟨o, ho⟩ : ∃ o, o = e.op := ⟨_, rfl⟩
  obtain ⟨vl, hvl⟩ : ∃ v, v = e.value := ⟨_, rfl⟩
  obtain ⟨n, hn⟩ : ∃ n, n = e.args.length := ⟨_, rfl⟩
  unfold Tree.val
  rw [← ho, ← hvl, ← hn] at KX BX HR
  rw [← ho, ← hvl, ← hn]
  clear ho hvl hn HQ6
  cases h1 : (o == (1 : Int)) with
  | true =>
    have HV : Hid (R = ((n : Int) == 0)) := by show _ = _; rw [HR.out, if_pos h1]
    cases p0 : ((n : Int) == 0) with
    | true =>
      rw [p0] at HV
      clear HR
      go_enter Tryz.func99, Tryz.ntmps99
      have z0 := KX.out.cell 0
      have z1 := KX.out.cell 1
      have z2 := KX.out.cell 2
      have z3 := KX.out.cell 3
      have z4 := KX.out.cell 4
      have z5 := KX.out.cell 5
      have z6 := KX.out.cell 6
      have z7 := KX.out.cell 7
      have z8 := KX.out.cell 8
      go_wp2_with fail
      go_ret
      exact ⟨by rw [HV.out]; rfl, BX.out⟩
    | false =>
      rw [p0] at HV
      clear HR
      go_enter Tryz.func99, Tryz.ntmps99
      have z0 := KX.out.cell 0
      have z1 := KX.out.cell 1
      have z2 := KX.out.cell 2
      have z3 := KX.out.cell 3
      have z4 := KX.out.cell 4
      have z5 := KX.out.cell 5
      have z6 := KX.out.cell 6
      have z7 := KX.out.cell 7
      have z8 := KX.out.cell 8
      go_wp2_with fail
      go_ret
      exact ⟨by rw [HV.out]; rfl, BX.out⟩
  | false =>
  have HR1 : Hid (R = if ((o == (2 : Int)) || (o == (3 : Int))) = true then decide ((1 : Int) ≤ (n : Int)) && decide ((n : Int) ≤ (8 : Int)) && b6 && (vl == (0 : Int)) else if (o == (4 : Int)) = true then ((n : Int) == 1) else if (o == (5 : Int)) = true then ((n : Int) == 1) && b6 else false) := by show _ = _; rw [HR.out, h1, if_neg (by simp)]
  clear HR

  cases h2 : (o == (2 : Int)) with
  | true =>
    have HR2 : Hid (R = (decide ((1 : Int) ≤ (n : Int)) && decide ((n : Int) ≤ (8 : Int)) && b6 && (vl == (0 : Int)))) := by show _ = _; rw [HR1.out, if_pos (by simp [h2])]
    clear HR1
    cases p1 : decide ((1 : Int) ≤ (n : Int)) with
    | false =>
      have HV : Hid (R = false) := by show _ = _; rw [HR2.out]; simp [p1]
      clear HR2
      go_enter Tryz.func99, Tryz.ntmps99
      have z0 := KX.out.cell 0
      have z1 := KX.out.cell 1
      have z2 := KX.out.cell 2
      have z3 := KX.out.cell 3
      have z4 := KX.out.cell 4
      have z5 := KX.out.cell 5
      have z6 := KX.out.cell 6
      have z7 := KX.out.cell 7
      have z8 := KX.out.cell 8
      go_wp2_with fail
      go_ret
      exact ⟨by rw [HV.out]; rfl, BX.out⟩
    | true =>
    cases p2 : decide ((n : Int) ≤ (8 : Int)) with
    | false =>
      have HV : Hid (R = false) := by show _ = _; rw [HR2.out]; simp [p1, p2]
      clear HR2
      go_enter Tryz.func99, Tryz.ntmps99
      have z0 := KX.out.cell 0
      have z1 := KX.out.cell 1
      have z2 := KX.out.cell 2
      have z3 := KX.out.cell 3
      have z4 := KX.out.cell 4
      have z5 := KX.out.cell 5
      have z6 := KX.out.cell 6
      have z7 := KX.out.cell 7
      have z8 := KX.out.cell 8
      go_wp2_with fail
      go_ret
      exact ⟨by rw [HV.out]; rfl, BX.out⟩
    | true =>
    cases b6 with
    | false =>
      have HV : Hid (R = false) := by show _ = _; rw [HR2.out]; simp [p1, p2]
      clear HR2
      go_enter Tryz.func99, Tryz.ntmps99
      have z0 := KX.out.cell 0
      have z1 := KX.out.cell 1
      have z2 := KX.out.cell 2
      have z3 := KX.out.cell 3
      have z4 := KX.out.cell 4
      have z5 := KX.out.cell 5
      have z6 := KX.out.cell 6
      have z7 := KX.out.cell 7
      have z8 := KX.out.cell 8
      go_wp2_with fail
      go_ret
      exact ⟨by rw [HV.out]; rfl, BX.out⟩
    | true =>
    cases p4 : (vl == (0 : Int)) with
    | false =>
      have HV : Hid (R = false) := by show _ = _; rw [HR2.out]; simp [p1, p2, p4]
      clear HR2
      go_enter Tryz.func99, Tryz.ntmps99
      have z0 := KX.out.cell 0
      have z1 := KX.out.cell 1
      have z2 := KX.out.cell 2
      have z3 := KX.out.cell 3
      have z4 := KX.out.cell 4
      have z5 := KX.out.cell 5
      have z6 := KX.out.cell 6
      have z7 := KX.out.cell 7
      have z8 := KX.out.cell 8
      go_wp2_with fail
      go_ret
      exact ⟨by rw [HV.out]; rfl, BX.out⟩
    | true =>
    have HV : Hid (R = true) := by show _ = _; rw [HR2.out]; simp [p1, p2, p4]
    clear HR2
    go_enter Tryz.func99, Tryz.ntmps99
    have z0 := KX.out.cell 0
    have z1 := KX.out.cell 1
    have z2 := KX.out.cell 2
    have z3 := KX.out.cell 3
    have z4 := KX.out.cell 4
    have z5 := KX.out.cell 5
    have z6 := KX.out.cell 6
    have z7 := KX.out.cell 7
    have z8 := KX.out.cell 8
    go_wp2_with fail
    go_ret
    exact ⟨by rw [HV.out]; rfl, BX.out⟩
  | false =>
  cases h3 : (o == (3 : Int)) with
  | true =>
    have HR2 : Hid (R = (decide ((1 : Int) ≤ (n : Int)) && decide ((n : Int) ≤ (8 : Int)) && b6 && (vl == (0 : Int)))) := by show _ = _; rw [HR1.out, if_pos (by simp [h2, h3])]
    clear HR1
    cases p1 : decide ((1 : Int) ≤ (n : Int)) with
    | false =>
      have HV : Hid (R = false) := by show _ = _; rw [HR2.out]; simp [p1]
      clear HR2
      go_enter Tryz.func99, Tryz.ntmps99
      have z0 := KX.out.cell 0
      have z1 := KX.out.cell 1
      have z2 := KX.out.cell 2
      have z3 := KX.out.cell 3
      have z4 := KX.out.cell 4
      have z5 := KX.out.cell 5
      have z6 := KX.out.cell 6
      have z7 := KX.out.cell 7
      have z8 := KX.out.cell 8
      go_wp2_with fail
      go_ret
      exact ⟨by rw [HV.out]; rfl, BX.out⟩
    | true =>
    cases p2 : decide ((n : Int) ≤ (8 : Int)) with
    | false =>
      have HV : Hid (R = false) := by show _ = _; rw [HR2.out]; simp [p1, p2]
      clear HR2
      go_enter Tryz.func99, Tryz.ntmps99
      have z0 := KX.out.cell 0
      have z1 := KX.out.cell 1
      have z2 := KX.out.cell 2
      have z3 := KX.out.cell 3
      have z4 := KX.out.cell 4
      have z5 := KX.out.cell 5
      have z6 := KX.out.cell 6
      have z7 := KX.out.cell 7
      have z8 := KX.out.cell 8
      go_wp2_with fail
      go_ret
      exact ⟨by rw [HV.out]; rfl, BX.out⟩
    | true =>
    cases b6 with
    | false =>
      have HV : Hid (R = false) := by show _ = _; rw [HR2.out]; simp [p1, p2]
      clear HR2
      go_enter Tryz.func99, Tryz.ntmps99
      have z0 := KX.out.cell 0
      have z1 := KX.out.cell 1
      have z2 := KX.out.cell 2
      have z3 := KX.out.cell 3
      have z4 := KX.out.cell 4
      have z5 := KX.out.cell 5
      have z6 := KX.out.cell 6
      have z7 := KX.out.cell 7
      have z8 := KX.out.cell 8
      go_wp2_with fail
      go_ret
      exact ⟨by rw [HV.out]; rfl, BX.out⟩
    | true =>
    cases p4 : (vl == (0 : Int)) with
    | false =>
      have HV : Hid (R = false) := by show _ = _; rw [HR2.out]; simp [p1, p2, p4]
      clear HR2
      go_enter Tryz.func99, Tryz.ntmps99
      have z0 := KX.out.cell 0
      have z1 := KX.out.cell 1
      have z2 := KX.out.cell 2
      have z3 := KX.out.cell 3
      have z4 := KX.out.cell 4
      have z5 := KX.out.cell 5
      have z6 := KX.out.cell 6
      have z7 := KX.out.cell 7
      have z8 := KX.out.cell 8
      go_wp2_with fail
      go_ret
      exact ⟨by rw [HV.out]; rfl, BX.out⟩
    | true =>
    have HV : Hid (R = true) := by show _ = _; rw [HR2.out]; simp [p1, p2, p4]
    clear HR2
    go_enter Tryz.func99, Tryz.ntmps99
    have z0 := KX.out.cell 0
    have z1 := KX.out.cell 1
    have z2 := KX.out.cell 2
    have z3 := KX.out.cell 3
    have z4 := KX.out.cell 4
    have z5 := KX.out.cell 5
    have z6 := KX.out.cell 6
    have z7 := KX.out.cell 7
    have z8 := KX.out.cell 8
    go_wp2_with fail
    go_ret
    exact ⟨by rw [HV.out]; rfl, BX.out⟩
  | false =>
  have HR3 : Hid (R = if (o == (4 : Int)) = true then ((n : Int) == 1) else if (o == (5 : Int)) = true then ((n : Int) == 1) && b6 else false) := by show _ = _; rw [HR1.out, h2, h3, if_neg (by simp)]
  clear HR1
  cases h4 : (o == (4 : Int)) with
  | true =>
    have HV : Hid (R = ((n : Int) == 1)) := by show _ = _; rw [HR3.out, if_pos h4]
    cases p0 : ((n : Int) == 1) with
    | true =>
      rw [p0] at HV
      clear HR3
      go_enter Tryz.func99, Tryz.ntmps99
      have z0 := KX.out.cell 0
      have z1 := KX.out.cell 1
      have z2 := KX.out.cell 2
      have z3 := KX.out.cell 3
      have z4 := KX.out.cell 4
      have z5 := KX.out.cell 5
      have z6 := KX.out.cell 6
      have z7 := KX.out.cell 7
      have z8 := KX.out.cell 8
      go_wp2_with fail
      go_ret
      exact ⟨by rw [HV.out]; rfl, BX.out⟩
    | false =>
      rw [p0] at HV
      clear HR3
      go_enter Tryz.func99, Tryz.ntmps99
      have z0 := KX.out.cell 0
      have z1 := KX.out.cell 1
      have z2 := KX.out.cell 2
      have z3 := KX.out.cell 3
      have z4 := KX.out.cell 4
      have z5 := KX.out.cell 5
      have z6 := KX.out.cell 6
      have z7 := KX.out.cell 7
      have z8 := KX.out.cell 8
      go_wp2_with fail
      go_ret
      exact ⟨by rw [HV.out]; rfl, BX.out⟩
  | false =>
  cases h5 : (o == (5 : Int)) with
  | true =>
    have HR4 : Hid (R = (((n : Int) == 1) && b6)) := by show _ = _; rw [HR3.out, h4, if_neg (by simp), if_pos h5]
    clear HR3
    cases p0 : ((n : Int) == 1) with
    | false =>
      have HV : Hid (R = false) := by show _ = _; rw [HR4.out, p0]; rfl
      clear HR4
      go_enter Tryz.func99, Tryz.ntmps99
      have z0 := KX.out.cell 0
      have z1 := KX.out.cell 1
      have z2 := KX.out.cell 2
      have z3 := KX.out.cell 3
      have z4 := KX.out.cell 4
      have z5 := KX.out.cell 5
      have z6 := KX.out.cell 6
      have z7 := KX.out.cell 7
      have z8 := KX.out.cell 8
      go_wp2_with fail
      go_ret
      exact ⟨by rw [HV.out]; rfl, BX.out⟩
    | true =>
    cases b6 with
    | false =>
      have HV : Hid (R = false) := by show _ = _; rw [HR4.out, p0]; rfl
      clear HR4
      go_enter Tryz.func99, Tryz.ntmps99
      have z0 := KX.out.cell 0
      have z1 := KX.out.cell 1
      have z2 := KX.out.cell 2
      have z3 := KX.out.cell 3
      have z4 := KX.out.cell 4
      have z5 := KX.out.cell 5
      have z6 := KX.out.cell 6
      have z7 := KX.out.cell 7
      have z8 := KX.out.cell 8
      go_wp2_with fail
      go_ret
      exact ⟨by rw [HV.out]; rfl, BX.out⟩
    | true =>
      have HV : Hid (R = true) := by show _ = _; rw [HR4.out, p0]; rfl
      clear HR4
      go_enter Tryz.func99, Tryz.ntmps99
      have z0 := KX.out.cell 0
      have z1 := KX.out.cell 1
      have z2 := KX.out.cell 2
      have z3 := KX.out.cell 3
      have z4 := KX.out.cell 4
      have z5 := KX.out.cell 5
      have z6 := KX.out.cell 6
      have z7 := KX.out.cell 7
      have z8 := KX.out.cell 8
      go_wp2_with fail
      go_ret
      exact ⟨by rw [HV.out]; rfl, BX.out⟩
  | false =>
    have HV : Hid (R = false) := by show _ = _; rw [HR3.out, h4, h5]; rfl
    clear HR3
    go_enter Tryz.func99, Tryz.ntmps99
    have z0 := KX.out.cell 0
    have z1 := KX.out.cell 1
    have z2 := KX.out.cell 2
    have z3 := KX.out.cell 3
    have z4 := KX.out.cell 4
    have z5 := KX.out.cell 5
    have z6 := KX.out.cell 6
    have z7 := KX.out.cell 7
    have z8 := KX.out.cell 8
    go_wp2_with fail
    go_ret
    exact ⟨by rw [HV.out]; rfl, BX.out⟩

set_option maxHeartbeats 4000000 in
set_option maxRecDepth 100000 in
theorem rrange_any (e : Tree) (w : World) : Calls Tryz.prog 100 #[e.val] w fun r w' => r = .returned (.bool (rangeB e)) ∧ Below w.heap.size w w' := by
  have BX := Lib.hid (below_new w (.cells #[.int .i64 e.op, .int .i64 (e.want 0), .int .i64 (e.want 1), .int .i64 (e.want 2), .int .i64 (e.want 3), .int .i64 (e.want 4), .int .i64 (e.want 5), .int .i64 e.value, .slice e.a e.args.length e.c] 28))
  have KX := Lib.hid (Blk.new w 28 #[.int .i64 e.op, .int .i64 (e.want 0), .int .i64 (e.want 1), .int .i64 (e.want 2), .int .i64 (e.want 3), .int .i64 (e.want 4), .int .i64 (e.want 5), .int .i64 e.value, .slice e.a e.args.length e.c])
  have CB := Lib.hid (fun W => r7check_any e.want W)
  have CT := Lib.hid (fun W h => r7total_any e.want W h)
  obtain ⟨R, hR⟩ : ∃ R, R = rangeB e := ⟨_, rfl⟩
  have HR := Lib.hid (hR.trans (range_eq e))
  rw [← hR]
  clear hR
  obtain ⟨o, ho⟩ : ∃ o, o = e.op := ⟨_, rfl⟩
  obtain ⟨vl, hvl⟩ : ∃ v, v = e.value := ⟨_, rfl⟩
  obtain ⟨p, hp⟩ : ∃ p, p = e.want := ⟨_, rfl⟩
  unfold Tree.val
  rw [← ho, ← hvl, ← hp] at KX BX HR
  rw [← ho, ← hvl, ← hp]
  rw [← hp] at CB CT
  unfold arr valE at CB
  unfold arr at CT
  clear ho hvl hp
  cases h2 : (o == (2 : Int)) with
  | true =>
    have HV : Hid (R = true) := by show _ = _; rw [HR.out, if_pos (by simp [h2])]
    clear HR
    go_enter Tryz.func100, Tryz.ntmps100
    have z0 := KX.out.cell 0
    have z1 := KX.out.cell 1
    have z2 := KX.out.cell 2
    have z3 := KX.out.cell 3
    have z4 := KX.out.cell 4
    have z5 := KX.out.cell 5
    have z6 := KX.out.cell 6
    have z7 := KX.out.cell 7
    have z8 := KX.out.cell 8
    go_wp2_with fail
    go_ret
    exact ⟨by rw [HV.out]; rfl, BX.out⟩
  | false =>
  cases h3 : (o == (3 : Int)) with
  | true =>
    have HV : Hid (R = true) := by show _ = _; rw [HR.out, if_pos (by simp [h2, h3])]
    clear HR
    go_enter Tryz.func100, Tryz.ntmps100
    have z0 := KX.out.cell 0
    have z1 := KX.out.cell 1
    have z2 := KX.out.cell 2
    have z3 := KX.out.cell 3
    have z4 := KX.out.cell 4
    have z5 := KX.out.cell 5
    have z6 := KX.out.cell 6
    have z7 := KX.out.cell 7
    have z8 := KX.out.cell 8
    go_wp2_with fail
    go_ret
    exact ⟨by rw [HV.out]; rfl, BX.out⟩
  | false =>
  have HR1 : Hid (R = if (decide (vl < 1) || decide ((1000000 : Int) < vl)) = true then false else (o == (5 : Int)) || (validB p && decide (0 < total6 p))) := by show _ = _; rw [HR.out, h2, h3, if_neg (by simp)]
  clear HR
  cases q1 : decide (vl < (1 : Int)) with
  | true =>
    have HV : Hid (R = false) := by show _ = _; rw [HR1.out, if_pos (by simp only [q1, Bool.true_or])]
    clear HR1
    go_enter Tryz.func100, Tryz.ntmps100
    have z0 := KX.out.cell 0
    have z1 := KX.out.cell 1
    have z2 := KX.out.cell 2
    have z3 := KX.out.cell 3
    have z4 := KX.out.cell 4
    have z5 := KX.out.cell 5
    have z6 := KX.out.cell 6
    have z7 := KX.out.cell 7
    have z8 := KX.out.cell 8
    go_wp2_with fail
    go_ret
    exact ⟨by rw [HV.out]; rfl, BX.out⟩
  | false =>
  cases q2 : decide ((1000000 : Int) < vl) with
  | true =>
    have HV : Hid (R = false) := by show _ = _; rw [HR1.out, if_pos (by simp only [q2, Bool.or_true])]
    clear HR1
    go_enter Tryz.func100, Tryz.ntmps100
    have z0 := KX.out.cell 0
    have z1 := KX.out.cell 1
    have z2 := KX.out.cell 2
    have z3 := KX.out.cell 3
    have z4 := KX.out.cell 4
    have z5 := KX.out.cell 5
    have z6 := KX.out.cell 6
    have z7 := KX.out.cell 7
    have z8 := KX.out.cell 8
    go_wp2_with fail
    go_ret
    exact ⟨by rw [HV.out]; rfl, BX.out⟩
  | false =>
  have HR2 : Hid (R = ((o == (5 : Int)) || (validB p && decide (0 < total6 p)))) := by show _ = _; rw [HR1.out, if_neg (by simp only [q1, q2, Bool.or_false]; simp)]
  clear HR1
  cases h5 : (o == (5 : Int)) with
  | true =>
    have HV : Hid (R = true) := by show _ = _; rw [HR2.out, h5]; rfl
    clear HR2
    go_enter Tryz.func100, Tryz.ntmps100
    have z0 := KX.out.cell 0
    have z1 := KX.out.cell 1
    have z2 := KX.out.cell 2
    have z3 := KX.out.cell 3
    have z4 := KX.out.cell 4
    have z5 := KX.out.cell 5
    have z6 := KX.out.cell 6
    have z7 := KX.out.cell 7
    have z8 := KX.out.cell 8
    go_wp2_with fail
    go_ret
    exact ⟨by rw [HV.out]; rfl, BX.out⟩
  | false =>
  go_enter Tryz.func100, Tryz.ntmps100
  have z0 := KX.out.cell 0
  have z1 := KX.out.cell 1
  have z2 := KX.out.cell 2
  have z3 := KX.out.cell 3
  have z4 := KX.out.cell 4
  have z5 := KX.out.cell 5
  have z6 := KX.out.cell 6
  have z7 := KX.out.cell 7
  have z8 := KX.out.cell 8
  go_wp2_with fail
  refine (CB.out _).mono ?_
  rintro r w1 ⟨rfl, d1⟩
  have K1 := Lib.hid (KX.out.below' d1)
  have B1 := Lib.hid (chain0 BX.out d1)
  clear d1 z0 z1 z2 z3 z4 z5 z6 z7 z8
  cases hv : validB p with
  | false =>
    have HV : Hid (R = false) := by show _ = _; rw [HR2.out, h5, hv]; rfl
    rw [if_neg (by simp)]
    clear hv HR2
    go_wp2_with fail
    go_ret
    exact ⟨by rw [HV.out]; rfl, B1.out⟩
  | true =>
    have CT2 := Lib.hid (fun W => CT.out W hv)
    have HR3 : Hid (R = decide (0 < total6 p)) := by show _ = _; rw [HR2.out, h5, hv]; rfl
    rw [if_pos rfl]
    clear hv HR2
    have z1 := K1.out.cell 1
    have z2 := K1.out.cell 2
    have z3 := K1.out.cell 3
    have z4 := K1.out.cell 4
    have z5 := K1.out.cell 5
    have z6 := K1.out.cell 6
    have zl := K1.out.lt
    go_wp2_with fail
    refine (CT2.out _).mono ?_
    rintro r w2 ⟨rfl, d2⟩
    have B2 := Lib.hid (chain0 B1.out d2)
    clear d2
    generalize total6 p = t at *
    have HR4 : Hid (R = decide ((1 : Int) ≤ t)) := by show _ = _; rw [HR3.out]; by_cases h : 0 < t <;> simp [h] <;> omega
    cases h0 : decide ((1 : Int) ≤ t) with
    | true =>
      rw [h0] at HR4
      go_wp2_with fail
      go_ret
      exact ⟨by rw [HR4.out]; rfl, B2.out⟩
    | false =>
      rw [h0] at HR4
      go_wp2_with fail
      go_ret
      exact ⟨by rw [HR4.out]; rfl, B2.out⟩

set_option maxHeartbeats 2000000 in
set_option maxRecDepth 100000 in
theorem rdepth_any (d : Nat) : ∀ (e : Tree) (B : Nat) (w : World), In d B w e → B ≤ w.heap.size → (preF d e).length ≤ 5000 → Calls Tryz.prog 97 #[e.val] w fun r w' => r = .returned (.int .i64 (depthF d e : Nat)) ∧ Below w.heap.size w w' := by
  induction d with
  | zero => intro e B w h; exact h.elim
  | succ d ih =>
    intro e B w h hB hsz
    have HPA := Lib.hid (fun x (hx : x ∈ e.args) => pre_arg (d := d) hx)
    have HSZ := Lib.hid hsz
    have hlen : e.args.length ≤ 5000 := by
      have : e.args.length ≤ (e.args.flatMap (preF d)).length := by
        clear ih
        have hp := fun x (hx : x ∈ e.args) => (h.2.2.2 x hx).pos
        have hq : ∀ l : List Tree, (∀ x ∈ l, 0 < d) → l.length ≤ (l.flatMap (preF d)).length := by
          intro l
          induction l with
          | nil => intro _; exact Nat.le_refl _
          | cons a l ihl =>
            intro hl
            have h1 := ihl (fun x hx => hl x (List.mem_cons_of_mem _ hx))
            have h2 := hl a List.mem_cons_self
            rw [List.flatMap_cons, List.length_append, List.length_cons]
            obtain ⟨q, rfl⟩ : ∃ q, d = q + 1 := ⟨d - 1, by omega⟩
            have h3 : 0 < (preF (q + 1) a).length := Nat.succ_pos _
            omega
        exact hq _ hp
      have h2 : (preF (d + 1) e).length = (e.args.flatMap (preF d)).length + 1 := rfl
      omega
    have hli : (e.args.length : Int) ≤ 5000 := by omega
    have HDL := Lib.hid (fun k => (show maxL ((e.args.take k).map (depthF d)) ≤ 5000 from maxL_le _ 0 _ (Nat.zero_le _) fun x hx => by
      obtain ⟨y, hy, rfl⟩ := List.mem_map.1 hx
      have h1 := depth_le d y
      have h2 := pre_arg (d := d) (List.mem_of_mem_take hy)
      omega))
    have HDY := Lib.hid (fun x (hx : x ∈ e.args) => (show depthF d x ≤ 5000 by
      have h1 := depth_le d x
      have h2 := pre_arg (d := d) hx
      omega))
    obtain ⟨h1, h2, h3, h4⟩ := h
    obtain ⟨A, hA⟩ : ∃ A, A = e.a := ⟨_, rfl⟩
    rw [← hA] at h3
    have HR := Lib.hid h3
    have HI := Lib.hid (fun x (hx : x ∈ e.args) W (k : Below w.heap.size w W) => ih x B W ((h4 x hx).keep (k.mono hB)) (Nat.le_trans hB k.size) (by have h5 := HPA.out x hx; have := HSZ.out; omega))
    have BX := Lib.hid (below_new w (.cells #[.int .i64 e.op, .int .i64 (e.want 0), .int .i64 (e.want 1), .int .i64 (e.want 2), .int .i64 (e.want 3), .int .i64 (e.want 4), .int .i64 (e.want 5), .int .i64 e.value, .slice A e.args.length e.c] 28))
    have KX := Lib.hid (Blk.new w 28 #[.int .i64 e.op, .int .i64 (e.want 0), .int .i64 (e.want 1), .int .i64 (e.want 2), .int .i64 (e.want 3), .int .i64 (e.want 4), .int .i64 (e.want 5), .int .i64 e.value, .slice A e.args.length e.c])
    have HB := Lib.hid hB
    have HMS := Lib.hid (fun k (hk : k < e.args.length) => (show maxL ((e.args.take (k + 1)).map (depthF d)) = max (maxL ((e.args.take k).map (depthF d))) (depthF d e.args[k]) by rw [map_snoc _ _ _ hk, maxL_snoc]))
    have HDE : Hid (depthF (d + 1) e = maxL ((e.args.take e.args.length).map (depthF d)) + 1) := by show _ = _; rw [List.take_length]; rfl
    obtain ⟨R, hR⟩ : ∃ R, R = depthF (d + 1) e := ⟨_, rfl⟩
    have HRR := Lib.hid hR
    rw [← hR]
    unfold Tree.val
    rw [← hA]
    clear ih h1 h2 h3 h4 hB hR hsz HPA hlen hA
    go_enter Tryz.func97, Tryz.ntmps97
    have z8 := KX.out.cell 8
    go_wp2_with fail
    go_loopw [4, 3] (fun iv nv wr => ∃ (k n : Nat), k ≤ e.args.length ∧ iv = .int .i64 (k : Int) ∧ nv = .int .i64 (n : Int) ∧ Hid (n = maxL ((e.args.take k).map (depthF d))) ∧ Hid (Below w.heap.size w wr) ∧ Hid (Blk wr w.heap.size 28 #[.int .i64 e.op, .int .i64 (e.want 0), .int .i64 (e.want 1), .int .i64 (e.want 2), .int .i64 (e.want 3), .int .i64 (e.want 4), .int .i64 (e.want 5), .int .i64 e.value, .slice A e.args.length e.c])) (fun iv _ _ => e.args.length - (intOf iv).toNat)
    case atStart => exact ⟨0, 0, Nat.zero_le _, rfl, rfl, rfl, BX.out, KX.out⟩
    case round =>
      clear z8 BX KX
      obtain ⟨k, n, hk, rfl, rfl, HN, HW, HKE⟩ := hrel
      have z8 := HKE.out.cell 8
      have zl := HKE.out.lt
      have hk0 : (0 : Int) ≤ (k : Int) := by omega
      by_cases hkn : k < e.args.length
      · have hd1 : decide (k < e.args.length) = true := decide_eq_true hkn
        have hd2 : decide ((k : Int) < (e.args.length : Int)) = true := decide_eq_true (by omega)
        have hkn1 : (k : Int) < (e.args.length : Int) := by omega
        obtain ⟨b, o, e1, hb, hrow⟩ := HR.out (by omega)
        have hat := tree_at (Row.keepB hrow hb (HW.out.mono HB.out)) k hkn
        have hbr : b < wr.heap.size := Nat.lt_of_lt_of_le hb (Nat.le_trans HB.out HW.out.size)
        have HMK := Lib.hid (HMS.out k hkn)
        have HIK := Lib.hid (HI.out e.args[k] (List.getElem_mem hkn))
        have HDK := Lib.hid (HDY.out e.args[k] (List.getElem_mem hkn))
        have HNL : Hid (n ≤ 5000) := by show n ≤ 5000; rw [HN.out]; exact HDL.out k
        rw [← HN.out] at HMK
        generalize e.args[k] = x at *
        obtain ⟨dx, hdx⟩ : ∃ dx, dx = depthF d x := ⟨_, rfl⟩
        rw [← hdx] at HMK HIK HDK
        clear hrow hdx hb
        subst e1
        go_wp2_with fail
        refine (HIK.out _ HW.out).mono ?_
        rintro r w2 ⟨rfl, d2⟩
        have B2 := Lib.hid (chain0 HW.out d2)
        have HK2 := Lib.hid (HKE.out.below' d2)
        clear d2 hat hbr HW HKE z8 zl HIK
        go_wp2_with fail
        go_roundw
        case rel => exact ⟨k + 1, max n dx, hkn, by go_num, by congr 1; omega, HMK.out.symm, B2.out, HK2.out⟩
        case measure => simp [intOf]; omega
      · obtain rfl : k = e.args.length := by omega
        have hd1 : decide (e.args.length < e.args.length) = false := decide_eq_false (Nat.lt_irrefl _)
        have hd2 : decide ((e.args.length : Int) < (e.args.length : Int)) = false := decide_eq_false (Int.lt_irrefl _)
        have HV : Hid (R = n + 1) := by show _ = _; rw [HRR.out, HDE.out, HN.out]
        have hn5 : (n : Int) ≤ 5000 := by have h := HDL.out e.args.length; rw [← HN.out] at h; omega
        go_wp2_with fail
        go_ret
        exact ⟨by rw [HV.out]; rfl, HW.out⟩


theorem expr_info : (Tryz.prog.info? 28).map (fun i => (i.zero, i.size, i.bytes)) = some (some (.agg #[.int .i64 0, .int .i64 0, .int .i64 0, .int .i64 0, .int .i64 0, .int .i64 0, .int .i64 0, .int .i64 0, .slice none 0 0]), 9, 88) := by kernel_rfl
theorem tree_one (l : List Tree) : ∀ u ∈ l.flatMap Tree.cells, u.oneCell' = true := flat_one (c := Tree.cells) (fun t u hu => by simp [Tree.cells] at hu; rcases hu with rfl | rfl | rfl | rfl | rfl | rfl | rfl | rfl | rfl <;> rfl) l
abbrev PrePost (l : List Tree) (w : World) : Ending → World → Prop := fun r w' => ∃ A c, r = .returned (.slice A l.length c) ∧ w'.ownsRow w.heap.size 28 9 (.slice A l.length c) l.length (l.flatMap Tree.cells) ∧ Below w.heap.size w w'
set_option maxHeartbeats 2000000 in
set_option maxRecDepth 100000 in
theorem pre_any (d : Nat) : ∀ (e : Tree) (B : Nat) (w : World), In d B w e → B ≤ w.heap.size → (preF d e).length ≤ 5000 → Calls Tryz.prog 98 #[e.val] w (PrePost (preF d e) w) := by
  induction d with
  | zero => intro e B w h; exact h.elim
  | succ d ih =>
    intro e B w h hB hsz
    obtain ⟨j0, hj0, hy0, hy1, hy2⟩ := info_parts expr_info
    have hlen : e.args.length ≤ 5000 := by have := args_le h; omega
    have hli : (e.args.length : Int) ≤ 5000 := by omega
    have HPA := Lib.hid (fun x (hx : x ∈ e.args) => pre_arg (d := d) hx)
    have HSZ := Lib.hid hsz
    obtain ⟨h1, h2, h3, h4⟩ := h
    have HI := Lib.hid (fun x (hx : x ∈ e.args) W (k : Below w.heap.size w W) => ih x B W ((h4 x hx).keep (k.mono hB)) (Nat.le_trans hB k.size) (by have h5 := HPA.out x hx; have := HSZ.out; omega))
    obtain ⟨A, hA⟩ : ∃ A, A = e.a := ⟨_, rfl⟩
    rw [← hA] at h3
    have HR := Lib.hid h3
    have HB := Lib.hid hB
    have HCE : Hid (e.cells.toArray = #[.int .i64 e.op, .int .i64 (e.want 0), .int .i64 (e.want 1), .int .i64 (e.want 2), .int .i64 (e.want 3), .int .i64 (e.want 4), .int .i64 (e.want 5), .int .i64 e.value, .slice A e.args.length e.c]) := by show _ = _; rw [hA]
    have BX := Lib.hid ((below_new w (.cells #[.int .i64 e.op, .int .i64 (e.want 0), .int .i64 (e.want 1), .int .i64 (e.want 2), .int .i64 (e.want 3), .int .i64 (e.want 4), .int .i64 (e.want 5), .int .i64 e.value, .slice A e.args.length e.c] 28)).alloc (below_new w (.cells #[.int .i64 e.op, .int .i64 (e.want 0), .int .i64 (e.want 1), .int .i64 (e.want 2), .int .i64 (e.want 3), .int .i64 (e.want 4), .int .i64 (e.want 5), .int .i64 e.value, .slice A e.args.length e.c] 28)).size (.cells #[.int .i64 e.op, .int .i64 (e.want 0), .int .i64 (e.want 1), .int .i64 (e.want 2), .int .i64 (e.want 3), .int .i64 (e.want 4), .int .i64 (e.want 5), .int .i64 e.value, .slice A e.args.length e.c] 28))
    have KX := Lib.hid ((Blk.new w 28 #[.int .i64 e.op, .int .i64 (e.want 0), .int .i64 (e.want 1), .int .i64 (e.want 2), .int .i64 (e.want 3), .int .i64 (e.want 4), .int .i64 (e.want 5), .int .i64 e.value, .slice A e.args.length e.c]).alloc (.cells #[.int .i64 e.op, .int .i64 (e.want 0), .int .i64 (e.want 1), .int .i64 (e.want 2), .int .i64 (e.want 3), .int .i64 (e.want 4), .int .i64 (e.want 5), .int .i64 e.value, .slice A e.args.length e.c] 28))
    have hz1 : (w.alloc (.cells #[.int .i64 e.op, .int .i64 (e.want 0), .int .i64 (e.want 1), .int .i64 (e.want 2), .int .i64 (e.want 3), .int .i64 (e.want 4), .int .i64 (e.want 5), .int .i64 e.value, .slice A e.args.length e.c] 28)).heap.size = w.heap.size + 1 := World.size_alloc _ _
    have o1 := World.ownsRow_lit (e := 28) (size := 9) (w.alloc (.cells #[.int .i64 e.op, .int .i64 (e.want 0), .int .i64 (e.want 1), .int .i64 (e.want 2), .int .i64 (e.want 3), .int .i64 (e.want 4), .int .i64 (e.want 5), .int .i64 e.value, .slice A e.args.length e.c] 28)) #[.int .i64 e.op, .int .i64 (e.want 0), .int .i64 (e.want 1), .int .i64 (e.want 2), .int .i64 (e.want 3), .int .i64 (e.want 4), .int .i64 (e.want 5), .int .i64 e.value, .slice A e.args.length e.c] 1 (show w.heap.size + 1 ≤ _ by rw [hz1]; omega) (by decide) rfl
    rw [hz1] at o1
    have O1 : Hid (((w.alloc (.cells #[.int .i64 e.op, .int .i64 (e.want 0), .int .i64 (e.want 1), .int .i64 (e.want 2), .int .i64 (e.want 3), .int .i64 (e.want 4), .int .i64 (e.want 5), .int .i64 e.value, .slice A e.args.length e.c] 28)).alloc (.cells #[.int .i64 e.op, .int .i64 (e.want 0), .int .i64 (e.want 1), .int .i64 (e.want 2), .int .i64 (e.want 3), .int .i64 (e.want 4), .int .i64 (e.want 5), .int .i64 e.value, .slice A e.args.length e.c] 28)).ownsRow (w.heap.size + 1) 28 9 (.slice (some ⟨w.heap.size + 1, 0, none⟩) 1 1) 1 ((e :: (e.args.take 0).flatMap (preF d)).flatMap Tree.cells)) := by
      show World.ownsRow _ _ _ _ _ _ _
      rw [List.take_zero, List.flatMap_nil, List.flatMap_cons, List.flatMap_nil, List.append_nil]
      rw [hA] at o1 ⊢
      exact o1
    have HLE := Lib.hid (fun k (hk : k ≤ e.args.length) => (show (e :: (e.args.take k).flatMap (preF d)).length ≤ 5000 by
      have h5 : ((e.args.take k).flatMap (preF d)).length ≤ (e.args.flatMap (preF d)).length := by
        conv => rhs; rw [← List.take_append_drop k e.args, List.flatMap_append, List.length_append]
        omega
      have h6 : (preF (d + 1) e).length = (e.args.flatMap (preF d)).length + 1 := rfl
      have := HSZ.out
      rw [List.length_cons]
      omega))
    have HSN := Lib.hid (fun k (hk : k < e.args.length) => flat_snoc (preF d) e.args k hk)
    have HPE : Hid (preF (d + 1) e = e :: (e.args.take e.args.length).flatMap (preF d)) := by show _ = _; rw [List.take_length]; rfl
    obtain ⟨R, hR⟩ : ∃ R, R = preF (d + 1) e := ⟨_, rfl⟩
    have HRR := Lib.hid hR
    rw [← hR]
    unfold Tree.val PrePost
    rw [← hA]
    clear ih h1 h2 h3 h4 hB hR hsz HPA hlen hA o1 hz1 HCE
    go_enter Tryz.func98, Tryz.ntmps98
    go_wp2_with fail
    go_loopw [4, 3] (fun iv ov wr => ∃ (k m : Nat) (A2 : Option Addr) (c2 : Nat), k ≤ e.args.length ∧ iv = .int .i64 (k : Int) ∧ ov = .slice A2 m c2 ∧ Hid (m = (e :: (e.args.take k).flatMap (preF d)).length) ∧ Hid (wr.ownsRow (w.heap.size + 1) 28 9 (.slice A2 m c2) m ((e :: (e.args.take k).flatMap (preF d)).flatMap Tree.cells)) ∧ Hid (Below w.heap.size w wr) ∧ Hid (Blk wr w.heap.size 28 #[.int .i64 e.op, .int .i64 (e.want 0), .int .i64 (e.want 1), .int .i64 (e.want 2), .int .i64 (e.want 3), .int .i64 (e.want 4), .int .i64 (e.want 5), .int .i64 e.value, .slice A e.args.length e.c])) (fun iv _ _ => e.args.length - (intOf iv).toNat)
    case atStart => exact ⟨0, 1, _, _, Nat.zero_le _, rfl, rfl, rfl, O1.out, BX.out, KX.out⟩
    case round =>
      clear O1 BX KX
      obtain ⟨k, m, A2, c2, hk, rfl, rfl, HM, HO, HW, HK⟩ := hrel
      have hk0 : (0 : Int) ≤ (k : Int) := by omega
      have z8 := HK.out.cell 8
      have zl := HK.out.lt
      by_cases hkn : k < e.args.length
      · have hd1 : decide (k < e.args.length) = true := decide_eq_true hkn
        have hd2 : decide ((k : Int) < (e.args.length : Int)) = true := decide_eq_true (by omega)
        have hkn1 : (k : Int) < (e.args.length : Int) := by omega
        obtain ⟨b, o, e1, hb, hrow⟩ := HR.out (by omega)
        have hat := tree_at (Row.keepB hrow hb (HW.out.mono HB.out)) k hkn
        have hbr : b < wr.heap.size := Nat.lt_of_lt_of_le hb (Nat.le_trans HB.out HW.out.size)
        have HIK := Lib.hid (HI.out e.args[k] (List.getElem_mem hkn))
        have HSK := Lib.hid (HSN.out k hkn)
        have HLK := Lib.hid (HLE.out (k + 1) hkn)
        generalize e.args[k] = x at *
        obtain ⟨px, hpx⟩ : ∃ px, px = preF d x := ⟨_, rfl⟩
        rw [← hpx] at HIK HSK
        obtain ⟨pt, hpt⟩ : ∃ pt, pt = (e.args.take k).flatMap (preF d) := ⟨_, rfl⟩
        rw [← hpt] at HSK HM HO
        rw [HSK.out] at HLK
        have HML : Hid (m + px.length ≤ 5000) := by
          have h5 := HLK.out
          have h6 := HM.out
          rw [List.length_cons] at h6
          rw [List.length_cons, List.length_append] at h5
          show m + px.length ≤ 5000
          omega
        clear hrow hpx hpt hb HLK
        subst e1
        go_wp2_with fail
        refine (HIK.out _ HW.out).mono ?_
        rintro r w3 ⟨A6, c6, rfl, ho6, d3⟩
        have HO6 := Lib.hid (Sl.of_own ho6)
        have HO3 := Lib.hid (own_below HO.out d3)
        have HW3 := Lib.hid (chain0 HW.out d3)
        have HK3 := Lib.hid (HK.out.below' d3)
        have HS3 : Hid (w.heap.size + 1 ≤ w3.heap.size) := by show _ ≤ _; have := HK3.out.lt; omega
        clear d3 ho6 hat hbr z8 zl HIK HO HW HK
        go_wp2_with (at_builtin; refine wpList_append_sl _ rfl (.tmp 14) (.tmp 20) _ rfl (w.heap.size + 1) 28 j0 _ 9 88 Tryz.underlying26 hj0 hy0 hy1 hy2 rfl (by decide) (.slice A2 m c2) m ((e :: pt).flatMap Tree.cells) rfl HO3.out (.slice A6 px.length c6) px.length (px.flatMap Tree.cells) rfl HO6.out (tree_one _) (by have := HML.out; unfold maxLen; omega) (by have := HML.out; omega) HS3.out ?_)
        intro v' w4 hown hgr
        obtain ⟨A5, c5, rfl⟩ := Gn.own_form hown
        have O5 : Hid (w4.ownsRow (w.heap.size + 1) 28 9 (.slice A5 (m + px.length) c5) (m + px.length) ((e :: (e.args.take (k + 1)).flatMap (preF d)).flatMap Tree.cells)) := by
          show World.ownsRow _ _ _ _ _ _ _
          rw [HSK.out, ← List.cons_append, List.flatMap_append]
          exact hown
        have M5 : Hid (m + px.length = (e :: (e.args.take (k + 1)).flatMap (preF d)).length) := by
          show _ = _
          rw [HSK.out, HM.out, ← List.cons_append, List.length_append]
        have B5 : Hid (Below w.heap.size w w4) := HW3.out.grown hgr HW3.out.size (fun q hq => Nat.le_of_succ_le (HO3.out.lt q hq).1)
        have K5 : Hid (Blk w4 w.heap.size 28 #[.int .i64 e.op, .int .i64 (e.want 0), .int .i64 (e.want 1), .int .i64 (e.want 2), .int .i64 (e.want 3), .int .i64 (e.want 4), .int .i64 (e.want 5), .int .i64 e.value, .slice (some ⟨b, o, none⟩) e.args.length e.c]) := HK3.out.grown hgr (fun e9 => by have := (HO3.out.lt _ e9.symm).1; omega)
        clear hown hgr HO3 HW3 HK3 HO6
        go_wp2_with fail
        go_roundw
        case rel => exact ⟨k + 1, m + px.length, A5, c5, hkn, by go_num, rfl, M5.out, O5.out, B5.out, K5.out⟩
        case measure => simp [intOf]; omega
      · obtain rfl : k = e.args.length := by omega
        have hd1 : decide (e.args.length < e.args.length) = false := decide_eq_false (Nat.lt_irrefl _)
        have hd2 : decide ((e.args.length : Int) < (e.args.length : Int)) = false := decide_eq_false (Int.lt_irrefl _)
        have HV : Hid (R = e :: (e.args.take e.args.length).flatMap (preF d)) := HRR.out.trans HPE.out
        rw [← HV.out] at HM HO
        have HO2 := Lib.hid (World.ownsRow.mono HO.out (Nat.le_succ _))
        have HM2 := HM.out
        clear HM HO
        subst HM2
        go_wp2_with fail
        go_ret
        exact ⟨_, _, rfl, HO2.out, HW.out⟩

end Go.Proofs.YtjjlhihocllgjaaGreatDoor.Ex
