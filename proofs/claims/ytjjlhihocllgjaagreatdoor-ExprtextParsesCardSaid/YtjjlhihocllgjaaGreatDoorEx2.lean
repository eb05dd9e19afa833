/- Contracts of bundle.Total, expr.form, ranged, the visits, Size, Check. Printed by gen_ex2.py. -/
import Derived.Test.YtjjlhihocllgjaaGreatDoorEx1
namespace Go.Proofs.YtjjlhihocllgjaaGreatDoor.Ex
open Go.ChangeShapes Go.WideShapes Go.ChangeAt Go.RowKit Gn Cat Lex
set_option linter.unusedVariables false
set_option linter.unusedSimpArgs false
def totK (p : Nat → Int) : Nat → Int
  | 0 => 0
  | k + 1 => totK p k + p k
theorem totK_six (p : Nat → Int) : totK p 6 = total6 p := by simp [totK, total6]
theorem totK_le {p : Nat → Int} (h : validB p = true) : ∀ k, k ≤ 6 → 0 ≤ totK p k ∧ totK p k ≤ 4 * k
  | 0, _ => by simp [totK]
  | k + 1, hk => by
    have ih := totK_le h k (by omega)
    have := validB_iff.1 h k (by omega)
    unfold totK
    omega
set_option maxHeartbeats 1000000 in
set_option maxRecDepth 100000 in
theorem total_any (p : Nat → Int) (w : World) (h : validB p = true) : Calls Tryz.prog 127 #[.agg (arr p)] w fun e w' => e = .returned (.int .i64 (total6 p)) ∧ Below w.heap.size w w' := by
  have HL := Lib.hid (totK_le h)
  have HV := Lib.hid (validB_iff.1 h)
  have HS := Lib.hid (totK_six p)
  have HU : Hid (∀ k, totK p (k + 1) = totK p k + p k) := fun _ => rfl
  have hi := idx27 p
  have BX := Lib.hid (below_new w (.cells (arr p) 25))
  have KX := Lib.hid (Blk.new w 25 (arr p))
  clear h
  generalize total6 p = R at *
  unfold arr at *
  go_enter Tryz.func127, Tryz.ntmps127
  have k1 := KX.out.c6
  go_wp2_with fail
  go_loop [7, 3] (fun i n => ∃ k : Nat, k ≤ 6 ∧ i = .int .i64 (k : Int) ∧ n = .int .i64 (totK p k)) (fun i _ => 6 - (intOf i).toNat)
  case atStart => exact ⟨0, by omega, rfl, rfl⟩
  case round =>
    obtain ⟨k, hk, rfl, rfl⟩ := hrel
    by_cases hlt : k < 6
    · have hi' := hi k hlt
      clear hi
      have hd : decide ((k : Int) < 6) = true := by simp; omega
      have hi0 : (0 : Int) ≤ (k : Int) := by omega
      have hl1 := HL.out k (by omega)
      have hp1 := HV.out k hlt
      have wr2 : IntKind.i64.wrap (totK p k + p k) = totK p k + p k := IntWalk.i64_in _ (by omega)
      clear hl1 hp1
      go_wp2_with fail
      go_round
      case rel => exact ⟨k + 1, by omega, by go_num, by rw [HU.out k]; try rfl⟩
      case measure => simp [intOf]; omega
    · obtain rfl : k = 6 := by omega
      have hd : decide (((6 : Nat) : Int) < 6) = false := by decide
      clear hi
      go_wp2_with fail
      go_ret
      exact ⟨by rw [HS.out]; rfl, BX.out⟩

theorem form_eq (e : Tree) : formB e = if (e.op == (1 : Int)) = true then ((e.args.length : Int) == 0) else if ((e.op == (2 : Int)) || (e.op == (3 : Int))) = true then decide ((1 : Int) ≤ (e.args.length : Int)) && decide ((e.args.length : Int) ≤ (8 : Int)) && eq6 e.want zero6 && (e.value == (0 : Int)) else if (e.op == (4 : Int)) = true then ((e.args.length : Int) == 1) else if (e.op == (5 : Int)) = true then ((e.args.length : Int) == 1) && eq6 e.want zero6 else false := by
  have c0 : ((e.args.length : Int) == 0) = decide (e.args.length = 0) := by by_cases h : e.args.length = 0 <;> simp [h]
  have c1 : ((e.args.length : Int) == 1) = decide (e.args.length = 1) := by
    by_cases h : e.args.length = 1
    · rw [decide_eq_true h]; simpa using (show (e.args.length : Int) = 1 by omega)
    · rw [decide_eq_false h]; simpa using (show ¬ (e.args.length : Int) = 1 by omega)
  have c2 : decide ((1 : Int) ≤ (e.args.length : Int)) = decide (1 ≤ e.args.length) := by by_cases h : 1 ≤ e.args.length <;> simp [h] <;> omega
  have c3 : decide ((e.args.length : Int) ≤ (8 : Int)) = decide (e.args.length ≤ 8) := by by_cases h : e.args.length ≤ 8 <;> simp [h] <;> omega
  have c4 : (e.value == (0 : Int)) = decide (e.value = 0) := by by_cases h : e.value = 0 <;> simp [h]
  rw [c0, c1, c2, c3, c4]
  unfold formB
  simp only [beq_iff_eq, Bool.or_eq_true]
set_option maxHeartbeats 4000000 in
set_option maxRecDepth 100000 in
theorem form_any (e : Tree) (w : World) : Calls Tryz.prog 86 #[e.val] w fun r w' => r = .returned (.bool (formB e)) ∧ Below w.heap.size w w' := by
  have BX := Lib.hid (below_new w (.cells #[.int .i64 e.op, .int .i64 (e.want 0), .int .i64 (e.want 1), .int .i64 (e.want 2), .int .i64 (e.want 3), .int .i64 (e.want 4), .int .i64 (e.want 5), .int .i64 e.value, .slice e.a e.args.length e.c] 28))
  have KX := Lib.hid (Blk.new w 28 #[.int .i64 e.op, .int .i64 (e.want 0), .int .i64 (e.want 1), .int .i64 (e.want 2), .int .i64 (e.want 3), .int .i64 (e.want 4), .int .i64 (e.want 5), .int .i64 e.value, .slice e.a e.args.length e.c])
  have qq := eq27 e.want zero6
  unfold arr zero6 at qq
  obtain ⟨R, hR⟩ : ∃ R, R = formB e := ⟨_, rfl⟩
  have HR := Lib.hid (hR.trans (form_eq e))
  rw [← hR]
  clear hR
  generalize hq6 : eq6 e.want (fun _ => 0) = b6 at *
  have HQ6 : Hid (eq6 e.want zero6 = b6) := hq6
  clear hq6
  rw [HQ6.out] at HR
  obtain ⟨o, ho⟩ : ∃ o, o = e.op := ⟨_, rfl⟩
  obtain ⟨vl, hvl⟩ : ∃ v, v = e.value := ⟨_, rfl⟩
  obtain ⟨n, hn⟩ : ∃ n, n = e.args.length := ⟨_, rfl⟩
  unfold Tree.val
  rw [← ho, ← hvl, ← hn] at KX BX HR
  rw [← ho, ← hvl, ← hn]
  clear ho hvl hn HQ6
  cases h1 : (o == (1 : Int)) with
  | true =>
    have HV : Hid (R = ((n : Int) == 0)) := by show _ = _; rw [HR.out, if_pos h1]
    cases p0 : ((n : Int) == 0) with
    | true =>
      rw [p0] at HV
      clear HR
      go_enter Tryz.func86, Tryz.ntmps86
      have z0 := KX.out.cell 0
      have z1 := KX.out.cell 1
      have z2 := KX.out.cell 2
      have z3 := KX.out.cell 3
      have z4 := KX.out.cell 4
      have z5 := KX.out.cell 5
      have z6 := KX.out.cell 6
      have z7 := KX.out.cell 7
      have z8 := KX.out.cell 8
      go_wp2_with fail
      go_ret
      exact ⟨by rw [HV.out]; rfl, BX.out⟩
    | false =>
      rw [p0] at HV
      clear HR
      go_enter Tryz.func86, Tryz.ntmps86
      have z0 := KX.out.cell 0
      have z1 := KX.out.cell 1
      have z2 := KX.out.cell 2
      have z3 := KX.out.cell 3
      have z4 := KX.out.cell 4
      have z5 := KX.out.cell 5
      have z6 := KX.out.cell 6
      have z7 := KX.out.cell 7
      have z8 := KX.out.cell 8
      go_wp2_with fail
      go_ret
      exact ⟨by rw [HV.out]; rfl, BX.out⟩
  | false =>
  have HR1 : Hid (R = if ((o == (2 : Int)) || (o == (3 : Int))) = true then decide ((1 : Int) ≤ (n : Int)) && decide ((n : Int) ≤ (8 : Int)) && b6 && (vl == (0 : Int)) else if (o == (4 : Int)) = true then ((n : Int) == 1) else if (o == (5 : Int)) = true then ((n : Int) == 1) && b6 else false) := by show _ = _; rw [HR.out, h1, if_neg (by simp)]
  clear HR

  cases h2 : (o == (2 : Int)) with
  | true =>
    have HR2 : Hid (R = (decide ((1 : Int) ≤ (n : Int)) && decide ((n : Int) ≤ (8 : Int)) && b6 && (vl == (0 : Int)))) := by show _ = _; rw [HR1.out, if_pos (by simp [h2])]
    clear HR1
    cases p1 : decide ((1 : Int) ≤ (n : Int)) with
    | false =>
      have HV : Hid (R = false) := by show _ = _; rw [HR2.out]; simp [p1]
      clear HR2
      go_enter Tryz.func86, Tryz.ntmps86
      have z0 := KX.out.cell 0
      have z1 := KX.out.cell 1
      have z2 := KX.out.cell 2
      have z3 := KX.out.cell 3
      have z4 := KX.out.cell 4
      have z5 := KX.out.cell 5
      have z6 := KX.out.cell 6
      have z7 := KX.out.cell 7
      have z8 := KX.out.cell 8
      go_wp2_with fail
      go_ret
      exact ⟨by rw [HV.out]; rfl, BX.out⟩
    | true =>
    cases p2 : decide ((n : Int) ≤ (8 : Int)) with
    | false =>
      have HV : Hid (R = false) := by show _ = _; rw [HR2.out]; simp [p1, p2]
      clear HR2
      go_enter Tryz.func86, Tryz.ntmps86
      have z0 := KX.out.cell 0
      have z1 := KX.out.cell 1
      have z2 := KX.out.cell 2
      have z3 := KX.out.cell 3
      have z4 := KX.out.cell 4
      have z5 := KX.out.cell 5
      have z6 := KX.out.cell 6
      have z7 := KX.out.cell 7
      have z8 := KX.out.cell 8
      go_wp2_with fail
      go_ret
      exact ⟨by rw [HV.out]; rfl, BX.out⟩
    | true =>
    cases b6 with
    | false =>
      have HV : Hid (R = false) := by show _ = _; rw [HR2.out]; simp [p1, p2]
      clear HR2
      go_enter Tryz.func86, Tryz.ntmps86
      have z0 := KX.out.cell 0
      have z1 := KX.out.cell 1
      have z2 := KX.out.cell 2
      have z3 := KX.out.cell 3
      have z4 := KX.out.cell 4
      have z5 := KX.out.cell 5
      have z6 := KX.out.cell 6
      have z7 := KX.out.cell 7
      have z8 := KX.out.cell 8
      go_wp2_with fail
      go_ret
      exact ⟨by rw [HV.out]; rfl, BX.out⟩
    | true =>
    cases p4 : (vl == (0 : Int)) with
    | false =>
      have HV : Hid (R = false) := by show _ = _; rw [HR2.out]; simp [p1, p2, p4]
      clear HR2
      go_enter Tryz.func86, Tryz.ntmps86
      have z0 := KX.out.cell 0
      have z1 := KX.out.cell 1
      have z2 := KX.out.cell 2
      have z3 := KX.out.cell 3
      have z4 := KX.out.cell 4
      have z5 := KX.out.cell 5
      have z6 := KX.out.cell 6
      have z7 := KX.out.cell 7
      have z8 := KX.out.cell 8
      go_wp2_with fail
      go_ret
      exact ⟨by rw [HV.out]; rfl, BX.out⟩
    | true =>
    have HV : Hid (R = true) := by show _ = _; rw [HR2.out]; simp [p1, p2, p4]
    clear HR2
    go_enter Tryz.func86, Tryz.ntmps86
    have z0 := KX.out.cell 0
    have z1 := KX.out.cell 1
    have z2 := KX.out.cell 2
    have z3 := KX.out.cell 3
    have z4 := KX.out.cell 4
    have z5 := KX.out.cell 5
    have z6 := KX.out.cell 6
    have z7 := KX.out.cell 7
    have z8 := KX.out.cell 8
    go_wp2_with fail
    go_ret
    exact ⟨by rw [HV.out]; rfl, BX.out⟩
  | false =>
  cases h3 : (o == (3 : Int)) with
  | true =>
    have HR2 : Hid (R = (decide ((1 : Int) ≤ (n : Int)) && decide ((n : Int) ≤ (8 : Int)) && b6 && (vl == (0 : Int)))) := by show _ = _; rw [HR1.out, if_pos (by simp [h2, h3])]
    clear HR1
    cases p1 : decide ((1 : Int) ≤ (n : Int)) with
    | false =>
      have HV : Hid (R = false) := by show _ = _; rw [HR2.out]; simp [p1]
      clear HR2
      go_enter Tryz.func86, Tryz.ntmps86
      have z0 := KX.out.cell 0
      have z1 := KX.out.cell 1
      have z2 := KX.out.cell 2
      have z3 := KX.out.cell 3
      have z4 := KX.out.cell 4
      have z5 := KX.out.cell 5
      have z6 := KX.out.cell 6
      have z7 := KX.out.cell 7
      have z8 := KX.out.cell 8
      go_wp2_with fail
      go_ret
      exact ⟨by rw [HV.out]; rfl, BX.out⟩
    | true =>
    cases p2 : decide ((n : Int) ≤ (8 : Int)) with
    | false =>
      have HV : Hid (R = false) := by show _ = _; rw [HR2.out]; simp [p1, p2]
      clear HR2
      go_enter Tryz.func86, Tryz.ntmps86
      have z0 := KX.out.cell 0
      have z1 := KX.out.cell 1
      have z2 := KX.out.cell 2
      have z3 := KX.out.cell 3
      have z4 := KX.out.cell 4
      have z5 := KX.out.cell 5
      have z6 := KX.out.cell 6
      have z7 := KX.out.cell 7
      have z8 := KX.out.cell 8
      go_wp2_with fail
      go_ret
      exact ⟨by rw [HV.out]; rfl, BX.out⟩
    | true =>
    cases b6 with
    | false =>
      have HV : Hid (R = false) := by show _ = _; rw [HR2.out]; simp [p1, p2]
      clear HR2
      go_enter Tryz.func86, Tryz.ntmps86
      have z0 := KX.out.cell 0
      have z1 := KX.out.cell 1
      have z2 := KX.out.cell 2
      have z3 := KX.out.cell 3
      have z4 := KX.out.cell 4
      have z5 := KX.out.cell 5
      have z6 := KX.out.cell 6
      have z7 := KX.out.cell 7
      have z8 := KX.out.cell 8
      go_wp2_with fail
      go_ret
      exact ⟨by rw [HV.out]; rfl, BX.out⟩
    | true =>
    cases p4 : (vl == (0 : Int)) with
    | false =>
      have HV : Hid (R = false) := by show _ = _; rw [HR2.out]; simp [p1, p2, p4]
      clear HR2
      go_enter Tryz.func86, Tryz.ntmps86
      have z0 := KX.out.cell 0
      have z1 := KX.out.cell 1
      have z2 := KX.out.cell 2
      have z3 := KX.out.cell 3
      have z4 := KX.out.cell 4
      have z5 := KX.out.cell 5
      have z6 := KX.out.cell 6
      have z7 := KX.out.cell 7
      have z8 := KX.out.cell 8
      go_wp2_with fail
      go_ret
      exact ⟨by rw [HV.out]; rfl, BX.out⟩
    | true =>
    have HV : Hid (R = true) := by show _ = _; rw [HR2.out]; simp [p1, p2, p4]
    clear HR2
    go_enter Tryz.func86, Tryz.ntmps86
    have z0 := KX.out.cell 0
    have z1 := KX.out.cell 1
    have z2 := KX.out.cell 2
    have z3 := KX.out.cell 3
    have z4 := KX.out.cell 4
    have z5 := KX.out.cell 5
    have z6 := KX.out.cell 6
    have z7 := KX.out.cell 7
    have z8 := KX.out.cell 8
    go_wp2_with fail
    go_ret
    exact ⟨by rw [HV.out]; rfl, BX.out⟩
  | false =>
  have HR3 : Hid (R = if (o == (4 : Int)) = true then ((n : Int) == 1) else if (o == (5 : Int)) = true then ((n : Int) == 1) && b6 else false) := by show _ = _; rw [HR1.out, h2, h3, if_neg (by simp)]
  clear HR1
  cases h4 : (o == (4 : Int)) with
  | true =>
    have HV : Hid (R = ((n : Int) == 1)) := by show _ = _; rw [HR3.out, if_pos h4]
    cases p0 : ((n : Int) == 1) with
    | true =>
      rw [p0] at HV
      clear HR3
      go_enter Tryz.func86, Tryz.ntmps86
      have z0 := KX.out.cell 0
      have z1 := KX.out.cell 1
      have z2 := KX.out.cell 2
      have z3 := KX.out.cell 3
      have z4 := KX.out.cell 4
      have z5 := KX.out.cell 5
      have z6 := KX.out.cell 6
      have z7 := KX.out.cell 7
      have z8 := KX.out.cell 8
      go_wp2_with fail
      go_ret
      exact ⟨by rw [HV.out]; rfl, BX.out⟩
    | false =>
      rw [p0] at HV
      clear HR3
      go_enter Tryz.func86, Tryz.ntmps86
      have z0 := KX.out.cell 0
      have z1 := KX.out.cell 1
      have z2 := KX.out.cell 2
      have z3 := KX.out.cell 3
      have z4 := KX.out.cell 4
      have z5 := KX.out.cell 5
      have z6 := KX.out.cell 6
      have z7 := KX.out.cell 7
      have z8 := KX.out.cell 8
      go_wp2_with fail
      go_ret
      exact ⟨by rw [HV.out]; rfl, BX.out⟩
  | false =>
  cases h5 : (o == (5 : Int)) with
  | true =>
    have HR4 : Hid (R = (((n : Int) == 1) && b6)) := by show _ = _; rw [HR3.out, h4, if_neg (by simp), if_pos h5]
    clear HR3
    cases p0 : ((n : Int) == 1) with
    | false =>
      have HV : Hid (R = false) := by show _ = _; rw [HR4.out, p0]; rfl
      clear HR4
      go_enter Tryz.func86, Tryz.ntmps86
      have z0 := KX.out.cell 0
      have z1 := KX.out.cell 1
      have z2 := KX.out.cell 2
      have z3 := KX.out.cell 3
      have z4 := KX.out.cell 4
      have z5 := KX.out.cell 5
      have z6 := KX.out.cell 6
      have z7 := KX.out.cell 7
      have z8 := KX.out.cell 8
      go_wp2_with fail
      go_ret
      exact ⟨by rw [HV.out]; rfl, BX.out⟩
    | true =>
    cases b6 with
    | false =>
      have HV : Hid (R = false) := by show _ = _; rw [HR4.out, p0]; rfl
      clear HR4
      go_enter Tryz.func86, Tryz.ntmps86
      have z0 := KX.out.cell 0
      have z1 := KX.out.cell 1
      have z2 := KX.out.cell 2
      have z3 := KX.out.cell 3
      have z4 := KX.out.cell 4
      have z5 := KX.out.cell 5
      have z6 := KX.out.cell 6
      have z7 := KX.out.cell 7
      have z8 := KX.out.cell 8
      go_wp2_with fail
      go_ret
      exact ⟨by rw [HV.out]; rfl, BX.out⟩
    | true =>
      have HV : Hid (R = true) := by show _ = _; rw [HR4.out, p0]; rfl
      clear HR4
      go_enter Tryz.func86, Tryz.ntmps86
      have z0 := KX.out.cell 0
      have z1 := KX.out.cell 1
      have z2 := KX.out.cell 2
      have z3 := KX.out.cell 3
      have z4 := KX.out.cell 4
      have z5 := KX.out.cell 5
      have z6 := KX.out.cell 6
      have z7 := KX.out.cell 7
      have z8 := KX.out.cell 8
      go_wp2_with fail
      go_ret
      exact ⟨by rw [HV.out]; rfl, BX.out⟩
  | false =>
    have HV : Hid (R = false) := by show _ = _; rw [HR3.out, h4, h5]; rfl
    clear HR3
    go_enter Tryz.func86, Tryz.ntmps86
    have z0 := KX.out.cell 0
    have z1 := KX.out.cell 1
    have z2 := KX.out.cell 2
    have z3 := KX.out.cell 3
    have z4 := KX.out.cell 4
    have z5 := KX.out.cell 5
    have z6 := KX.out.cell 6
    have z7 := KX.out.cell 7
    have z8 := KX.out.cell 8
    go_wp2_with fail
    go_ret
    exact ⟨by rw [HV.out]; rfl, BX.out⟩
end Go.Proofs.YtjjlhihocllgjaaGreatDoor.Ex
