/- Contracts of Instalments of both, and of the reference's Revenue. Printed by gen_st1.py. -/
import Derived.Test.YthehchdonmmpaaaGreatDoorStT
import Derived.Test.YthehchdonmmpaaaGreatDoorPs07
import Derived.Test.YthehchdonmmpaaaGreatDoorStC
namespace Go.Proofs.YthehchdonmmpaaaGreatDoor.St
open Go.ChangeShapes Go.WideShapes Go.ChangeAt Go.RowKit Gn Cat Lex Pr Ros Fr So
set_option linter.unusedVariables false
set_option linter.unusedSimpArgs false
theorem i64_info : (Tryz.prog.info? 2).map (fun i => (i.zero, i.size, i.bytes)) = some (some (.int .i64 0), 1, 8) := by kernel_rfl
theorem inst_no {d n : Int} (h : ¬ (0 ≤ d ∧ d ≤ 1000000 ∧ 1 ≤ n ∧ n ≤ 12)) : instR d n = .error 4 := if_neg h
theorem inst_yes {d n : Int} (h : 0 ≤ d ∧ d ≤ 1000000 ∧ 1 ≤ n ∧ n ≤ 12) : instR d n = .ok (instL d n.toNat) := if_pos h
theorem inst_err (w w' : World) (b : Below w.heap.size w w') : InstPost (.error 4) w (.returned (.tuple #[.slice none 0 0, .int .i64 4])) w' := ⟨_, rfl, Sl.nil w' 1, b⟩
set_option maxHeartbeats 1000000 in
set_option maxRecDepth 100000 in
theorem inst_any (d n : Int) (w : World) : Calls Tryz.prog 9 #[.int .i64 d, .int .i64 n] w (InstPost (instR d n) w) := by
  have CK := Lib.hid (So.check_any d w)
  by_cases hr : 0 ≤ d ∧ d ≤ 1000000 ∧ 1 ≤ n ∧ n ≤ 12
  case neg =>
    rw [inst_no hr]
    by_cases h1 : 0 ≤ d ∧ d ≤ 1000000
    · have e1 : okE d = 0 := by unfold okE; rw [if_pos h1]
      rw [e1] at CK
      by_cases h2 : n < 1
      · have d2 : decide (n < 1) = true := decide_eq_true h2
        clear hr h1 h2 e1
        go_enter Tryz.func9, Tryz.ntmps9
        go_wp2_with fail
        refine CK.out.mono ?_
        rintro e w2 ⟨rfl, rfl⟩
        go_wp2_with fail
        go_ret2
        exact inst_err _ _ (Below.refl _ _)
      · have d2 : decide (n < 1) = false := decide_eq_false h2
        have d3 : decide (12 < n) = true := decide_eq_true (by omega)
        clear hr h1 h2 e1
        go_enter Tryz.func9, Tryz.ntmps9
        go_wp2_with fail
        refine CK.out.mono ?_
        rintro e w2 ⟨rfl, rfl⟩
        go_wp2_with fail
        go_ret2
        exact inst_err _ _ (Below.refl _ _)
    · have e1 : okE d = 4 := by unfold okE; rw [if_neg h1]
      rw [e1] at CK
      clear hr h1 e1
      go_enter Tryz.func9, Tryz.ntmps9
      go_wp2_with fail
      refine CK.out.mono ?_
      rintro e w2 ⟨rfl, rfl⟩
      go_wp2_with fail
      go_ret2
      exact inst_err _ _ (Below.refl _ _)
  rw [inst_yes hr]
  obtain ⟨m, rfl⟩ : ∃ m : Nat, n = (m : Int) := ⟨n.toNat, by omega⟩
  rw [Int.toNat_natCast]
  have e1 : okE d = 0 := by unfold okE; rw [if_pos ⟨hr.1, hr.2.1⟩]
  rw [e1] at CK
  have d2 : decide ((m : Int) < 1) = false := decide_eq_false (by omega)
  have d3 : decide ((12 : Int) < (m : Int)) = false := decide_eq_false (by omega)
  have TF := tdiv_facts hr.1 hr.2.1 hr.2.2.1
  have n0 : ((m : Int) == 0) = false := beq_eq_false_iff_ne.2 (by omega)
  have HM : Hid (m ≤ 12) := by show m ≤ 12; omega
  have m1 : 1 ≤ m := by omega
  have q1 : IntKind.i64.wrap (d.tdiv (m : Int)) = d.tdiv (m : Int) := IntWalk.i64_in _ (by omega)
  have q2 : IntKind.i64.wrap (d.tmod (m : Int)) = d.tmod (m : Int) := IntWalk.i64_in _ (by omega)
  have q3 : IntKind.i64.wrap (d.tdiv (m : Int) + 1) = d.tdiv (m : Int) + 1 := IntWalk.i64_in _ (by omega)
  obtain ⟨j0, hj0, hy0, hy1, hy2⟩ := info_parts i64_info
  have HT := Lib.hid (fun k (h : k < m) => instL_take (due := d) (n := m) (k := k) h)
  have HP : Hid (∀ k : Nat, partI d (m : Int) k = if (k : Int) < d.tmod (m : Int) then d.tdiv (m : Int) + 1 else d.tdiv (m : Int)) := fun k => rfl
  have TFH := Lib.hid TF
  clear hr TF e1
  go_enter Tryz.func9, Tryz.ntmps9
  go_wp2_with fail
  refine CK.out.mono ?_
  rintro e w2 ⟨rfl, rfl⟩
  go_wp2_with fail
  go_loopw [21, 6] (fun iv ov wr => ∃ (k : Nat) (A : Option Addr) (c : Nat), k ≤ m ∧ iv = .int .i64 (k : Int) ∧ ov = .slice A k c ∧ Hid (wr.ownsRow w.heap.size 2 1 (.slice A k c) k (((instL d m).take k).map fun x => Value.int .i64 x)) ∧ Hid (Below w.heap.size w wr)) (fun iv _ _ => m - (intOf iv).toNat)
  case atStart => exact ⟨0, none, 0, Nat.zero_le _, rfl, rfl, World.ownsRow_nil _ _ _ _, Below.refl _ _⟩
  case round =>
    obtain ⟨k, A, c, hk, rfl, rfl, HO, HB⟩ := hrel
    have hk0 : (0 : Int) ≤ (k : Int) := by omega
    have hk5 : (k : Int) ≤ 12 := by have := HM.out; omega
    by_cases hkn : k < m
    · have hd2 : decide ((k : Int) < (m : Int)) = true := decide_eq_true (by omega)
      have HTK := Lib.hid (HT.out k hkn)
      have HPK := Lib.hid (HP.out k)
      obtain ⟨pt, hpt⟩ : ∃ x, x = partI d (m : Int) k := ⟨_, rfl⟩
      rw [← hpt] at HTK HPK
      have HB1 := Lib.hid hk
      by_cases hlt : (k : Int) < d.tmod (m : Int)
      · have d5 : decide ((k : Int) < d.tmod (m : Int)) = true := decide_eq_true hlt
        have e5 : pt = d.tdiv (m : Int) + 1 := by rw [HPK.out, if_pos hlt]
        rw [e5] at HTK
        clear HPK hpt e5 hlt
        go_wp2_with (at_builtin; refine wpList_append_own _ rfl _ _ 54 rfl w.heap.size 2 j0 _ 1 8 Tryz.underlying54 hj0 hy0 hy1 hy2 rfl (by decide) (.slice A k c) k _ rfl (HO.out.alloc _) ⟨wr.heap.size, 0, none⟩ 1 1 [.int .i64 _] rfl rfl (cells_new wr _ _) (by intro u hu; simp at hu; subst hu; rfl) (by unfold maxLen; have := HM.out; omega) (by have := HM.out; omega) (by have := HB.out.size; simp; omega) ?_)
        intro v' w4 hown hgr _
        obtain ⟨A5, c5, rfl⟩ := Gn.own_form hown
        have O5 : Hid (w4.ownsRow w.heap.size 2 1 (.slice A5 (k + 1) c5) (k + 1) (((instL d m).take (k + 1)).map fun x => Value.int .i64 x)) := by show World.ownsRow _ _ _ _ _ _ _; rw [HTK.out, List.map_append, List.map_take]; exact hown
        have B5 : Hid (Below w.heap.size w w4) := (HB.out.alloc HB.out.size _).grown hgr (by have := HB.out.size; simp; omega) (fun q hq => (HO.out.lt q hq).1)
        clear hown hgr HO HB HTK
        go_wp2_with fail
        go_roundw
        case rel => exact ⟨k + 1, A5, c5, hkn, by go_num, rfl, O5.out, B5.out⟩
        case measure => simp [intOf]; omega
      · have d5 : decide ((k : Int) < d.tmod (m : Int)) = false := decide_eq_false hlt
        have e5 : pt = d.tdiv (m : Int) := by rw [HPK.out, if_neg hlt]
        rw [e5] at HTK
        clear HPK hpt e5 hlt
        go_wp2_with (at_builtin; refine wpList_append_own _ rfl _ _ 54 rfl w.heap.size 2 j0 _ 1 8 Tryz.underlying54 hj0 hy0 hy1 hy2 rfl (by decide) (.slice A k c) k _ rfl (HO.out.alloc _) ⟨wr.heap.size, 0, none⟩ 1 1 [.int .i64 _] rfl rfl (cells_new wr _ _) (by intro u hu; simp at hu; subst hu; rfl) (by unfold maxLen; have := HM.out; omega) (by have := HM.out; omega) (by have := HB.out.size; simp; omega) ?_)
        intro v' w4 hown hgr _
        obtain ⟨A5, c5, rfl⟩ := Gn.own_form hown
        have O5 : Hid (w4.ownsRow w.heap.size 2 1 (.slice A5 (k + 1) c5) (k + 1) (((instL d m).take (k + 1)).map fun x => Value.int .i64 x)) := by show World.ownsRow _ _ _ _ _ _ _; rw [HTK.out, List.map_append, List.map_take]; exact hown
        have B5 : Hid (Below w.heap.size w w4) := (HB.out.alloc HB.out.size _).grown hgr (by have := HB.out.size; simp; omega) (fun q hq => (HO.out.lt q hq).1)
        clear hown hgr HO HB HTK
        go_wp2_with fail
        go_roundw
        case rel => exact ⟨k + 1, A5, c5, hkn, by go_num, rfl, O5.out, B5.out⟩
        case measure => simp [intOf]; omega
    · obtain rfl : k = m := by omega
      have hd2 : decide ((k : Int) < (k : Int)) = false := decide_eq_false (Int.lt_irrefl _)
      go_wp2_with fail
      go_ret2
      refine ⟨_, rfl, ?_, HB.out⟩
      have := Sl.of_own HO.out
      rw [List.take_of_length_le (by rw [instL_len]; exact Nat.le_refl _)] at this
      show Sl _ 1 _ (instL d k).length _
      rw [instL_len]
      exact this
end Go.Proofs.YthehchdonmmpaaaGreatDoor.St
