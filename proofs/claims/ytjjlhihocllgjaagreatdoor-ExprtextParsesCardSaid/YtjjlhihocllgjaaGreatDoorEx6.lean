/- The reference's Check of an expression. Printed by gen_ex6.py. -/
import Derived.Test.YtjjlhihocllgjaaGreatDoorEx5
namespace Go.Proofs.YtjjlhihocllgjaaGreatDoor.Ex
open Go.ChangeShapes Go.WideShapes Go.ChangeAt Go.RowKit Gn Cat Lex
set_option linter.unusedVariables false
set_option linter.unusedSimpArgs false
theorem wide_at {l : List Tree} {k : Nat} (hk : k < l.length) (h : 8 < l[k].args.length) : wideB l = true := by
  unfold wideB
  rw [List.any_eq_true]
  exact ⟨l[k], List.getElem_mem hk, decide_eq_true h⟩
theorem wide_none {l : List Tree} (h : ∀ j (hj : j < l.length), ¬ 8 < l[j].args.length) : wideB l = false := by
  unfold wideB
  rw [List.any_eq_false]
  intro x hx
  obtain ⟨j, hj, rfl⟩ := List.getElem_of_mem hx
  simpa using h j hj
theorem err_drop {l : List Tree} {k : Nat} (hk : k < l.length) : errN (l.drop k) = if formB l[k] = false then 2 else if rangeB l[k] = false then 4 else errN (l.drop (k + 1)) := by
  rw [List.drop_eq_getElem_cons hk, errN]
set_option maxHeartbeats 4000000 in
set_option maxRecDepth 100000 in
theorem rcheck_any (d : Nat) (e : Tree) (B : Nat) (w : World) (h : In d B w e) (hB : B ≤ w.heap.size) (hsz : (preF d e).length ≤ 5000) : Calls Tryz.prog 43 #[e.val] w (ErrPost (checkX d e) w) := by
  have BX := Lib.hid (below_new w (.cells #[.int .i64 e.op, .int .i64 (e.want 0), .int .i64 (e.want 1), .int .i64 (e.want 2), .int .i64 (e.want 3), .int .i64 (e.want 4), .int .i64 (e.want 5), .int .i64 e.value, .slice e.a e.args.length e.c] 28))
  have KX := Lib.hid (Blk.new w 28 #[.int .i64 e.op, .int .i64 (e.want 0), .int .i64 (e.want 1), .int .i64 (e.want 2), .int .i64 (e.want 3), .int .i64 (e.want 4), .int .i64 (e.want 5), .int .i64 e.value, .slice e.a e.args.length e.c])
  have CD := Lib.hid (fun W (k : Below w.heap.size w W) => rdepth_any d e B W (h.keep (k.mono hB)) (Nat.le_trans hB k.size) hsz)
  have CP := Lib.hid (fun W (k : Below w.heap.size w W) => pre_any d e B W (h.keep (k.mono hB)) (Nat.le_trans hB k.size) hsz)
  have CF := Lib.hid (fun (x : Tree) W => rform_any x W)
  have CR := Lib.hid (fun (x : Tree) W => rrange_any x W)
  have E1 := Lib.hid (check_1 (d := d) (e := e))
  have E2 := Lib.hid (check_2 (d := d) (e := e))
  have E3 := Lib.hid (check_3 (d := d) (e := e))
  have E4 := Lib.hid (check_4 (d := d) (e := e))
  obtain ⟨R, hR⟩ : ∃ R, R = checkX d e := ⟨_, rfl⟩
  rw [← hR] at E1 E2 E3 E4
  rw [← hR]
  have hsz5 : ((preF d e).length : Int) ≤ 5000 := by omega
  obtain ⟨l, hl⟩ : ∃ l, l = preF d e := ⟨_, rfl⟩
  rw [← hl] at CP E2 E3 E4 hsz5
  obtain ⟨dp, hdp⟩ : ∃ dp, dp = depthF d e := ⟨_, rfl⟩
  rw [← hdp] at CD E1 E2 E3 E4
  unfold Tree.val at CD CP ⊢
  clear h hB hsz hR hl hdp
  go_enter Tryz.func43, Tryz.ntmps43
  have z0 := KX.out.cell 0
  have z1 := KX.out.cell 1
  have z2 := KX.out.cell 2
  have z3 := KX.out.cell 3
  have z4 := KX.out.cell 4
  have z5 := KX.out.cell 5
  have z6 := KX.out.cell 6
  have z7 := KX.out.cell 7
  have z8 := KX.out.cell 8
  have zl := KX.out.lt
  go_wp2_with fail
  refine (CD.out _ BX.out).mono ?_
  rintro r w1 ⟨rfl, d1⟩
  have K1 := Lib.hid (KX.out.below' d1)
  have B1 := Lib.hid (chain0 BX.out d1)
  clear d1 BX KX CD
  clear z0 z1 z2 z3 z4 z5 z6 z7 z8 zl
  by_cases h6 : 6 < dp
  · have t1 : decide ((6 : Int) < (dp : Int)) = true := decide_eq_true (by omega)
    have HV := Lib.hid (E1.out h6)
    clear h6
    go_wp2_with fail
    go_ret
    exact ⟨by rw [HV.out]; rfl, B1.out⟩
  have t1 : decide ((6 : Int) < (dp : Int)) = false := decide_eq_false (by omega)
  have E2a := Lib.hid (E2.out h6)
  have E3a := Lib.hid (E3.out h6)
  have E4a := Lib.hid (E4.out h6)
  clear h6 E1 E2 E3 E4
  have z0 := K1.out.cell 0
  have z1 := K1.out.cell 1
  have z2 := K1.out.cell 2
  have z3 := K1.out.cell 3
  have z4 := K1.out.cell 4
  have z5 := K1.out.cell 5
  have z6 := K1.out.cell 6
  have z7 := K1.out.cell 7
  have z8 := K1.out.cell 8
  have zl := K1.out.lt
  go_wp2_with fail
  clear z0 z1 z2 z3 z4 z5 z6 z7 z8 zl
  refine (CP.out _ B1.out).mono ?_
  rintro r w2 ⟨A2, c2, rfl, ho2, d2⟩
  have HSL := Lib.hid (sl_parts (Sl.of_own ho2))
  have B2 := Lib.hid (chain0 B1.out d2)
  clear ho2 d2 K1 B1 CP
  by_cases h40 : 40 < l.length
  · have t2 : decide ((40 : Int) < (l.length : Int)) = true := decide_eq_true (by omega)
    have HV := Lib.hid (E3a.out h40)
    clear h40
    go_wp2_with fail
    go_ret
    exact ⟨by rw [HV.out]; rfl, B2.out⟩
  have t2 : decide ((40 : Int) < (l.length : Int)) = false := decide_eq_false (by omega)
  have E4b := Lib.hid (fun h => E4a.out h h40)
  clear h40 E3a E4a
  obtain ⟨A', c', e', _, _, hr⟩ := HSL.out
  injection e' with e1 _ e3
  subst e1 e3
  have HR := Lib.hid hr
  clear hr HSL
  go_wp2_with fail
  go_loopw [4] (fun iv wr => ∃ k : Nat, k ≤ l.length ∧ iv = .int .i64 (k : Int) ∧ Hid (∀ j (hj : j < l.length), j < k → ¬ 8 < l[j].args.length) ∧ Hid (Below w2.heap.size w2 wr)) (fun iv _ => l.length - (intOf iv).toNat)
  case atStart => exact ⟨0, Nat.zero_le _, rfl, (fun j _ h => absurd h (Nat.not_lt_zero _)), Below.refl _ _⟩
  case round =>
    obtain ⟨k, hk, rfl, HJ, HB⟩ := hrel
    have hk0 : (0 : Int) ≤ (k : Int) := by omega
    by_cases hkn : k < l.length
    · have hd1 : decide (k < l.length) = true := decide_eq_true hkn
      have hd2 : decide ((k : Int) < (l.length : Int)) = true := decide_eq_true (by omega)
      have hkn1 : (k : Int) < (l.length : Int) := by omega
      obtain ⟨b, o, e1, hb, hrow⟩ := HR.out (by omega)
      subst e1
      have hat := (tree_at (hrow.below hb HB.out) k hkn).2.2.2.2.2.2.2.2
      have hbr := Nat.lt_of_lt_of_le hb HB.out.size
      by_cases h8 : 8 < l[k].args.length
      · have HV := Lib.hid (E2a.out (wide_at hkn h8))
        have t3 : decide ((8 : Int) < (l[k].args.length : Int)) = true := decide_eq_true (by omega)
        generalize l[k] = x at *
        clear hrow h8
        go_wp2_with fail
        go_ret
        exact ⟨by rw [HV.out]; rfl, chain0 B2.out HB.out⟩
      · have t3 : decide ((8 : Int) < (l[k].args.length : Int)) = false := decide_eq_false (by omega)
        have HJ2 : Hid (∀ j (hj : j < l.length), j < k + 1 → ¬ 8 < l[j].args.length) := by
          intro j hj hjk
          by_cases e : j = k
          · subst e; exact h8
          · exact HJ.out j hj (by omega)
        generalize l[k] = x at *
        clear hrow h8
        go_wp2_with fail
        go_roundw
        case rel => exact ⟨k + 1, hkn, by go_num, HJ2.out, HB.out⟩
        case measure => simp [intOf]; omega
    · obtain rfl : k = l.length := by omega
      have hd1 : decide (l.length < l.length) = false := decide_eq_false (Nat.lt_irrefl _)
      have hd2 : decide ((l.length : Int) < (l.length : Int)) = false := decide_eq_false (Int.lt_irrefl _)
      have HV := Lib.hid (E4b.out (wide_none fun j hj => HJ.out j hj hj))
      have B3 := Lib.hid (chain0 B2.out HB.out)
      have HR3 : Hid (0 < l.length → ∃ b o, A2 = some ⟨b, o, none⟩ ∧ b < wr.heap.size ∧ Row wr b o (l.flatMap Tree.cells)) := by
        intro h0
        obtain ⟨b, o, e1, hb, hrow⟩ := HR.out h0
        exact ⟨b, o, e1, Nat.lt_of_lt_of_le hb HB.out.size, hrow.below hb HB.out⟩
      clear E4b HJ HB B2 E2a HR
      generalize wr = w3 at *
      go_wp2_with fail
      go_loopw [5] (fun iv wr => ∃ k : Nat, k ≤ l.length ∧ iv = .int .i64 (k : Int) ∧ Hid (errN l = errN (l.drop k)) ∧ Hid (Below w3.heap.size w3 wr)) (fun iv _ => l.length - (intOf iv).toNat)
      case atStart => exact ⟨0, Nat.zero_le _, rfl, rfl, Below.refl _ _⟩
      case round =>
        obtain ⟨k, hk, rfl, HJ, HB⟩ := hrel
        have hk0 : (0 : Int) ≤ (k : Int) := by omega
        by_cases hkn : k < l.length
        · have hd1 : decide (k < l.length) = true := decide_eq_true hkn
          have hd2 : decide ((k : Int) < (l.length : Int)) = true := decide_eq_true (by omega)
          have hkn1 : (k : Int) < (l.length : Int) := by omega
          obtain ⟨b, o, e1, hb, hrow⟩ := HR3.out (by omega)
          subst e1
          have HAT := Lib.hid (fun W (k9 : Below w3.heap.size w3 W) => tree_at (hrow.below hb k9) k hkn)
          have hat := HAT.out _ HB.out
          have hbr := Nat.lt_of_lt_of_le hb HB.out.size
          have hbl := hb
          have HED := Lib.hid (HJ.out.trans (err_drop hkn))
          generalize l[k] = x at *
          have CF2 := Lib.hid (CF.out x)
          have CR2 := Lib.hid (CR.out x)
          unfold Tree.val at CF2 CR2
          clear hrow hb
          go_wp2_with fail
          refine (CF2.out _).mono ?_
          rintro r w5 ⟨rfl, d5⟩
          have HB5 := Lib.hid (chain0 HB.out d5)
          clear d5 hat hbr HB CF2
          cases hf : formB x with
          | false =>
            have HV2 := Lib.hid (HV.out.trans (HED.out.trans (if_pos hf)))
            clear hf
            go_wp2_with fail
            go_ret
            exact ⟨by rw [HV2.out]; rfl, chain0 B3.out HB5.out⟩
          | true =>
          have HED2 := Lib.hid (HED.out.trans (if_neg (by rw [hf]; simp)))
          clear hf HED
          have hat := HAT.out _ HB5.out
          have hbr := Nat.lt_of_lt_of_le hbl HB5.out.size
          go_wp2_with fail
          refine (CR2.out _).mono ?_
          rintro r w6 ⟨rfl, d6⟩
          have HB6 := Lib.hid (chain0 HB5.out d6)
          clear d6 hat hbr HB5 CR2 HAT
          cases hf : rangeB x with
          | false =>
            have HV2 := Lib.hid (HV.out.trans (HED2.out.trans (if_pos hf)))
            clear hf
            go_wp2_with fail
            go_ret
            exact ⟨by rw [HV2.out]; rfl, chain0 B3.out HB6.out⟩
          | true =>
            have HED3 := Lib.hid (HED2.out.trans (if_neg (by rw [hf]; simp)))
            clear hf HED2
            go_wp2_with fail
            go_roundw
            case rel => exact ⟨k + 1, hkn, by go_num, HED3.out, HB6.out⟩
            case measure => simp [intOf]; omega
        · obtain rfl : k = l.length := by omega
          have hd1 : decide (l.length < l.length) = false := decide_eq_false (Nat.lt_irrefl _)
          have hd2 : decide ((l.length : Int) < (l.length : Int)) = false := decide_eq_false (Int.lt_irrefl _)
          have HV2 : Hid (R = 0) := by show _ = _; rw [HV.out, HJ.out, List.drop_length]; rfl
          go_wp2_with fail
          go_ret
          exact ⟨by rw [HV2.out]; rfl, chain0 B3.out HB.out⟩

end Go.Proofs.YtjjlhihocllgjaaGreatDoor.Ex
