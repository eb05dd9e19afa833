/- Contract of the reference's Revenue. Printed by gen_st6.py. -/
import Derived.Test.YthehchdonmmpaaaDoorStT
namespace Go.Proofs.YthehchdonmmpaaaDoor.St
open Go.ChangeShapes Go.WideShapes Go.ChangeAt Go.RowKit Gn Cat Lex Pr Ros Fr
set_option linter.unusedVariables false
set_option linter.unusedSimpArgs false
set_option maxHeartbeats 1000000 in
theorem rrevenue_any (vs : List Inv) (v : Value) (w : World) (hl : vs.length ≤ 100) (h : InvS w v vs) : Calls Tryd.prog 17 #[v] w fun e w' => e = .returned (.int .i64 (dues vs).sum) ∧ Below w.heap.size w w' := by
  obtain ⟨A, c, rfl, _, _, hr⟩ := sl_parts h
  have HR := Lib.hid (fun k (hk : k < vs.length) => by obtain ⟨b, o, e, hb, hrow⟩ := hr (by omega); exact (⟨b, o, e, (inv_at hrow k hk).2.2.2.2.2.2.2.2.2⟩ : ∃ b o, A = some ⟨b, o, none⟩ ∧ w.cell? ⟨b, o + k * 10 + 9, none⟩ = some (.int .i64 vs[k].due)))
  have HB := Lib.hid (fun k => sum_range_of (M := 1000000000) (by omega) (dues (vs.take k)) (dues_range _))
  have HL := Lib.hid (fun k => dues_len (vs.take k))
  have HT := Lib.hid (fun k (hk : k < vs.length) => dues_take (vs := vs) hk)
  have HLEN : Hid (vs.length ≤ 100) := hl
  clear h hr hl
  go_enter Tryd.func17, Tryd.ntmps17
  go_wp2_with fail
  go_loopw [4, 3] (fun iv sv wr => ∃ k : Nat, k ≤ vs.length ∧ iv = .int .i64 (k : Int) ∧ sv = .int .i64 (dues (vs.take k)).sum ∧ w = wr) (fun iv _ _ => vs.length - (intOf iv).toNat)
  case atStart => exact ⟨0, Nat.zero_le _, rfl, rfl, rfl⟩
  case round =>
    obtain ⟨k, hk, rfl, rfl, rfl⟩ := hrel
    have hk0 : (0 : Int) ≤ (k : Int) := by omega
    have hk5 : (k : Int) ≤ 100 := by have := HLEN.out; omega
    by_cases hkn : k < vs.length
    · have hd2 : decide ((k : Int) < (vs.length : Int)) = true := decide_eq_true (by omega)
      have hkn1 : (k : Int) < (vs.length : Int) := by omega
      obtain ⟨b, o, e, hc⟩ := HR.out k hkn
      subst e
      have hs := HB.out k
      have hll := HL.out k
      rw [List.length_take] at hll
      have hm : min k vs.length ≤ 100 := by omega
      have hs2 : (dues (vs.take k)).sum ≤ 100000000000 := by
        have h1 : ((dues (vs.take k)).length : Int) * 1000000000 ≤ 100 * 1000000000 := Int.mul_le_mul_of_nonneg_right (by omega) (by omega)
        omega
      have hs0 := hs.1
      have HTK : Hid ((dues (vs.take (k + 1))).sum = (dues (vs.take k)).sum + (if 0 ≤ vs[k].due ∧ vs[k].due ≤ 1000000 then vs[k].due else 0)) := by
        show _ = _
        rw [HT.out k hkn, List.sum_append]
        split <;> simp
      generalize (dues (vs.take k)).sum = s at *
      generalize hdu : vs[k].due = du at *
      clear hs hll hm
      have HTS : Hid (∀ L : List Int, True) := fun _ => trivial
      clear HTS
      by_cases h0 : 0 ≤ du
      · have d0 : decide (0 ≤ du) = true := decide_eq_true h0
        by_cases h1 : du ≤ 1000000
        · have d1 : decide (du ≤ 1000000) = true := decide_eq_true h1
          have w1 : IntKind.i64.wrap (s + du) = s + du := IntWalk.i64_in _ (by omega)
          go_wp2_with fail
          go_roundw
          case rel => exact ⟨k + 1, hkn, by go_num, by rw [HTK.out, if_pos ⟨h0, h1⟩], by first | rfl | trivial⟩
          case measure => simp [intOf]; omega
        · have d1 : decide (du ≤ 1000000) = false := decide_eq_false h1
          go_wp2_with fail
          go_roundw
          case rel => exact ⟨k + 1, hkn, by go_num, by rw [HTK.out, if_neg (fun h => h1 h.2), Int.add_zero], by first | rfl | trivial⟩
          case measure => simp [intOf]; omega
      · have d0 : decide (0 ≤ du) = false := decide_eq_false h0
        go_wp2_with fail
        go_roundw
        case rel => exact ⟨k + 1, hkn, by go_num, by rw [HTK.out, if_neg (fun h => h0 h.1), Int.add_zero], by first | rfl | trivial⟩
        case measure => simp [intOf]; omega
    · obtain rfl : k = vs.length := by omega
      have hd2 : decide ((vs.length : Int) < (vs.length : Int)) = false := decide_eq_false (Int.lt_irrefl _)
      rw [List.take_length]
      go_wp2_with fail
      go_ret
      exact ⟨rfl, Below.refl _ _⟩
end Go.Proofs.YthehchdonmmpaaaDoor.St
