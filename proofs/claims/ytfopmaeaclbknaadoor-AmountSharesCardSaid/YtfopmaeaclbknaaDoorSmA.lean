/- Contracts of slices.swapRangeCmpFunc and rotateCmpFunc. Printed by gen_sm1.py. Contract of slices.symMergeCmpFunc. Printed by gen_sm2.py. Contract of slices.symMergeCmpFunc, one element on the right. Printed by gen_sm3.py. -/
import Derived.Test.YtfopmaeaclbknaaDoorSm0
import Derived.Test.YtfopmaeaclbknaaDoorSo1
import Derived.RegionTactic
namespace Go.Proofs.YtfopmaeaclbknaaDoor
open Go.ChangeShapes Go.WideShapes Go.ChangeAt Go.RowKit
set_option linter.unusedVariables false
set_option linter.unusedSimpArgs false
namespace So
theorem Far.keepF {w w1 w2 : World} {g : Nat} (h : Far g w w1) (k : Far g w1 w2) : Far g w w2 := h.trans k
set_option maxHeartbeats 2000000 in
theorem swap_any (w : World) (base g gc n a b c : Nat) (f : Nat → Nat) (hab : a + c ≤ b) (hb : b + c ≤ n) (hn : n ≤ 1000) (hr : RowF w base g 3 n (f)) : Calls Tryd.prog 142 #[.slice (some ⟨g, 0, none⟩) n n, .int .i64 ((a : Nat) : Int), .int .i64 ((b : Nat) : Int), .int .i64 ((c : Nat) : Int), .func (.func 49) #[] #[.pointer (some ⟨gc, 0, none⟩)]] w fun e w' => e = .returned (.tuple #[]) ∧ RowF w' base g 3 n (swapF f a b c) ∧ Far g w w' := by
  have ha0 : (0 : Int) ≤ (a : Int) := by omega
  have hb0 : (0 : Int) ≤ (b : Int) := by omega
  have ha5 : (a : Int) ≤ 1000 := by omega
  have hb5 : (b : Int) ≤ 1000 := by omega
  have HR := Lib.hid hr
  have HAB := Lib.hid hab
  have HBN := Lib.hid hb
  have HCN : Hid (c ≤ 1000) := by show c ≤ 1000; omega
  clear hr hab hb
  go_enter Tryd.func142, Tryd.ntmps142
  go_wp2_with fail
  go_loopw [10] (fun v wr => ∃ i : Nat, i ≤ c ∧ v = .int .i64 (i : Int) ∧ Hid (RowF wr base g 3 n (swapF f a b i) ∧ Far g w wr)) (fun v _ => c - (intOf v).toNat)
  case atStart => exact ⟨0, Nat.zero_le _, rfl, by rw [swapF_zero]; exact HR.out, Far.refl _ _⟩
  case round =>
    obtain ⟨i, hi, rfl, HW⟩ := hrel
    have hi0 : (0 : Int) ≤ (i : Int) := by omega
    have hi5 : (i : Int) ≤ 1000 := by have := HCN.out; omega
    by_cases hic : i < c
    · have d1 : decide (i < c) = true := decide_eq_true hic
      have d2 : decide ((i : Int) < (c : Int)) = true := decide_eq_true (by omega)
      have hA : a + i < n := by have := HAB.out; have := HBN.out; omega
      have hB : b + i < n := by have := HAB.out; have := HBN.out; omega
      have hA1 : (a : Int) + (i : Int) < (n : Int) := by omega
      have hB1 : (b : Int) + (i : Int) < (n : Int) := by omega
      have c1 : wr.cell? ⟨g, a + i, none⟩ = some (.int .i64 ((f (a + i) : Nat) : Int)) := by rw [HW.out.1.cell hA, (swapF_at HAB.out hic).1]
      have c2 : wr.cell? ⟨g, b + i, none⟩ = some (.int .i64 ((f (b + i) : Nat) : Int)) := by rw [HW.out.1.cell hB, (swapF_at HAB.out hic).2]
      have f1 := HW.out.1.free (a + i)
      have f2 := HW.out.1.free (b + i)
      have fl := HW.out.1.lt
      have HN : Hid (RowF ((wr.setCell ⟨g, a + i, none⟩ (.int .i64 ((f (b + i) : Nat) : Int))).setCell ⟨g, b + i, none⟩ (.int .i64 ((f (a + i) : Nat) : Int))) base g 3 n (swapF f a b (i + 1))) := by
        have h1 := (HW.out.1.put (a + i) (f (b + i))).put (b + i) (f (a + i))
        rw [swapF_step HAB.out hic] at h1
        exact h1
      have e1 : ((a : Int) + (i : Int)).toNat = a + i := by omega
      have e2 : ((b : Int) + (i : Int)).toNat = b + i := by omega
      have n1 : ¬ a = b := by have := HAB.out; omega
      have n2 : ¬ b = a := by have := HAB.out; omega
      have c3 : (wr.setCell ⟨g, a + i, none⟩ (.int .i64 ((f (b + i) : Nat) : Int))).cell? ⟨g, b + i, none⟩ = some (.int .i64 ((f (b + i) : Nat) : Int)) := by
        have h1 := (HW.out.1.put (a + i) (f (b + i))).cell hB
        rw [h1]; unfold upd; rw [if_neg (by omega), (swapF_at HAB.out hic).2]
      have f3 := (HW.out.1.put (a + i) (f (b + i))).free (b + i)
      have hic1 : i + 1 ≤ c := hic
      clear hic
      go_wp2_with fail
      go_region
      all_goals go_wp2_with fail
      go_roundw
      case rel => exact ⟨i + 1, hic1, by go_num, HN.out.drew, ((HW.out.2.put _ _).put _ _).drew⟩
      case measure => simp [intOf]; omega
    · obtain rfl : i = c := by omega
      have d1 : decide (i < i) = false := decide_eq_false (Nat.lt_irrefl _)
      have d2 : decide ((i : Int) < (i : Int)) = false := decide_eq_false (Int.lt_irrefl _)
      go_wp2_with fail
      go_end0
      exact ⟨rfl, HW.out.1, HW.out.2⟩
set_option maxHeartbeats 2000000 in
theorem rotate_any (w : World) (base g gc n a m b : Nat) (f : Nat → Nat) (ham : a < m) (hmb : m < b) (hb : b ≤ n) (hn : n ≤ 1000) (hr : RowF w base g 3 n (f)) : Calls Tryd.prog 123 #[.slice (some ⟨g, 0, none⟩) n n, .int .i64 ((a : Nat) : Int), .int .i64 ((m : Nat) : Int), .int .i64 ((b : Nat) : Int), .func (.func 49) #[] #[.pointer (some ⟨gc, 0, none⟩)]] w fun e w' => e = .returned (.tuple #[]) ∧ RowF w' base g 3 n (rotF f a m b) ∧ Far g w w' := by
  have CS := Lib.hid (fun w' a' b' c' f' (h1 : a' + c' ≤ b') (h2 : b' + c' ≤ n) (h3 : RowF w' base g 3 n f') => swap_any w' base g gc n a' b' c' f' h1 h2 hn h3)
  have ha0 : (0 : Int) ≤ (a : Int) := by omega
  have hm0 : (0 : Int) ≤ (m : Int) := by omega
  have hb0 : (0 : Int) ≤ (b : Int) := by omega
  have ha5 : (a : Int) ≤ 1000 := by omega
  have hm5 : (m : Int) ≤ 1000 := by omega
  have hb5 : (b : Int) ≤ 1000 := by omega
  have hma : (m : Int) - (a : Int) = ((m - a : Nat) : Int) := by omega
  have hbm : (b : Int) - (m : Int) = ((b - m : Nat) : Int) := by omega
  have HR := Lib.hid hr
  have HAM := Lib.hid ham
  have HMB := Lib.hid hmb
  have HBN := Lib.hid hb
  clear hr ham hmb hb
  go_enter Tryd.func123, Tryd.ntmps123
  go_wp2_with fail
  go_loopw [10, 11] (fun v u wr => ∃ i j : Nat, ∃ f' : Nat → Nat, 0 < i ∧ 0 < j ∧ i + a ≤ m ∧ j + m ≤ b ∧ v = .int .i64 (i : Int) ∧ u = .int .i64 (j : Int) ∧ Hid (rotF f' (m - i) m (m + j) = rotF f a m b) ∧ Hid (RowF wr base g 3 n (f') ∧ Far g w wr)) (fun v u _ => (intOf v).toNat + (intOf u).toNat)
  case atStart =>
    refine ⟨m - a, b - m, f, by have := HAM.out; omega, by have := HMB.out; omega, by have := HAM.out; omega, by have := HMB.out; omega, by go_num, by go_num, ?_, HR.out, Far.refl _ _⟩
    have e1 : m - (m - a) = a := by have := HAM.out; omega
    have e2 : m + (b - m) = b := by have := HMB.out; omega
    show rotF f (m - (m - a)) m (m + (b - m)) = _
    rw [e1, e2]
  case round =>
    obtain ⟨i, j, f', hi, hj, hia, hjb, rfl, rfl, HF, HW⟩ := hrel
    have hi0 : (0 : Int) ≤ (i : Int) := by omega
    have hj0 : (0 : Int) ≤ (j : Int) := by omega
    have hi5 : (i : Int) ≤ 1000 := by omega
    have hj5 : (j : Int) ≤ 1000 := by omega
    have hmi : (m : Int) - (i : Int) = ((m - i : Nat) : Int) := by omega
    rcases Nat.lt_trichotomy i j with hij | hij | hij
    · have d1 : ((i : Int) != (j : Int)) = true := by simp; omega
      have d2 : decide (j < i) = false := decide_eq_false (by omega)
      have d3 : decide ((j : Int) < (i : Int)) = false := decide_eq_false (by omega)
      have hmj : (m : Int) + (j : Int) - (i : Int) = ((m + j - i : Nat) : Int) := by omega
      have hji : (j : Int) - (i : Int) = ((j - i : Nat) : Int) := by omega
      have C1 := Lib.hid (CS.out wr (m - i) (m + j - i) i f' (by omega) (by have := HBN.out; omega) HW.out.1)
      have HF2 : Hid (rotF (swapF f' (m - i) (m + j - i) i) (m - i) m (m + (j - i)) = rotF f a m b) := by rw [rotF_lt (by omega) hij hi]; exact HF.out
      have hji0 : 0 < j - i := by omega
      have hjb2 : j - i + m ≤ b := by omega
      have hme : ((i : Int)).toNat + ((j - i : Nat) : Int).toNat < ((i : Int)).toNat + ((j : Int)).toNat := by omega
      clear hij
      go_wp2_with fail
      refine C1.out.mono ?_
      rintro e w2 ⟨rfl, h2, h3⟩
      have HW2 : Hid (RowF w2 base g 3 n (swapF f' (m - i) (m + j - i) i) ∧ Far g w w2) := ⟨h2, HW.out.2.trans h3⟩
      clear h2 h3
      go_wp2_with fail
      go_roundw
      case rel => exact ⟨i, j - i, _, hi, hji0, hia, hjb2, rfl, by go_num, HF2, HW2⟩
      case measure => simp [intOf]; omega
    · subst hij
      have d1 : ((i : Int) != (i : Int)) = false := by simp
      have C1 := Lib.hid (CS.out wr (m - i) m i f' (by omega) (by have := HBN.out; omega) HW.out.1)
      have HF2 : Hid (swapF f' (m - i) m i = rotF f a m b) := by rw [rotF_eq (by omega)]; exact HF.out
      go_wp2_with fail
      refine C1.out.mono ?_
      rintro e w2 ⟨rfl, h2, h3⟩
      have HW2 : Hid (RowF w2 base g 3 n (rotF f a m b) ∧ Far g w w2) := ⟨by rw [← HF2.out]; exact h2, HW.out.2.trans h3⟩
      clear h2 h3
      go_wp2_with fail
      go_end0
      exact ⟨rfl, HW2.out.1, HW2.out.2⟩
    · have d1 : ((i : Int) != (j : Int)) = true := by simp; omega
      have d2 : decide (j < i) = true := decide_eq_true (by omega)
      have d3 : decide ((j : Int) < (i : Int)) = true := decide_eq_true (by omega)
      have hij2 : (i : Int) - (j : Int) = ((i - j : Nat) : Int) := by omega
      have C1 := Lib.hid (CS.out wr (m - i) m j f' (by omega) (by have := HBN.out; omega) HW.out.1)
      have HF2 : Hid (rotF (swapF f' (m - i) m j) (m - (i - j)) m (m + j) = rotF f a m b) := by rw [rotF_gt (by omega) hij hj]; exact HF.out
      have hij0 : 0 < i - j := by omega
      have hia2 : i - j + a ≤ m := by omega
      clear hij
      go_wp2_with fail
      refine C1.out.mono ?_
      rintro e w2 ⟨rfl, h2, h3⟩
      have HW2 : Hid (RowF w2 base g 3 n (swapF f' (m - i) m j) ∧ Far g w w2) := ⟨h2, HW.out.2.trans h3⟩
      clear h2 h3
      go_wp2_with fail
      go_roundw
      case rel => exact ⟨i - j, j, _, hij0, hj, hia2, hjb, by go_num, rfl, HF2, HW2⟩
      case measure => simp [intOf]; omega
end So
end Go.Proofs.YtfopmaeaclbknaaDoor
namespace Go.Proofs.YtfopmaeaclbknaaDoor
open Go.ChangeShapes Go.WideShapes Go.ChangeAt Go.RowKit
set_option linter.unusedVariables false
set_option linter.unusedSimpArgs false
namespace So
/-- what a merge does -/
def MergePost (w : World) (base g n : Nat) (r f : Nat → Nat) (a b : Nat) (e : Ending) (w' : World) : Prop := ∃ f', e = .returned (.tuple #[]) ∧ MixF f f' a b ∧ SortedF r f' a b ∧ RowF w' base g 3 n f' ∧ Far g w w'
theorem half_facts {x y : Nat} (h : x < y) (hy : y ≤ 1000) : ∃ z : Nat, z = (x + y) / 2 ∧ x ≤ z ∧ z < y ∧ z ≤ 1000 ∧ IntKind.u64.wrap ((x : Int) + (y : Int)) = (x : Int) + (y : Int) ∧ ((x : Int) + (y : Int)) / 2 = (z : Int) ∧ ((x : Int) + (y : Int)) >>> 1 = (z : Int) ∧ IntKind.u64.wrap (z : Int) = (z : Int) ∧ IntKind.i64.wrap (z : Int) = (z : Int) ∧ IntKind.i64.wrap ((x : Int) + (y : Int)) = (x : Int) + (y : Int) := by
  have e : ((x : Int) + (y : Int)) / 2 = (((x + y) / 2 : Nat) : Int) := by omega
  refine ⟨(x + y) / 2, rfl, by omega, by omega, by omega, IntWalk.u64_in _ (by omega), e, ?_, IntWalk.u64_in _ (by omega), IntWalk.i64_in _ (by omega), IntWalk.i64_in _ (by omega)⟩
  rw [Int.shiftRight_eq_div_pow]
  exact e
/-- x stands before y, as the comparison tells -/
theorem cmp_left {r : Nat → Nat} {x y : Nat} (h : x < y) : (decide (cmpv (r y) (r x) < 0) = true ∧ LT r y x) ∨ (decide (cmpv (r y) (r x) < 0) = false ∧ LT r x y) := by
  rw [cmpv_lt]
  by_cases c : r x < r y
  · exact .inl ⟨decide_eq_true c, .inl c⟩
  · exact .inr ⟨decide_eq_false c, by unfold LT; omega⟩
set_option maxHeartbeats 4000000 in
set_option maxRecDepth 100000 in
theorem merge_one (w : World) (base g gc n N a m b : Nat) (r f : Nat → Nat) (h1 : m = a + 1) (hmb : m < b) (hb : b ≤ n) (hn : n ≤ 1000) (hA : SortedF r f a m) (hB : SortedF r f m b) (hL : LeftF f a m b) (hN : ∀ k, k < n → f k < N) (hc : CmpOk w g gc N r) (hr : RowF w base g 3 n (f)) : Calls Tryd.prog 92 #[.slice (some ⟨g, 0, none⟩) n n, .int .i64 ((a : Nat) : Int), .int .i64 ((m : Nat) : Int), .int .i64 ((b : Nat) : Int), .func (.func 49) #[] #[.pointer (some ⟨gc, 0, none⟩)]] w (MergePost w base g n r f a b) := by
  have ha0 : (0 : Int) ≤ (a : Int) := by omega
  have hm0 : (0 : Int) ≤ (m : Int) := by omega
  have hb0 : (0 : Int) ≤ (b : Int) := by omega
  have ha5 : (a : Int) ≤ 1000 := by omega
  have hm5 : (m : Int) ≤ 1000 := by omega
  have hb5 : (b : Int) ≤ 1000 := by omega
  have q1 : ((m : Int) - (a : Int) == 1) = true := by simp; omega
  have q2 : (m : Int) - (a : Int) = 1 := by omega
  have HR := Lib.hid hr
  have HC := Lib.hid hc
  have HN := Lib.hid hN
  have HB := Lib.hid hB
  have HL := Lib.hid hL
  have H1 := Lib.hid h1
  have HMB := Lib.hid hmb
  have HBN := Lib.hid hb
  clear hr hc hN hA hB hL h1 hmb hb
  go_enter Tryd.func92, Tryd.ntmps92
  go_wp2_with fail
  go_loopw [10, 11] (fun v u wr => ∃ i j : Nat, m ≤ i ∧ i ≤ j ∧ j ≤ b ∧ v = .int .i64 (i : Int) ∧ u = .int .i64 (j : Int) ∧ Hid ((i = m ∨ LT r (f (i - 1)) (f a)) ∧ (j = b ∨ LT r (f a) (f j))) ∧ Hid (RowF wr base g 3 n (f) ∧ Far g w wr)) (fun v u _ => (intOf u).toNat - (intOf v).toNat)
  case atStart => exact ⟨m, b, Nat.le_refl _, Nat.le_of_lt HMB.out, Nat.le_refl _, rfl, rfl, ⟨.inl rfl, .inl rfl⟩, HR.out, Far.refl _ _⟩
  case round =>
    obtain ⟨i, j, hi, hij, hj, rfl, rfl, HS, HW⟩ := hrel
    have hi0 : (0 : Int) ≤ (i : Int) := by omega
    have hj0 : (0 : Int) ≤ (j : Int) := by omega
    have hi5 : (i : Int) ≤ 1000 := by omega
    have hj5 : (j : Int) ≤ 1000 := by omega
    by_cases hlt : i < j
    · have d1 : decide (i < j) = true := decide_eq_true hlt
      have d2 : decide ((i : Int) < (j : Int)) = true := decide_eq_true (by omega)
      obtain ⟨z, hz, z1, z2, z3, e1, e2, e3, e4, e5, e6⟩ := half_facts hlt (by omega)
      have HZ : Hid (z = (i + j) / 2) := hz
      have hzn : z < n := by have := HBN.out; omega
      have han : a < n := by have := HBN.out; have := H1.out; have := HMB.out; omega
      have hzn1 : (z : Int) < (n : Int) := by omega
      have han1 : (a : Int) < (n : Int) := by omega
      have hz0 : (0 : Int) ≤ (z : Int) := by omega
      have hz5 : (z : Int) ≤ 1000 := by omega
      have c1 : wr.cell? ⟨g, z, none⟩ = some (.int .i64 ((f z : Nat) : Int)) := HW.out.1.cell hzn
      have c2 : wr.cell? ⟨g, a, none⟩ = some (.int .i64 ((f a : Nat) : Int)) := HW.out.1.cell han
      have CC := Lib.hid (fun k => HC.out (wr.drewN k) (HW.out.2.drewN k) (f z) (f a) (HN.out z hzn) (HN.out a han))
      have HLT : Hid (f a < f z) := HL.out a z (Nat.le_refl _) (by have := H1.out; omega) (by omega) (by omega)
      have HX1 : Hid (LT r (f z) (f a) → (z + 1 = m ∨ LT r (f (z + 1 - 1)) (f a)) ∧ (j = b ∨ LT r (f a) (f j))) := fun h => ⟨.inr h, HS.out.2⟩
      have HX2 : Hid (LT r (f a) (f z) → (i = m ∨ LT r (f (i - 1)) (f a)) ∧ (z = b ∨ LT r (f a) (f z))) := fun h => ⟨HS.out.1, .inr h⟩
      obtain ⟨x, hx⟩ : ∃ x, x = cmpv (r (f z)) (r (f a)) := ⟨_, rfl⟩
      have CC2 : Hid (∀ k, Calls Tryd.prog 49 #[.int .i64 ((f z : Nat) : Int), .int .i64 ((f a : Nat) : Int), .pointer (some ⟨gc, 0, none⟩)] (wr.drewN k) fun e w'' => e = .returned (.int .i64 x) ∧ ∃ q, w'' = (wr.drewN k).drewN q) := by rw [hx]; exact CC.out
      have HCASE := Lib.hid (cmp_left (r := r) HLT.out)
      rw [← hx] at HCASE
      clear CC hz hx hlt
      rcases HCASE.out with ⟨k1, k2⟩ | ⟨k1, k2⟩
      · have K2 := Lib.hid (HX1.out k2)
        clear k2 HX1 HX2 HCASE
        go_wp2_with fail
        go_quiet ((go_at_call 49; exact Calls.quiet_of (CC2.out _)))
        go_wp2_with fail
        have HW3 : Hid (RowF (wr.drewN nq) base g 3 n (f) ∧ Far g w (wr.drewN nq)) := ⟨HW.out.1.drewN nq, HW.out.2.drewN nq⟩
        go_roundw
        case rel => exact ⟨z + 1, j, by omega, by omega, hj, by go_num, rfl, K2.out, HW3.out⟩
        case measure => simp [intOf]; omega
      · have K2 := Lib.hid (HX2.out k2)
        clear k2 HX1 HX2 HCASE
        go_wp2_with fail
        go_quiet ((go_at_call 49; exact Calls.quiet_of (CC2.out _)))
        go_wp2_with fail
        have HW3 : Hid (RowF (wr.drewN nq) base g 3 n (f) ∧ Far g w (wr.drewN nq)) := ⟨HW.out.1.drewN nq, HW.out.2.drewN nq⟩
        go_roundw
        case rel => exact ⟨i, z, hi, z1, by omega, rfl, rfl, K2.out, HW3.out⟩
        case measure => simp [intOf]; omega
    · obtain rfl : i = j := by omega
      have d1 : decide (i < i) = false := decide_eq_false (Nat.lt_irrefl _)
      have d2 : decide ((i : Int) < (i : Int)) = false := decide_eq_false (Int.lt_irrefl _)
      have HSR := Lib.hid (srch_r HB.out hi hj HS.out.1 HS.out.2)
      obtain ⟨p, rfl⟩ : ∃ p, i = p + 1 := ⟨i - 1, by have := H1.out; omega⟩
      have HFIN : Hid (MixF f (insR f a p) a b ∧ SortedF r (insR f a p) a b) := by
        have h1 := H1.out
        subst h1
        exact ⟨insR_mix (by omega) (by omega), insR_sorted HB.out (by omega) (by omega) (fun k k1 k2 => HSR.out.1 k (by omega) (by omega)) (fun k k1 k2 => HSR.out.2 k (by omega) k2)⟩
      have hap : a ≤ p := by have := H1.out; omega
      have hpb : p < b := by omega
      have hp0 : (0 : Int) ≤ (p : Int) := by omega
      have hp5 : (p : Int) ≤ 1000 := by omega
      clear HS HSR hi hj hij
      go_wp2_with fail
      go_loopw [13] (fun v wq => ∃ k : Nat, a ≤ k ∧ k ≤ p ∧ v = .int .i64 (k : Int) ∧ Hid (RowF wq base g 3 n (insR f a k) ∧ Far g w wq)) (fun v _ => p - (intOf v).toNat)
      case atStart => exact ⟨a, Nat.le_refl _, hap, rfl, by rw [insR_zero]; exact HW.out.1, HW.out.2⟩
      case round =>
        clear HW
        obtain ⟨k, hk, hkp, rfl, HV⟩ := hrel
        have hk0 : (0 : Int) ≤ (k : Int) := by omega
        have hk5 : (k : Int) ≤ 1000 := by omega
        by_cases hlt : k < p
        · have g1 : decide (k < p) = true := decide_eq_true hlt
          have g2 : decide ((k : Int) < (p : Int)) = true := decide_eq_true (by omega)
          have hkn : k + 1 < n := by have := HBN.out; omega
          have hkn1 : (k : Int) + 1 < (n : Int) := by omega
          have hkn2 : (k : Int) < (n : Int) := by omega
          have c1 : wr.cell? ⟨g, k, none⟩ = some (.int .i64 ((f a : Nat) : Int)) := by rw [HV.out.1.cell (by omega), (insR_at hk).1]
          have c2 : wr.cell? ⟨g, k + 1, none⟩ = some (.int .i64 ((f (k + 1) : Nat) : Int)) := by rw [HV.out.1.cell hkn, (insR_at hk).2]
          have f1 := HV.out.1.free k
          have f2 := HV.out.1.free (k + 1)
          have fl := HV.out.1.lt
          have HNX : Hid (RowF ((wr.setCell ⟨g, k, none⟩ (.int .i64 ((f (k + 1) : Nat) : Int))).setCell ⟨g, k + 1, none⟩ (.int .i64 ((f a : Nat) : Int))) base g 3 n (insR f a (k + 1))) := by
            have h1 := (HV.out.1.put k (f (k + 1))).put (k + 1) (f a)
            rw [insR_step hk] at h1
            exact h1
          have hkp1 : k + 1 ≤ p := hlt
          have hak1 : a ≤ k + 1 := by omega
          clear hlt
          go_wp2_with fail
          go_region
          all_goals go_wp2_with fail
          go_roundw
          case rel => exact ⟨k + 1, hak1, hkp1, by go_num, HNX.out.drew, ((HV.out.2.put _ _).put _ _).drew⟩
          case measure => simp [intOf]; omega
        · obtain rfl : k = p := by omega
          have g1 : decide (k < k) = false := decide_eq_false (Nat.lt_irrefl _)
          have g2 : decide ((k : Int) < (k : Int)) = false := decide_eq_false (Int.lt_irrefl _)
          go_wp2_with fail
          go_end0
          exact ⟨_, rfl, HFIN.out.1, HFIN.out.2, HV.out.1, HV.out.2⟩
end So
end Go.Proofs.YtfopmaeaclbknaaDoor
namespace Go.Proofs.YtfopmaeaclbknaaDoor
open Go.ChangeShapes Go.WideShapes Go.ChangeAt Go.RowKit
set_option linter.unusedVariables false
set_option linter.unusedSimpArgs false
namespace So
set_option maxHeartbeats 4000000 in
set_option maxRecDepth 100000 in
theorem merge_last (w : World) (base g gc n N a m b : Nat) (r f : Nat → Nat) (h1 : b = m + 1) (ham : a + 1 < m) (hb : b ≤ n) (hn : n ≤ 1000) (hA : SortedF r f a m) (hB : SortedF r f m b) (hL : LeftF f a m b) (hN : ∀ k, k < n → f k < N) (hc : CmpOk w g gc N r) (hr : RowF w base g 3 n (f)) : Calls Tryd.prog 92 #[.slice (some ⟨g, 0, none⟩) n n, .int .i64 ((a : Nat) : Int), .int .i64 ((m : Nat) : Int), .int .i64 ((b : Nat) : Int), .func (.func 49) #[] #[.pointer (some ⟨gc, 0, none⟩)]] w (MergePost w base g n r f a b) := by
  have ha0 : (0 : Int) ≤ (a : Int) := by omega
  have hm0 : (0 : Int) ≤ (m : Int) := by omega
  have hb0 : (0 : Int) ≤ (b : Int) := by omega
  have ha5 : (a : Int) ≤ 1000 := by omega
  have hm5 : (m : Int) ≤ 1000 := by omega
  have hb5 : (b : Int) ≤ 1000 := by omega
  have q1 : ((m : Int) - (a : Int) == 1) = false := beq_eq_false_iff_ne.2 (by omega)
  have q2 : ((b : Int) - (m : Int) == 1) = true := by simp; omega
  have q3 : (b : Int) - (m : Int) = 1 := by omega
  have HR := Lib.hid hr
  have HC := Lib.hid hc
  have HN := Lib.hid hN
  have HA := Lib.hid hA
  have HL := Lib.hid hL
  have H1 := Lib.hid h1
  have HAM := Lib.hid ham
  have HBN := Lib.hid hb
  clear hr hc hN hA hB hL h1 ham hb
  go_enter Tryd.func92, Tryd.ntmps92
  go_wp2_with fail
  go_loopw [14, 15] (fun v u wr => ∃ i j : Nat, a ≤ i ∧ i ≤ j ∧ j ≤ m ∧ v = .int .i64 (i : Int) ∧ u = .int .i64 (j : Int) ∧ Hid ((i = a ∨ LT r (f (i - 1)) (f m)) ∧ (j = m ∨ LT r (f m) (f j))) ∧ Hid (RowF wr base g 3 n (f) ∧ Far g w wr)) (fun v u _ => (intOf u).toNat - (intOf v).toNat)
  case atStart => exact ⟨a, m, Nat.le_refl _, by have := HAM.out; omega, Nat.le_refl _, rfl, rfl, ⟨.inl rfl, .inl rfl⟩, HR.out, Far.refl _ _⟩
  case round =>
    obtain ⟨i, j, hi, hij, hj, rfl, rfl, HS, HW⟩ := hrel
    have hi0 : (0 : Int) ≤ (i : Int) := by omega
    have hj0 : (0 : Int) ≤ (j : Int) := by omega
    have hi5 : (i : Int) ≤ 1000 := by omega
    have hj5 : (j : Int) ≤ 1000 := by omega
    by_cases hlt : i < j
    · have d1 : decide (i < j) = true := decide_eq_true hlt
      have d2 : decide ((i : Int) < (j : Int)) = true := decide_eq_true (by omega)
      obtain ⟨z, hz, z1, z2, z3, e1, e2, e3, e4, e5, e6⟩ := half_facts hlt (by omega)
      have HZ : Hid (z = (i + j) / 2) := hz
      have hzn : z < n := by have := HBN.out; have := H1.out; omega
      have hmn : m < n := by have := HBN.out; have := H1.out; omega
      have hzn1 : (z : Int) < (n : Int) := by omega
      have hmn1 : (m : Int) < (n : Int) := by omega
      have hz0 : (0 : Int) ≤ (z : Int) := by omega
      have hz5 : (z : Int) ≤ 1000 := by omega
      have c1 : wr.cell? ⟨g, z, none⟩ = some (.int .i64 ((f z : Nat) : Int)) := HW.out.1.cell hzn
      have c2 : wr.cell? ⟨g, m, none⟩ = some (.int .i64 ((f m : Nat) : Int)) := HW.out.1.cell hmn
      have CC := Lib.hid (fun k => HC.out (wr.drewN k) (HW.out.2.drewN k) (f m) (f z) (HN.out m hmn) (HN.out z hzn))
      have HLT : Hid (f z < f m) := HL.out z m (by omega) (by omega) (Nat.le_refl _) (by have := H1.out; omega)
      have HX1 : Hid (LT r (f z) (f m) → (z + 1 = a ∨ LT r (f (z + 1 - 1)) (f m)) ∧ (j = m ∨ LT r (f m) (f j))) := fun h => ⟨.inr h, HS.out.2⟩
      have HX2 : Hid (LT r (f m) (f z) → (i = a ∨ LT r (f (i - 1)) (f m)) ∧ (z = m ∨ LT r (f m) (f z))) := fun h => ⟨HS.out.1, .inr h⟩
      obtain ⟨x, hx⟩ : ∃ x, x = cmpv (r (f m)) (r (f z)) := ⟨_, rfl⟩
      have CC2 : Hid (∀ k, Calls Tryd.prog 49 #[.int .i64 ((f m : Nat) : Int), .int .i64 ((f z : Nat) : Int), .pointer (some ⟨gc, 0, none⟩)] (wr.drewN k) fun e w'' => e = .returned (.int .i64 x) ∧ ∃ q, w'' = (wr.drewN k).drewN q) := by rw [hx]; exact CC.out
      have HCASE := Lib.hid (cmp_left (r := r) HLT.out)
      rw [← hx] at HCASE
      clear CC hz hx hlt
      rcases HCASE.out with ⟨k1, k2⟩ | ⟨k1, k2⟩
      · have K2 := Lib.hid (HX2.out k2)
        clear k2 HX1 HX2 HCASE
        go_wp2_with fail
        go_quiet ((go_at_call 49; exact Calls.quiet_of (CC2.out _)))
        go_wp2_with fail
        have HW3 : Hid (RowF (wr.drewN nq) base g 3 n (f) ∧ Far g w (wr.drewN nq)) := ⟨HW.out.1.drewN nq, HW.out.2.drewN nq⟩
        go_roundw
        case rel => exact ⟨i, z, hi, z1, by omega, rfl, rfl, K2.out, HW3.out⟩
        case measure => simp [intOf]; omega
      · have K2 := Lib.hid (HX1.out k2)
        clear k2 HX1 HX2 HCASE
        go_wp2_with fail
        go_quiet ((go_at_call 49; exact Calls.quiet_of (CC2.out _)))
        go_wp2_with fail
        have HW3 : Hid (RowF (wr.drewN nq) base g 3 n (f) ∧ Far g w (wr.drewN nq)) := ⟨HW.out.1.drewN nq, HW.out.2.drewN nq⟩
        go_roundw
        case rel => exact ⟨z + 1, j, by omega, by omega, hj, by go_num, rfl, K2.out, HW3.out⟩
        case measure => simp [intOf]; omega
    · obtain rfl : i = j := by omega
      have d1 : decide (i < i) = false := decide_eq_false (Nat.lt_irrefl _)
      have d2 : decide ((i : Int) < (i : Int)) = false := decide_eq_false (Int.lt_irrefl _)
      have HSR := Lib.hid (srch_r HA.out hi hj HS.out.1 HS.out.2)
      have HFIN : Hid (MixF f (insL f i m) a b ∧ SortedF r (insL f i m) a b) := by
        have h1 := H1.out
        subst h1
        exact ⟨insL_mix hi hj (by omega), insL_sorted HA.out hi hj HSR.out.1 HSR.out.2⟩
      clear HS HSR
      go_wp2_with fail
      go_loopw [17] (fun v wq => ∃ k : Nat, i ≤ k ∧ k ≤ m ∧ v = .int .i64 (k : Int) ∧ Hid (RowF wq base g 3 n (insL f k m) ∧ Far g w wq)) (fun v _ => (intOf v).toNat - i)
      case atStart => exact ⟨m, hj, Nat.le_refl _, rfl, by rw [insL_zero]; exact HW.out.1, HW.out.2⟩
      case round =>
        clear HW
        obtain ⟨k', hk, hkp, rfl, HV⟩ := hrel
        by_cases hlt : i < k'
        · obtain ⟨k, rfl⟩ : ∃ k, k' = k + 1 := ⟨k' - 1, by omega⟩
          have hk0 : (0 : Int) ≤ (k : Int) := by omega
          have hk5 : (k : Int) ≤ 1000 := by omega
          have g1 : decide (i < k + 1) = true := decide_eq_true hlt
          have g2 : decide ((i : Int) < (k : Int) + 1) = true := decide_eq_true (by omega)
          have hkn : k + 1 < n := by have := HBN.out; have := H1.out; omega
          have hkn1 : (k : Int) + 1 < (n : Int) := by omega
          have hkn2 : (k : Int) < (n : Int) := by omega
          have hp3 : (k : Int) + 1 - 1 = (k : Int) := by omega
          have c1 : wr.cell? ⟨g, k + 1, none⟩ = some (.int .i64 ((f m : Nat) : Int)) := by rw [HV.out.1.cell hkn, (insL_at (by omega)).1]
          have c2 : wr.cell? ⟨g, k, none⟩ = some (.int .i64 ((f k : Nat) : Int)) := by rw [HV.out.1.cell (by omega), (insL_at (by omega)).2]
          have f1 := HV.out.1.free k
          have f2 := HV.out.1.free (k + 1)
          have fl := HV.out.1.lt
          have HNX : Hid (RowF ((wr.setCell ⟨g, k + 1, none⟩ (.int .i64 ((f k : Nat) : Int))).setCell ⟨g, k, none⟩ (.int .i64 ((f m : Nat) : Int))) base g 3 n (insL f k m)) := by
            have h1 := (HV.out.1.put (k + 1) (f k)).put k (f m)
            rw [insL_step (by omega)] at h1
            exact h1
          have hik : i ≤ k := by omega
          have hkm : k ≤ m := by omega
          clear hlt hk hkp
          go_wp2_with fail
          go_region
          all_goals go_wp2_with fail
          go_roundw
          case rel => exact ⟨k, hik, hkm, by go_num, HNX.out.drew, ((HV.out.2.put _ _).put _ _).drew⟩
          case measure => simp [intOf]; omega
        · obtain rfl : k' = i := by omega
          have g1 : decide (k' < k') = false := decide_eq_false (Nat.lt_irrefl _)
          have g2 : decide ((k' : Int) < (k' : Int)) = false := decide_eq_false (Int.lt_irrefl _)
          go_wp2_with fail
          go_end0
          exact ⟨_, rfl, HFIN.out.1, HFIN.out.2, HV.out.1, HV.out.2⟩
end So
end Go.Proofs.YtfopmaeaclbknaaDoor
