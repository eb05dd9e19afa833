/- Contract of slices.insertionSortCmpFunc at the law's closure. -/
import Derived.Test.YtfopmaeaclbknaaDoorSoP
import Derived.Test.YtfopmaeaclbknaaDoorProg
import Derived.Deep.QuietTactic
import Derived.IntWalk
namespace Go.Proofs.YtfopmaeaclbknaaDoor
open Go.ChangeShapes Go.WideShapes Go.ChangeAt Go.RowKit
set_option linter.unusedVariables false
set_option linter.unusedSimpArgs false
namespace So
/-- the closure compares by r, in every world that is as w but for block g -/
def CmpOk (w : World) (g gc N : Nat) (r : Nat → Nat) : Prop := ∀ w', Far g w w' → ∀ x y, x < N → y < N →
  Calls Tryd.prog 49 #[.int .i64 (x : Int), .int .i64 (y : Int), .pointer (some ⟨gc, 0, none⟩)] w' fun e w'' => e = .returned (.int .i64 (cmpv (r x) (r y))) ∧ ∃ q, w'' = w'.drewN q
/-- what a sort of a segment does -/
def SortPost (w : World) (base g n : Nat) (r : Nat → Nat) (pre seg post : List Nat) (e : Ending) (w' : World) : Prop := ∃ seg', e = .returned (.tuple #[]) ∧ seg'.Perm seg ∧ seg'.Pairwise (LT r) ∧ RowV w' base g 3 n (ints (pre ++ seg' ++ post)) ∧ Far g w w'
set_option maxHeartbeats 4000000 in
set_option maxRecDepth 100000 in
theorem insertion_any (w : World) (base g gc n N : Nat) (r : Nat → Nat) (pre seg post : List Nat) (hN : ∀ x ∈ seg, x < N) (hn : n ≤ 1000) (hseg : seg.Pairwise (· < ·)) (hc : CmpOk w g gc N r) (hr : RowV w base g 3 n (ints (pre ++ seg ++ post))) : Calls Tryd.prog 91 #[.slice (some ⟨g, 0, none⟩) n n, .int .i64 ((pre.length : Nat) : Int), .int .i64 ((pre.length + seg.length : Nat) : Int), .func (.func 49) #[] #[.pointer (some ⟨gc, 0, none⟩)]] w (SortPost w base g n r pre seg post) := by
  have hlen : pre.length + seg.length + post.length = n := by have := hr.1; simpa [ints, Nat.add_assoc] using this
  have HN := Lib.hid hN
  have HS := Lib.hid hseg
  have HC := Lib.hid hc
  have HR := Lib.hid hr
  obtain ⟨a, ha⟩ : ∃ a, a = pre.length := ⟨_, rfl⟩
  obtain ⟨b, hb⟩ : ∃ b, b = pre.length + seg.length := ⟨_, rfl⟩
  rw [← hb, ← ha]
  have HA : Hid (pre.length = a ∧ seg.length = b - a ∧ a ≤ b ∧ b ≤ n) := ⟨ha.symm, by omega, by omega, by omega⟩
  have hbn : b ≤ 1000 := by omega
  have hab : a ≤ b := by omega
  have ha0 : (0 : Int) ≤ (a : Int) := by omega
  have hb0 : (0 : Int) ≤ (b : Int) := by omega
  have hbi : (b : Int) ≤ 1000 := by omega
  have hai : (a : Int) ≤ 1000 := by omega
  clear hN hseg hc hr ha hb hlen
  go_enter Tryd.func91, Tryd.ntmps91
  go_wp2_with fail
  go_loopw [8] (fun v wr => ∃ i : Nat, ∃ D : List Nat, a + 1 ≤ i ∧ i ≤ b + 1 ∧ v = .int .i64 (i : Int) ∧ Hid (D.Perm (seg.take (i - a)) ∧ D.Pairwise (LT r)) ∧ Hid (RowV wr base g 3 n (ints (pre ++ D ++ (seg.drop (i - a) ++ post))) ∧ Far g w wr)) (fun v _ => b + 1 - (intOf v).toNat)
  case atStart =>
    refine ⟨a + 1, seg.take 1, Nat.le_refl _, by omega, by go_num, ⟨by rw [show a + 1 - a = 1 by omega], ?_⟩, ?_, Far.refl _ _⟩
    · cases seg with
      | nil => simp
      | cons x l => simp
    · rw [show a + 1 - a = 1 by omega]
      have := HR.out
      have e : pre ++ seg.take 1 ++ (seg.drop 1 ++ post) = pre ++ seg ++ post := by rw [List.append_assoc, ← List.append_assoc (seg.take 1), List.take_append_drop, List.append_assoc]
      rw [e]
      exact this
  case round =>
    obtain ⟨i, D, hi1, hi2, rfl, HD, HW⟩ := hrel
    have hi0 : (0 : Int) ≤ (i : Int) := by omega
    have hi5 : (i : Int) ≤ 1001 := by omega
    by_cases hib : i < b
    · have d1 : decide (i < b) = true := decide_eq_true hib
      have d2 : decide ((i : Int) < (b : Int)) = true := decide_eq_true (by omega)
      have hk : i - a < seg.length := by have := HA.out; omega
      obtain ⟨x, hx⟩ : ∃ x, x = seg[i - a] := ⟨_, rfl⟩
      have HX : Hid (seg.drop (i - a) = x :: seg.drop (i + 1 - a) ∧ seg.take (i + 1 - a) = seg.take (i - a) ++ [x] ∧ x < N ∧ (∀ y ∈ D, y < x) ∧ (∀ y ∈ D, y < N)) := by
        have e1 : i + 1 - a = i - a + 1 := by omega
        refine ⟨by rw [e1, hx]; exact List.drop_eq_getElem_cons hk, by rw [e1, hx]; exact List.take_succ_eq_append_getElem hk, by rw [hx]; exact HN.out _ (List.getElem_mem hk), fun y hy => ?_, fun y hy => ?_⟩
        · have h1 := HD.out.1.mem_iff.1 hy
          obtain ⟨m, hm, rfl⟩ := List.mem_iff_getElem.1 h1
          rw [List.getElem_take, hx]
          have hm' : m < i - a := by simp at hm; omega
          exact List.pairwise_iff_getElem.1 HS.out m (i - a) (by omega) hk hm'
        · have h1 := HD.out.1.mem_iff.1 hy
          exact HN.out y (List.mem_of_mem_take h1)
      have HDL : Hid (D.length = i - a) := by
        have := HD.out.1.length_eq
        rw [List.length_take] at this
        show _ = _
        omega
      clear hx hk
      go_wp2_with fail
      go_loopw [9] (fun v wq => ∃ j : Nat, ∃ L R : List Nat, a ≤ j ∧ j ≤ i ∧ v = .int .i64 (j : Int) ∧ Hid (L ++ R = D ∧ L.length = j - a ∧ ∀ y ∈ R, r y < r x) ∧ Hid (RowV wq base g 3 n (ints (pre ++ (L ++ x :: R) ++ (seg.drop (i + 1 - a) ++ post))) ∧ Far g w wq)) (fun v _ => (intOf v).toNat)
      case atStart =>
        refine ⟨i, D, [], by omega, Nat.le_refl _, rfl, ⟨by simp, HDL.out, fun y h => by cases h⟩, ?_, HW.out.2⟩
        have := HW.out.1
        rw [HX.out.1] at this
        have e : pre ++ (D ++ [x]) ++ (seg.drop (i + 1 - a) ++ post) = pre ++ D ++ (x :: seg.drop (i + 1 - a) ++ post) := by simp
        rw [e]
        exact this
      case round =>
        obtain ⟨j, L, R, hj1, hj2, rfl, HL, HV⟩ := hrel
        have hj0 : (0 : Int) ≤ (j : Int) := by omega
        have hj5 : (j : Int) ≤ 1000 := by omega
        have OUT : Hid ((L = [] ∨ ∃ L' y, L = L' ++ [y] ∧ r x ≤ r y) → (L ++ x :: R).Perm (seg.take (i + 1 - a)) ∧ (L ++ x :: R).Pairwise (LT r)) := fun h => by
          refine ⟨?_, ins_sorted (by rw [HL.out.1]; exact HD.out.2) (by rw [HL.out.1]; exact HX.out.2.2.2.1) HL.out.2.2 h⟩
          rw [HX.out.2.1]
          exact (ins_perm HL.out.1).trans (HD.out.1.append_right _)
        by_cases hja : a < j
        · have g1 : decide (a < j) = true := decide_eq_true hja
          have g2 : decide ((a : Int) < (j : Int)) = true := decide_eq_true (by omega)
          obtain ⟨L', y, hLy⟩ : ∃ L' y, L = L' ++ [y] := by
            rcases List.eq_nil_or_concat L with rfl | ⟨L', y, rfl⟩
            · have := HL.out.2.1; simp at this; omega
            · exact ⟨L', y, by simp⟩
          subst hLy
          obtain ⟨p, rfl⟩ : ∃ p, j = p + 1 := ⟨j - 1, by omega⟩
          have HP : Hid ((pre ++ L').length = p ∧ y ∈ D) := by
            refine ⟨?_, ?_⟩
            · have h1 := HL.out.2.1
              have h2 := HA.out.1
              simp at h1 ⊢
              omega
            · rw [← HL.out.1]; simp
          have eL : pre ++ ((L' ++ [y]) ++ x :: R) ++ (seg.drop (i + 1 - a) ++ post) = (pre ++ L') ++ y :: x :: (R ++ (seg.drop (i + 1 - a) ++ post)) := by simp
          have HV2 : Hid (RowV wr base g 3 n (ints ((pre ++ L') ++ y :: x :: (R ++ (seg.drop (i + 1 - a) ++ post))))) := by have := HV.out.1; rwa [eL] at this
          have hpn : p + 1 < n := by have := HA.out; omega
          have c1 : wr.cell? ⟨g, p, none⟩ = some (.int .i64 (y : Int)) := (HV2.out.cell (i := p) (by omega)).trans (ints_at (get_two HP.out.1).1)
          have c2 : wr.cell? ⟨g, p + 1, none⟩ = some (.int .i64 (x : Int)) := (HV2.out.cell (i := p + 1) (by omega)).trans (ints_at (get_two HP.out.1).2)
          have hc := Lib.hid (fun m => HC.out (wr.drewN m) (HV.out.2.drewN m) x y HX.out.2.2.1 (HX.out.2.2.2.2 y HP.out.2))
          have f1 := HV2.out.free p
          have f2 := HV2.out.free (p + 1)
          have fl := HV2.out.lt
          have hc2 := @cmpv_lt (r x) (r y)
          clear eL
          have hp0 : (0 : Int) ≤ (p : Int) := by omega
          have g3 : decide ((a : Int) < (p : Int) + 1) = true := decide_eq_true (by omega)
          have hp1 : (p : Int) < (n : Int) := by omega
          have hp2 : (p : Int) + 1 < (n : Int) := by omega
          have hp3 : (p : Int) + 1 - 1 = (p : Int) := by omega
          by_cases hrr : r y < r x
          · rw [decide_eq_true hrr] at hc2
            have HRR := Lib.hid hrr
            clear hrr
            go_wp2_with fail
            go_quiet ((go_at_call 49; exact Calls.quiet_of (hc.out _)))
            go_wp2_with fail
            have HV3 := Lib.hid (HV2.out.drewN nq)
            have HF3 := Lib.hid (HV.out.2.drewN nq)
            clear c1 c2 f1 f2 fl hc
            generalize wr.drewN nq = w3 at *
            have c1 : w3.cell? ⟨g, p, none⟩ = some (.int .i64 (y : Int)) := (HV3.out.cell (i := p) (by omega)).trans (ints_at (get_two HP.out.1).1)
            have c2 : w3.cell? ⟨g, p + 1, none⟩ = some (.int .i64 (x : Int)) := (HV3.out.cell (i := p + 1) (by omega)).trans (ints_at (get_two HP.out.1).2)
            have f1 := HV3.out.free p
            have f2 := HV3.out.free (p + 1)
            have fl := HV3.out.lt
            go_wp2_with fail
            go_region
            all_goals go_wp2_with fail
            have HP2 : Hid (RowV ((w3.setCell ⟨g, p + 1, none⟩ (.int .i64 (y : Int))).setCell ⟨g, p, none⟩ (.int .i64 (x : Int))) base g 3 n (ints (pre ++ (L' ++ x :: (y :: R)) ++ (seg.drop (i + 1 - a) ++ post)))) := by
              have h1 := (HV3.out.put (p + 1) (.int .i64 (y : Int))).put p (.int .i64 (x : Int))
              rw [ints_set, ints_set, set_two HP.out.1] at h1
              have e : pre ++ (L' ++ x :: (y :: R)) ++ (seg.drop (i + 1 - a) ++ post) = (pre ++ L') ++ x :: y :: (R ++ (seg.drop (i + 1 - a) ++ post)) := by simp
              rw [e]
              exact h1
            go_roundw
            case rel => exact ⟨p, L', y :: R, by omega, by omega, rfl, ⟨by rw [← HL.out.1]; simp, by have := HL.out.2.1; simp at this; omega, fun z hz => by rcases List.mem_cons.1 hz with rfl | hz; exact HRR.out; exact HL.out.2.2 z hz⟩, HP2.out.drew, ((HF3.out.put _ _).put _ _).drew⟩
            case measure => simp [intOf]
          · rw [decide_eq_false hrr] at hc2
            have HRR := Lib.hid hrr
            clear hrr
            go_wp2_with fail
            go_quiet ((go_at_call 49; exact Calls.quiet_of (hc.out _)))
            go_wp2_with fail
            have hov := Lib.hid (OUT.out (.inr ⟨L', y, rfl, by have := HRR.out; omega⟩))
            have HV3 := Lib.hid (HV.out.1.drewN nq)
            have HF3 := Lib.hid (HV.out.2.drewN nq)
            go_roundw
            case rel => exact ⟨i + 1, (L' ++ [y]) ++ x :: R, by omega, by omega, by go_num, hov, HV3.out, HF3.out⟩
            case measure => simp [intOf]; omega
        · have g1 : decide (a < j) = false := decide_eq_false hja
          have g2 : decide ((a : Int) < (j : Int)) = false := decide_eq_false (by omega)
          have HL0 : Hid (L = []) := List.eq_nil_of_length_eq_zero (by have := HL.out.2.1; omega)
          go_wp2_with fail
          go_quiet (fail)
          go_wp2_with fail
          have hov := Lib.hid (OUT.out (.inl HL0.out))
          have HV3 := Lib.hid (HV.out.1.drewN nq)
          have HF3 := Lib.hid (HV.out.2.drewN nq)
          go_roundw
          case rel => exact ⟨i + 1, L ++ x :: R, by omega, by omega, by go_num, hov, HV3.out, HF3.out⟩
          case measure => simp [intOf]; omega
    · have d1 : decide (i < b) = false := decide_eq_false hib
      have d2 : decide ((i : Int) < (b : Int)) = false := decide_eq_false (by omega)
      have HE : Hid (seg.take (i - a) = seg ∧ seg.drop (i - a) = []) := ⟨List.take_of_length_le (by have := HA.out; omega), List.drop_eq_nil_of_le (by have := HA.out; omega)⟩
      go_wp2_with fail
      go_end0
      refine ⟨D, rfl, by have := HD.out.1; rwa [HE.out.1] at this, HD.out.2, ?_, HW.out.2⟩
      have := HW.out.1
      rw [HE.out.2] at this
      exact this
end So
end Go.Proofs.YtfopmaeaclbknaaDoor
