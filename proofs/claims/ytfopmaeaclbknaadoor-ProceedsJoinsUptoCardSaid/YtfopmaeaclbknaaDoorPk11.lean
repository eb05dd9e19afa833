/- Contract of slices.insertionSortCmpFunc at the law's closure. slices.SortStableFunc of fewer than 20 elements. The closures of amount.Share. -/
import Derived.Test.YtfopmaeaclbknaaDoorPk10
import Derived.Test.YtfopmaeaclbknaaDoorProg
import Derived.Deep.QuietTactic
import Derived.IntWalk
namespace Go.Proofs.YtfopmaeaclbknaaDoor
open Go.ChangeShapes Go.WideShapes Go.ChangeAt Go.RowKit
set_option linter.unusedVariables false
set_option linter.unusedSimpArgs false
namespace So
/-- the closure compares by r, in every world that is as w but for block g -/
def CmpOk (w : World) (g gc N : Nat) (r : Nat → Nat) : Prop := ∀ w', Far g w w' → ∀ x y, x < N → y < N →
  Calls Tryd.prog 49 #[.int .i64 (x : Int), .int .i64 (y : Int), .pointer (some ⟨gc, 0, none⟩)] w' fun e w'' => e = .returned (.int .i64 (cmpv (r x) (r y))) ∧ ∃ q, w'' = w'.drewN q
/-- what a sort of a segment does -/
def SortPost (w : World) (base g n : Nat) (r : Nat → Nat) (pre seg post : List Nat) (e : Ending) (w' : World) : Prop := ∃ seg', e = .returned (.tuple #[]) ∧ seg'.Perm seg ∧ seg'.Pairwise (LT r) ∧ RowV w' base g 3 n (ints (pre ++ seg' ++ post)) ∧ Far g w w'
set_option maxHeartbeats 4000000 in
set_option maxRecDepth 100000 in
theorem insertion_any (w : World) (base g gc n N : Nat) (r : Nat → Nat) (pre seg post : List Nat) (hN : ∀ x ∈ seg, x < N) (hn : n ≤ 1000) (hseg : seg.Pairwise (· < ·)) (hc : CmpOk w g gc N r) (hr : RowV w base g 3 n (ints (pre ++ seg ++ post))) : Calls Tryd.prog 91 #[.slice (some ⟨g, 0, none⟩) n n, .int .i64 ((pre.length : Nat) : Int), .int .i64 ((pre.length + seg.length : Nat) : Int), .func (.func 49) #[] #[.pointer (some ⟨gc, 0, none⟩)]] w (SortPost w base g n r pre seg post) := by
  have hlen : pre.length + seg.length + post.length = n := by have := hr.1; simpa [ints, Nat.add_assoc] using this
  have HN := Lib.hid hN
  have HS := Lib.hid hseg
  have HC := Lib.hid hc
  have HR := Lib.hid hr
  obtain ⟨a, ha⟩ : ∃ a, a = pre.length := ⟨_, rfl⟩
  obtain ⟨b, hb⟩ : ∃ b, b = pre.length + seg.length := ⟨_, rfl⟩
  rw [← hb, ← ha]
  have HA : Hid (pre.length = a ∧ seg.length = b - a ∧ a ≤ b ∧ b ≤ n) := ⟨ha.symm, by omega, by omega, by omega⟩
  have hbn : b ≤ 1000 := by omega
  have hab : a ≤ b := by omega
  have ha0 : (0 : Int) ≤ (a : Int) := by omega
  have hb0 : (0 : Int) ≤ (b : Int) := by omega
  have hbi : (b : Int) ≤ 1000 := by omega
  have hai : (a : Int) ≤ 1000 := by omega
  clear hN hseg hc hr ha hb hlen
  go_enter Tryd.func91, Tryd.ntmps91
  go_wp2_with fail
  go_loopw [8] (fun v wr => ∃ i : Nat, ∃ D : List Nat, a + 1 ≤ i ∧ i ≤ b + 1 ∧ v = .int .i64 (i : Int) ∧ Hid (D.Perm (seg.take (i - a)) ∧ D.Pairwise (LT r)) ∧ Hid (RowV wr base g 3 n (ints (pre ++ D ++ (seg.drop (i - a) ++ post))) ∧ Far g w wr)) (fun v _ => b + 1 - (intOf v).toNat)
  case atStart =>
    refine ⟨a + 1, seg.take 1, Nat.le_refl _, by omega, by go_num, ⟨by rw [show a + 1 - a = 1 by omega], ?_⟩, ?_, Far.refl _ _⟩
    · cases seg with
      | nil => simp
      | cons x l => simp
    · rw [show a + 1 - a = 1 by omega]
      have := HR.out
      have e : pre ++ seg.take 1 ++ (seg.drop 1 ++ post) = pre ++ seg ++ post := by rw [List.append_assoc, ← List.append_assoc (seg.take 1), List.take_append_drop, List.append_assoc]
      rw [e]
      exact this
  case round =>
    obtain ⟨i, D, hi1, hi2, rfl, HD, HW⟩ := hrel
    have hi0 : (0 : Int) ≤ (i : Int) := by omega
    have hi5 : (i : Int) ≤ 1001 := by omega
    by_cases hib : i < b
    · have d1 : decide (i < b) = true := decide_eq_true hib
      have d2 : decide ((i : Int) < (b : Int)) = true := decide_eq_true (by omega)
      have hk : i - a < seg.length := by have := HA.out; omega
      obtain ⟨x, hx⟩ : ∃ x, x = seg[i - a] := ⟨_, rfl⟩
      have HX : Hid (seg.drop (i - a) = x :: seg.drop (i + 1 - a) ∧ seg.take (i + 1 - a) = seg.take (i - a) ++ [x] ∧ x < N ∧ (∀ y ∈ D, y < x) ∧ (∀ y ∈ D, y < N)) := by
        have e1 : i + 1 - a = i - a + 1 := by omega
        refine ⟨by rw [e1, hx]; exact List.drop_eq_getElem_cons hk, by rw [e1, hx]; exact List.take_succ_eq_append_getElem hk, by rw [hx]; exact HN.out _ (List.getElem_mem hk), fun y hy => ?_, fun y hy => ?_⟩
        · have h1 := HD.out.1.mem_iff.1 hy
          obtain ⟨m, hm, rfl⟩ := List.mem_iff_getElem.1 h1
          rw [List.getElem_take, hx]
          have hm' : m < i - a := by simp at hm; omega
          exact List.pairwise_iff_getElem.1 HS.out m (i - a) (by omega) hk hm'
        · have h1 := HD.out.1.mem_iff.1 hy
          exact HN.out y (List.mem_of_mem_take h1)
      have HDL : Hid (D.length = i - a) := by
        have := HD.out.1.length_eq
        rw [List.length_take] at this
        show _ = _
        omega
      clear hx hk
      go_wp2_with fail
      go_loopw [9] (fun v wq => ∃ j : Nat, ∃ L R : List Nat, a ≤ j ∧ j ≤ i ∧ v = .int .i64 (j : Int) ∧ Hid (L ++ R = D ∧ L.length = j - a ∧ ∀ y ∈ R, r y < r x) ∧ Hid (RowV wq base g 3 n (ints (pre ++ (L ++ x :: R) ++ (seg.drop (i + 1 - a) ++ post))) ∧ Far g w wq)) (fun v _ => (intOf v).toNat)
      case atStart =>
        refine ⟨i, D, [], by omega, Nat.le_refl _, rfl, ⟨by simp, HDL.out, fun y h => by cases h⟩, ?_, HW.out.2⟩
        have := HW.out.1
        rw [HX.out.1] at this
        have e : pre ++ (D ++ [x]) ++ (seg.drop (i + 1 - a) ++ post) = pre ++ D ++ (x :: seg.drop (i + 1 - a) ++ post) := by simp
        rw [e]
        exact this
      case round =>
        obtain ⟨j, L, R, hj1, hj2, rfl, HL, HV⟩ := hrel
        have hj0 : (0 : Int) ≤ (j : Int) := by omega
        have hj5 : (j : Int) ≤ 1000 := by omega
        have OUT : Hid ((L = [] ∨ ∃ L' y, L = L' ++ [y] ∧ r x ≤ r y) → (L ++ x :: R).Perm (seg.take (i + 1 - a)) ∧ (L ++ x :: R).Pairwise (LT r)) := fun h => by
          refine ⟨?_, ins_sorted (by rw [HL.out.1]; exact HD.out.2) (by rw [HL.out.1]; exact HX.out.2.2.2.1) HL.out.2.2 h⟩
          rw [HX.out.2.1]
          exact (ins_perm HL.out.1).trans (HD.out.1.append_right _)
        by_cases hja : a < j
        · have g1 : decide (a < j) = true := decide_eq_true hja
          have g2 : decide ((a : Int) < (j : Int)) = true := decide_eq_true (by omega)
          obtain ⟨L', y, hLy⟩ : ∃ L' y, L = L' ++ [y] := by
            rcases List.eq_nil_or_concat L with rfl | ⟨L', y, rfl⟩
            · have := HL.out.2.1; simp at this; omega
            · exact ⟨L', y, by simp⟩
          subst hLy
          obtain ⟨p, rfl⟩ : ∃ p, j = p + 1 := ⟨j - 1, by omega⟩
          have HP : Hid ((pre ++ L').length = p ∧ y ∈ D) := by
            refine ⟨?_, ?_⟩
            · have h1 := HL.out.2.1
              have h2 := HA.out.1
              simp at h1 ⊢
              omega
            · rw [← HL.out.1]; simp
          have eL : pre ++ ((L' ++ [y]) ++ x :: R) ++ (seg.drop (i + 1 - a) ++ post) = (pre ++ L') ++ y :: x :: (R ++ (seg.drop (i + 1 - a) ++ post)) := by simp
          have HV2 : Hid (RowV wr base g 3 n (ints ((pre ++ L') ++ y :: x :: (R ++ (seg.drop (i + 1 - a) ++ post))))) := by have := HV.out.1; rwa [eL] at this
          have hpn : p + 1 < n := by have := HA.out; omega
          have c1 : wr.cell? ⟨g, p, none⟩ = some (.int .i64 (y : Int)) := (HV2.out.cell (i := p) (by omega)).trans (ints_at (get_two HP.out.1).1)
          have c2 : wr.cell? ⟨g, p + 1, none⟩ = some (.int .i64 (x : Int)) := (HV2.out.cell (i := p + 1) (by omega)).trans (ints_at (get_two HP.out.1).2)
          have hc := Lib.hid (fun m => HC.out (wr.drewN m) (HV.out.2.drewN m) x y HX.out.2.2.1 (HX.out.2.2.2.2 y HP.out.2))
          have f1 := HV2.out.free p
          have f2 := HV2.out.free (p + 1)
          have fl := HV2.out.lt
          have hc2 := @cmpv_lt (r x) (r y)
          clear eL
          have hp0 : (0 : Int) ≤ (p : Int) := by omega
          have g3 : decide ((a : Int) < (p : Int) + 1) = true := decide_eq_true (by omega)
          have hp1 : (p : Int) < (n : Int) := by omega
          have hp2 : (p : Int) + 1 < (n : Int) := by omega
          have hp3 : (p : Int) + 1 - 1 = (p : Int) := by omega
          by_cases hrr : r y < r x
          · rw [decide_eq_true hrr] at hc2
            have HRR := Lib.hid hrr
            clear hrr
            go_wp2_with fail
            go_quiet ((go_at_call 49; exact Calls.quiet_of (hc.out _)))
            go_wp2_with fail
            have HV3 := Lib.hid (HV2.out.drewN nq)
            have HF3 := Lib.hid (HV.out.2.drewN nq)
            clear c1 c2 f1 f2 fl hc
            generalize wr.drewN nq = w3 at *
            have c1 : w3.cell? ⟨g, p, none⟩ = some (.int .i64 (y : Int)) := (HV3.out.cell (i := p) (by omega)).trans (ints_at (get_two HP.out.1).1)
            have c2 : w3.cell? ⟨g, p + 1, none⟩ = some (.int .i64 (x : Int)) := (HV3.out.cell (i := p + 1) (by omega)).trans (ints_at (get_two HP.out.1).2)
            have f1 := HV3.out.free p
            have f2 := HV3.out.free (p + 1)
            have fl := HV3.out.lt
            go_wp2_with fail
            go_region
            all_goals go_wp2_with fail
            have HP2 : Hid (RowV ((w3.setCell ⟨g, p + 1, none⟩ (.int .i64 (y : Int))).setCell ⟨g, p, none⟩ (.int .i64 (x : Int))) base g 3 n (ints (pre ++ (L' ++ x :: (y :: R)) ++ (seg.drop (i + 1 - a) ++ post)))) := by
              have h1 := (HV3.out.put (p + 1) (.int .i64 (y : Int))).put p (.int .i64 (x : Int))
              rw [ints_set, ints_set, set_two HP.out.1] at h1
              have e : pre ++ (L' ++ x :: (y :: R)) ++ (seg.drop (i + 1 - a) ++ post) = (pre ++ L') ++ x :: y :: (R ++ (seg.drop (i + 1 - a) ++ post)) := by simp
              rw [e]
              exact h1
            go_roundw
            case rel => exact ⟨p, L', y :: R, by omega, by omega, rfl, ⟨by rw [← HL.out.1]; simp, by have := HL.out.2.1; simp at this; omega, fun z hz => by rcases List.mem_cons.1 hz with rfl | hz; exact HRR.out; exact HL.out.2.2 z hz⟩, HP2.out.drew, ((HF3.out.put _ _).put _ _).drew⟩
            case measure => simp [intOf]
          · rw [decide_eq_false hrr] at hc2
            have HRR := Lib.hid hrr
            clear hrr
            go_wp2_with fail
            go_quiet ((go_at_call 49; exact Calls.quiet_of (hc.out _)))
            go_wp2_with fail
            have hov := Lib.hid (OUT.out (.inr ⟨L', y, rfl, by have := HRR.out; omega⟩))
            have HV3 := Lib.hid (HV.out.1.drewN nq)
            have HF3 := Lib.hid (HV.out.2.drewN nq)
            go_roundw
            case rel => exact ⟨i + 1, (L' ++ [y]) ++ x :: R, by omega, by omega, by go_num, hov, HV3.out, HF3.out⟩
            case measure => simp [intOf]; omega
        · have g1 : decide (a < j) = false := decide_eq_false hja
          have g2 : decide ((a : Int) < (j : Int)) = false := decide_eq_false (by omega)
          have HL0 : Hid (L = []) := List.eq_nil_of_length_eq_zero (by have := HL.out.2.1; omega)
          go_wp2_with fail
          go_quiet (fail)
          go_wp2_with fail
          have hov := Lib.hid (OUT.out (.inl HL0.out))
          have HV3 := Lib.hid (HV.out.1.drewN nq)
          have HF3 := Lib.hid (HV.out.2.drewN nq)
          go_roundw
          case rel => exact ⟨i + 1, L ++ x :: R, by omega, by omega, by go_num, hov, HV3.out, HF3.out⟩
          case measure => simp [intOf]; omega
    · have d1 : decide (i < b) = false := decide_eq_false hib
      have d2 : decide ((i : Int) < (b : Int)) = false := decide_eq_false (by omega)
      have HE : Hid (seg.take (i - a) = seg ∧ seg.drop (i - a) = []) := ⟨List.take_of_length_le (by have := HA.out; omega), List.drop_eq_nil_of_le (by have := HA.out; omega)⟩
      go_wp2_with fail
      go_end0
      refine ⟨D, rfl, by have := HD.out.1; rwa [HE.out.1] at this, HD.out.2, ?_, HW.out.2⟩
      have := HW.out.1
      rw [HE.out.2] at this
      exact this
end So
end Go.Proofs.YtfopmaeaclbknaaDoor
namespace Go.Proofs.YtfopmaeaclbknaaDoor
open Go.ChangeShapes Go.WideShapes Go.ChangeAt Go.RowKit
set_option linter.unusedVariables false
set_option linter.unusedSimpArgs false
namespace So
/-- slices.SortStableFunc sorts n indices that rise -/
def SortsAt (n : Nat) : Prop := ∀ (w : World) (base g gc N : Nat) (r : Nat → Nat) (seg : List Nat), (∀ x ∈ seg, x < N) → seg.Pairwise (· < ·) → CmpOk w g gc N r → RowV w base g 3 n (ints seg) →
  Calls Tryd.prog 48 #[.slice (some ⟨g, 0, none⟩) n n, .func (.func 49) #[] #[.pointer (some ⟨gc, 0, none⟩)]] w (SortPost w base g n r [] seg [])
theorem stable_small (n : Nat) (hn : n < 20) (w : World) (base g gc N : Nat) (r : Nat → Nat) (seg : List Nat) (hN : ∀ x ∈ seg, x < N) (hseg : seg.Pairwise (· < ·)) (hc : CmpOk w g gc N r) (hr : RowV w base g 3 n (ints seg)) :
    Calls Tryd.prog 71 #[.slice (some ⟨g, 0, none⟩) n n, .int .i64 (n : Int), .func (.func 49) #[] #[.pointer (some ⟨gc, 0, none⟩)]] w (SortPost w base g n r [] seg []) := by
  have hl : seg.length = n := by have := hr.1; simpa [ints] using this
  have CI := insertion_any w base g gc n N r [] seg [] hN (by omega) hseg hc (by simpa using hr)
  have CI : Calls Tryd.prog 91 #[.slice (some ⟨g, 0, none⟩) n n, .int .i64 0, .int .i64 (n : Int), .func (.func 49) #[] #[.pointer (some ⟨gc, 0, none⟩)]] w (SortPost w base g n r [] seg []) := by
    have h := CI
    simp only [List.length_nil, Nat.zero_add, hl] at h
    exact h
  have CI := Lib.hid CI
  have d1 : decide ((20 : Int) ≤ (n : Int)) = false := decide_eq_false (by omega)
  have d2 : decide ((20 : Int) < (n : Int)) = false := decide_eq_false (by omega)
  clear hN hseg hc hr hl
  go_enter Tryd.func71, Tryd.ntmps71
  go_wp2_with fail
  refine wp_loop_rounds 1 ?_
  rw [rounds_succ]
  go_wp2_with fail
  refine CI.out.mono ?_
  rintro e w1 ⟨seg', rfl, h1, h2, h3, h4⟩
  have HP : Hid (seg'.Perm seg ∧ seg'.Pairwise (LT r) ∧ RowV w1 base g 3 n (ints ([] ++ seg' ++ [])) ∧ Far g w w1) := ⟨h1, h2, h3, h4⟩
  clear h1 h2 h3 h4
  go_wp2_with fail
  refine wp_loop_rounds 1 ?_
  rw [rounds_succ]
  go_wp2_with fail
  go_end0
  exact ⟨seg', rfl, HP.out.1, HP.out.2.1, HP.out.2.2.1, HP.out.2.2.2⟩
theorem sorts_small (n : Nat) (hn : n < 20) : SortsAt n := by
  intro w base g gc N r seg hN hseg hc hr
  have CI := Lib.hid (stable_small n hn w base g gc N r seg hN hseg hc hr)
  clear hN hseg hc hr
  go_enter Tryd.func48, Tryd.ntmps48
  go_wp2_with fail
  refine CI.out.mono ?_
  rintro e w1 ⟨seg', rfl, h1, h2, h3, h4⟩
  have HP : Hid (seg'.Perm seg ∧ seg'.Pairwise (LT r) ∧ RowV w1 base g 3 n (ints ([] ++ seg' ++ [])) ∧ Far g w w1) := ⟨h1, h2, h3, h4⟩
  clear h1 h2 h3 h4
  go_wp2_with fail
  go_end0
  exact ⟨seg', rfl, HP.out.1, HP.out.2.1, HP.out.2.2.1, HP.out.2.2.2⟩
end So
end Go.Proofs.YtfopmaeaclbknaaDoor
namespace Go.Proofs.YtfopmaeaclbknaaDoor
open Go.ChangeShapes Go.WideShapes Go.ChangeAt Go.RowKit
set_option linter.unusedVariables false
set_option linter.unusedSimpArgs false
namespace So
def at_ (W : List Nat) (i : Nat) : Nat := W.getD i 0
theorem at_in {W : List Nat} {i : Nat} (h : i < W.length) : at_ W i = W[i] := by simp [at_, List.getD, h]
/-- what is left of a part -/
def rst (T : Nat) (W : List Nat) (S i : Nat) : Nat := T * at_ W i % S
/-- what the closures have captured -/
structure Env (w : World) (b2 b3 b6 gc : Nat) (T : Nat) (W : List Nat) (S : Nat) (A : Option Addr) (c : Nat) : Prop where
  total : w.cell? ⟨b2, 0, none⟩ = some (.int .i64 (T : Int))
  wts : w.cell? ⟨b3, 0, none⟩ = some (.slice A W.length c)
  sum : w.cell? ⟨b6, 0, none⟩ = some (.int .i64 (S : Int))
  fn : w.cell? ⟨gc, 0, none⟩ = some (.func (.func 47) #[] #[.pointer (some ⟨b2, 0, none⟩), .pointer (some ⟨b3, 0, none⟩), .pointer (some ⟨b6, 0, none⟩)])
  cells : 0 < W.length → ∃ b o, A = some ⟨b, o, none⟩ ∧ b < w.heap.size ∧ ∀ i, i < W.length → w.cell? ⟨b, o + i, none⟩ = some (.int .i64 ((at_ W i : Nat) : Int))
theorem Env.far {w w' : World} {g b2 b3 b6 gc T : Nat} {W : List Nat} {S : Nat} {A : Option Addr} {c : Nat} (h : Env w b2 b3 b6 gc T W S A c) (f : Far g w w') (h2 : b2 ≠ g) (h3 : b3 ≠ g) (h6 : b6 ≠ g) (hg : gc ≠ g) (hA : ∀ b o, A = some ⟨b, o, none⟩ → b ≠ g) : Env w' b2 b3 b6 gc T W S A c := by
  refine ⟨(f.cell 0 h2 (block_lt_of_cell h.total)).trans h.total, (f.cell 0 h3 (block_lt_of_cell h.wts)).trans h.wts, (f.cell 0 h6 (block_lt_of_cell h.sum)).trans h.sum, (f.cell 0 hg (block_lt_of_cell h.fn)).trans h.fn, fun hn => ?_⟩
  obtain ⟨b, o, e, hb, hc⟩ := h.cells hn
  exact ⟨b, o, e, Nat.lt_of_lt_of_le hb f.size, fun i hi => (f.cell _ (hA b o e) hb).trans (hc i hi)⟩
theorem rest_facts {T x S : Nat} (hT : T ≤ 1000000) (hx : x ≤ 1000000) (hS : 0 < S) (hS2 : S ≤ 1000000000) : ∃ p r : Nat, (p = T * x ∧ r = T * x % S ∧ r < S) ∧ IntKind.i64.wrap ((T : Int) * (x : Int)) = ((p : Nat) : Int) ∧ (p : Int) % (S : Int) = ((r : Nat) : Int) ∧ (p : Int).tmod (S : Int) = ((r : Nat) : Int) ∧ (0 : Int) ≤ (p : Int) := by
  have h1 : T * x ≤ 1000000 * 1000000 := Nat.mul_le_mul hT hx
  have e : (T : Int) * (x : Int) = ((T * x : Nat) : Int) := by simp
  refine ⟨T * x, T * x % S, ⟨rfl, rfl, Nat.mod_lt _ hS⟩, ?_, by simp, by rw [Int.ofNat_tmod], by omega⟩
  rw [e]
  exact IntWalk.i64_in _ (by omega)
set_option maxHeartbeats 1000000 in
theorem rest_any {w : World} {b2 b3 b6 gc T : Nat} {W : List Nat} {S : Nat} {A : Option Addr} {c : Nat} (h : Env w b2 b3 b6 gc T W S A c) (hT : T ≤ 1000000) (hW : ∀ x ∈ W, x ≤ 1000000) (hS : 0 < S) (hS2 : S ≤ 1000000000) (hl : W.length ≤ 1000) (i : Nat) (hi : i < W.length) :
    Calls Tryd.prog 47 #[.int .i64 (i : Int), .pointer (some ⟨b2, 0, none⟩), .pointer (some ⟨b3, 0, none⟩), .pointer (some ⟨b6, 0, none⟩)] w fun e w' => e = .returned (.int .i64 ((rst T W S i : Nat) : Int)) ∧ ∃ q, w' = w.drewN q := by
  obtain ⟨b, o, rfl, hb, hc⟩ := h.cells (by omega)
  have c1 := h.total
  have c2 := h.wts
  have c3 := h.sum
  have c4 := hc i hi
  obtain ⟨p, r, hp, f1, f2, f3, f4⟩ := rest_facts (x := at_ W i) hT (by rw [at_in hi]; exact hW _ (List.getElem_mem hi)) hS hS2
  have HR : Hid (rst T W S i = r) := hp.2.1.symm
  have hi0 : (0 : Int) ≤ (i : Int) := by omega
  have hi1 : (i : Int) < (W.length : Int) := by omega
  have hl2 : (W.length : Int) ≤ 1000 := by omega
  have q1 : ((S : Int) == 0) = false := beq_eq_false_iff_ne.2 (by omega)
  have q2 : (S : Int) ≠ 0 := by omega
  have q3 : (0 : Int) < (S : Int) := by omega
  have hr9 : (r : Int) < 1000000000 := by have := hp.2.2; omega
  have hr0 : (0 : Int) ≤ (r : Int) := by omega
  rw [HR.out]
  clear h hc hp hW
  go_enter Tryd.func47, Tryd.ntmps47
  go_wp2_with fail
  go_quiet (fail)
  go_wp2_with fail
  go_ret
  refine ⟨?_, _, rfl⟩
  first | rfl | (congr 2; first | exact f2 | exact f3 | simp [f2, f3])
set_option maxHeartbeats 2000000 in
theorem cmp_any {w : World} {b2 b3 b6 gc T : Nat} {W : List Nat} {S : Nat} {A : Option Addr} {c : Nat} (h : Env w b2 b3 b6 gc T W S A c) (hT : T ≤ 1000000) (hW : ∀ x ∈ W, x ≤ 1000000) (hS : 0 < S) (hS2 : S ≤ 1000000000) (hl : W.length ≤ 1000) (i j : Nat) (hi : i < W.length) (hj : j < W.length) :
    Calls Tryd.prog 49 #[.int .i64 (i : Int), .int .i64 (j : Int), .pointer (some ⟨gc, 0, none⟩)] w fun e w' => e = .returned (.int .i64 (cmpv (rst T W S i) (rst T W S j))) ∧ ∃ q, w' = w.drewN q := by
  have hE : ∀ m, Env (w.drewN m) b2 b3 b6 gc T W S A c := fun m => ⟨h.total, h.wts, h.sum, h.fn, h.cells⟩
  have R1 := Lib.hid (fun m k (hk : k < W.length) => rest_any (hE m) hT hW hS hS2 hl k hk)
  have c4 := h.fn
  obtain ⟨n, hn⟩ : ∃ n, n = W.length := ⟨_, rfl⟩
  rw [← hn] at hi hj R1
  clear h hE hW hn hl
  obtain ⟨rr, hrr⟩ : ∃ rr, rr = rst T W S := ⟨_, rfl⟩
  have R2 : Hid (∀ m k, k < n → Calls Tryd.prog 47 #[.int .i64 (k : Int), .pointer (some ⟨b2, 0, none⟩), .pointer (some ⟨b3, 0, none⟩), .pointer (some ⟨b6, 0, none⟩)] (w.drewN m) fun e w' => e = .returned (.int .i64 ((rr k : Nat) : Int)) ∧ ∃ q, w' = (w.drewN m).drewN q) := by
    rw [hrr]
    exact R1.out
  rw [← hrr]
  clear R1 hrr
  obtain ⟨x, hx⟩ : ∃ x, x = rr i := ⟨_, rfl⟩
  obtain ⟨y, hy⟩ : ∃ y, y = rr j := ⟨_, rfl⟩
  have RI : Hid (∀ m, Calls Tryd.prog 47 #[.int .i64 (i : Int), .pointer (some ⟨b2, 0, none⟩), .pointer (some ⟨b3, 0, none⟩), .pointer (some ⟨b6, 0, none⟩)] (w.drewN m) fun e w' => e = .returned (.int .i64 (x : Int)) ∧ ∃ q, w' = (w.drewN m).drewN q) := fun m => by rw [hx]; exact R2.out m i hi
  have RJ : Hid (∀ m, Calls Tryd.prog 47 #[.int .i64 (j : Int), .pointer (some ⟨b2, 0, none⟩), .pointer (some ⟨b3, 0, none⟩), .pointer (some ⟨b6, 0, none⟩)] (w.drewN m) fun e w' => e = .returned (.int .i64 (y : Int)) ∧ ∃ q, w' = (w.drewN m).drewN q) := fun m => by rw [hy]; exact R2.out m j hj
  rw [← hx, ← hy]
  clear R2 hx hy hi hj
  have HV : Hid (cmpv x y = if y < x then -1 else if x < y then 1 else 0) := rfl
  rcases Nat.lt_trichotomy x y with hx | hx | hx
  · have HF : Hid (cmpv x y = 1) := by show _ = _; rw [HV.out, if_neg (by omega), if_pos hx]
    have q1 : decide (y < x) = false := decide_eq_false (by omega)
    have q2 : decide ((y : Int) < (x : Int)) = false := decide_eq_false (by omega)
    have q3 : decide (x < y) = true := decide_eq_true hx
    have q4 : decide ((x : Int) < (y : Int)) = true := decide_eq_true (by omega)
    clear hx
    go_enter Tryd.func49, Tryd.ntmps49
    go_wp2_with fail
    go_quiet ((go_at_call 47; first | (with_reducible refine Calls.quiet_of (RI.out _)) | (with_reducible refine Calls.quiet_of (RJ.out _))))
    go_wp2_with fail
    go_ret
    exact ⟨by rw [HF.out]; rfl, _, rfl⟩
  · have HF : Hid (cmpv x y = 0) := by show _ = _; rw [HV.out, if_neg (by omega), if_neg (by omega)]
    have q1 : decide (y < x) = false := decide_eq_false (by omega)
    have q2 : decide ((y : Int) < (x : Int)) = false := decide_eq_false (by omega)
    have q3 : decide (x < y) = false := decide_eq_false (by omega)
    have q4 : decide ((x : Int) < (y : Int)) = false := decide_eq_false (by omega)
    clear hx
    go_enter Tryd.func49, Tryd.ntmps49
    go_wp2_with fail
    go_quiet ((go_at_call 47; first | (with_reducible refine Calls.quiet_of (RI.out _)) | (with_reducible refine Calls.quiet_of (RJ.out _))))
    go_wp2_with fail
    go_ret
    exact ⟨by rw [HF.out]; rfl, _, rfl⟩
  · have HF : Hid (cmpv x y = -1) := by show _ = _; rw [HV.out, if_pos hx]
    have q1 : decide (y < x) = true := decide_eq_true hx
    have q2 : decide ((y : Int) < (x : Int)) = true := decide_eq_true (by omega)
    clear hx
    go_enter Tryd.func49, Tryd.ntmps49
    go_wp2_with fail
    go_quiet ((go_at_call 47; first | (with_reducible refine Calls.quiet_of (RI.out _)) | (with_reducible refine Calls.quiet_of (RJ.out _))))
    go_wp2_with fail
    go_ret
    exact ⟨by rw [HF.out]; rfl, _, rfl⟩
theorem cmp_ok {w : World} {g b2 b3 b6 gc T : Nat} {W : List Nat} {S : Nat} {A : Option Addr} {c : Nat} (h : Env w b2 b3 b6 gc T W S A c) (hT : T ≤ 1000000) (hW : ∀ x ∈ W, x ≤ 1000000) (hS : 0 < S) (hS2 : S ≤ 1000000000) (hl : W.length ≤ 1000) (h2 : b2 ≠ g) (h3 : b3 ≠ g) (h6 : b6 ≠ g) (hg : gc ≠ g) (hA : ∀ b o, A = some ⟨b, o, none⟩ → b ≠ g) : CmpOk w g gc W.length (rst T W S) :=
  fun w' f x y hx hy => cmp_any (h.far f h2 h3 h6 hg hA) hT hW hS hS2 hl x y hx hy
end So
end Go.Proofs.YtfopmaeaclbknaaDoor
