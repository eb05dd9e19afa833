/- slices.SortStableFunc of fewer than 20 elements. -/
import Derived.Test.YtfopmaeaclbknaaDoorSo1
namespace Go.Proofs.YtfopmaeaclbknaaDoor
open Go.ChangeShapes Go.WideShapes Go.ChangeAt Go.RowKit
set_option linter.unusedVariables false
set_option linter.unusedSimpArgs false
namespace So
/-- slices.SortStableFunc sorts n indices that rise -/
def SortsAt (n : Nat) : Prop := ∀ (w : World) (base g gc N : Nat) (r : Nat → Nat) (seg : List Nat), (∀ x ∈ seg, x < N) → seg.Pairwise (· < ·) → CmpOk w g gc N r → RowV w base g 3 n (ints seg) →
  Calls Tryd.prog 48 #[.slice (some ⟨g, 0, none⟩) n n, .func (.func 49) #[] #[.pointer (some ⟨gc, 0, none⟩)]] w (SortPost w base g n r [] seg [])
theorem stable_small (n : Nat) (hn : n < 20) (w : World) (base g gc N : Nat) (r : Nat → Nat) (seg : List Nat) (hN : ∀ x ∈ seg, x < N) (hseg : seg.Pairwise (· < ·)) (hc : CmpOk w g gc N r) (hr : RowV w base g 3 n (ints seg)) :
    Calls Tryd.prog 71 #[.slice (some ⟨g, 0, none⟩) n n, .int .i64 (n : Int), .func (.func 49) #[] #[.pointer (some ⟨gc, 0, none⟩)]] w (SortPost w base g n r [] seg []) := by
  have hl : seg.length = n := by have := hr.1; simpa [ints] using this
  have CI := insertion_any w base g gc n N r [] seg [] hN (by omega) hseg hc (by simpa using hr)
  have CI : Calls Tryd.prog 91 #[.slice (some ⟨g, 0, none⟩) n n, .int .i64 0, .int .i64 (n : Int), .func (.func 49) #[] #[.pointer (some ⟨gc, 0, none⟩)]] w (SortPost w base g n r [] seg []) := by
    have h := CI
    simp only [List.length_nil, Nat.zero_add, hl] at h
    exact h
  have CI := Lib.hid CI
  have d1 : decide ((20 : Int) ≤ (n : Int)) = false := decide_eq_false (by omega)
  have d2 : decide ((20 : Int) < (n : Int)) = false := decide_eq_false (by omega)
  clear hN hseg hc hr hl
  go_enter Tryd.func71, Tryd.ntmps71
  go_wp2_with fail
  refine wp_loop_rounds 1 ?_
  rw [rounds_succ]
  go_wp2_with fail
  refine CI.out.mono ?_
  rintro e w1 ⟨seg', rfl, h1, h2, h3, h4⟩
  have HP : Hid (seg'.Perm seg ∧ seg'.Pairwise (LT r) ∧ RowV w1 base g 3 n (ints ([] ++ seg' ++ [])) ∧ Far g w w1) := ⟨h1, h2, h3, h4⟩
  clear h1 h2 h3 h4
  go_wp2_with fail
  refine wp_loop_rounds 1 ?_
  rw [rounds_succ]
  go_wp2_with fail
  go_end0
  exact ⟨seg', rfl, HP.out.1, HP.out.2.1, HP.out.2.2.1, HP.out.2.2.2⟩
theorem sorts_small (n : Nat) (hn : n < 20) : SortsAt n := by
  intro w base g gc N r seg hN hseg hc hr
  have CI := Lib.hid (stable_small n hn w base g gc N r seg hN hseg hc hr)
  clear hN hseg hc hr
  go_enter Tryd.func48, Tryd.ntmps48
  go_wp2_with fail
  refine CI.out.mono ?_
  rintro e w1 ⟨seg', rfl, h1, h2, h3, h4⟩
  have HP : Hid (seg'.Perm seg ∧ seg'.Pairwise (LT r) ∧ RowV w1 base g 3 n (ints ([] ++ seg' ++ [])) ∧ Far g w w1) := ⟨h1, h2, h3, h4⟩
  clear h1 h2 h3 h4
  go_wp2_with fail
  go_end0
  exact ⟨seg', rfl, HP.out.1, HP.out.2.1, HP.out.2.2.1, HP.out.2.2.2⟩
end So
end Go.Proofs.YtfopmaeaclbknaaDoor
