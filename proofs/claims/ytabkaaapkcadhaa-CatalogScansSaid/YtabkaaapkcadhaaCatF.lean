/- Contracts of Points, Reserve, Units. Printed by gen_catF.py. -/
import Derived.Test.YtabkaaapkcadhaaCatE
namespace Go.Proofs.Ytabkaaapkcadhaa
open Go.ChangeShapes Go.WideShapes Go.ChangeAt Go.RowKit
set_option linter.unusedVariables false
set_option linter.unusedSimpArgs false
namespace Cat
open Lex
theorem points_any (l : List Prod) (v : Value) (b : Nat → Int) (w : World) (hl : l.length ≤ 5000) (h : PS w v l) (hn : ∀ p ∈ l, p.name.size ≤ maxLen) :
    Calls Try.prog 50 #[v, .agg (arr b)] w fun e w' => e = .returned (.int .i64 (sumE Prod.points b l)) ∧ Below w.heap.size w w' := by
  have CS : Hid (∀ w', Below w.heap.size w w' → Calls Try.prog 76 #[.agg #[v, .int .i64 (b 0), .int .i64 (b 1), .int .i64 (b 2), .int .i64 (b 3), .int .i64 (b 4), .int .i64 (b 5)], .func (.func 77) #[] #[]] w' fun e w2 => e = .returned (.int .i64 (sumE Prod.points b l)) ∧ Below w'.heap.size w' w2) := by
    intro w' hb
    have h' := Sl.keep h hb
    obtain ⟨A, c, rfl, k1, k2, ha⟩ := ps_cases h'
    unfold sumE
    by_cases hz : checkE l = 0
    · cases hv : validB b with
      | false => rw [if_neg (by simp)]; exact sum_bad2 l A c b _ w' hl h' hn hz hv
      | true =>
        rw [if_pos ⟨hz, rfl⟩]
        obtain ⟨b1, o1, rfl, _, r⟩ := ha (checkE_zero hz).1
        exact sum_points l b1 o1 c b w' k1 k2 r hn hz hv
    · rw [if_neg (fun e => hz e.1)]
      exact sum_bad l A c b _ w' hl h' hn hz
  obtain ⟨A, c, rfl, _, _, _⟩ := ps_cases h
  clear h hn
  generalize sumE Prod.points b l = r at *
  unfold arr
  go_enter Try.func50, Try.ntmps50
  go_wp2_with fail
  refine (CS.out _ (below_new _ _)).mono ?_
  rintro e w1 ⟨rfl, d1⟩
  have B1 := Lib.hid (chain1 (Below.refl _ _) d1)
  clear d1
  go_wp2_with fail
  go_ret
  exact ⟨rfl, B1.out⟩
theorem reserve_any (l : List Prod) (v : Value) (b : Nat → Int) (w : World) (hl : l.length ≤ 5000) (h : PS w v l) (hn : ∀ p ∈ l, p.name.size ≤ maxLen) :
    Calls Try.prog 51 #[v, .agg (arr b)] w fun e w' => e = .returned (.int .i64 (sumE Prod.reserve b l)) ∧ Below w.heap.size w w' := by
  have CS : Hid (∀ w', Below w.heap.size w w' → Calls Try.prog 76 #[.agg #[v, .int .i64 (b 0), .int .i64 (b 1), .int .i64 (b 2), .int .i64 (b 3), .int .i64 (b 4), .int .i64 (b 5)], .func (.func 78) #[] #[]] w' fun e w2 => e = .returned (.int .i64 (sumE Prod.reserve b l)) ∧ Below w'.heap.size w' w2) := by
    intro w' hb
    have h' := Sl.keep h hb
    obtain ⟨A, c, rfl, k1, k2, ha⟩ := ps_cases h'
    unfold sumE
    by_cases hz : checkE l = 0
    · cases hv : validB b with
      | false => rw [if_neg (by simp)]; exact sum_bad2 l A c b _ w' hl h' hn hz hv
      | true =>
        rw [if_pos ⟨hz, rfl⟩]
        obtain ⟨b1, o1, rfl, _, r⟩ := ha (checkE_zero hz).1
        exact sum_reserve l b1 o1 c b w' k1 k2 r hn hz hv
    · rw [if_neg (fun e => hz e.1)]
      exact sum_bad l A c b _ w' hl h' hn hz
  obtain ⟨A, c, rfl, _, _, _⟩ := ps_cases h
  clear h hn
  generalize sumE Prod.reserve b l = r at *
  unfold arr
  go_enter Try.func51, Try.ntmps51
  go_wp2_with fail
  refine (CS.out _ (below_new _ _)).mono ?_
  rintro e w1 ⟨rfl, d1⟩
  have B1 := Lib.hid (chain1 (Below.refl _ _) d1)
  clear d1
  go_wp2_with fail
  go_ret
  exact ⟨rfl, B1.out⟩
theorem units_any (l : List Prod) (v : Value) (gr : Int) (b : Nat → Int) (w : World) (hl : l.length ≤ 5000) (h : PS w v l) (hn : ∀ p ∈ l, p.name.size ≤ maxLen) :
    Calls Try.prog 52 #[v, .int .i64 gr, .agg (arr b)] w fun e w' => e = .returned (.int .i64 (sumE (gw gr) b l)) ∧ Below w.heap.size w w' := by
  have CS : Hid (∀ w' a, Below w.heap.size w w' → w'.cell? ⟨a, 0, none⟩ = some (.int .i64 gr) → Calls Try.prog 76 #[.agg #[v, .int .i64 (b 0), .int .i64 (b 1), .int .i64 (b 2), .int .i64 (b 3), .int .i64 (b 4), .int .i64 (b 5)], .func (.func 79) #[] #[.pointer (some ⟨a, 0, none⟩)]] w' fun e w2 => e = .returned (.int .i64 (sumE (gw gr) b l)) ∧ Below w'.heap.size w' w2) := by
    intro w' a hb hcell
    have h' := Sl.keep h hb
    obtain ⟨A, c, rfl, k1, k2, ha⟩ := ps_cases h'
    unfold sumE
    by_cases hz : checkE l = 0
    · cases hv : validB b with
      | false => rw [if_neg (by simp)]; exact sum_bad2 l A c b _ w' hl h' hn hz hv
      | true =>
        rw [if_pos ⟨hz, rfl⟩]
        obtain ⟨b1, o1, rfl, _, r⟩ := ha (checkE_zero hz).1
        exact sum_units a gr l b1 o1 c b w' k1 k2 r hn hz hv hcell
    · rw [if_neg (fun e => hz e.1)]
      exact sum_bad l A c b _ w' hl h' hn hz
  obtain ⟨A, c, rfl, _, _, _⟩ := ps_cases h
  clear h hn
  generalize sumE (gw gr) b l = r at *
  have HC := Lib.hid (show ∀ T T2, (((w.alloc (.cells #[.int .i64 gr] T)).alloc (.cells (arr b) T2))).cell? ⟨w.heap.size, 0, none⟩ = some (.int .i64 gr) by intro T T2; simp [go_sem])
  unfold arr at HC
  unfold arr
  go_enter Try.func52, Try.ntmps52
  go_wp2_with fail
  refine (CS.out _ _ ((below_new _ _).alloc (by go_size) _) (HC.out _ _)).mono ?_
  rintro e w1 ⟨rfl, d1⟩
  have B1 := Lib.hid (chain2 (Below.refl _ _) d1)
  clear d1
  go_wp2_with fail
  go_ret
  exact ⟨rfl, B1.out⟩
end Cat
end Go.Proofs.Ytabkaaapkcadhaa
