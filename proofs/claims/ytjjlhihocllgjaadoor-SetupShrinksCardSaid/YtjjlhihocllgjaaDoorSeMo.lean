/- Plain: bundles within feasible ones are feasible. Printed by gen_seSk.py. -/
import Derived.Test.YtjjlhihocllgjaaDoorSe5
namespace Go.Proofs.YtjjlhihocllgjaaDoor.Se
open Go.ChangeShapes Go.WideShapes Go.ChangeAt Go.RowKit Gn Cat Lex Ros
set_option linter.unusedVariables false
set_option linter.unusedSimpArgs false
theorem firstE_of {f : Nat → Int} : ∀ {n k : Nat}, (∀ j, k ≤ j → j < k + n → f j = 0) → firstE f k n = 0
  | 0, _, _ => rfl
  | n + 1, k, h => by
    rw [firstE_step (h k (Nat.le_refl _) (by omega))]
    exact firstE_of fun j h1 h2 => h j (by omega) (by omega)
theorem sw_mono {f : Prod → Int} {a b : Nat → Int} {ps : List Prod} (h6 : ps.length ≤ 6) (hf : ∀ p, 0 ≤ f p) (h : ∀ k, k < 6 → a k ≤ b k) : ∀ n, n ≤ ps.length → sw f a ps n ≤ sw f b ps n
  | 0, _ => Int.le_refl _
  | n + 1, hn => by
    have ih := sw_mono h6 hf h n (by omega)
    have h1 := Int.mul_le_mul_of_nonneg_right (h n (by omega)) (hf (ps.getD n Prod.none))
    unfold sw
    omega
theorem gw_nonneg (g : Int) (p : Prod) : 0 ≤ gw g p := by unfold gw; split <;> omega
/-- bundles pointwise within others -/
abbrev LeL (m l : List (Nat → Int)) : Prop := m.length = l.length ∧ ∀ a, a < l.length → ∀ k, k < 6 → 0 ≤ m.getD a zero6 k ∧ m.getD a zero6 k ≤ l.getD a zero6 k
theorem allow_mono {S : SetD} {i : Int} {a b : Nat → Int} (hz : S.err = 0) (h : allowE S i b = 0) (hle : ∀ k, k < 6 → 0 ≤ a k ∧ a k ≤ b k) : allowE S i a = 0 := by
  obtain ⟨q0, q1, q2, q3, q4⟩ := allowE_zero h
  obtain ⟨g1, _, _, g4⟩ := setE_parts hz
  obtain ⟨_, g6, gg⟩ := checkE_zero g1
  have va : ∀ k, k < 6 → 0 ≤ a k ∧ a k ≤ 4 := fun k hk => by have := hle k hk; have := q1 k hk; omega
  refine allowE_of q0 va (fun k hk => by have := hle k hk; have := q2 k hk; omega) (fun k hk => ?_) (fun c hc => ?_)
  · have h1 := hle k hk
    have h2 := q3 k hk
    unfold outP at h2 ⊢
    split at h2
    · rename_i h3; rw [if_pos h3]; exact h2
    · rename_i h3; rw [if_neg h3]; omega
  · have h1 := q4 c hc
    have e1 : sumE (gw c.group) a S.ps = sw (gw c.group) a S.ps S.ps.length := if_pos ⟨g1, validB_iff.2 va⟩
    have e2 : sumE (gw c.group) b S.ps = sw (gw c.group) b S.ps S.ps.length := if_pos ⟨g1, validB_iff.2 q1⟩
    have hm := sw_mono (f := gw c.group) g6 (gw_nonneg _) (fun k hk => (hle k hk).2) S.ps.length (Nat.le_refl _)
    unfold capHit at h1 ⊢
    rw [Bool.and_eq_false_iff] at h1 ⊢
    rcases h1 with h1 | h1
    · exact .inl h1
    · refine .inr (decide_eq_false ?_)
      have := of_decide_eq_false h1
      rw [e1]
      rw [e2] at this
      omega
theorem sum_mono {S : SetD} {l m : List (Nat → Int)} (h : LeL m l) : ∀ n, n ≤ l.length → ∀ k, k < 6 → sumL m n k ≤ sumL l n k ∧ outL S m n k ≤ outL S l n k
  | 0, _, k, _ => by rw [sumL_zero, sumL_zero]; exact ⟨Int.le_refl _, Int.le_refl _⟩
  | n + 1, hn, k, hk => by
    obtain ⟨i1, i2⟩ := sum_mono (S := S) h n (by omega) k hk
    have h1 := h.2 n (by omega) k hk
    rw [sumL_succ (by rw [h.1]; omega), sumL_succ (by omega), outL, outL]
    refine ⟨by omega, ?_⟩
    have h3 : outP (clsF S.ad) (clsOf S (n : Int)) (m.getD n zero6) k ≤ outP (clsF S.ad) (clsOf S (n : Int)) (l.getD n zero6) k := by
      unfold outP
      split
      · exact Int.le_refl _
      · exact h1.2
    omega
theorem feas_mono {S : SetD} {l m : List (Nat → Int)} (h : feasE S l = 0) (hle : LeL m l) : feasE S m = 0 := by
  obtain ⟨h1, h2, h3, h4⟩ := feas_parts h
  have ha : allE S m = 0 := by
    unfold allE
    refine firstE_of fun j _ hj => ?_
    rw [hle.1] at hj
    exact allow_mono h1 (allE_zero h3 j (by omega)) (hle.2 j (by omega))
  rw [feas_4 h1 (hle.1.trans h2) ha, if_neg]
  rw [Bool.not_eq_true]
  refine over_none fun k hk => ?_
  have h5 : over S l l.length k = false := by
    unfold overAny at h4
    rw [List.any_eq_false] at h4
    simpa using h4 k (List.mem_range.2 hk)
  obtain ⟨s1, s2⟩ := sum_mono (S := S) hle l.length (Nat.le_refl _) k hk
  unfold over at h5 ⊢
  rw [hle.1]
  rw [Bool.or_eq_false_iff] at h5 ⊢
  have t1 := of_decide_eq_false h5.1
  have t2 := of_decide_eq_false h5.2
  exact ⟨decide_eq_false (by omega), decide_eq_false (by omega)⟩
end Go.Proofs.YtjjlhihocllgjaaDoor.Se
