/- Plain: what a parsed expression wants; a token more behind a text that was parsed. -/
import Derived.Test.YtjjlhihocllgjaaDoorExN
import Derived.Test.YtjjlhihocllgjaaDoorExR
namespace Go.Proofs.YtjjlhihocllgjaaDoor.Ex
open Go.ChangeShapes Go.WideShapes Go.ChangeAt Go.RowKit Gn Cat Lex
set_option linter.unusedVariables false
set_option linter.unusedSimpArgs false
theorem exp_zero {L : List Tok} {e : Int} {m : ByteArray} (h : expE L e m = 0) : e = 0 := by
  by_cases he : e = 0
  · exact he
  · exact absurd h (exp_ne he)
theorem amt_zero {L : List Tok} {e m : Int} (h : amtE L e m = 0) : e = 0 := by
  by_cases he : e = 0
  · exact he
  · exact absurd h (amt_ne he)
theorem priced_zero {l : List Prod} {L : List Tok} {e : Int} (h : (pricedF l L e).e = 0) : e = 0 := by
  by_cases he : e = 0
  · exact he
  · exact absurd h (priced_ne he)
theorem exp_head {L : List Tok} {m : ByteArray} (h : expE L 0 m = 0) : ∃ t R, L = t :: R ∧ isM t m = true := by
  cases L with
  | nil => rw [exp_nil] at h; cases h
  | cons t R =>
    cases hc : isM t m with
    | true => exact ⟨t, R, rfl, hc⟩
    | false => rw [exp_no hc] at h; cases h
/-- a token more -/
theorem exp_app {L : List Tok} {e : Int} {m : ByteArray} (M : List Tok) (h : expE L e m = 0) : expE (L ++ M) e m = 0 ∧ expL (L ++ M) e m = expL L e m ++ M := by
  obtain rfl := exp_zero h
  obtain ⟨t, R, rfl, hc⟩ := exp_head h
  rw [List.cons_append, (exp_yes hc).1, (exp_yes hc).2, (exp_yes hc).1]
  exact ⟨rfl, rfl⟩
theorem amt_app {L : List Tok} {e n : Int} (M : List Tok) (h : amtE L e n = 0) : amtE (L ++ M) e n = 0 ∧ amtL (L ++ M) e n = amtL L e n ++ M ∧ amtV (L ++ M) e n = amtV L e n := by
  obtain rfl := amt_zero h
  cases L with
  | nil =>
    exfalso
    unfold amtE peekT wrongE failE at h
    simp [Tok.none] at h
  | cons t R =>
    have hk : t.kind = 2 ∧ 0 ≤ t.value ∧ t.value ≤ n := by
      unfold amtE at h
      rw [show peekT (t :: R) 0 = t from rfl] at h
      by_cases hk : t.kind = 2
      · rw [if_pos hk] at h
        by_cases hv : 0 ≤ t.value ∧ t.value ≤ n
        · exact ⟨hk, hv⟩
        · rw [if_neg hv] at h; cases h
      · rw [if_neg hk] at h
        unfold wrongE failE at h
        simp at h
    unfold amtE amtL amtV
    rw [List.cons_append, show peekT (t :: (R ++ M)) 0 = t from rfl, show peekT (t :: R) 0 = t from rfl, if_pos hk.1, if_pos hk.2, if_pos hk, if_pos hk, if_pos hk]
    exact ⟨rfl, rfl, rfl⟩
theorem refGo_app (l : List Prod) (M : List Tok) : ∀ (n : Nat) (L : List Tok) (b : Nat → Int) (a : Nat) (b' : Nat → Int) (R : List Tok) (a' : Nat), L.length ≤ n → refGo l L b a = .ok (b', R, a') → refGo l (L ++ M) b a = .ok (b', R ++ M, a') ∧ (fitsB b l.length = true → fitsB b' l.length = true)
  | n, [], b, a, b', R, a', _, h => by unfold refGo at h; cases h
  | n, t :: L, b, a, b', R, a', hn, h => by
    unfold refGo at h
    split at h
    · cases h
    · rename_i h1
      split at h
      · cases h
      · rename_i h2
        split at h
        · cases h
        · rename_i h3
          match L, hn, h with
          | [], _, h => cases h
          | t1 :: L1, hn, h =>
            dsimp only at h
            split at h
            · cases h
            · rename_i h4
              match L1, hn, h with
              | [], _, h => cases h
              | t2 :: L2, hn, h =>
                dsimp only at h
                split at h
                · cases h
                · rename_i h5
                  split at h
                  · cases h
                  · rename_i h6
                    have hv : 1 ≤ t2.value ∧ t2.value ≤ 4 := Classical.not_not.1 h6
                    have hfit : fitsB b l.length = true → fitsB (upd b (findK l t.text) t2.value) l.length = true := by
                      intro hb
                      unfold fitsB at hb ⊢
                      rw [Bool.and_eq_true] at hb ⊢
                      have hb1 := validB_iff.1 hb.1
                      have hb2 := tailB_iff.1 hb.2
                      have hk : findK l t.text < l.length := by
                        unfold findK
                        cases hf : findP l t.text with
                        | none => exact absurd hf h2
                        | some k =>
                          have := findFrom_lt (show findFrom t.text l 0 = some k from hf)
                          show k < l.length
                          omega
                      refine ⟨validB_iff.2 fun i hi => ?_, tailB_iff.2 fun j hj => ?_⟩
                      · unfold upd
                        split
                        · omega
                        · exact hb1 i hi
                      · unfold upd
                        split
                        · rename_i e; left; omega
                        · exact hb2 j hj
                    match L2, hn, h with
                    | [], _, h => cases h
                    | t3 :: L3, hn, h =>
                      dsimp only at h
                      rw [List.cons_append, List.cons_append, List.cons_append, List.cons_append]
                      conv => arg 1; lhs; unfold refGo
                      rw [if_neg h1, if_neg h2, if_neg h3]
                      try dsimp only
                      rw [if_neg h4]
                      try dsimp only
                      rw [if_neg h5, if_neg h6]
                      try dsimp only
                      split at h
                      · rename_i h7
                        injection h with h
                        injection h with q1 h
                        injection h with q2 q3
                        subst q1 q2 q3
                        rw [if_pos h7]
                        exact ⟨rfl, hfit⟩
                      · rename_i h7
                        rw [if_neg h7]
                        split at h
                        · rename_i h8
                          rw [if_pos h8]
                          have hlen : L3.length ≤ n - 1 := by simp at hn; omega
                          have hn1 : n - 1 < n := by simp at hn; omega
                          obtain ⟨g1, g2⟩ := refGo_app l M (n - 1) L3 _ _ _ _ _ hlen h
                          exact ⟨g1, fun hb => g2 (hfit hb)⟩
                        · cases h
termination_by n => n
theorem fits_zero (n : Nat) : fitsB zero6 n = true := by
  unfold fitsB
  rw [Bool.and_eq_true]
  exact ⟨validB_iff.2 fun i hi => by unfold zero6; omega, tailB_iff.2 fun j hj => .inr rfl⟩
theorem refF_app (l : List Prod) (M : List Tok) {L : List Tok} {b' : Nat → Int} {R : List Tok} {a' : Nat} (h : refF l L = .ok (b', R, a')) : refF l (L ++ M) = .ok (b', R ++ M, a') ∧ fitsB b' l.length = true := by
  cases L with
  | nil => unfold refF at h; cases h
  | cons t L1 =>
    unfold refF at h
    dsimp only at h
    split at h
    · cases h
    · rename_i h1
      cases L1 with
      | nil => dsimp only at h; unfold refGo at h; cases h
      | cons t1 L2 =>
        dsimp only at h
        rw [List.cons_append, List.cons_append]
        conv => arg 1; lhs; unfold refF
        dsimp only
        rw [if_neg h1]
        split at h
        · rename_i h2
          injection h with h
          injection h with q1 h
          injection h with q2 q3
          subst q1 q2 q3
          rw [if_pos h2]
          exact ⟨rfl, fits_zero _⟩
        · rename_i h2
          rw [if_neg h2]
          obtain ⟨g1, g2⟩ := refGo_app l M _ _ _ _ _ _ _ (Nat.le_refl _) h
          exact ⟨g1, g2 (fits_zero _)⟩
theorem scan_app {l : List Prod} (hz : checkE l = 0) (M : List Tok) {L : List Tok} {e : Int} (h : (scanF l L e).e = 0) : scanF l (L ++ M) e = ⟨(scanF l L e).L ++ M, 0, (scanF l L e).b⟩ ∧ rfitsB (scanF l L e).b l = true := by
  have he : e = 0 := by
    by_cases he : e = 0
    · exact he
    · unfold scanF at h; rw [if_pos he] at h; exact h
  subst he
  have h1 := scan_ref l L hz
  cases hr : refF l L with
  | error x =>
    rw [hr] at h1
    obtain ⟨q1, q2, _⟩ := h1
    exact absurd (q2.symm.trans h) q1
  | ok r =>
    obtain ⟨b', R, a'⟩ := r
    rw [hr] at h1
    obtain ⟨g1, g2⟩ := refF_app l M hr
    have h2 := scan_ref l (L ++ M) hz
    rw [g1] at h2
    dsimp only at h1 h2
    rw [h1, h2]
    refine ⟨rfl, ?_⟩
    unfold rfitsB
    rw [hz, g2]
    rfl
theorem open_app (M : List Tok) {L : List Tok} {e : Int} (h : openE L e = 0) : openE (L ++ M) e = 0 ∧ e = 0 ∧ L ≠ [] ∧ (peekT L 0).kind = 3 := by
  unfold openE at h
  split at h
  · rename_i hk
    exfalso
    unfold failE at h
    by_cases he : e = 0
    · rw [if_pos he] at h; cases h
    · rw [if_neg he] at h; exact he h
  · rename_i hk
    split at h
    · rename_i ha
      subst h
      cases L with
      | nil => exact absurd ha (accB_nil _)
      | cons t R =>
        refine ⟨?_, rfl, by simp, ha.1⟩
        have hp : peekT (t :: R ++ M) 0 = peekT (t :: R) 0 := rfl
        have ha2 : accB (t :: R ++ M) 0 ⟨#[123]⟩ := ha
        unfold openE
        rw [hp, if_neg hk, if_pos ha2]
    · exfalso
      unfold failE at h
      by_cases he : e = 0
      · rw [if_pos he] at h; cases h
      · rw [if_neg he] at h; exact he h
theorem priced_app {l : List Prod} (hz : checkE l = 0) (M : List Tok) {L : List Tok} {e : Int} (h : (pricedF l L e).e = 0) : pricedF l (L ++ M) e = ⟨(pricedF l L e).b, (pricedF l L e).v, (pricedF l L e).L ++ M, 0⟩ ∧ rfitsB (pricedF l L e).b l = true ∧ e = 0 ∧ L ≠ [] ∧ (peekT L 0).kind = 3 := by
  have h1 : amtE (expL (scanF l L (openE L e)).L (scanF l L (openE L e)).e ⟨#[64]⟩) (expE (scanF l L (openE L e)).L (scanF l L (openE L e)).e ⟨#[64]⟩) 1000000 = 0 := h
  have h2 := amt_zero h1
  have h3 := exp_zero h2
  have h4 : openE L e = 0 := by
    by_cases he : openE L e = 0
    · exact he
    · unfold scanF at h3; rw [if_pos he] at h3; exact h3
  obtain ⟨o1, rfl, o3, o4⟩ := open_app M h4
  rw [h4] at h1 h2 h3
  obtain ⟨s1, s2⟩ := scan_app hz M h3
  have hP : pricedF l L 0 = pricedS (scanF l L 0) := by unfold pricedF; rw [h4]
  have hQ : pricedF l (L ++ M) 0 = pricedS (scanF l (L ++ M) 0) := by unfold pricedF; rw [o1]
  rw [hP, hQ, s1]
  clear hP hQ s1 h
  generalize scanF l L 0 = s at *
  obtain ⟨sL, se, sb⟩ := s
  dsimp only at h1 h2 h3 s2 ⊢
  subst h3
  obtain ⟨e1, e2⟩ := exp_app M h2
  rw [h2] at h1
  obtain ⟨a1, a2, a3⟩ := amt_app M h1
  refine ⟨?_, s2, rfl, o3, o4⟩
  unfold pricedS
  dsimp only
  rw [e1, e2, h2, a1, a2, a3]
end Go.Proofs.YtjjlhihocllgjaaDoor.Ex
