/- Contract of the reference's Parse. Printed by gen_catP.py. -/
import Derived.Test.YtabkaaapkcadhaaCatO
namespace Go.Proofs.Ytabkaaapkcadhaa
open Go.ChangeShapes Go.WideShapes Go.ChangeAt Go.RowKit
set_option linter.unusedVariables false
set_option linter.unusedSimpArgs false
namespace Cat
open Lex
theorem refGo_rest (l : List Prod) : ∀ (m : Nat) (D : List Tok) (b : Nat → Int) (k : Nat), D.length ≤ m → ∀ b' R n, refGo l D b k = .ok (b', R, n) → ∃ j, n = k + j ∧ R = D.drop j ∧ j ≤ D.length
  | 0, D, b, k, hm, b', R, n, h => by
    obtain rfl : D = [] := List.eq_nil_of_length_eq_zero (by omega)
    unfold refGo at h
    cases h
  | m + 1, D, b, k, hm, b', R, n, h => by
    rw [refGo_D] at h
    unfold goD at h
    by_cases c0 : D.length ≤ 0
    · rw [if_pos c0] at h; cases h
    · rw [if_neg c0] at h
      by_cases c1 : (tokAt D 0).kind ≠ 1
      · rw [if_pos c1] at h; cases h
      · rw [if_neg c1] at h
        by_cases c2 : findP l (tokAt D 0).text = none
        · rw [if_pos c2] at h; cases h
        · rw [if_neg c2] at h
          by_cases c3 : b (findK l (tokAt D 0).text) ≠ 0
          · rw [if_pos c3] at h; cases h
          · rw [if_neg c3] at h
            by_cases c4 : isAt D 1 ⟨#[58]⟩ = false
            · rw [if_pos c4] at h; cases h
            · rw [if_neg c4] at h
              by_cases c5 : D.length ≤ 2 ∨ (tokAt D 2).kind ≠ 2
              · rw [if_pos c5] at h; cases h
              · rw [if_neg c5] at h
                by_cases c6 : ¬ (1 ≤ (tokAt D 2).value ∧ (tokAt D 2).value ≤ 4)
                · rw [if_pos c6] at h; cases h
                · rw [if_neg c6] at h
                  by_cases c7 : isAt D 3 ⟨#[125]⟩ = true
                  · rw [if_pos c7] at h
                    injection h with h
                    injection h with h1 h2
                    injection h2 with h2 h3
                    subst h1 h2 h3
                    refine ⟨4, rfl, rfl, ?_⟩
                    unfold isAt at c7
                    simp at c7
                    omega
                  · rw [if_neg c7] at h
                    by_cases c8 : isAt D 3 ⟨#[44]⟩ = true
                    · rw [if_pos c8] at h
                      have hl : 3 < D.length := by
                        unfold isAt at c8
                        simp at c8
                        omega
                      obtain ⟨j, h1, h2, h3⟩ := refGo_rest l m (D.drop 4) _ _ (by rw [List.length_drop]; omega) _ _ _ h
                      rw [List.length_drop] at h3
                      exact ⟨4 + j, by omega, by rw [h2, List.drop_drop], by omega⟩
                    · rw [if_neg c8] at h; cases h
theorem refF_rest {l : List Prod} {U : List Tok} {b' : Nat → Int} {R : List Tok} {n : Nat} (h : refF l U = .ok (b', R, n)) : R = U.drop n ∧ n ≤ U.length := by
  rw [refF_at] at h
  by_cases c0 : isAt U 0 ⟨#[123]⟩ = false
  · rw [if_pos c0] at h; cases h
  · rw [if_neg c0] at h
    have hl : 0 < U.length := by
      unfold isAt at c0
      simp at c0
      omega
    by_cases c1 : isAt U 1 ⟨#[125]⟩ = true
    · rw [if_pos c1] at h
      injection h with h
      injection h with h1 h2
      injection h2 with h2 h3
      subst h1 h2 h3
      refine ⟨rfl, ?_⟩
      unfold isAt at c1
      simp at c1
      omega
    · rw [if_neg c1] at h
      obtain ⟨j, h1, h2, h3⟩ := refGo_rest l _ (U.drop 1) _ _ (Nat.le_refl _) _ _ _ h
      rw [List.length_drop] at h3
      exact ⟨by rw [h2, List.drop_drop, h1], by omega⟩
/-- what the reference's Tokens gives, in three parts -/
def rtB : Except Int ((Nat → Int) × List Tok × Nat) → Nat → Int
  | .error _ => zero6
  | .ok (b, _, _) => b
def rtN : Except Int ((Nat → Int) × List Tok × Nat) → Nat
  | .error _ => 0
  | .ok (_, _, n) => n
def rtE : Except Int ((Nat → Int) × List Tok × Nat) → Int
  | .error x => x
  | .ok _ => 0
theorem rtokV_eq (r : Except Int ((Nat → Int) × List Tok × Nat)) : rtokV r = .tuple #[.agg (arr (rtB r)), .int .i64 (rtN r : Int), .int .i64 (rtE r)] := by
  cases r with
  | error x => rfl
  | ok r => obtain ⟨b, R, n⟩ := r; rfl
theorem refF_err_ne {l : List Prod} {U : List Tok} {x : Int} (hz : checkE l = 0) (h : refF l U = .error x) : x ≠ 0 := by
  have := scan_ref l U hz
  rw [h] at this
  exact this.1
theorem parseT_parts (l : List Prod) (U : List Tok) (hz : checkE l = 0) : parseT l U = if rtE (refF l U) ≠ 0 then (zero6, rtE (refF l U)) else if rtN (refF l U) < U.length then (zero6, 3) else (rtB (refF l U), 0) := by
  unfold parseT
  cases h : refF l U with
  | error x =>
    have := refF_err_ne hz h
    show (zero6, x) = if x ≠ 0 then (zero6, x) else _
    rw [if_pos this]
  | ok r =>
    obtain ⟨b, R, n⟩ := r
    obtain ⟨h1, h2⟩ := refF_rest h
    have e1 : rtE (.ok (b, R, n)) = 0 := rfl
    have e2 : rtN (.ok (b, R, n)) = n := rfl
    have e3 : rtB (.ok (b, R, n)) = b := rfl
    rw [e1, e2, e3, if_neg (fun h => h rfl)]
    dsimp only
    by_cases c : n < U.length
    · have hR : R ≠ [] := by
        intro e
        rw [e] at h1
        have := congrArg List.length h1
        rw [List.length_drop] at this
        simp at this
        omega
      rw [if_pos c, if_neg hR]
    · have hR : R = [] := by
        rw [h1]
        exact List.drop_eq_nil_of_le (by omega)
      rw [if_neg c, if_pos hR]
set_option maxRecDepth 100000 in
theorem rparse_bad (l : List Prod) (v : Value) (s : ByteArray) (w : World) (hl : l.length ≤ 5000) (hp : PS w v l) (hn : ∀ p ∈ l, p.name.size ≤ maxLen) (hz : checkE l ≠ 0) : Calls Try.prog 57 #[v, .string s] w (ParsePost (zero6, checkE l) w) := by
  have CC := Lib.hid (fun w' (k : Below w.heap.size w w') => rcheck_any l v w' hl (Sl.keep hp k) hn)
  have HK := Lib.hid (Blk.new w 60 (arr zero6))
  have q1 : (checkE l != 0) = true := by simpa using hz
  obtain ⟨A, c, rfl, _, _, _⟩ := ps_cases hp
  clear hp hz hn
  go_enter Try.func57, Try.ntmps57
  go_wp2_with fail
  refine (CC.out _ (below_new _ _)).mono ?_
  rintro r w2 ⟨rfl, d2⟩
  have K2 := Lib.hid (HK.out.below' d2)
  have B2 := Lib.hid (chain1 (Below.refl _ _) d2)
  clear d2
  obtain ⟨Z0, Z1, Z2, Z3, Z4, Z5⟩ := K2.out.box.cells
  have zf := K2.out.box.free
  go_wp2_with fail
  have RE := res_end0 K2.out.box
  obtain ⟨X0, X1, X2, X3, X4, X5⟩ := RE.cells
  refine bodyPost_ret (v := .tuple #[.agg (arr zero6), .int .i64 (checkE l)]) (by simp [results, Try.results57, go_sem, arr, X0, X1, X2, X3, X4, X5, zero6]) rfl ⟨rfl, below_sixz B2.out (Nat.le_refl _)⟩

set_option maxRecDepth 100000 in
theorem rparse_lex (l : List Prod) (v : Value) (s : ByteArray) (w : World) (hl : l.length ≤ 5000) (hp : PS w v l) (hn : ∀ p ∈ l, p.name.size ≤ maxLen) (hss : s.size ≤ 5000) (hz : checkE l = 0) (he : LexErr (lex s) ≠ 0) : Calls Try.prog 57 #[v, .string s] w (ParsePost (zero6, LexErr (lex s)) w) := by
  have CC := Lib.hid (fun w' (k : Below w.heap.size w w') => rcheck_any l v w' hl (Sl.keep hp k) hn)
  have CT := Lib.hid (fun w' => refTokens_any s w' hss)
  have HK := Lib.hid (Blk.new w 60 (arr zero6))
  have q1 : (checkE l != 0) = false := by simpa using hz
  have q2 : (LexErr (lex s) != 0) = true := by simpa using he
  obtain ⟨A, c, rfl, _, _, _⟩ := ps_cases hp
  clear hp hz hn he
  go_enter Try.func57, Try.ntmps57
  go_wp2_with fail
  refine (CC.out _ (below_new _ _)).mono ?_
  rintro r w2 ⟨rfl, d2⟩
  have K2 := Lib.hid (HK.out.below' d2)
  have B2 := Lib.hid (chain1 (Below.refl _ _) d2)
  clear d2
  go_wp2_with fail
  refine (CT.out _).mono ?_
  rintro r w3 ⟨v3, rfl, ho, d3⟩
  have K3 := Lib.hid (K2.out.below' d3)
  have B3 := Lib.hid (chain0 B2.out d3)
  obtain ⟨A3, c3, rfl⟩ := own_form ho
  clear d3 ho
  obtain ⟨Z0, Z1, Z2, Z3, Z4, Z5⟩ := K3.out.box.cells
  have zf := K3.out.box.free
  go_wp2_with fail
  have RE := res_end0 K3.out.box
  obtain ⟨X0, X1, X2, X3, X4, X5⟩ := RE.cells
  refine bodyPost_ret (v := .tuple #[.agg (arr zero6), .int .i64 (LexErr (lex s))]) (by simp [results, Try.results57, go_sem, arr, X0, X1, X2, X3, X4, X5, zero6]) rfl ⟨rfl, below_sixz B3.out (Nat.le_refl _)⟩

set_option maxRecDepth 100000 in
set_option maxHeartbeats 1000000 in
theorem rparse_toks (l : List Prod) (v : Value) (s : ByteArray) (w : World) (hl : l.length ≤ 5000) (hp : PS w v l) (hn : ∀ p ∈ l, p.name.size ≤ maxLen) (hss : s.size ≤ 5000) (hz : checkE l = 0) (he : LexErr (lex s) = 0) : Calls Try.prog 57 #[v, .string s] w (ParsePost (parseT l (LexToks (lex s))) w) := by
  have CC := Lib.hid (fun w' (k : Below w.heap.size w w') => rcheck_any l v w' hl (Sl.keep hp k) hn)
  have CT := Lib.hid (fun w' => refTokens_any s w' hss)
  have HK := Lib.hid (Blk.new w 60 (arr zero6))
  have q1 : (checkE l != 0) = false := by simpa using hz
  have q2 : (LexErr (lex s) != 0) = false := by simpa using he
  have hL : (LexToks (lex s)).length ≤ 5000 := lexToks_len s hss
  have HP := Lib.hid (parseT_parts l (LexToks (lex s)) hz)
  have h6 := (checkE_zero hz).2.1
  have CR := Lib.hid (fun v' w' (k : Below w.heap.size w w') h => rtokens_any l v (LexToks (lex s)) v' w' h6 (Sl.keep hp k) hL h)
  generalize hgt : LexToks (lex s) = L at *
  have HGT := Lib.hid hgt
  clear hgt
  have HV := Lib.hid (rtokV_eq (refF l L))
  obtain ⟨A, c, rfl, _, _, _⟩ := ps_cases hp
  clear hp hz hn he
  go_enter Try.func57, Try.ntmps57
  go_wp2_with fail
  refine (CC.out _ (below_new _ _)).mono ?_
  rintro r w2 ⟨rfl, d2⟩
  have K2 := Lib.hid (HK.out.below' d2)
  have B2 := Lib.hid (chain1 (Below.refl _ _) d2)
  clear d2
  go_wp2_with fail
  refine (CT.out _).mono ?_
  rintro r w3 ⟨v3, rfl, ho, d3⟩
  have K3 := Lib.hid (K2.out.below' d3)
  have B3 := Lib.hid (chain0 B2.out d3)
  rw [HGT.out] at ho
  have HO := Lib.hid (Sl.of_own ho)
  obtain ⟨A3, c3, rfl⟩ := own_form ho
  clear d3 ho
  go_wp2_with fail
  refine (CR.out _ _ B3.out HO.out).mono ?_
  rintro r w4 ⟨rfl, d4⟩
  have K4 := Lib.hid (K3.out.below' d4)
  have B4 := Lib.hid (chain0 B3.out d4)
  have HN := Lib.hid (Blk.new w4 60 (arr (rtB (refF l L))))
  have K5 := Lib.hid (K4.out.alloc (.cells (arr (rtB (refF l L))) 60))
  clear d4
  rw [HV.out]
  generalize rtB (refF l L) = b at *
  generalize rtN (refF l L) = n at *
  generalize rtE (refF l L) = x at *
  by_cases hx : x = 0
  · have qx : (x != 0) = false := by simpa using hx
    rw [if_neg (by simp [hx])] at HP
    clear hx
    by_cases hnl : n < L.length
    · rw [if_pos hnl] at HP
      obtain ⟨Z0, Z1, Z2, Z3, Z4, Z5⟩ := K5.out.box.cells
      have zf := K5.out.box.free
      go_wp2_with fail
      have RE := res_end0 K5.out.box
      obtain ⟨X0, X1, X2, X3, X4, X5⟩ := RE.cells
      refine bodyPost_ret (v := .tuple #[.agg (arr zero6), .int .i64 3]) (by simp [results, Try.results57, go_sem, arr, X0, X1, X2, X3, X4, X5, zero6]) rfl ?_
      show ParsePost (parseT l L) w _ _
      rw [HP.out]
      exact ⟨rfl, below_sixz (B4.out.alloc B4.out.size _) (Nat.le_refl _)⟩
    · rw [if_neg hnl] at HP
      obtain ⟨Q0, Q1, Q2, Q3, Q4, Q5⟩ := HN.out.box.cells
      obtain ⟨Z0, Z1, Z2, Z3, Z4, Z5⟩ := K5.out.box.cells
      have zf := K5.out.box.free
      go_wp2_with fail
      have RE := res_end K5.out.box b
      obtain ⟨X0, X1, X2, X3, X4, X5⟩ := RE.cells
      refine bodyPost_ret (v := .tuple #[.agg (arr b), .int .i64 0]) (by simp [results, Try.results57, go_sem, arr, X0, X1, X2, X3, X4, X5]) rfl ?_
      show ParsePost (parseT l L) w _ _
      rw [HP.out]
      exact ⟨rfl, below_six (B4.out.alloc B4.out.size _) (Nat.le_refl _) _⟩
  · have qx : (x != 0) = true := by simpa using hx
    rw [if_pos hx] at HP
    clear hx
    obtain ⟨Z0, Z1, Z2, Z3, Z4, Z5⟩ := K5.out.box.cells
    have zf := K5.out.box.free
    go_wp2_with fail
    have RE := res_end0 K5.out.box
    obtain ⟨X0, X1, X2, X3, X4, X5⟩ := RE.cells
    refine bodyPost_ret (v := .tuple #[.agg (arr zero6), .int .i64 x]) (by simp [results, Try.results57, go_sem, arr, X0, X1, X2, X3, X4, X5, zero6]) rfl ?_
    show ParsePost (parseT l L) w _ _
    rw [HP.out]
    exact ⟨rfl, below_sixz (B4.out.alloc B4.out.size _) (Nat.le_refl _)⟩
theorem rparse_any (l : List Prod) (v : Value) (s : ByteArray) (w : World) (hl : l.length ≤ 5000) (hp : PS w v l) (hn : ∀ p ∈ l, p.name.size ≤ maxLen) (hss : s.size ≤ 5000) : Calls Try.prog 57 #[v, .string s] w (ParsePost (parseF l s) w) := by
  unfold parseF
  by_cases hz : checkE l = 0
  · rw [if_neg (by simp [hz])]
    by_cases he : LexErr (lex s) = 0
    · rw [if_neg (by simp [he])]
      exact rparse_toks l v s w hl hp hn hss hz he
    · rw [if_pos he]
      exact rparse_lex l v s w hl hp hn hss hz he
  · rw [if_pos hz]
    exact rparse_bad l v s w hl hp hn hz
end Cat
end Go.Proofs.Ytabkaaapkcadhaa
