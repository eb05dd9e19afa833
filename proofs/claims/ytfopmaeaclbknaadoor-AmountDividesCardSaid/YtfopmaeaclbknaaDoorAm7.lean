/- The laws AmountDivides and AmountShares: walks. Printed by gen_am7.py. -/
import Derived.Test.YtfopmaeaclbknaaDoorShR
import Derived.Test.YtfopmaeaclbknaaDoorSmB
namespace Go.Proofs.YtfopmaeaclbknaaDoor
open Go.ChangeShapes Go.WideShapes Go.ChangeAt Go.RowKit
set_option linter.unusedVariables false
set_option linter.unusedSimpArgs false
namespace Am
open So
/-- a list of weights: all good, or the first bad one -/
theorem weights_split : ∀ xs : List Int, (∃ W : List Nat, xs = toI W ∧ ∀ x ∈ W, x ≤ 1000000) ∨ (∃ (W : List Nat) (z : Int) (tl : List Int), xs = toI W ++ z :: tl ∧ (∀ x ∈ W, x ≤ 1000000) ∧ (z < 0 ∨ 1000000 < z))
  | [] => .inl ⟨[], rfl, fun x h => by cases h⟩
  | y :: l => by
    by_cases hy : y < 0 ∨ 1000000 < y
    · exact .inr ⟨[], y, l, rfl, (fun x h => by cases h), hy⟩
    · obtain ⟨m, rfl⟩ : ∃ m : Nat, y = (m : Int) := ⟨y.toNat, by omega⟩
      have hm : m ≤ 1000000 := by omega
      rcases weights_split l with ⟨W, rfl, hW⟩ | ⟨W, z, tl, rfl, hW, hz⟩
      · exact .inl ⟨m :: W, rfl, fun x hx => by rcases List.mem_cons.1 hx with rfl | hx; exact hm; exact hW x hx⟩
      · exact .inr ⟨m :: W, z, tl, rfl, (fun x hx => by rcases List.mem_cons.1 hx with rfl | hx; exact hm; exact hW x hx), hz⟩
theorem div_long (T : Int) (A : Option Addr) (n c : Nat) (w : World) (ht : Tab w) (hn : 40 < n) : Calls Tryd.prog 4 #[.int .i64 T, .slice A n c] w (LawPost w) := by
  have q1 : decide ((40 : Int) < (n : Int)) = true := decide_eq_true (by omega)
  have q2 : decide (40 < n) = true := decide_eq_true hn
  have CW := Lib.hid (fun w' (b : Below w.heap.size w w') => awake_any w' (ht.keep b))
  have B0 := Lib.hid (Below.refl w.heap.size w)
  clear ht hn
  go_enter Tryd.func4, Tryd.ntmps4
  go_wp2_with fail
  refine (CW.out _ B0.out).mono ?_
  rintro e w9 ⟨rfl, b9⟩
  have B9 := Lib.hid (chain0 B0.out b9)
  clear b9
  go_wp2_with fail
  go_ret
  exact ⟨rfl, B9.out⟩
theorem div_no (T x : Int) (A : Option Addr) (n c : Nat) (w : World) (ht : Tab w) (hn : n ≤ 40) (CA : Calls Tryd.prog 15 #[.int .i64 T, .slice A n c] w (NoPost x w)) (CB : ∀ w', Below w.heap.size w w' → Calls Tryd.prog 16 #[.int .i64 T, .slice A n c] w' (NoPost x w')) : Calls Tryd.prog 4 #[.int .i64 T, .slice A n c] w (LawPost w) := by
  have q1 : decide ((40 : Int) < (n : Int)) = false := decide_eq_false (by omega)
  have q2 : decide (40 < n) = false := decide_eq_false (by omega)
  have CW := Lib.hid (fun w' (b : Below w.heap.size w w') => awake_any w' (ht.keep b))
  have CS := Lib.hid (fun w' => same_yes [] (.slice none 0 0) (.slice none 0 0) w' (by simp) (Sl.nil _ _) (Sl.nil _ _))
  have q3 : (x == x) = true := by simp
  replace CA := Lib.hid CA
  replace CB := Lib.hid CB
  unfold NoPost at CA CB
  clear ht hn
  go_enter Tryd.func4, Tryd.ntmps4
  go_wp2_with fail
  refine CA.out.mono ?_
  rintro e w1 ⟨rfl, d1⟩
  have B1 := Lib.hid d1
  clear d1
  go_wp2_with fail
  refine (CB.out _ B1.out).mono ?_
  rintro e w2 ⟨rfl, d2⟩
  have B2 := Lib.hid (chain0 B1.out d2)
  clear d2
  go_wp2_with fail
  refine (CS.out _).mono ?_
  rintro e w3 ⟨rfl, d3⟩
  have B3 := Lib.hid (chain0 B2.out d3)
  clear d3
  go_wp2_with fail
  refine (CW.out _ B3.out).mono ?_
  rintro e w9 ⟨rfl, b9⟩
  have B9 := Lib.hid (chain0 B3.out b9)
  clear b9
  go_wp2_with fail
  go_ret
  exact ⟨rfl, B9.out⟩
theorem div_yes (T : Int) (A : Option Addr) (n c : Nat) (w : World) (ht : Tab w) (hn : n ≤ 40) (Q : List Nat → Prop) (xs : List Nat → List Int) (hxs : ∀ o, (xs o).length ≤ 1000) (CA : Calls Tryd.prog 15 #[.int .i64 T, .slice A n c] w fun e w' => ∃ order v', e = .returned (.tuple #[v', .int .i64 0]) ∧ Q order ∧ IS w' v' (xs order) ∧ Below w.heap.size w w') (CB : ∀ w' order, Below w.heap.size w w' → Q order → Calls Tryd.prog 16 #[.int .i64 T, .slice A n c] w' fun e w'' => ∃ v', e = .returned (.tuple #[v', .int .i64 0]) ∧ IS w'' v' (xs order) ∧ Below w'.heap.size w' w'') : Calls Tryd.prog 4 #[.int .i64 T, .slice A n c] w (LawPost w) := by
  have q1 : decide ((40 : Int) < (n : Int)) = false := decide_eq_false (by omega)
  have q2 : decide (40 < n) = false := decide_eq_false (by omega)
  have CW := Lib.hid (fun w' (b : Below w.heap.size w w') => awake_any w' (ht.keep b))
  have CS := Lib.hid (fun o v1 v2 w' h1 h2 => same_yes (xs o) v1 v2 w' (hxs o) h1 h2)
  replace CA := Lib.hid CA
  replace CB := Lib.hid CB
  clear ht hn hxs
  go_enter Tryd.func4, Tryd.ntmps4
  go_wp2_with fail
  refine CA.out.mono ?_
  rintro e w1 ⟨order, v1, rfl, hq, h1, d1⟩
  have B1 := Lib.hid d1
  have HQ := Lib.hid hq
  have H1 := Lib.hid h1
  clear d1 hq h1
  go_wp2_with fail
  refine (CB.out _ _ B1.out HQ.out).mono ?_
  rintro e w2 ⟨v2, rfl, h2, d2⟩
  have B2 := Lib.hid (chain0 B1.out d2)
  have H2 := Lib.hid h2
  have H1b := Lib.hid (H1.out.keep d2)
  clear d2 h2
  go_wp2_with fail
  refine (CS.out _ _ _ _ H1b.out H2.out).mono ?_
  rintro e w3 ⟨rfl, d3⟩
  have B3 := Lib.hid (chain0 B2.out d3)
  clear d3
  go_wp2_with fail
  refine (CW.out _ B3.out).mono ?_
  rintro e w9 ⟨rfl, b9⟩
  have B9 := Lib.hid (chain0 B3.out b9)
  clear b9
  go_wp2_with fail
  go_ret
  exact ⟨rfl, B9.out⟩
theorem law_divides (T : Int) (v : Value) (xs : List Int) (w : World) (ht : Tab w) (h : IS w v xs) : Calls Tryd.prog 4 #[.int .i64 T, v] w (LawPost w) := by
  obtain ⟨A, c, rfl, _⟩ := is_cases h
  by_cases hn : 40 < xs.length
  · exact div_long T A _ c w ht hn
  have hn' : xs.length ≤ 40 := by omega
  have HK : ∀ w', Below w.heap.size w w' → IS w' (.slice A xs.length c) xs := fun w' b => h.keep b
  rcases weights_split xs with ⟨W, e, hW⟩ | ⟨W, z, tl, e, hW, hz⟩
  · have hl : xs.length = W.length := by rw [e, toI_len]
    by_cases hT : T < 0 ∨ 1000000 < T
    · exact div_no T 4 A _ c w ht hn' (share_total T W _ w hW (by omega) hT (by have := h; rw [e] at this ⊢; exact this)) fun w' b => rshare_total T _ w' hT
    · obtain ⟨t, rfl⟩ : ∃ t : Nat, T = (t : Int) := ⟨T.toNat, by omega⟩
      have ht' : t ≤ 1000000 := by omega
      by_cases hS : sumN W W.length = 0
      · exact div_no _ 6 A _ c w ht hn' (share_none _ W _ w hW (by omega) (by omega) (by omega) hS (by have := h; rw [e] at this ⊢; exact this)) fun w' b => rshare_none t W _ w' ht' hW (by omega) hS (by have := HK w' b; rw [e] at this ⊢; exact this)
      · refine div_yes _ A _ c w ht hn' (fun o => IsOrder t W (sumN W W.length) o) (fun o => toI (shares t W (sumN W W.length) o)) (fun o => by rw [toI_len, shares_len]; omega) ?_ fun w' order b ho => ?_
        · exact share_ok t W _ w ht' hW (by omega) (by omega) (sorts_all _ (by omega)) (by have := h; rw [e] at this ⊢; exact this)
        · exact rshare_ok t W order _ w' ht' hW (by omega) (by omega) ho (by have := HK w' b; rw [e] at this ⊢; exact this)
  · have hl : xs.length = W.length + 1 + tl.length := by rw [e]; simp [toI_len]; omega
    refine div_no T 4 A _ c w ht hn' (share_weight T W z tl _ w hW hz (by omega) (by have := h; rw [e] at this ⊢; exact this)) fun w' b => ?_
    by_cases hT : T < 0 ∨ 1000000 < T
    · exact rshare_total T _ w' hT
    · exact rshare_weight T W z tl _ w' (by omega) (by omega) hW hz (by omega) (by have := HK w' b; rw [e] at this ⊢; exact this)
set_option maxRecDepth 20000 in
theorem shs_long (T : Int) (A : Option Addr) (n c : Nat) (w : World) (ht : Tab w) (hn : 40 < n) : Calls Tryd.prog 3 #[.int .i64 T, .slice A n c] w (LawPost w) := by
  have q1 : decide ((40 : Int) < (n : Int)) = true := decide_eq_true (by omega)
  have q2 : decide (40 < n) = true := decide_eq_true hn
  have CW := Lib.hid (fun w' (b : Below w.heap.size w w') => awake_any w' (ht.keep b))
  have B0 := Lib.hid (Below.refl w.heap.size w)
  clear ht hn
  go_enter Tryd.func3, Tryd.ntmps3
  go_wp2_with fail
  refine (CW.out _ B0.out).mono ?_
  rintro e w9 ⟨rfl, b9⟩
  have B9 := Lib.hid (chain0 B0.out b9)
  clear b9
  go_wp2_with fail
  go_ret
  exact ⟨rfl, B9.out⟩
set_option maxRecDepth 20000 in
theorem shs_neg (T : Int) (A : Option Addr) (n c : Nat) (w : World) (ht : Tab w) (hn : n ≤ 40) (hT : T < 0) : Calls Tryd.prog 3 #[.int .i64 T, .slice A n c] w (LawPost w) := by
  have q1 : decide ((40 : Int) < (n : Int)) = false := decide_eq_false (by omega)
  have q2 : decide (40 < n) = false := decide_eq_false (by omega)
  have CW := Lib.hid (fun w' (b : Below w.heap.size w w') => awake_any w' (ht.keep b))
  have q3 : decide (T < 0) = true := decide_eq_true hT
  have B0 := Lib.hid (Below.refl w.heap.size w)
  clear ht hn hT
  go_enter Tryd.func3, Tryd.ntmps3
  go_wp2_with fail
  refine (CW.out _ B0.out).mono ?_
  rintro e w9 ⟨rfl, b9⟩
  have B9 := Lib.hid (chain0 B0.out b9)
  clear b9
  go_wp2_with fail
  go_ret
  exact ⟨rfl, B9.out⟩
set_option maxRecDepth 20000 in
theorem shs_big (T : Int) (A : Option Addr) (n c : Nat) (w : World) (ht : Tab w) (hn : n ≤ 40) (hT : 1000000 < T) : Calls Tryd.prog 3 #[.int .i64 T, .slice A n c] w (LawPost w) := by
  have q1 : decide ((40 : Int) < (n : Int)) = false := decide_eq_false (by omega)
  have q2 : decide (40 < n) = false := decide_eq_false (by omega)
  have CW := Lib.hid (fun w' (b : Below w.heap.size w w') => awake_any w' (ht.keep b))
  have q3 : decide (T < 0) = false := decide_eq_false (by omega)
  have q4 : decide (1000000 < T) = true := decide_eq_true hT
  have B0 := Lib.hid (Below.refl w.heap.size w)
  clear ht hn hT
  go_enter Tryd.func3, Tryd.ntmps3
  go_wp2_with fail
  refine (CW.out _ B0.out).mono ?_
  rintro e w9 ⟨rfl, b9⟩
  have B9 := Lib.hid (chain0 B0.out b9)
  clear b9
  go_wp2_with fail
  go_ret
  exact ⟨rfl, B9.out⟩
set_option maxHeartbeats 1000000 in
set_option maxRecDepth 20000 in
theorem shs_weight (T : Nat) (A : Option Addr) (n c : Nat) (w : World) (ht : Tab w) (hn : n ≤ 40) (hT : T ≤ 1000000) (W : List Nat) (z : Int) (tl : List Int) (hW : ∀ x ∈ W, x ≤ 1000000) (hz : z < 0 ∨ 1000000 < z) (hnl : n = W.length + 1 + tl.length) (hc : 0 < n → ∃ b o, A = some ⟨b, o, none⟩ ∧ b < w.heap.size ∧ ∀ (i : Nat) x, (toI W ++ z :: tl)[i]? = some x → w.cell? ⟨b, o + i, none⟩ = some (.int .i64 x)) : Calls Tryd.prog 3 #[.int .i64 (T : Int), .slice A n c] w (LawPost w) := by
  have q1 : decide ((40 : Int) < (n : Int)) = false := decide_eq_false (by omega)
  have q2 : decide (40 < n) = false := decide_eq_false (by omega)
  have CW := Lib.hid (fun w' (b : Below w.heap.size w w') => awake_any w' (ht.keep b))
  have q3 : decide ((T : Int) < 0) = false := decide_eq_false (by omega)
  have q4 : decide (1000000 < (T : Int)) = false := decide_eq_false (by omega)
  have hT0 : (0 : Int) ≤ (T : Int) := by omega
  have hT1 : (T : Int) ≤ 1000000 := by omega
  have hn6 : (n : Int) ≤ 40 := by omega
  have HC := Lib.hid hc
  have HZ := Lib.hid hz
  have hWn : W.length < n := by omega
  have B0 := Lib.hid (Below.refl w.heap.size w)
  clear ht hn hc hz hnl
  go_enter Tryd.func3, Tryd.ntmps3
  go_wp2_with fail
  go_loopw [5, 6] (fun s v wr => ∃ k : Nat, k ≤ W.length ∧ s = .int .i64 ((sumN W k : Nat) : Int) ∧ v = .int .i64 (k : Int) ∧ w = wr) (fun _ v _ => W.length + 1 - (intOf v).toNat)
  case atStart => exact ⟨0, Nat.zero_le _, by simp [sumN], rfl, rfl⟩
  case round =>
    obtain ⟨k, hk, rfl, rfl, rfl⟩ := hrel
    have hk0 : (0 : Int) ≤ (k : Int) := by omega
    have hk5 : (k : Int) ≤ 1000 := by omega
    have hsum := sumN_le hW k
    have hs0 : (0 : Int) ≤ ((sumN W k : Nat) : Int) := by omega
    have hs1 : ((sumN W k : Nat) : Int) ≤ 1000000000 := by omega
    by_cases hkn : k < W.length
    · have hd1 : decide (k < n) = true := decide_eq_true (by omega)
      have hd2 : decide ((k : Int) < (n : Int)) = true := decide_eq_true (by omega)
      obtain ⟨b, o, eA, hb, hc⟩ := HC.out (by omega)
      subst eA
      have c1 : w.cell? ⟨b, o + k, none⟩ = some (.int .i64 ((at_ W k : Nat) : Int)) := hc k _ (by rw [List.getElem?_append_left (by rw [toI_len]; exact hkn)]; exact toI_at hkn)
      have hx : at_ W k ≤ 1000000 := by rw [at_in hkn]; exact hW _ (List.getElem_mem hkn)
      have HS := Lib.hid (sumN_succ hkn)
      have ha0 : (0 : Int) ≤ ((at_ W k : Nat) : Int) := by omega
      have ha1 : ((at_ W k : Nat) : Int) ≤ 1000000 := by omega
      have y1 : decide (((at_ W k : Nat) : Int) < 0) = false := decide_eq_false (by omega)
      have y2 : decide ((1000000 : Int) < ((at_ W k : Nat) : Int)) = false := decide_eq_false (by omega)
      have y3 : decide (1000000 < at_ W k) = false := decide_eq_false (by omega)
      have hsn : ((sumN W k : Nat) : Int) + ((at_ W k : Nat) : Int) = ((sumN W (k + 1) : Nat) : Int) := by rw [HS.out]; omega
      have hk1 : k + 1 ≤ W.length := hkn
      have hkn1 : (k : Int) < (n : Int) := by omega
      clear hc hx hsum 
      go_wp2_with fail
      go_roundw
      case rel => exact ⟨k + 1, hk1, by go_num, by go_num, trivial⟩
      case measure => simp [intOf]; omega
    · obtain rfl : k = W.length := by omega
      have hd1 : decide (W.length < n) = true := decide_eq_true (by omega)
      have hd2 : decide ((W.length : Int) < (n : Int)) = true := decide_eq_true (by omega)
      obtain ⟨b, o, eA, hb, hc⟩ := HC.out (by omega)
      subst eA
      have c1 : w.cell? ⟨b, o + W.length, none⟩ = some (.int .i64 z) := hc W.length _ (by rw [List.getElem?_append_right (by rw [toI_len]; exact Nat.le_refl _), toI_len, Nat.sub_self]; rfl)
      clear hc hsum
      by_cases hz0 : z < 0
      · have y1 : decide (z < 0) = true := decide_eq_true hz0
        clear hz0
        go_wp2_with fail
        refine (CW.out _ B0.out).mono ?_
        rintro e w9 ⟨rfl, b9⟩
        have B9 := Lib.hid (chain0 B0.out b9)
        clear b9
        go_wp2_with fail
        go_ret
        exact ⟨rfl, B9.out⟩
      · have y1 : decide (z < 0) = false := decide_eq_false hz0
        have y2 : decide (1000000 < z) = true := decide_eq_true (by have := HZ.out; omega)
        clear hz0
        go_wp2_with fail
        refine (CW.out _ B0.out).mono ?_
        rintro e w9 ⟨rfl, b9⟩
        have B9 := Lib.hid (chain0 B0.out b9)
        clear b9
        go_wp2_with fail
        go_ret
        exact ⟨rfl, B9.out⟩
set_option maxHeartbeats 1000000 in
set_option maxRecDepth 20000 in
theorem shs_none (T : Nat) (A : Option Addr) (n c : Nat) (w : World) (ht : Tab w) (hn : n ≤ 40) (hT : T ≤ 1000000) (W : List Nat) (hW : ∀ x ∈ W, x ≤ 1000000) (hnl : n = W.length) (hc : 0 < n → ∃ b o, A = some ⟨b, o, none⟩ ∧ b < w.heap.size ∧ ∀ (i : Nat) x, (toI W)[i]? = some x → w.cell? ⟨b, o + i, none⟩ = some (.int .i64 x)) (hS : sumN W W.length = 0) (CA : Calls Tryd.prog 15 #[.int .i64 (T : Int), .slice A n c] w (NoPost 6 w)) : Calls Tryd.prog 3 #[.int .i64 (T : Int), .slice A n c] w (LawPost w) := by
  have q1 : decide ((40 : Int) < (n : Int)) = false := decide_eq_false (by omega)
  have q2 : decide (40 < n) = false := decide_eq_false (by omega)
  have CW := Lib.hid (fun w' (b : Below w.heap.size w w') => awake_any w' (ht.keep b))
  have q3 : decide ((T : Int) < 0) = false := decide_eq_false (by omega)
  have q4 : decide (1000000 < (T : Int)) = false := decide_eq_false (by omega)
  have hT0 : (0 : Int) ≤ (T : Int) := by omega
  have hT1 : (T : Int) ≤ 1000000 := by omega
  have hn6 : (n : Int) ≤ 40 := by omega
  have HC := Lib.hid hc
  replace CA := Lib.hid CA
  unfold NoPost at CA
  have B0 := Lib.hid (Below.refl w.heap.size w)
  have HNL := Lib.hid hnl
  clear ht hn hc hnl
  go_enter Tryd.func3, Tryd.ntmps3
  go_wp2_with fail
  go_loopw [5, 6] (fun s v wr => ∃ k : Nat, k ≤ W.length ∧ s = .int .i64 ((sumN W k : Nat) : Int) ∧ v = .int .i64 (k : Int) ∧ w = wr) (fun _ v _ => W.length + 1 - (intOf v).toNat)
  case atStart => exact ⟨0, Nat.zero_le _, by simp [sumN], rfl, rfl⟩
  case round =>
    obtain ⟨k, hk, rfl, rfl, rfl⟩ := hrel
    have hnl := HNL.out
    have hk0 : (0 : Int) ≤ (k : Int) := by omega
    have hk5 : (k : Int) ≤ 1000 := by omega
    have hsum := sumN_le hW k
    have hs0 : (0 : Int) ≤ ((sumN W k : Nat) : Int) := by omega
    have hs1 : ((sumN W k : Nat) : Int) ≤ 1000000000 := by omega
    by_cases hkn : k < W.length
    · have hd1 : decide (k < n) = true := decide_eq_true (by omega)
      have hd2 : decide ((k : Int) < (n : Int)) = true := decide_eq_true (by omega)
      obtain ⟨b, o, eA, hb, hc⟩ := HC.out (by omega)
      subst eA
      have c1 : w.cell? ⟨b, o + k, none⟩ = some (.int .i64 ((at_ W k : Nat) : Int)) := hc k _ (toI_at hkn)
      have hx : at_ W k ≤ 1000000 := by rw [at_in hkn]; exact hW _ (List.getElem_mem hkn)
      have HS := Lib.hid (sumN_succ hkn)
      have ha0 : (0 : Int) ≤ ((at_ W k : Nat) : Int) := by omega
      have ha1 : ((at_ W k : Nat) : Int) ≤ 1000000 := by omega
      have y1 : decide (((at_ W k : Nat) : Int) < 0) = false := decide_eq_false (by omega)
      have y2 : decide ((1000000 : Int) < ((at_ W k : Nat) : Int)) = false := decide_eq_false (by omega)
      have y3 : decide (1000000 < at_ W k) = false := decide_eq_false (by omega)
      have hsn : ((sumN W k : Nat) : Int) + ((at_ W k : Nat) : Int) = ((sumN W (k + 1) : Nat) : Int) := by rw [HS.out]; omega
      have hk1 : k + 1 ≤ W.length := hkn
      have hkn1 : (k : Int) < (n : Int) := by omega
      clear hc hx hsum hnl
      go_wp2_with fail
      go_roundw
      case rel => exact ⟨k + 1, hk1, by go_num, by go_num, trivial⟩
      case measure => simp [intOf]; omega
    · obtain rfl : k = W.length := by omega
      have hd1 : decide (W.length < n) = false := decide_eq_false (by omega)
      have hd2 : decide ((W.length : Int) < (n : Int)) = false := decide_eq_false (by omega)
      have hz : (((sumN W W.length : Nat) : Int) == 0) = true := by rw [hS]; rfl
      clear hsum hS hnl
      go_wp2_with fail
      refine CA.out.mono ?_
      rintro e w1 ⟨rfl, d1⟩
      have B1 := Lib.hid d1
      clear d1
      go_wp2_with fail
      refine (CW.out _ B1.out).mono ?_
      rintro e w9 ⟨rfl, b9⟩
      have B9 := Lib.hid (chain0 B1.out b9)
      clear b9
      go_wp2_with fail
      go_ret
      exact ⟨rfl, B9.out⟩
theorem near_facts {x S p q : Nat} (h1 : p < q + S) (h2 : q < p + S) (hp : p ≤ 1000000000000000) (hq : q ≤ 1000000000000000) : IntKind.i64.wrap ((p : Int) - (q : Int)) = (p : Int) - (q : Int) ∧ IntKind.i64.wrap ((q : Int) - (p : Int)) = (q : Int) - (p : Int) ∧ decide ((S : Int) ≤ (p : Int) - (q : Int)) = false ∧ decide ((S : Int) ≤ (q : Int) - (p : Int)) = false :=
  ⟨IntWalk.i64_in _ (by omega), IntWalk.i64_in _ (by omega), decide_eq_false (by omega), decide_eq_false (by omega)⟩
theorem prod_fact {a b : Nat} (ha : a ≤ 1000001) (hb : b ≤ 1000000000) : ∃ p : Nat, p = a * b ∧ p ≤ 1000000000000000 + 1000000000 ∧ IntKind.i64.wrap ((a : Int) * (b : Int)) = (p : Int) := by
  have h1 : a * b ≤ 1000001 * 1000000000 := Nat.mul_le_mul ha hb
  refine ⟨a * b, rfl, by omega, ?_⟩
  have e : (a : Int) * (b : Int) = ((a * b : Nat) : Int) := by simp
  rw [e]
  exact IntWalk.i64_in _ (by omega)
theorem take_sum_le (l : List Nat) (k : Nat) : (l.take k).sum ≤ l.sum := by
  have h := List.take_append_drop k l
  conv => rhs; rw [← h]
  rw [List.sum_append]
  omega
/-- what the law asks of the shares -/
structure Fair (T S : Nat) (W L : List Nat) : Prop where
  len : L.length = W.length
  sum : L.sum = T
  le : ∀ i, i < W.length → at_ L i ≤ T
  near : ∀ i, i < W.length → at_ L i * S < T * at_ W i + S ∧ T * at_ W i < at_ L i * S + S
  mono : ∀ i k, i < W.length → k < W.length → at_ W k < at_ W i → at_ L k ≤ at_ L i
theorem fair_shares {T : Nat} {W order : List Nat} {S : Nat} (h : IsOrder T W S order) (hS : 0 < S) (hSS : S = sumN W W.length) : Fair T S W (shares T W S order) := by
  have hl : (shares T W S order).length = W.length := shares_len
  refine ⟨hl, shares_sum h hS hSS, fun i hi => ?_, fun i hi => ?_, fun i k hi hk hw => ?_⟩
  · rw [at_in (by omega)]; exact shares_le h hS hSS _
  · have := shares_near h hS hSS hi
    rw [at_in (W := shares T W S order) (by omega)]; exact this
  · have := shares_mono h hS hSS hi hk hw
    rw [at_in (W := shares T W S order) (by omega), at_in (W := shares T W S order) (by omega)]; exact this
set_option maxHeartbeats 4000000 in
set_option maxRecDepth 100000 in
theorem shs_yes (T : Nat) (A : Option Addr) (n c : Nat) (w : World) (ht : Tab w) (hn : n ≤ 40) (hT : T ≤ 1000000) (W : List Nat) (hW : ∀ x ∈ W, x ≤ 1000000) (hnl : n = W.length) (hc : 0 < n → ∃ b o, A = some ⟨b, o, none⟩ ∧ b < w.heap.size ∧ ∀ (i : Nat) x, (toI W)[i]? = some x → w.cell? ⟨b, o + i, none⟩ = some (.int .i64 x)) (hS : 0 < sumN W W.length) (CA : Calls Tryd.prog 15 #[.int .i64 (T : Int), .slice A n c] w fun e w' => ∃ L v', e = .returned (.tuple #[v', .int .i64 0]) ∧ Fair T (sumN W W.length) W L ∧ IS w' v' (toI L) ∧ Below w.heap.size w w') : Calls Tryd.prog 3 #[.int .i64 (T : Int), .slice A n c] w (LawPost w) := by
  have q1 : decide ((40 : Int) < (n : Int)) = false := decide_eq_false (by omega)
  have q2 : decide (40 < n) = false := decide_eq_false (by omega)
  have CW := Lib.hid (fun w' (b : Below w.heap.size w w') => awake_any w' (ht.keep b))
  have q3 : decide ((T : Int) < 0) = false := decide_eq_false (by omega)
  have q4 : decide (1000000 < (T : Int)) = false := decide_eq_false (by omega)
  have hT0 : (0 : Int) ≤ (T : Int) := by omega
  have hT1 : (T : Int) ≤ 1000000 := by omega
  have hn6 : (n : Int) ≤ 40 := by omega
  have HC := Lib.hid hc
  replace CA := Lib.hid CA
  have B0 := Lib.hid (Below.refl w.heap.size w)
  have HNL := Lib.hid hnl
  clear ht hn hc hnl
  go_enter Tryd.func3, Tryd.ntmps3
  go_wp2_with fail
  go_loopw [5, 6] (fun s v wr => ∃ k : Nat, k ≤ W.length ∧ s = .int .i64 ((sumN W k : Nat) : Int) ∧ v = .int .i64 (k : Int) ∧ w = wr) (fun _ v _ => W.length + 1 - (intOf v).toNat)
  case atStart => exact ⟨0, Nat.zero_le _, by simp [sumN], rfl, rfl⟩
  case round =>
    obtain ⟨k, hk, rfl, rfl, rfl⟩ := hrel
    have hnl := HNL.out
    have hk0 : (0 : Int) ≤ (k : Int) := by omega
    have hk5 : (k : Int) ≤ 1000 := by omega
    have hsum := sumN_le hW k
    have hs0 : (0 : Int) ≤ ((sumN W k : Nat) : Int) := by omega
    have hs1 : ((sumN W k : Nat) : Int) ≤ 1000000000 := by omega
    by_cases hkn : k < W.length
    · have hd1 : decide (k < n) = true := decide_eq_true (by omega)
      have hd2 : decide ((k : Int) < (n : Int)) = true := decide_eq_true (by omega)
      obtain ⟨b, o, eA, hb, hc⟩ := HC.out (by omega)
      subst eA
      have c1 : w.cell? ⟨b, o + k, none⟩ = some (.int .i64 ((at_ W k : Nat) : Int)) := hc k _ (toI_at hkn)
      have hx : at_ W k ≤ 1000000 := by rw [at_in hkn]; exact hW _ (List.getElem_mem hkn)
      have HS := Lib.hid (sumN_succ hkn)
      have ha0 : (0 : Int) ≤ ((at_ W k : Nat) : Int) := by omega
      have ha1 : ((at_ W k : Nat) : Int) ≤ 1000000 := by omega
      have y1 : decide (((at_ W k : Nat) : Int) < 0) = false := decide_eq_false (by omega)
      have y2 : decide ((1000000 : Int) < ((at_ W k : Nat) : Int)) = false := decide_eq_false (by omega)
      have y3 : decide (1000000 < at_ W k) = false := decide_eq_false (by omega)
      have hsn : ((sumN W k : Nat) : Int) + ((at_ W k : Nat) : Int) = ((sumN W (k + 1) : Nat) : Int) := by rw [HS.out]; omega
      have hk1 : k + 1 ≤ W.length := hkn
      have hkn1 : (k : Int) < (n : Int) := by omega
      clear hc hx hsum hnl
      go_wp2_with fail
      go_roundw
      case rel => exact ⟨k + 1, hk1, by go_num, by go_num, trivial⟩
      case measure => simp [intOf]; omega
    · obtain rfl : k = W.length := by omega
      have hd1 : decide (W.length < n) = false := decide_eq_false (by omega)
      have hd2 : decide ((W.length : Int) < (n : Int)) = false := decide_eq_false (by omega)
      obtain ⟨S, hSS⟩ : ∃ S, S = sumN W W.length := ⟨_, rfl⟩
      rw [← hSS] at hS hs0 hs1 hsum CA ⊢
      have hz : ((S : Int) == 0) = false := beq_eq_false_iff_ne.2 (by omega)
      have hS5 : S ≤ 1000000000 := by omega
      clear hsum hk hk0 hk5 hSS hnl
      go_wp2_with fail
      clear hd1 hd2
      refine CA.out.mono ?_
      rintro e w1 ⟨L, v1, rfl, hF, h1, d1⟩
      have B1 := Lib.hid d1
      have HF := Lib.hid hF
      obtain ⟨A2, c2, rfl, _, _, h2⟩ := is_cases h1
      have eL : (toI L).length = n := by rw [toI_len, HF.out.len]; exact HNL.out.symm
      rw [eL] at h2 ⊢
      have H2 := Lib.hid h2
      have q5 : ((n : Int) != (n : Int)) = false := by simp
      have q6 : (n != n) = false := by simp
      clear d1 hF h1 h2 eL
      go_wp2_with fail
      go_loopw [9, 10] (fun s v wr => ∃ k : Nat, k ≤ n ∧ s = .int .i64 (((L.take k).sum : Nat) : Int) ∧ v = .int .i64 (k : Int) ∧ Hid (Below w.heap.size w wr ∧ Below w1.heap.size w1 wr)) (fun _ v _ => n - (intOf v).toNat)
      case atStart => exact ⟨0, Nat.zero_le _, by simp, rfl, B1.out, Below.refl _ _⟩
      case round =>
        obtain ⟨k, hk, rfl, rfl, HB⟩ := hrel
        have hk0 : (0 : Int) ≤ (k : Int) := by omega
        have hk5 : (k : Int) ≤ 40 := by omega
        by_cases hkn : k < n
        · have hd1 : decide (k < n) = true := decide_eq_true hkn
          have hd2 : decide ((k : Int) < (n : Int)) = true := decide_eq_true (by omega)
          have hkn1 : (k : Int) < (n : Int) := by omega
          have HKW : Hid (k < W.length ∧ k < L.length) := ⟨by have := HNL.out; omega, by have := HNL.out; have := HF.out.len; omega⟩
          obtain ⟨b, o, eA, hb, hc⟩ := HC.out (by omega)
          subst eA
          obtain ⟨b2, o2, eA2, hb2, hc2⟩ := H2.out (by omega)
          subst eA2
          have HCW : Hid (∀ wz, Below w.heap.size w wz → ∀ i, i < n → wz.cell? ⟨b, o + i, none⟩ = some (.int .i64 ((at_ W i : Nat) : Int))) := fun wz bz i hi => (bz.cell (p := ⟨b, o + i, none⟩) hb).trans (hc i _ (toI_at (by have := HNL.out; omega)))
          have HCL : Hid (∀ wz, Below w1.heap.size w1 wz → ∀ i, i < n → wz.cell? ⟨b2, o2 + i, none⟩ = some (.int .i64 ((at_ L i : Nat) : Int))) := fun wz bz i hi => (bz.cell (p := ⟨b2, o2 + i, none⟩) hb2).trans (hc2 i _ (toI_at (by have := HNL.out; have := HF.out.len; omega)))
          clear hc hc2 hb hb2
          have c1 := HCW.out wr HB.out.1 k hkn
          have c3 := HCL.out wr HB.out.2 k hkn
          have hle := HF.out.le k HKW.out.1
          have hwx : at_ W k ≤ 1000000 := by rw [at_in HKW.out.1]; exact hW _ (List.getElem_mem HKW.out.1)
          have hts : (L.take (k + 1)).sum = (L.take k).sum + at_ L k := by rw [List.take_succ_eq_append_getElem HKW.out.2, List.sum_append, at_in HKW.out.2]; simp
          have hss := take_sum_le L k
          rw [HF.out.sum] at hss
          have HTS : Hid (((L.take k).sum : Int) + ((at_ L k : Nat) : Int) = (((L.take (k + 1)).sum : Nat) : Int)) := by
            show ((((L.take k).sum : Nat) : Int) + ((at_ L k : Nat) : Int) = (((L.take (k + 1)).sum : Nat) : Int))
            rw [hts]; omega
          obtain ⟨p, hp, hp5, f1⟩ := prod_fact (a := at_ L k) (b := S) (by omega) hS5
          obtain ⟨q, hq, hq5, f2⟩ := prod_fact (a := T) (b := at_ W k) (by omega) (by omega)
          have hn1 := HF.out.near k HKW.out.1
          rw [← hp, ← hq] at hn1
          have hp6 : p ≤ 1000000000000000 := by rw [hp]; exact Nat.mul_le_mul (show at_ L k ≤ 1000000 by omega) (show S ≤ 1000000000 from hS5)
          have hq6 : q ≤ 1000000000000000 := by rw [hq]; exact Nat.mul_le_mul (show T ≤ 1000000 by omega) (show at_ W k ≤ 1000000000 by omega)
          obtain ⟨f3, f4, f5, f6⟩ := near_facts (x := 0) hn1.1 hn1.2 hp6 hq6
          have HMON : Hid (∀ i, i < n → at_ W i < at_ W k → at_ L i ≤ at_ L k) := fun i hi hw => HF.out.mono k i HKW.out.1 (by have := HNL.out; omega) hw
          obtain ⟨x, hx⟩ : ∃ x, x = at_ L k := ⟨_, rfl⟩
          obtain ⟨y, hy⟩ : ∃ y, y = at_ W k := ⟨_, rfl⟩
          obtain ⟨s, hs⟩ : ∃ s, s = (L.take k).sum := ⟨_, rfl⟩
          rw [← hx] at c3 hle f1 HTS HMON
          rw [← hy] at c1 f2 HMON
          rw [← hs] at hss HTS ⊢
          have HS1 := HTS.out
          have x0 : (0 : Int) ≤ (x : Int) := by omega
          have x1 : (x : Int) ≤ 1000000 := by omega
          have s0 : (0 : Int) ≤ (s : Int) := by omega
          have s1 : (s : Int) ≤ 1000000 := by omega
          have y1 : decide ((x : Int) < 0) = false := decide_eq_false (by omega)
          have y2 : decide ((T : Int) < (x : Int)) = false := decide_eq_false (by omega)
          have y3 : decide (T < x) = false := decide_eq_false (by omega)
          have HHX := Lib.hid hx
          have HHY := Lib.hid hy
          clear hx hy hs hp hq hp5 hq5 hn1 hp6 hq6 hts hwx hle hss
          go_wp2_with fail
          go_quiet (fail)
          go_wp2_with fail
          have HB2 : Hid (Below w.heap.size w (wr.drewN nq) ∧ Below w1.heap.size w1 (wr.drewN nq)) := ⟨chain0 HB.out.1 (Fr.drewN_below _ _), chain0 HB.out.2 (Fr.drewN_below _ _)⟩
          clear c1 c3 f1 f2 f3 f4 f5 f6 HB
          generalize wr.drewN nq = w2 at *
          go_loopw [11] (fun v wz => ∃ j : Nat, j ≤ n ∧ v = .int .i64 (j : Int) ∧ Hid (Below w.heap.size w wz ∧ Below w1.heap.size w1 wz)) (fun v _ => n - (intOf v).toNat)
          case atStart => exact ⟨0, Nat.zero_le _, rfl, HB2⟩
          case round =>
            clear HB2
            obtain ⟨j, hj, rfl, HB⟩ := hrel
            have hj0 : (0 : Int) ≤ (j : Int) := by omega
            have hj5 : (j : Int) ≤ 40 := by omega
            by_cases hjn : j < n
            · have hd1 : decide (j < n) = true := decide_eq_true hjn
              have hd2 : decide ((j : Int) < (n : Int)) = true := decide_eq_true (by omega)
              have hjn1 : (j : Int) < (n : Int) := by omega
              have c1 := HCW.out wr HB.out.1 k hkn
              have c2 := HCW.out wr HB.out.1 j hjn
              have c3 := HCL.out wr HB.out.2 k hkn
              have c4 := HCL.out wr HB.out.2 j hjn
              rw [← HHY.out] at c1
              rw [← HHX.out] at c3
              have hm := HMON.out j hjn
              have HB2 : Hid (∀ q, Below w.heap.size w (wr.drewN q) ∧ Below w1.heap.size w1 (wr.drewN q)) := fun q => ⟨chain0 HB.out.1 (Fr.drewN_below _ _), chain0 HB.out.2 (Fr.drewN_below _ _)⟩
              generalize at_ W j = yj at *
              generalize at_ L j = xj at *
              by_cases hw : yj < y
              · have k1 : decide (yj < y) = true := decide_eq_true hw
                have k2 : decide ((yj : Int) < (y : Int)) = true := decide_eq_true (by omega)
                have hm' := hm hw
                have k3 : decide (x < xj) = false := decide_eq_false (by omega)
                have k4 : decide ((x : Int) < (xj : Int)) = false := decide_eq_false (by omega)
                clear hw hm hm'
                go_wp2_with fail
                go_quiet (fail)
                go_wp2_with fail
                go_roundw
                case rel => exact ⟨j + 1, hjn, by go_num, HB2.out _⟩
                case measure => simp [intOf]; omega
              · have k1 : decide (yj < y) = false := decide_eq_false hw
                have k2 : decide ((yj : Int) < (y : Int)) = false := decide_eq_false (by omega)
                clear hw hm
                go_wp2_with fail
                go_quiet (fail)
                go_wp2_with fail
                go_roundw
                case rel => exact ⟨j + 1, hjn, by go_num, HB2.out _⟩
                case measure => simp [intOf]; omega
            · obtain rfl : j = n := by omega
              have hd1 : decide (j < j) = false := decide_eq_false (Nat.lt_irrefl _)
              have hd2 : decide ((j : Int) < (j : Int)) = false := decide_eq_false (Int.lt_irrefl _)
              have hkn2 : k + 1 ≤ j := hkn
              go_wp2_with fail
              go_roundw
              case rel => exact ⟨k + 1, hkn2, by rw [← HS1], by go_num, HB⟩
              case measure => simp [intOf]; omega
        · obtain rfl : k = n := by omega
          have hd1 : decide (k < k) = false := decide_eq_false (Nat.lt_irrefl _)
          have hd2 : decide ((k : Int) < (k : Int)) = false := decide_eq_false (Int.lt_irrefl _)
          have hts : (L.take k).sum = T := by rw [List.take_of_length_le (by have := HNL.out; have := HF.out.len; omega)]; exact HF.out.sum
          rw [hts]
          have q7 : ((T : Int) == (T : Int)) = true := by simp
          have q8 : (T == T) = true := by simp
          have B3 := Lib.hid HB.out.1
          clear hts
          go_wp2_with fail
          refine (CW.out _ B3.out).mono ?_
          rintro e w9 ⟨rfl, b9⟩
          have B9 := Lib.hid (chain0 B3.out b9)
          clear b9
          go_wp2_with fail
          go_ret
          exact ⟨rfl, B9.out⟩
theorem law_shares (T : Int) (v : Value) (xs : List Int) (w : World) (ht : Tab w) (h : IS w v xs) : Calls Tryd.prog 3 #[.int .i64 T, v] w (LawPost w) := by
  obtain ⟨A, c, rfl, _, _, hc⟩ := is_cases h
  by_cases hn : 40 < xs.length
  · exact shs_long T A _ c w ht hn
  have hn' : xs.length ≤ 40 := by omega
  by_cases h0 : T < 0
  · exact shs_neg T A _ c w ht hn' h0
  by_cases h1 : 1000000 < T
  · exact shs_big T A _ c w ht hn' h1
  obtain ⟨t, rfl⟩ : ∃ t : Nat, T = (t : Int) := ⟨T.toNat, by omega⟩
  have ht' : t ≤ 1000000 := by omega
  rcases weights_split xs with ⟨W, e, hW⟩ | ⟨W, z, tl, e, hW, hz⟩
  · have hl : xs.length = W.length := by rw [e, toI_len]
    by_cases hS : sumN W W.length = 0
    · exact shs_none t A _ c w ht hn' ht' W hW hl (by rw [e] at hc ⊢; exact hc) hS (share_none _ W _ w hW (by omega) (by omega) (by omega) hS (by have := h; rw [e] at this ⊢; exact this))
    · refine shs_yes t A _ c w ht hn' ht' W hW hl (by rw [e] at hc ⊢; exact hc) (by omega) ?_
      refine Calls.mono (share_ok t W _ w ht' hW (by omega) (by omega) (sorts_all _ (by omega)) (by have := h; rw [e] at this ⊢; exact this)) ?_
      rintro e w1 ⟨order, v', rfl, k1, k2, k3⟩
      exact ⟨_, v', rfl, fair_shares k1 (by omega) rfl, k2, k3⟩
  · have hl : xs.length = W.length + 1 + tl.length := by rw [e]; simp [toI_len]; omega
    exact shs_weight t A _ c w ht hn' ht' W z tl hW hz hl (by rw [e] at hc ⊢; exact hc)
end Am
end Go.Proofs.YtfopmaeaclbknaaDoor
