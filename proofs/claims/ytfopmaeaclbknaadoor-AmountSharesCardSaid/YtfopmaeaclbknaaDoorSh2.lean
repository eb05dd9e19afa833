/- Contracts of amount.is, Check and of Share where it refuses. Printed by gen_sh2.py. -/
import Derived.Test.YtfopmaeaclbknaaDoorSh1
namespace Go.Proofs.YtfopmaeaclbknaaDoor
open Go.ChangeShapes Go.WideShapes Go.ChangeAt Go.RowKit
set_option linter.unusedVariables false
set_option linter.unusedSimpArgs false
namespace So
theorem is_yes (v : Int) (w : World) (h0 : 0 ≤ v) (h1 : v ≤ 1000000) : Calls Tryd.prog 46 #[.int .i64 v] w fun e w' => e = .returned (.bool true) ∧ w = w' := by
  have d1 : decide (0 ≤ v) = true := decide_eq_true h0
  have d2 : decide (v ≤ 1000000) = true := decide_eq_true h1
  go_enter Tryd.func46, Tryd.ntmps46
  go_wp2_with fail
  go_ret
  exact ⟨rfl, rfl⟩
theorem is_no (v : Int) (w : World) (h : v < 0 ∨ 1000000 < v) : Calls Tryd.prog 46 #[.int .i64 v] w fun e w' => e = .returned (.bool false) ∧ w = w' := by
  by_cases h0 : 0 ≤ v
  · have d1 : decide (0 ≤ v) = true := decide_eq_true h0
    have d2 : decide (v ≤ 1000000) = false := decide_eq_false (by omega)
    clear h h0
    go_enter Tryd.func46, Tryd.ntmps46
    go_wp2_with fail
    go_ret
    exact ⟨rfl, rfl⟩
  · have d1 : decide (0 ≤ v) = false := decide_eq_false h0
    clear h h0
    go_enter Tryd.func46, Tryd.ntmps46
    go_wp2_with fail
    go_ret
    exact ⟨rfl, rfl⟩
def okE (v : Int) : Int := if 0 ≤ v ∧ v ≤ 1000000 then 0 else 4
theorem check_any (v : Int) (w : World) : Calls Tryd.prog 22 #[.int .i64 v] w fun e w' => e = .returned (.int .i64 (okE v)) ∧ w = w' := by
  unfold okE
  by_cases h : 0 ≤ v ∧ v ≤ 1000000
  · rw [if_pos h]
    have C := Lib.hid (is_yes v w h.1 h.2)
    clear h
    go_enter Tryd.func22, Tryd.ntmps22
    go_wp2_with fail
    refine C.out.mono ?_
    rintro e w1 ⟨rfl, rfl⟩
    go_wp2_with fail
    go_ret
    exact ⟨rfl, rfl⟩
  · rw [if_neg h]
    have C := Lib.hid (is_no v w (by omega))
    clear h
    go_enter Tryd.func22, Tryd.ntmps22
    go_wp2_with fail
    refine C.out.mono ?_
    rintro e w1 ⟨rfl, rfl⟩
    go_wp2_with fail
    go_ret
    exact ⟨rfl, rfl⟩
/-- a slice of integers -/
abbrev IS (w : World) (v : Value) (xs : List Int) : Prop := Sl w 1 v xs.length (xs.map fun x => Value.int .i64 x)
theorem is_cases {w : World} {v : Value} {xs : List Int} (h : IS w v xs) : ∃ A c, v = .slice A xs.length c ∧ xs.length ≤ c ∧ c ≤ maxLen ∧ (0 < xs.length → ∃ b o, A = some ⟨b, o, none⟩ ∧ b < w.heap.size ∧ ∀ (i : Nat) x, xs[i]? = some x → w.cell? ⟨b, o + i, none⟩ = some (.int .i64 x)) := by
  obtain ⟨_, A, c, h1, h2, h3, h4⟩ := h
  refine ⟨A, c, h1, h2, h3, fun hn => ?_⟩
  obtain ⟨b, o, e1, e2, e3⟩ := h4 hn
  exact ⟨b, o, e1, e2, fun i x hi => e3 i _ (by simp [hi])⟩
def toI (W : List Nat) : List Int := W.map fun (n : Nat) => (n : Int)
theorem toI_len (W : List Nat) : (toI W).length = W.length := by simp [toI]
theorem toI_at {W : List Nat} {i : Nat} (h : i < W.length) : (toI W)[i]? = some ((at_ W i : Nat) : Int) := by simp [toI, h, at_in]
def sumN (W : List Nat) (k : Nat) : Nat := (W.take k).sum
theorem sumN_succ {W : List Nat} {k : Nat} (h : k < W.length) : sumN W (k + 1) = sumN W k + at_ W k := by
  unfold sumN
  rw [List.take_succ_eq_append_getElem h, at_in h, List.sum_append]
  simp only [List.sum_cons, List.sum_nil, Nat.add_zero]
theorem sumN_le {W : List Nat} (hW : ∀ x ∈ W, x ≤ 1000000) (k : Nat) : sumN W k ≤ k * 1000000 := by
  unfold sumN
  induction k with
  | zero => rw [List.take_zero, List.sum_nil]; exact Nat.zero_le _
  | succ k ih =>
    rw [Nat.succ_mul]
    generalize k * 1000000 = t at *
    by_cases h : k < W.length
    · rw [List.take_succ_eq_append_getElem h]
      have := hW _ (List.getElem_mem h)
      simp only [List.sum_append, List.sum_cons, List.sum_nil, Nat.add_zero]
      omega
    · rw [List.take_of_length_le (by omega)]
      rw [List.take_of_length_le (by omega)] at ih
      omega
/-- Share refuses -/
def NoPost (x : Int) (w : World) (e : Ending) (w' : World) : Prop := e = .returned (.tuple #[.slice none 0 0, .int .i64 x]) ∧ Below w.heap.size w w'
theorem three_new (w : World) (a b c : Array Value) (t1 t2 t3 : TypeId) : Blk (((w.alloc (.cells a t1)).alloc (.cells b t2)).alloc (.cells c t3)) w.heap.size t1 a ∧ Blk (((w.alloc (.cells a t1)).alloc (.cells b t2)).alloc (.cells c t3)) (w.heap.size + 1) t2 b ∧ Blk (((w.alloc (.cells a t1)).alloc (.cells b t2)).alloc (.cells c t3)) (w.heap.size + 2) t3 c ∧ Below w.heap.size w (((w.alloc (.cells a t1)).alloc (.cells b t2)).alloc (.cells c t3)) := by
  have e1 : (w.alloc (.cells a t1)).heap.size = w.heap.size + 1 := by simp
  have e2 : ((w.alloc (.cells a t1)).alloc (.cells b t2)).heap.size = w.heap.size + 2 := by simp
  refine ⟨((Blk.new w t1 a).alloc _).alloc _, ?_, ?_, ?_⟩
  · have := (Blk.new (w.alloc (.cells a t1)) t2 b).alloc (.cells c t3)
    rwa [e1] at this
  · have := Blk.new ((w.alloc (.cells a t1)).alloc (.cells b t2)) t3 c
    rwa [e2] at this
  · exact (((Below.refl _ _).alloc (Nat.le_refl _) _).alloc (by omega) _).alloc (by omega) _
set_option maxHeartbeats 2000000 in
theorem share_weight (T : Int) (W : List Nat) (z : Int) (tl : List Int) (v : Value) (w : World) (hW : ∀ x ∈ W, x ≤ 1000000) (hz : z < 0 ∨ 1000000 < z) (hl : W.length + 1 + tl.length ≤ 1000) (h : IS w v (toI W ++ z :: tl)) : Calls Tryd.prog 15 #[.int .i64 T, v] w (NoPost 4 w) := by
  obtain ⟨A, c, rfl, h1, h2, hc⟩ := is_cases h
  obtain ⟨n, hn⟩ : ∃ n, n = (toI W ++ z :: tl).length := ⟨_, rfl⟩
  rw [← hn] at hc ⊢
  have hnl : n = W.length + 1 + tl.length := by rw [hn]; simp [toI_len]; omega
  have hn5 : n ≤ 1000 := by omega
  have hn6 : (n : Int) ≤ 1000 := by omega
  have hWn : W.length < n := by omega
  have HC := Lib.hid hc
  have CZ := Lib.hid (fun w => is_no z w hz)
  clear h h1 hc hn hnl hz
  go_enter Tryd.func15, Tryd.ntmps15
  go_wp2_with fail
  have hP : Hid (Blk (((w.alloc (.cells #[.int .i64 T] 2)).alloc (.cells #[.slice A n c] 22)).alloc (.cells #[.int .i64 0] 2)) w.heap.size 2 #[.int .i64 T] ∧ Blk (((w.alloc (.cells #[.int .i64 T] 2)).alloc (.cells #[.slice A n c] 22)).alloc (.cells #[.int .i64 0] 2)) (w.heap.size + 1) 22 #[.slice A n c] ∧ Blk (((w.alloc (.cells #[.int .i64 T] 2)).alloc (.cells #[.slice A n c] 22)).alloc (.cells #[.int .i64 0] 2)) (w.heap.size + 2) 2 #[.int .i64 0] ∧ Below w.heap.size w (((w.alloc (.cells #[.int .i64 T] 2)).alloc (.cells #[.slice A n c] 22)).alloc (.cells #[.int .i64 0] 2))) := three_new w _ _ _ _ _ _
  generalize (((w.alloc (.cells #[.int .i64 T] 2)).alloc (.cells #[.slice A n c] 22)).alloc (.cells #[.int .i64 0] 2)) = w1 at *
  go_loopw [17] (fun v wr => ∃ k : Nat, k ≤ W.length ∧ v = .int .i64 (k : Int) ∧ Hid (Blk wr w.heap.size 2 #[.int .i64 T] ∧ Blk wr (w.heap.size + 1) 22 #[.slice A n c] ∧ Blk wr (w.heap.size + 2) 2 #[.int .i64 ((sumN W k : Nat) : Int)] ∧ Below w.heap.size w wr)) (fun v _ => W.length + 1 - (intOf v).toNat)
  case atStart => exact ⟨0, Nat.zero_le _, rfl, hP⟩
  case round =>
    clear hP
    obtain ⟨k, hk, rfl, HB⟩ := hrel
    have hk0 : (0 : Int) ≤ (k : Int) := by omega
    have hk5 : (k : Int) ≤ 1000 := by omega
    have s1 := HB.out.1.c1
    have s2 := HB.out.2.1.c1
    have s3 := HB.out.2.2.1.c1
    have s4 := HB.out.2.2.1.lt
    have hsum := sumN_le hW k
    have hs0 : (0 : Int) ≤ ((sumN W k : Nat) : Int) := by omega
    have hs1 : ((sumN W k : Nat) : Int) ≤ 1000000000 := by omega
    by_cases hkn : k < W.length
    · have hd1 : decide (k < n) = true := decide_eq_true (by omega)
      have hd2 : decide ((k : Int) < ((n : Nat) : Int)) = true := decide_eq_true (by omega)
      obtain ⟨b, o, eA, hb, hc⟩ := HC.out (by omega)
      subst eA
      have c1 : wr.cell? ⟨b, o + k, none⟩ = some (.int .i64 ((at_ W k : Nat) : Int)) := (HB.out.2.2.2.cell (p := ⟨b, o + k, none⟩) hb).trans (hc k _ (by rw [List.getElem?_append_left (by rw [toI_len]; exact hkn)]; exact toI_at hkn))
      have hx : at_ W k ≤ 1000000 := by rw [at_in hkn]; exact hW _ (List.getElem_mem hkn)
      have CI := Lib.hid (is_yes ((at_ W k : Nat) : Int) wr (by omega) (by omega))
      have HS := Lib.hid (sumN_succ hkn)
      have HB2 : Hid (Blk (wr.setCell ⟨w.heap.size + 2, 0, none⟩ (.int .i64 (((sumN W k : Nat) : Int) + ((at_ W k : Nat) : Int)))) w.heap.size 2 #[.int .i64 T] ∧ Blk (wr.setCell ⟨w.heap.size + 2, 0, none⟩ (.int .i64 (((sumN W k : Nat) : Int) + ((at_ W k : Nat) : Int)))) (w.heap.size + 1) 22 #[.slice (some ⟨b, o, none⟩) n c] ∧ Blk (wr.setCell ⟨w.heap.size + 2, 0, none⟩ (.int .i64 (((sumN W k : Nat) : Int) + ((at_ W k : Nat) : Int)))) (w.heap.size + 2) 2 #[.int .i64 ((sumN W (k + 1) : Nat) : Int)] ∧ Below w.heap.size w (wr.setCell ⟨w.heap.size + 2, 0, none⟩ (.int .i64 (((sumN W k : Nat) : Int) + ((at_ W k : Nat) : Int))))) := by
        refine ⟨HB.out.1.far (by show _ ≠ w.heap.size + 2; omega) _, HB.out.2.1.far (by show _ ≠ w.heap.size + 2; omega) _, ?_, HB.out.2.2.2.setCell (by show _ ≤ w.heap.size + 2; omega) _⟩
        have := HB.out.2.2.1.put 0 (.int .i64 (((sumN W k : Nat) : Int) + ((at_ W k : Nat) : Int)))
        rw [HS.out]
        simpa using this
      have ha0 : (0 : Int) ≤ ((at_ W k : Nat) : Int) := by omega
      have ha1 : ((at_ W k : Nat) : Int) ≤ 1000000 := by omega
      clear hc hx hsum
      go_wp2_with fail
      refine CI.out.mono ?_
      rintro e w2 ⟨rfl, rfl⟩
      go_wp2_with fail
      go_roundw
      case rel => exact ⟨k + 1, by omega, by go_num, HB2⟩
      case measure => simp [intOf]; omega
    · obtain rfl : k = W.length := by omega
      have hd1 : decide (W.length < n) = true := decide_eq_true (by omega)
      have hd2 : decide ((W.length : Int) < (n : Int)) = true := decide_eq_true (by omega)
      obtain ⟨b, o, eA, hb, hc⟩ := HC.out (by omega)
      subst eA
      have c1 : wr.cell? ⟨b, o + W.length, none⟩ = some (.int .i64 z) := (HB.out.2.2.2.cell (p := ⟨b, o + W.length, none⟩) hb).trans (hc W.length _ (by rw [List.getElem?_append_right (by rw [toI_len]; exact Nat.le_refl _), toI_len, Nat.sub_self]; rfl))
      clear hc hsum
      go_wp2_with fail
      refine (CZ.out _).mono ?_
      rintro e w2 ⟨rfl, rfl⟩
      go_wp2_with fail
      go_ret2
      exact ⟨rfl, HB.out.2.2.2⟩
set_option maxHeartbeats 2000000 in
theorem share_total (T : Int) (W : List Nat) (v : Value) (w : World) (hW : ∀ x ∈ W, x ≤ 1000000) (hl : W.length ≤ 1000) (hT : T < 0 ∨ 1000000 < T) (h : IS w v (toI W)) : Calls Tryd.prog 15 #[.int .i64 T, v] w (NoPost 4 w) := by
  obtain ⟨A, c, rfl, h1, h2, hc⟩ := is_cases h
  rw [toI_len] at hc ⊢
  have hl6 : (W.length : Int) ≤ 1000 := by omega
  have HC := Lib.hid hc
  clear h h1 hc
  go_enter Tryd.func15, Tryd.ntmps15
  go_wp2_with fail
  have hP : Hid (Blk (((w.alloc (.cells #[.int .i64 T] 2)).alloc (.cells #[.slice A W.length c] 22)).alloc (.cells #[.int .i64 0] 2)) w.heap.size 2 #[.int .i64 T] ∧ Blk (((w.alloc (.cells #[.int .i64 T] 2)).alloc (.cells #[.slice A W.length c] 22)).alloc (.cells #[.int .i64 0] 2)) (w.heap.size + 1) 22 #[.slice A W.length c] ∧ Blk (((w.alloc (.cells #[.int .i64 T] 2)).alloc (.cells #[.slice A W.length c] 22)).alloc (.cells #[.int .i64 0] 2)) (w.heap.size + 2) 2 #[.int .i64 0] ∧ Below w.heap.size w (((w.alloc (.cells #[.int .i64 T] 2)).alloc (.cells #[.slice A W.length c] 22)).alloc (.cells #[.int .i64 0] 2))) := three_new w _ _ _ _ _ _
  generalize (((w.alloc (.cells #[.int .i64 T] 2)).alloc (.cells #[.slice A W.length c] 22)).alloc (.cells #[.int .i64 0] 2)) = w1 at *
  go_loopw [17] (fun v wr => ∃ k : Nat, k ≤ W.length ∧ v = .int .i64 (k : Int) ∧ Hid (Blk wr w.heap.size 2 #[.int .i64 T] ∧ Blk wr (w.heap.size + 1) 22 #[.slice A W.length c] ∧ Blk wr (w.heap.size + 2) 2 #[.int .i64 ((sumN W k : Nat) : Int)] ∧ Below w.heap.size w wr)) (fun v _ => W.length + 1 - (intOf v).toNat)
  case atStart => exact ⟨0, Nat.zero_le _, rfl, hP⟩
  case round =>
    clear hP
    obtain ⟨k, hk, rfl, HB⟩ := hrel
    have hk0 : (0 : Int) ≤ (k : Int) := by omega
    have hk5 : (k : Int) ≤ 1000 := by omega
    have s1 := HB.out.1.c1
    have s2 := HB.out.2.1.c1
    have s3 := HB.out.2.2.1.c1
    have s4 := HB.out.2.2.1.lt
    have hsum := sumN_le hW k
    have hs0 : (0 : Int) ≤ ((sumN W k : Nat) : Int) := by omega
    have hs1 : ((sumN W k : Nat) : Int) ≤ 1000000000 := by omega
    by_cases hkn : k < W.length
    · have hd1 : decide (k < W.length) = true := decide_eq_true (by omega)
      have hd2 : decide ((k : Int) < (W.length : Int)) = true := decide_eq_true (by omega)
      obtain ⟨b, o, eA, hb, hc⟩ := HC.out (by omega)
      subst eA
      have c1 : wr.cell? ⟨b, o + k, none⟩ = some (.int .i64 ((at_ W k : Nat) : Int)) := (HB.out.2.2.2.cell (p := ⟨b, o + k, none⟩) hb).trans (hc k _ (toI_at hkn))
      have hx : at_ W k ≤ 1000000 := by rw [at_in hkn]; exact hW _ (List.getElem_mem hkn)
      have CI := Lib.hid (is_yes ((at_ W k : Nat) : Int) wr (by omega) (by omega))
      have HS := Lib.hid (sumN_succ hkn)
      have HB2 : Hid (Blk (wr.setCell ⟨w.heap.size + 2, 0, none⟩ (.int .i64 (((sumN W k : Nat) : Int) + ((at_ W k : Nat) : Int)))) w.heap.size 2 #[.int .i64 T] ∧ Blk (wr.setCell ⟨w.heap.size + 2, 0, none⟩ (.int .i64 (((sumN W k : Nat) : Int) + ((at_ W k : Nat) : Int)))) (w.heap.size + 1) 22 #[.slice (some ⟨b, o, none⟩) W.length c] ∧ Blk (wr.setCell ⟨w.heap.size + 2, 0, none⟩ (.int .i64 (((sumN W k : Nat) : Int) + ((at_ W k : Nat) : Int)))) (w.heap.size + 2) 2 #[.int .i64 ((sumN W (k + 1) : Nat) : Int)] ∧ Below w.heap.size w (wr.setCell ⟨w.heap.size + 2, 0, none⟩ (.int .i64 (((sumN W k : Nat) : Int) + ((at_ W k : Nat) : Int))))) := by
        refine ⟨HB.out.1.far (by show _ ≠ w.heap.size + 2; omega) _, HB.out.2.1.far (by show _ ≠ w.heap.size + 2; omega) _, ?_, HB.out.2.2.2.setCell (by show _ ≤ w.heap.size + 2; omega) _⟩
        have := HB.out.2.2.1.put 0 (.int .i64 (((sumN W k : Nat) : Int) + ((at_ W k : Nat) : Int)))
        rw [HS.out]
        simpa using this
      have ha0 : (0 : Int) ≤ ((at_ W k : Nat) : Int) := by omega
      have ha1 : ((at_ W k : Nat) : Int) ≤ 1000000 := by omega
      clear hc hx hsum
      go_wp2_with fail
      refine CI.out.mono ?_
      rintro e w2 ⟨rfl, rfl⟩
      go_wp2_with fail
      go_roundw
      case rel => exact ⟨k + 1, by omega, by go_num, HB2⟩
      case measure => simp [intOf]; omega
    · obtain rfl : k = W.length := by omega
      have hd1 : decide (W.length < W.length) = false := decide_eq_false (by omega)
      have hd2 : decide ((W.length : Int) < (W.length : Int)) = false := decide_eq_false (by omega)
      clear hsum
      have CT := Lib.hid (is_no T wr hT)
      go_wp2_with fail
      refine CT.out.mono ?_
      rintro e w2 ⟨rfl, rfl⟩
      go_wp2_with fail
      go_ret2
      exact ⟨rfl, HB.out.2.2.2⟩
set_option maxHeartbeats 2000000 in
theorem share_none (T : Int) (W : List Nat) (v : Value) (w : World) (hW : ∀ x ∈ W, x ≤ 1000000) (hl : W.length ≤ 1000) (hT : 0 ≤ T) (hT2 : T ≤ 1000000) (hS : sumN W W.length = 0) (h : IS w v (toI W)) : Calls Tryd.prog 15 #[.int .i64 T, v] w (NoPost 6 w) := by
  obtain ⟨A, c, rfl, h1, h2, hc⟩ := is_cases h
  rw [toI_len] at hc ⊢
  have hl6 : (W.length : Int) ≤ 1000 := by omega
  have HC := Lib.hid hc
  clear h h1 hc
  go_enter Tryd.func15, Tryd.ntmps15
  go_wp2_with fail
  have hP : Hid (Blk (((w.alloc (.cells #[.int .i64 T] 2)).alloc (.cells #[.slice A W.length c] 22)).alloc (.cells #[.int .i64 0] 2)) w.heap.size 2 #[.int .i64 T] ∧ Blk (((w.alloc (.cells #[.int .i64 T] 2)).alloc (.cells #[.slice A W.length c] 22)).alloc (.cells #[.int .i64 0] 2)) (w.heap.size + 1) 22 #[.slice A W.length c] ∧ Blk (((w.alloc (.cells #[.int .i64 T] 2)).alloc (.cells #[.slice A W.length c] 22)).alloc (.cells #[.int .i64 0] 2)) (w.heap.size + 2) 2 #[.int .i64 0] ∧ Below w.heap.size w (((w.alloc (.cells #[.int .i64 T] 2)).alloc (.cells #[.slice A W.length c] 22)).alloc (.cells #[.int .i64 0] 2))) := three_new w _ _ _ _ _ _
  generalize (((w.alloc (.cells #[.int .i64 T] 2)).alloc (.cells #[.slice A W.length c] 22)).alloc (.cells #[.int .i64 0] 2)) = w1 at *
  go_loopw [17] (fun v wr => ∃ k : Nat, k ≤ W.length ∧ v = .int .i64 (k : Int) ∧ Hid (Blk wr w.heap.size 2 #[.int .i64 T] ∧ Blk wr (w.heap.size + 1) 22 #[.slice A W.length c] ∧ Blk wr (w.heap.size + 2) 2 #[.int .i64 ((sumN W k : Nat) : Int)] ∧ Below w.heap.size w wr)) (fun v _ => W.length + 1 - (intOf v).toNat)
  case atStart => exact ⟨0, Nat.zero_le _, rfl, hP⟩
  case round =>
    clear hP
    obtain ⟨k, hk, rfl, HB⟩ := hrel
    have hk0 : (0 : Int) ≤ (k : Int) := by omega
    have hk5 : (k : Int) ≤ 1000 := by omega
    have s1 := HB.out.1.c1
    have s2 := HB.out.2.1.c1
    have s3 := HB.out.2.2.1.c1
    have s4 := HB.out.2.2.1.lt
    have hsum := sumN_le hW k
    have hs0 : (0 : Int) ≤ ((sumN W k : Nat) : Int) := by omega
    have hs1 : ((sumN W k : Nat) : Int) ≤ 1000000000 := by omega
    by_cases hkn : k < W.length
    · have hd1 : decide (k < W.length) = true := decide_eq_true (by omega)
      have hd2 : decide ((k : Int) < (W.length : Int)) = true := decide_eq_true (by omega)
      obtain ⟨b, o, eA, hb, hc⟩ := HC.out (by omega)
      subst eA
      have c1 : wr.cell? ⟨b, o + k, none⟩ = some (.int .i64 ((at_ W k : Nat) : Int)) := (HB.out.2.2.2.cell (p := ⟨b, o + k, none⟩) hb).trans (hc k _ (toI_at hkn))
      have hx : at_ W k ≤ 1000000 := by rw [at_in hkn]; exact hW _ (List.getElem_mem hkn)
      have CI := Lib.hid (is_yes ((at_ W k : Nat) : Int) wr (by omega) (by omega))
      have HS := Lib.hid (sumN_succ hkn)
      have HB2 : Hid (Blk (wr.setCell ⟨w.heap.size + 2, 0, none⟩ (.int .i64 (((sumN W k : Nat) : Int) + ((at_ W k : Nat) : Int)))) w.heap.size 2 #[.int .i64 T] ∧ Blk (wr.setCell ⟨w.heap.size + 2, 0, none⟩ (.int .i64 (((sumN W k : Nat) : Int) + ((at_ W k : Nat) : Int)))) (w.heap.size + 1) 22 #[.slice (some ⟨b, o, none⟩) W.length c] ∧ Blk (wr.setCell ⟨w.heap.size + 2, 0, none⟩ (.int .i64 (((sumN W k : Nat) : Int) + ((at_ W k : Nat) : Int)))) (w.heap.size + 2) 2 #[.int .i64 ((sumN W (k + 1) : Nat) : Int)] ∧ Below w.heap.size w (wr.setCell ⟨w.heap.size + 2, 0, none⟩ (.int .i64 (((sumN W k : Nat) : Int) + ((at_ W k : Nat) : Int))))) := by
        refine ⟨HB.out.1.far (by show _ ≠ w.heap.size + 2; omega) _, HB.out.2.1.far (by show _ ≠ w.heap.size + 2; omega) _, ?_, HB.out.2.2.2.setCell (by show _ ≤ w.heap.size + 2; omega) _⟩
        have := HB.out.2.2.1.put 0 (.int .i64 (((sumN W k : Nat) : Int) + ((at_ W k : Nat) : Int)))
        rw [HS.out]
        simpa using this
      have ha0 : (0 : Int) ≤ ((at_ W k : Nat) : Int) := by omega
      have ha1 : ((at_ W k : Nat) : Int) ≤ 1000000 := by omega
      clear hc hx hsum
      go_wp2_with fail
      refine CI.out.mono ?_
      rintro e w2 ⟨rfl, rfl⟩
      go_wp2_with fail
      go_roundw
      case rel => exact ⟨k + 1, by omega, by go_num, HB2⟩
      case measure => simp [intOf]; omega
    · obtain rfl : k = W.length := by omega
      have hd1 : decide (W.length < W.length) = false := decide_eq_false (by omega)
      have hd2 : decide ((W.length : Int) < (W.length : Int)) = false := decide_eq_false (by omega)
      clear hsum
      have CT := Lib.hid (is_yes T wr hT hT2)
      rw [hS] at s3
      go_wp2_with fail
      refine CT.out.mono ?_
      rintro e w2 ⟨rfl, rfl⟩
      go_wp2_with fail
      go_ret2
      exact ⟨rfl, HB.out.2.2.2⟩
end So
end Go.Proofs.YtfopmaeaclbknaaDoor
