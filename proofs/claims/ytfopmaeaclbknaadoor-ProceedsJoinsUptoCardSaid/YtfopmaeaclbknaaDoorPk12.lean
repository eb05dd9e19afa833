/- Contracts of amount.is, Check and of Share where it refuses. Printed by gen_sh2.py. The program's fraction.round, Ceil, Sign and amount.Up. Printed by gen_fp1.py. -/
import Derived.Test.YtfopmaeaclbknaaDoorPk11
import Derived.Test.YtfopmaeaclbknaaDoorPk09
import Derived.Test.YtfopmaeaclbknaaDoorPk10
import Derived.Deep.CutBlock
namespace Go.Proofs.YtfopmaeaclbknaaDoor
open Go.ChangeShapes Go.WideShapes Go.ChangeAt Go.RowKit
set_option linter.unusedVariables false
set_option linter.unusedSimpArgs false
namespace So
theorem is_yes (v : Int) (w : World) (h0 : 0 ≤ v) (h1 : v ≤ 1000000) : Calls Tryd.prog 46 #[.int .i64 v] w fun e w' => e = .returned (.bool true) ∧ w = w' := by
  have d1 : decide (0 ≤ v) = true := decide_eq_true h0
  have d2 : decide (v ≤ 1000000) = true := decide_eq_true h1
  go_enter Tryd.func46, Tryd.ntmps46
  go_wp2_with fail
  go_ret
  exact ⟨rfl, rfl⟩
theorem is_no (v : Int) (w : World) (h : v < 0 ∨ 1000000 < v) : Calls Tryd.prog 46 #[.int .i64 v] w fun e w' => e = .returned (.bool false) ∧ w = w' := by
  by_cases h0 : 0 ≤ v
  · have d1 : decide (0 ≤ v) = true := decide_eq_true h0
    have d2 : decide (v ≤ 1000000) = false := decide_eq_false (by omega)
    clear h h0
    go_enter Tryd.func46, Tryd.ntmps46
    go_wp2_with fail
    go_ret
    exact ⟨rfl, rfl⟩
  · have d1 : decide (0 ≤ v) = false := decide_eq_false h0
    clear h h0
    go_enter Tryd.func46, Tryd.ntmps46
    go_wp2_with fail
    go_ret
    exact ⟨rfl, rfl⟩
def okE (v : Int) : Int := if 0 ≤ v ∧ v ≤ 1000000 then 0 else 4
theorem check_any (v : Int) (w : World) : Calls Tryd.prog 22 #[.int .i64 v] w fun e w' => e = .returned (.int .i64 (okE v)) ∧ w = w' := by
  unfold okE
  by_cases h : 0 ≤ v ∧ v ≤ 1000000
  · rw [if_pos h]
    have C := Lib.hid (is_yes v w h.1 h.2)
    clear h
    go_enter Tryd.func22, Tryd.ntmps22
    go_wp2_with fail
    refine C.out.mono ?_
    rintro e w1 ⟨rfl, rfl⟩
    go_wp2_with fail
    go_ret
    exact ⟨rfl, rfl⟩
  · rw [if_neg h]
    have C := Lib.hid (is_no v w (by omega))
    clear h
    go_enter Tryd.func22, Tryd.ntmps22
    go_wp2_with fail
    refine C.out.mono ?_
    rintro e w1 ⟨rfl, rfl⟩
    go_wp2_with fail
    go_ret
    exact ⟨rfl, rfl⟩
/-- a slice of integers -/
abbrev IS (w : World) (v : Value) (xs : List Int) : Prop := Sl w 1 v xs.length (xs.map fun x => Value.int .i64 x)
theorem is_cases {w : World} {v : Value} {xs : List Int} (h : IS w v xs) : ∃ A c, v = .slice A xs.length c ∧ xs.length ≤ c ∧ c ≤ maxLen ∧ (0 < xs.length → ∃ b o, A = some ⟨b, o, none⟩ ∧ b < w.heap.size ∧ ∀ (i : Nat) x, xs[i]? = some x → w.cell? ⟨b, o + i, none⟩ = some (.int .i64 x)) := by
  obtain ⟨_, A, c, h1, h2, h3, h4⟩ := h
  refine ⟨A, c, h1, h2, h3, fun hn => ?_⟩
  obtain ⟨b, o, e1, e2, e3⟩ := h4 hn
  exact ⟨b, o, e1, e2, fun i x hi => e3 i _ (by simp [hi])⟩
def toI (W : List Nat) : List Int := W.map fun (n : Nat) => (n : Int)
theorem toI_len (W : List Nat) : (toI W).length = W.length := by simp [toI]
theorem toI_at {W : List Nat} {i : Nat} (h : i < W.length) : (toI W)[i]? = some ((at_ W i : Nat) : Int) := by simp [toI, h, at_in]
def sumN (W : List Nat) (k : Nat) : Nat := (W.take k).sum
theorem sumN_succ {W : List Nat} {k : Nat} (h : k < W.length) : sumN W (k + 1) = sumN W k + at_ W k := by
  unfold sumN
  rw [List.take_succ_eq_append_getElem h, at_in h, List.sum_append]
  simp only [List.sum_cons, List.sum_nil, Nat.add_zero]
theorem sumN_le {W : List Nat} (hW : ∀ x ∈ W, x ≤ 1000000) (k : Nat) : sumN W k ≤ k * 1000000 := by
  unfold sumN
  induction k with
  | zero => rw [List.take_zero, List.sum_nil]; exact Nat.zero_le _
  | succ k ih =>
    rw [Nat.succ_mul]
    generalize k * 1000000 = t at *
    by_cases h : k < W.length
    · rw [List.take_succ_eq_append_getElem h]
      have := hW _ (List.getElem_mem h)
      simp only [List.sum_append, List.sum_cons, List.sum_nil, Nat.add_zero]
      omega
    · rw [List.take_of_length_le (by omega)]
      rw [List.take_of_length_le (by omega)] at ih
      omega
/-- Share refuses -/
def NoPost (x : Int) (w : World) (e : Ending) (w' : World) : Prop := e = .returned (.tuple #[.slice none 0 0, .int .i64 x]) ∧ Below w.heap.size w w'
theorem three_new (w : World) (a b c : Array Value) (t1 t2 t3 : TypeId) : Blk (((w.alloc (.cells a t1)).alloc (.cells b t2)).alloc (.cells c t3)) w.heap.size t1 a ∧ Blk (((w.alloc (.cells a t1)).alloc (.cells b t2)).alloc (.cells c t3)) (w.heap.size + 1) t2 b ∧ Blk (((w.alloc (.cells a t1)).alloc (.cells b t2)).alloc (.cells c t3)) (w.heap.size + 2) t3 c ∧ Below w.heap.size w (((w.alloc (.cells a t1)).alloc (.cells b t2)).alloc (.cells c t3)) := by
  have e1 : (w.alloc (.cells a t1)).heap.size = w.heap.size + 1 := by simp
  have e2 : ((w.alloc (.cells a t1)).alloc (.cells b t2)).heap.size = w.heap.size + 2 := by simp
  refine ⟨((Blk.new w t1 a).alloc _).alloc _, ?_, ?_, ?_⟩
  · have := (Blk.new (w.alloc (.cells a t1)) t2 b).alloc (.cells c t3)
    rwa [e1] at this
  · have := Blk.new ((w.alloc (.cells a t1)).alloc (.cells b t2)) t3 c
    rwa [e2] at this
  · exact (((Below.refl _ _).alloc (Nat.le_refl _) _).alloc (by omega) _).alloc (by omega) _
set_option maxHeartbeats 2000000 in
theorem share_weight (T : Int) (W : List Nat) (z : Int) (tl : List Int) (v : Value) (w : World) (hW : ∀ x ∈ W, x ≤ 1000000) (hz : z < 0 ∨ 1000000 < z) (hl : W.length + 1 + tl.length ≤ 1000) (h : IS w v (toI W ++ z :: tl)) : Calls Tryd.prog 15 #[.int .i64 T, v] w (NoPost 4 w) := by
  obtain ⟨A, c, rfl, h1, h2, hc⟩ := is_cases h
  obtain ⟨n, hn⟩ : ∃ n, n = (toI W ++ z :: tl).length := ⟨_, rfl⟩
  rw [← hn] at hc ⊢
  have hnl : n = W.length + 1 + tl.length := by rw [hn]; simp [toI_len]; omega
  have hn5 : n ≤ 1000 := by omega
  have hn6 : (n : Int) ≤ 1000 := by omega
  have hWn : W.length < n := by omega
  have HC := Lib.hid hc
  have CZ := Lib.hid (fun w => is_no z w hz)
  clear h h1 hc hn hnl hz
  go_enter Tryd.func15, Tryd.ntmps15
  go_wp2_with fail
  have hP : Hid (Blk (((w.alloc (.cells #[.int .i64 T] 2)).alloc (.cells #[.slice A n c] 22)).alloc (.cells #[.int .i64 0] 2)) w.heap.size 2 #[.int .i64 T] ∧ Blk (((w.alloc (.cells #[.int .i64 T] 2)).alloc (.cells #[.slice A n c] 22)).alloc (.cells #[.int .i64 0] 2)) (w.heap.size + 1) 22 #[.slice A n c] ∧ Blk (((w.alloc (.cells #[.int .i64 T] 2)).alloc (.cells #[.slice A n c] 22)).alloc (.cells #[.int .i64 0] 2)) (w.heap.size + 2) 2 #[.int .i64 0] ∧ Below w.heap.size w (((w.alloc (.cells #[.int .i64 T] 2)).alloc (.cells #[.slice A n c] 22)).alloc (.cells #[.int .i64 0] 2))) := three_new w _ _ _ _ _ _
  generalize (((w.alloc (.cells #[.int .i64 T] 2)).alloc (.cells #[.slice A n c] 22)).alloc (.cells #[.int .i64 0] 2)) = w1 at *
  go_loopw [17] (fun v wr => ∃ k : Nat, k ≤ W.length ∧ v = .int .i64 (k : Int) ∧ Hid (Blk wr w.heap.size 2 #[.int .i64 T] ∧ Blk wr (w.heap.size + 1) 22 #[.slice A n c] ∧ Blk wr (w.heap.size + 2) 2 #[.int .i64 ((sumN W k : Nat) : Int)] ∧ Below w.heap.size w wr)) (fun v _ => W.length + 1 - (intOf v).toNat)
  case atStart => exact ⟨0, Nat.zero_le _, rfl, hP⟩
  case round =>
    clear hP
    obtain ⟨k, hk, rfl, HB⟩ := hrel
    have hk0 : (0 : Int) ≤ (k : Int) := by omega
    have hk5 : (k : Int) ≤ 1000 := by omega
    have s1 := HB.out.1.c1
    have s2 := HB.out.2.1.c1
    have s3 := HB.out.2.2.1.c1
    have s4 := HB.out.2.2.1.lt
    have hsum := sumN_le hW k
    have hs0 : (0 : Int) ≤ ((sumN W k : Nat) : Int) := by omega
    have hs1 : ((sumN W k : Nat) : Int) ≤ 1000000000 := by omega
    by_cases hkn : k < W.length
    · have hd1 : decide (k < n) = true := decide_eq_true (by omega)
      have hd2 : decide ((k : Int) < ((n : Nat) : Int)) = true := decide_eq_true (by omega)
      obtain ⟨b, o, eA, hb, hc⟩ := HC.out (by omega)
      subst eA
      have c1 : wr.cell? ⟨b, o + k, none⟩ = some (.int .i64 ((at_ W k : Nat) : Int)) := (HB.out.2.2.2.cell (p := ⟨b, o + k, none⟩) hb).trans (hc k _ (by rw [List.getElem?_append_left (by rw [toI_len]; exact hkn)]; exact toI_at hkn))
      have hx : at_ W k ≤ 1000000 := by rw [at_in hkn]; exact hW _ (List.getElem_mem hkn)
      have CI := Lib.hid (is_yes ((at_ W k : Nat) : Int) wr (by omega) (by omega))
      have HS := Lib.hid (sumN_succ hkn)
      have HB2 : Hid (Blk (wr.setCell ⟨w.heap.size + 2, 0, none⟩ (.int .i64 (((sumN W k : Nat) : Int) + ((at_ W k : Nat) : Int)))) w.heap.size 2 #[.int .i64 T] ∧ Blk (wr.setCell ⟨w.heap.size + 2, 0, none⟩ (.int .i64 (((sumN W k : Nat) : Int) + ((at_ W k : Nat) : Int)))) (w.heap.size + 1) 22 #[.slice (some ⟨b, o, none⟩) n c] ∧ Blk (wr.setCell ⟨w.heap.size + 2, 0, none⟩ (.int .i64 (((sumN W k : Nat) : Int) + ((at_ W k : Nat) : Int)))) (w.heap.size + 2) 2 #[.int .i64 ((sumN W (k + 1) : Nat) : Int)] ∧ Below w.heap.size w (wr.setCell ⟨w.heap.size + 2, 0, none⟩ (.int .i64 (((sumN W k : Nat) : Int) + ((at_ W k : Nat) : Int))))) := by
        refine ⟨HB.out.1.far (by show _ ≠ w.heap.size + 2; omega) _, HB.out.2.1.far (by show _ ≠ w.heap.size + 2; omega) _, ?_, HB.out.2.2.2.setCell (by show _ ≤ w.heap.size + 2; omega) _⟩
        have := HB.out.2.2.1.put 0 (.int .i64 (((sumN W k : Nat) : Int) + ((at_ W k : Nat) : Int)))
        rw [HS.out]
        simpa using this
      have ha0 : (0 : Int) ≤ ((at_ W k : Nat) : Int) := by omega
      have ha1 : ((at_ W k : Nat) : Int) ≤ 1000000 := by omega
      clear hc hx hsum
      go_wp2_with fail
      refine CI.out.mono ?_
      rintro e w2 ⟨rfl, rfl⟩
      go_wp2_with fail
      go_roundw
      case rel => exact ⟨k + 1, by omega, by go_num, HB2⟩
      case measure => simp [intOf]; omega
    · obtain rfl : k = W.length := by omega
      have hd1 : decide (W.length < n) = true := decide_eq_true (by omega)
      have hd2 : decide ((W.length : Int) < (n : Int)) = true := decide_eq_true (by omega)
      obtain ⟨b, o, eA, hb, hc⟩ := HC.out (by omega)
      subst eA
      have c1 : wr.cell? ⟨b, o + W.length, none⟩ = some (.int .i64 z) := (HB.out.2.2.2.cell (p := ⟨b, o + W.length, none⟩) hb).trans (hc W.length _ (by rw [List.getElem?_append_right (by rw [toI_len]; exact Nat.le_refl _), toI_len, Nat.sub_self]; rfl))
      clear hc hsum
      go_wp2_with fail
      refine (CZ.out _).mono ?_
      rintro e w2 ⟨rfl, rfl⟩
      go_wp2_with fail
      go_ret2
      exact ⟨rfl, HB.out.2.2.2⟩
set_option maxHeartbeats 2000000 in
theorem share_total (T : Int) (W : List Nat) (v : Value) (w : World) (hW : ∀ x ∈ W, x ≤ 1000000) (hl : W.length ≤ 1000) (hT : T < 0 ∨ 1000000 < T) (h : IS w v (toI W)) : Calls Tryd.prog 15 #[.int .i64 T, v] w (NoPost 4 w) := by
  obtain ⟨A, c, rfl, h1, h2, hc⟩ := is_cases h
  rw [toI_len] at hc ⊢
  have hl6 : (W.length : Int) ≤ 1000 := by omega
  have HC := Lib.hid hc
  clear h h1 hc
  go_enter Tryd.func15, Tryd.ntmps15
  go_wp2_with fail
  have hP : Hid (Blk (((w.alloc (.cells #[.int .i64 T] 2)).alloc (.cells #[.slice A W.length c] 22)).alloc (.cells #[.int .i64 0] 2)) w.heap.size 2 #[.int .i64 T] ∧ Blk (((w.alloc (.cells #[.int .i64 T] 2)).alloc (.cells #[.slice A W.length c] 22)).alloc (.cells #[.int .i64 0] 2)) (w.heap.size + 1) 22 #[.slice A W.length c] ∧ Blk (((w.alloc (.cells #[.int .i64 T] 2)).alloc (.cells #[.slice A W.length c] 22)).alloc (.cells #[.int .i64 0] 2)) (w.heap.size + 2) 2 #[.int .i64 0] ∧ Below w.heap.size w (((w.alloc (.cells #[.int .i64 T] 2)).alloc (.cells #[.slice A W.length c] 22)).alloc (.cells #[.int .i64 0] 2))) := three_new w _ _ _ _ _ _
  generalize (((w.alloc (.cells #[.int .i64 T] 2)).alloc (.cells #[.slice A W.length c] 22)).alloc (.cells #[.int .i64 0] 2)) = w1 at *
  go_loopw [17] (fun v wr => ∃ k : Nat, k ≤ W.length ∧ v = .int .i64 (k : Int) ∧ Hid (Blk wr w.heap.size 2 #[.int .i64 T] ∧ Blk wr (w.heap.size + 1) 22 #[.slice A W.length c] ∧ Blk wr (w.heap.size + 2) 2 #[.int .i64 ((sumN W k : Nat) : Int)] ∧ Below w.heap.size w wr)) (fun v _ => W.length + 1 - (intOf v).toNat)
  case atStart => exact ⟨0, Nat.zero_le _, rfl, hP⟩
  case round =>
    clear hP
    obtain ⟨k, hk, rfl, HB⟩ := hrel
    have hk0 : (0 : Int) ≤ (k : Int) := by omega
    have hk5 : (k : Int) ≤ 1000 := by omega
    have s1 := HB.out.1.c1
    have s2 := HB.out.2.1.c1
    have s3 := HB.out.2.2.1.c1
    have s4 := HB.out.2.2.1.lt
    have hsum := sumN_le hW k
    have hs0 : (0 : Int) ≤ ((sumN W k : Nat) : Int) := by omega
    have hs1 : ((sumN W k : Nat) : Int) ≤ 1000000000 := by omega
    by_cases hkn : k < W.length
    · have hd1 : decide (k < W.length) = true := decide_eq_true (by omega)
      have hd2 : decide ((k : Int) < (W.length : Int)) = true := decide_eq_true (by omega)
      obtain ⟨b, o, eA, hb, hc⟩ := HC.out (by omega)
      subst eA
      have c1 : wr.cell? ⟨b, o + k, none⟩ = some (.int .i64 ((at_ W k : Nat) : Int)) := (HB.out.2.2.2.cell (p := ⟨b, o + k, none⟩) hb).trans (hc k _ (toI_at hkn))
      have hx : at_ W k ≤ 1000000 := by rw [at_in hkn]; exact hW _ (List.getElem_mem hkn)
      have CI := Lib.hid (is_yes ((at_ W k : Nat) : Int) wr (by omega) (by omega))
      have HS := Lib.hid (sumN_succ hkn)
      have HB2 : Hid (Blk (wr.setCell ⟨w.heap.size + 2, 0, none⟩ (.int .i64 (((sumN W k : Nat) : Int) + ((at_ W k : Nat) : Int)))) w.heap.size 2 #[.int .i64 T] ∧ Blk (wr.setCell ⟨w.heap.size + 2, 0, none⟩ (.int .i64 (((sumN W k : Nat) : Int) + ((at_ W k : Nat) : Int)))) (w.heap.size + 1) 22 #[.slice (some ⟨b, o, none⟩) W.length c] ∧ Blk (wr.setCell ⟨w.heap.size + 2, 0, none⟩ (.int .i64 (((sumN W k : Nat) : Int) + ((at_ W k : Nat) : Int)))) (w.heap.size + 2) 2 #[.int .i64 ((sumN W (k + 1) : Nat) : Int)] ∧ Below w.heap.size w (wr.setCell ⟨w.heap.size + 2, 0, none⟩ (.int .i64 (((sumN W k : Nat) : Int) + ((at_ W k : Nat) : Int))))) := by
        refine ⟨HB.out.1.far (by show _ ≠ w.heap.size + 2; omega) _, HB.out.2.1.far (by show _ ≠ w.heap.size + 2; omega) _, ?_, HB.out.2.2.2.setCell (by show _ ≤ w.heap.size + 2; omega) _⟩
        have := HB.out.2.2.1.put 0 (.int .i64 (((sumN W k : Nat) : Int) + ((at_ W k : Nat) : Int)))
        rw [HS.out]
        simpa using this
      have ha0 : (0 : Int) ≤ ((at_ W k : Nat) : Int) := by omega
      have ha1 : ((at_ W k : Nat) : Int) ≤ 1000000 := by omega
      clear hc hx hsum
      go_wp2_with fail
      refine CI.out.mono ?_
      rintro e w2 ⟨rfl, rfl⟩
      go_wp2_with fail
      go_roundw
      case rel => exact ⟨k + 1, by omega, by go_num, HB2⟩
      case measure => simp [intOf]; omega
    · obtain rfl : k = W.length := by omega
      have hd1 : decide (W.length < W.length) = false := decide_eq_false (by omega)
      have hd2 : decide ((W.length : Int) < (W.length : Int)) = false := decide_eq_false (by omega)
      clear hsum
      have CT := Lib.hid (is_no T wr hT)
      go_wp2_with fail
      refine CT.out.mono ?_
      rintro e w2 ⟨rfl, rfl⟩
      go_wp2_with fail
      go_ret2
      exact ⟨rfl, HB.out.2.2.2⟩
set_option maxHeartbeats 2000000 in
theorem share_none (T : Int) (W : List Nat) (v : Value) (w : World) (hW : ∀ x ∈ W, x ≤ 1000000) (hl : W.length ≤ 1000) (hT : 0 ≤ T) (hT2 : T ≤ 1000000) (hS : sumN W W.length = 0) (h : IS w v (toI W)) : Calls Tryd.prog 15 #[.int .i64 T, v] w (NoPost 6 w) := by
  obtain ⟨A, c, rfl, h1, h2, hc⟩ := is_cases h
  rw [toI_len] at hc ⊢
  have hl6 : (W.length : Int) ≤ 1000 := by omega
  have HC := Lib.hid hc
  clear h h1 hc
  go_enter Tryd.func15, Tryd.ntmps15
  go_wp2_with fail
  have hP : Hid (Blk (((w.alloc (.cells #[.int .i64 T] 2)).alloc (.cells #[.slice A W.length c] 22)).alloc (.cells #[.int .i64 0] 2)) w.heap.size 2 #[.int .i64 T] ∧ Blk (((w.alloc (.cells #[.int .i64 T] 2)).alloc (.cells #[.slice A W.length c] 22)).alloc (.cells #[.int .i64 0] 2)) (w.heap.size + 1) 22 #[.slice A W.length c] ∧ Blk (((w.alloc (.cells #[.int .i64 T] 2)).alloc (.cells #[.slice A W.length c] 22)).alloc (.cells #[.int .i64 0] 2)) (w.heap.size + 2) 2 #[.int .i64 0] ∧ Below w.heap.size w (((w.alloc (.cells #[.int .i64 T] 2)).alloc (.cells #[.slice A W.length c] 22)).alloc (.cells #[.int .i64 0] 2))) := three_new w _ _ _ _ _ _
  generalize (((w.alloc (.cells #[.int .i64 T] 2)).alloc (.cells #[.slice A W.length c] 22)).alloc (.cells #[.int .i64 0] 2)) = w1 at *
  go_loopw [17] (fun v wr => ∃ k : Nat, k ≤ W.length ∧ v = .int .i64 (k : Int) ∧ Hid (Blk wr w.heap.size 2 #[.int .i64 T] ∧ Blk wr (w.heap.size + 1) 22 #[.slice A W.length c] ∧ Blk wr (w.heap.size + 2) 2 #[.int .i64 ((sumN W k : Nat) : Int)] ∧ Below w.heap.size w wr)) (fun v _ => W.length + 1 - (intOf v).toNat)
  case atStart => exact ⟨0, Nat.zero_le _, rfl, hP⟩
  case round =>
    clear hP
    obtain ⟨k, hk, rfl, HB⟩ := hrel
    have hk0 : (0 : Int) ≤ (k : Int) := by omega
    have hk5 : (k : Int) ≤ 1000 := by omega
    have s1 := HB.out.1.c1
    have s2 := HB.out.2.1.c1
    have s3 := HB.out.2.2.1.c1
    have s4 := HB.out.2.2.1.lt
    have hsum := sumN_le hW k
    have hs0 : (0 : Int) ≤ ((sumN W k : Nat) : Int) := by omega
    have hs1 : ((sumN W k : Nat) : Int) ≤ 1000000000 := by omega
    by_cases hkn : k < W.length
    · have hd1 : decide (k < W.length) = true := decide_eq_true (by omega)
      have hd2 : decide ((k : Int) < (W.length : Int)) = true := decide_eq_true (by omega)
      obtain ⟨b, o, eA, hb, hc⟩ := HC.out (by omega)
      subst eA
      have c1 : wr.cell? ⟨b, o + k, none⟩ = some (.int .i64 ((at_ W k : Nat) : Int)) := (HB.out.2.2.2.cell (p := ⟨b, o + k, none⟩) hb).trans (hc k _ (toI_at hkn))
      have hx : at_ W k ≤ 1000000 := by rw [at_in hkn]; exact hW _ (List.getElem_mem hkn)
      have CI := Lib.hid (is_yes ((at_ W k : Nat) : Int) wr (by omega) (by omega))
      have HS := Lib.hid (sumN_succ hkn)
      have HB2 : Hid (Blk (wr.setCell ⟨w.heap.size + 2, 0, none⟩ (.int .i64 (((sumN W k : Nat) : Int) + ((at_ W k : Nat) : Int)))) w.heap.size 2 #[.int .i64 T] ∧ Blk (wr.setCell ⟨w.heap.size + 2, 0, none⟩ (.int .i64 (((sumN W k : Nat) : Int) + ((at_ W k : Nat) : Int)))) (w.heap.size + 1) 22 #[.slice (some ⟨b, o, none⟩) W.length c] ∧ Blk (wr.setCell ⟨w.heap.size + 2, 0, none⟩ (.int .i64 (((sumN W k : Nat) : Int) + ((at_ W k : Nat) : Int)))) (w.heap.size + 2) 2 #[.int .i64 ((sumN W (k + 1) : Nat) : Int)] ∧ Below w.heap.size w (wr.setCell ⟨w.heap.size + 2, 0, none⟩ (.int .i64 (((sumN W k : Nat) : Int) + ((at_ W k : Nat) : Int))))) := by
        refine ⟨HB.out.1.far (by show _ ≠ w.heap.size + 2; omega) _, HB.out.2.1.far (by show _ ≠ w.heap.size + 2; omega) _, ?_, HB.out.2.2.2.setCell (by show _ ≤ w.heap.size + 2; omega) _⟩
        have := HB.out.2.2.1.put 0 (.int .i64 (((sumN W k : Nat) : Int) + ((at_ W k : Nat) : Int)))
        rw [HS.out]
        simpa using this
      have ha0 : (0 : Int) ≤ ((at_ W k : Nat) : Int) := by omega
      have ha1 : ((at_ W k : Nat) : Int) ≤ 1000000 := by omega
      clear hc hx hsum
      go_wp2_with fail
      refine CI.out.mono ?_
      rintro e w2 ⟨rfl, rfl⟩
      go_wp2_with fail
      go_roundw
      case rel => exact ⟨k + 1, by omega, by go_num, HB2⟩
      case measure => simp [intOf]; omega
    · obtain rfl : k = W.length := by omega
      have hd1 : decide (W.length < W.length) = false := decide_eq_false (by omega)
      have hd2 : decide ((W.length : Int) < (W.length : Int)) = false := decide_eq_false (by omega)
      clear hsum
      have CT := Lib.hid (is_yes T wr hT hT2)
      rw [hS] at s3
      go_wp2_with fail
      refine CT.out.mono ?_
      rintro e w2 ⟨rfl, rfl⟩
      go_wp2_with fail
      go_ret2
      exact ⟨rfl, HB.out.2.2.2⟩
end So
end Go.Proofs.YtfopmaeaclbknaaDoor
namespace Go.Proofs.YtfopmaeaclbknaaDoor
open Go.ChangeShapes Go.WideShapes Go.ChangeAt Go.RowKit
set_option linter.unusedVariables false
set_option linter.unusedSimpArgs false
namespace Fr
theorem ndiv_any (a b : List Nat) (va vb : Value) (w : World) (hla : a.length ≤ 50000) (hlb : b.length ≤ 50000) (hda : Dg a) (hdb : Dg b) (hb0 : nat b ≠ 0) (ha : NS w va a) (hb : NS w vb b) : Calls Tryd.prog 102 #[va, vb] w (DivPost (nat a) (nat b) w) := by
  by_cases h1 : nat a < nat b
  · exact ndiv_less a b va vb w hla hlb hda hdb hb0 ha hb h1
  · by_cases h2 : nat b < B
    · exact ndiv_small a b va vb w hla hlb hda hdb hb0 ha hb (by omega) h2
    · exact ndiv_long a b va vb w hla hlb hda hdb hb0 ha hb (by omega) (by omega)
/-- a quotient, rounded up -/
def ceilN (n d : Nat) : Nat := n / d + if n % d = 0 then 0 else 1
/-- what a function that makes a number and says whether answers -/
def IntPost (v : Int) (b : Bool) (w : World) (e : Ending) (w' : World) : Prop := e = .returned (.tuple #[.int .i64 v, .bool b]) ∧ Below w.heap.size w w'
def CeilPost (n d : Nat) (w : World) (e : Ending) (w' : World) : Prop := ∃ v b, IntPost v b w e w' ∧ (ceilN n d < 9223372036854775808 → v = ((ceilN n d : Nat) : Int) ∧ b = true) ∧ (9223372036854775808 ≤ ceilN n d → v = 0 ∧ b = false)
def SomePost (w : World) (e : Ending) (w' : World) : Prop := ∃ v b, IntPost v b w e w'
theorem nuint_any (n : Nat) (v : Value) (w : World) (hl : (digs n).length ≤ 100000) (h : NS w v (digs n)) : ∃ (u : Nat) (b : Bool), (u < B * B ∧ (n < B * B → u = n ∧ b = true) ∧ (B * B ≤ n → b = false)) ∧ Calls Tryd.prog 105 #[v] w fun e w' => e = .returned (.tuple #[.int .u64 (u : Int), .bool b]) ∧ Below w.heap.size w w' := by
  by_cases hn : n < B * B
  · refine ⟨n, true, ⟨hn, fun _ => ⟨rfl, rfl⟩, fun h => by omega⟩, ?_⟩
    have := nuint_yes (digs n) v w hl (Dg.digs n) h (by rw [nat_digs]; exact hn)
    rwa [nat_digs] at this
  · refine ⟨0, false, ⟨by decide, fun h => absurd h hn, fun _ => rfl⟩, ?_⟩
    have := nuint_no (digs n) v w hl (Dg.digs n) h (by rw [nat_digs]; omega)
    exact this.mono fun _ _ ⟨he, hw⟩ => ⟨he, by subst hw; exact Below.refl _ _⟩
theorem digs_pos_len {n : Nat} (h : n ≠ 0) : 0 < (digs n).length := by
  rcases Nat.eq_zero_or_pos (digs n).length with h1 | h1
  · exact absurd (digs_zero_of h1) h
  · exact h1
set_option maxHeartbeats 2000000 in
set_option maxRecDepth 100000 in
theorem nround_pos (A1 A2 : Option Addr) (c1 c2 n d : Nat) (w : World) (hln : (digs n).length ≤ 40000) (hld : (digs d).length ≤ 40000) (hd0 : d ≠ 0) (hn : NS w (.slice A1 (digs n).length c1) (digs n)) (hd : NS w (.slice A2 (digs d).length c2) (digs d)) : Calls Tryd.prog 75 #[.agg #[.bool false, .slice A1 (digs n).length c1, .slice A2 (digs d).length c2], .bool true] w (CeilPost n d w) := by
  have hd1 := digs_pos_len hd0
  have HD := Lib.hid hd
  have HN := Lib.hid hn
  have HD0 := Lib.hid hd0
  have HLN := Lib.hid hln
  have HLD := Lib.hid hld
  have K0 : Hid (Blk (w.alloc (.cells #[.bool false, .slice A1 (digs n).length c1, .slice A2 (digs d).length c2] 38)) w.heap.size 38 #[.bool false, .slice A1 (digs n).length c1, .slice A2 (digs d).length c2]) := Blk.new w _ _
  have B0 : Hid (Below w.heap.size w (w.alloc (.cells #[.bool false, .slice A1 (digs n).length c1, .slice A2 (digs d).length c2] 38))) := below_new w _
  clear hn hd hd0 hln hld
  go_enter Tryd.func75, Tryd.ntmps75
  go_upto_region 1 with fail
  generalize w.alloc (.cells #[.bool false, .slice A1 (digs n).length c1, .slice A2 (digs d).length c2] 38) = w1 at *
  have k1 := K0.out.c3
  have CD := ndiv_any (digs n) (digs d) _ _ w1 (by have := HLN.out; omega) (by have := HLD.out; omega) (Dg.digs _) (Dg.digs _) (by rw [nat_digs]; exact HD0.out) (HN.out.keep B0.out) (HD.out.keep B0.out)
  unfold DivPost at CD
  rw [nat_digs, nat_digs] at CD
  have CD := Lib.hid CD
  go_wp2_with fail
  refine CD.out.mono ?_
  rintro e w2 ⟨vq, vr, rfl, s1, s2, b2⟩
  have B2 := Lib.hid (chain0 B0.out b2)
  have K2 := Lib.hid (K0.out.below' b2)
  have Q2 := Lib.hid s1
  obtain ⟨A4, c4, rfl, _⟩ := ns_cases s1
  obtain ⟨A5, c5, rfl, _⟩ := ns_cases s2
  have HQL : Hid ((digs (n / d)).length ≤ 40000) := Nat.le_trans (digs_len_mono (Nat.div_le_self n d)) HLN.out
  clear s1 s2 b2 k1
  have k2 := K2.out.c3
  by_cases hr : n % d = 0
  · have hce : ceilN n d = n / d := by unfold ceilN; rw [if_pos hr, Nat.add_zero]
    have HCE := Lib.hid hce
    have hl0 : (digs (n % d)).length = 0 := by rw [hr]; rfl
    have g1 : decide ((0 : Int) < ((digs (n % d)).length : Int)) = false := decide_eq_false (by omega)
    have g2 : decide (0 < (digs (n % d)).length) = false := decide_eq_false (by omega)
    obtain ⟨u, b, hu, CU⟩ := nuint_any (n / d) _ w2 (by have := HQL.out; omega) Q2.out
    have CU := Lib.hid CU
    clear hr hce hl0
    generalize n / d = q at *
    by_cases hb : q < B * B
    · obtain ⟨rfl, rfl⟩ := hu.2.1 hb
      by_cases hlt : u < 9223372036854775808
      · have HLT := Lib.hid hlt
        have t1 : decide ((u : Int) < 9223372036854775808) = true := decide_eq_true (by omega)
        have t2 : IntKind.i64.wrap (u : Int) = (u : Int) := IntWalk.i64_in _ (by omega)
        clear hu hb hlt
        go_wp2_with fail
        refine CU.out.mono ?_
        rintro e w5 ⟨rfl, b5⟩
        have B5 := Lib.hid (chain0 B2.out b5)
        have k5 := (K2.out.below' b5).c3
        clear b5
        go_wp2_with fail
        go_ret2
        exact ⟨_, _, ⟨rfl, B5.out⟩, fun _ => ⟨by rw [HCE.out], rfl⟩, fun h => absurd HLT.out (by rw [HCE.out] at h; omega)⟩
      · have HLT := Lib.hid hlt
        have t1 : decide ((u : Int) < 9223372036854775808) = false := decide_eq_false (by omega)
        clear hu hb hlt
        go_wp2_with fail
        refine CU.out.mono ?_
        rintro e w5 ⟨rfl, b5⟩
        have B5 := Lib.hid (chain0 B2.out b5)
        have k5 := (K2.out.below' b5).c3
        clear b5
        go_wp2_with fail
        go_ret2
        exact ⟨_, _, ⟨rfl, B5.out⟩, fun h => absurd (by rw [HCE.out] at h; exact h) HLT.out, fun _ => ⟨rfl, rfl⟩⟩
    · obtain rfl := hu.2.2 (by omega)
      have HLT : Hid (9223372036854775808 ≤ q) := by show _ ≤ _; rw [BB_eq] at hb; omega
      clear hu hb
      go_wp2_with fail
      refine CU.out.mono ?_
      rintro e w5 ⟨rfl, b5⟩
      have B5 := Lib.hid (chain0 B2.out b5)
      clear b5
      go_wp2_with fail
      go_ret2
      exact ⟨_, _, ⟨rfl, B5.out⟩, fun h => absurd HLT.out (by rw [HCE.out] at h; omega), fun _ => ⟨rfl, rfl⟩⟩
  · have hce : ceilN n d = n / d + 1 := by unfold ceilN; rw [if_neg hr]
    have HCE := Lib.hid hce
    have hl0 := digs_pos_len hr
    have g1 : decide ((0 : Int) < ((digs (n % d)).length : Int)) = true := decide_eq_true (by omega)
    have g2 : decide (0 < (digs (n % d)).length) = true := decide_eq_true (by omega)
    have C1 := Lib.hid (nfromUint_any 1 w2 (by decide))
    clear hr hce hl0
    generalize n / d = q at *
    go_wp2_with fail
    refine C1.out.mono ?_
    rintro e w3 ⟨v3, rfl, s3, b3⟩
    have B3 := Lib.hid (chain0 B2.out b3)
    have K3 := Lib.hid (K2.out.below' b3)
    have CA := nadd_any (digs q) (digs 1) _ _ w3 (by have := HQL.out; omega) (by decide) (Dg.digs _) (Dg.digs _) (Q2.out.keep b3) s3
    rw [nat_digs, nat_digs] at CA
    have CA := Lib.hid CA
    obtain ⟨A6, c6, rfl, _⟩ := ns_cases s3
    clear s3 b3 k2
    go_wp2_with fail
    refine CA.out.mono ?_
    rintro e w4 ⟨v4, rfl, s4, b4⟩
    have B4 := Lib.hid (chain0 B3.out b4)
    have K4 := Lib.hid (K3.out.below' b4)
    have HL4 : Hid ((digs (q + 1)).length ≤ 40001) := digs_add_len HQL.out (by decide)
    obtain ⟨u, b, hu, CU⟩ := nuint_any (q + 1) _ w4 (by have := HL4.out; omega) s4
    have CU := Lib.hid CU
    obtain ⟨A7, c7, rfl, _⟩ := ns_cases s4
    clear s4 b4
    have k2 := K4.out.c3
    generalize q + 1 = q at *
    by_cases hb : q < B * B
    · obtain ⟨rfl, rfl⟩ := hu.2.1 hb
      by_cases hlt : u < 9223372036854775808
      · have HLT := Lib.hid hlt
        have t1 : decide ((u : Int) < 9223372036854775808) = true := decide_eq_true (by omega)
        have t2 : IntKind.i64.wrap (u : Int) = (u : Int) := IntWalk.i64_in _ (by omega)
        clear hu hb hlt
        go_wp2_with fail
        refine CU.out.mono ?_
        rintro e w5 ⟨rfl, b5⟩
        have B5 := Lib.hid (chain0 B4.out b5)
        have k5 := (K4.out.below' b5).c3
        clear b5
        go_wp2_with fail
        go_ret2
        exact ⟨_, _, ⟨rfl, B5.out⟩, fun _ => ⟨by rw [HCE.out], rfl⟩, fun h => absurd HLT.out (by rw [HCE.out] at h; omega)⟩
      · have HLT := Lib.hid hlt
        have t1 : decide ((u : Int) < 9223372036854775808) = false := decide_eq_false (by omega)
        clear hu hb hlt
        go_wp2_with fail
        refine CU.out.mono ?_
        rintro e w5 ⟨rfl, b5⟩
        have B5 := Lib.hid (chain0 B4.out b5)
        have k5 := (K4.out.below' b5).c3
        clear b5
        go_wp2_with fail
        go_ret2
        exact ⟨_, _, ⟨rfl, B5.out⟩, fun h => absurd (by rw [HCE.out] at h; exact h) HLT.out, fun _ => ⟨rfl, rfl⟩⟩
    · obtain rfl := hu.2.2 (by omega)
      have HLT : Hid (9223372036854775808 ≤ q) := by show _ ≤ _; rw [BB_eq] at hb; omega
      clear hu hb
      go_wp2_with fail
      refine CU.out.mono ?_
      rintro e w5 ⟨rfl, b5⟩
      have B5 := Lib.hid (chain0 B4.out b5)
      clear b5
      go_wp2_with fail
      go_ret2
      exact ⟨_, _, ⟨rfl, B5.out⟩, fun h => absurd HLT.out (by rw [HCE.out] at h; omega), fun _ => ⟨rfl, rfl⟩⟩
set_option maxHeartbeats 2000000 in
set_option maxRecDepth 100000 in
theorem nround_neg (A1 A2 : Option Addr) (c1 c2 n d : Nat) (w : World) (hln : (digs n).length ≤ 40000) (hld : (digs d).length ≤ 40000) (hd0 : d ≠ 0) (hn : NS w (.slice A1 (digs n).length c1) (digs n)) (hd : NS w (.slice A2 (digs d).length c2) (digs d)) : Calls Tryd.prog 75 #[.agg #[.bool true, .slice A1 (digs n).length c1, .slice A2 (digs d).length c2], .bool true] w (SomePost w) := by
  have hd1 := digs_pos_len hd0
  have HD := Lib.hid hd
  have HN := Lib.hid hn
  have HD0 := Lib.hid hd0
  have HLN := Lib.hid hln
  have HLD := Lib.hid hld
  have K0 : Hid (Blk (w.alloc (.cells #[.bool true, .slice A1 (digs n).length c1, .slice A2 (digs d).length c2] 38)) w.heap.size 38 #[.bool true, .slice A1 (digs n).length c1, .slice A2 (digs d).length c2]) := Blk.new w _ _
  have B0 : Hid (Below w.heap.size w (w.alloc (.cells #[.bool true, .slice A1 (digs n).length c1, .slice A2 (digs d).length c2] 38))) := below_new w _
  clear hn hd hd0 hln hld
  go_enter Tryd.func75, Tryd.ntmps75
  go_upto_region 1 with fail
  generalize w.alloc (.cells #[.bool true, .slice A1 (digs n).length c1, .slice A2 (digs d).length c2] 38) = w1 at *
  have k1 := K0.out.c3
  have CD := ndiv_any (digs n) (digs d) _ _ w1 (by have := HLN.out; omega) (by have := HLD.out; omega) (Dg.digs _) (Dg.digs _) (by rw [nat_digs]; exact HD0.out) (HN.out.keep B0.out) (HD.out.keep B0.out)
  unfold DivPost at CD
  rw [nat_digs, nat_digs] at CD
  have CD := Lib.hid CD
  go_wp2_with fail
  refine CD.out.mono ?_
  rintro e w2 ⟨vq, vr, rfl, s1, s2, b2⟩
  have B2 := Lib.hid (chain0 B0.out b2)
  have K2 := Lib.hid (K0.out.below' b2)
  have Q2 := Lib.hid s1
  obtain ⟨A4, c4, rfl, _⟩ := ns_cases s1
  obtain ⟨A5, c5, rfl, _⟩ := ns_cases s2
  have HQL : Hid ((digs (n / d)).length ≤ 40000) := Nat.le_trans (digs_len_mono (Nat.div_le_self n d)) HLN.out
  clear s1 s2 b2 k1
  have k2 := K2.out.c3
  obtain ⟨rb, hrb⟩ : ∃ rb, rb = decide ((0 : Int) < ((digs (n % d)).length : Int)) := ⟨_, rfl⟩
  have g1 : decide ((0 : Int) < ((digs (n % d)).length : Int)) = rb := hrb.symm
  have g2 : decide (0 < (digs (n % d)).length) = rb := by rw [hrb, decide_eq_decide]; omega
  obtain ⟨u, b, hu, CU⟩ := nuint_any (n / d) _ w2 (by have := HQL.out; omega) Q2.out
  have CU := Lib.hid CU
  have hu2 := hu.1
  rw [BB_eq] at hu2
  have HU := Lib.hid hu2
  clear hrb hu hu2
  generalize n / d = q at *
  cases b
  all_goals cases rb
  all_goals
    go_wp2_with fail
    refine CU.out.mono ?_
    rintro e w5 ⟨rfl, b5⟩
    have B5 := Lib.hid (chain0 B2.out b5)
    have k5 := (K2.out.below' b5).c3
    clear b5
    by_cases hlt : u ≤ 9223372036854775808
    · have t1 : decide ((u : Int) ≤ 9223372036854775808) = true := decide_eq_true (by omega)
      clear hlt
      go_wp2_with fail
      go_ret2
      exact ⟨_, _, rfl, B5.out⟩
    · have t1 : decide ((u : Int) ≤ 9223372036854775808) = false := decide_eq_false (by omega)
      clear hlt
      go_wp2_with fail
      go_ret2
      exact ⟨_, _, rfl, B5.out⟩
end Fr
end Go.Proofs.YtfopmaeaclbknaaDoor
