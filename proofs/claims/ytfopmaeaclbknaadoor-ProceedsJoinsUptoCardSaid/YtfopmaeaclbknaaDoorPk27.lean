/- The program's fraction.Ceil, Sign and amount.Up. The reference's Same; the examples of the chapter. Printed by gen_am4.py. -/
import Derived.Test.YtfopmaeaclbknaaDoorPk12
import Derived.Test.YtfopmaeaclbknaaDoorPk25
import Derived.Test.YtfopmaeaclbknaaDoorPk26
import Derived.Lib.AppendIntMem
namespace Go.Proofs.YtfopmaeaclbknaaDoor
open Go.ChangeShapes Go.WideShapes Go.ChangeAt Go.RowKit
set_option linter.unusedVariables false
set_option linter.unusedSimpArgs false
namespace Fr
section
variable (A1 A2 : Option Addr) (c1 c2 n d : Nat) (w : World)
theorem nceil_pos (hln : (digs n).length ≤ 40000) (hld : (digs d).length ≤ 40000) (hd0 : d ≠ 0) (hn : NS w (.slice A1 (digs n).length c1) (digs n)) (hd : NS w (.slice A2 (digs d).length c2) (digs d)) : Calls Tryd.prog 54 #[.agg #[.bool false, .slice A1 (digs n).length c1, .slice A2 (digs d).length c2]] w (CeilPost n d w) := by
  have CR := Lib.hid (fun w' (b : Below w.heap.size w w') => nround_pos A1 A2 c1 c2 n d w' hln hld hd0 (hn.keep b) (hd.keep b))
  clear hn hd hln hld hd0
  go_enter Tryd.func54, Tryd.ntmps54
  go_wp2_with fail
  refine (CR.out _ (below_new w _)).mono ?_
  rintro e w1 ⟨v, b, ⟨rfl, b1⟩, h1, h2⟩
  have HC : Hid ((ceilN n d < 9223372036854775808 → v = ((ceilN n d : Nat) : Int) ∧ b = true) ∧ (9223372036854775808 ≤ ceilN n d → v = 0 ∧ b = false)) := ⟨h1, h2⟩
  have B1 := Lib.hid (chain1 (Below.refl _ _) b1)
  clear h1 h2 b1
  go_wp2_with fail
  go_ret2
  exact ⟨_, _, ⟨rfl, B1.out⟩, HC.out⟩
theorem nceil_neg (hln : (digs n).length ≤ 40000) (hld : (digs d).length ≤ 40000) (hd0 : d ≠ 0) (hn : NS w (.slice A1 (digs n).length c1) (digs n)) (hd : NS w (.slice A2 (digs d).length c2) (digs d)) : Calls Tryd.prog 54 #[.agg #[.bool true, .slice A1 (digs n).length c1, .slice A2 (digs d).length c2]] w (SomePost w) := by
  have CR := Lib.hid (fun w' (b : Below w.heap.size w w') => nround_neg A1 A2 c1 c2 n d w' hln hld hd0 (hn.keep b) (hd.keep b))
  clear hn hd hln hld hd0
  go_enter Tryd.func54, Tryd.ntmps54
  go_wp2_with fail
  refine (CR.out _ (below_new w _)).mono ?_
  rintro e w1 ⟨v, b, rfl, b1⟩
  have B1 := Lib.hid (chain1 (Below.refl _ _) b1)
  clear b1
  go_wp2_with fail
  go_ret2
  exact ⟨_, _, rfl, B1.out⟩
theorem nsign_pos (n' : Nat) (v2 : Value) : Calls Tryd.prog 55 #[.agg #[.bool false, .slice A1 n' c1, v2]] w fun e w' => (∃ s : Int, 0 ≤ s ∧ e = .returned (.int .i64 s)) ∧ Below w.heap.size w w' := by
  by_cases h : n' = 0
  · subst h
    have B1 : Hid (Below w.heap.size w (w.alloc (.cells #[.bool false, .slice A1 0 c1, v2] 38))) := below_new w _
    go_enter Tryd.func55, Tryd.ntmps55
    go_wp2_with fail
    go_ret
    exact ⟨⟨0, by omega, rfl⟩, B1.out⟩
  · have q : ((n' : Int) == 0) = false := beq_eq_false_iff_ne.2 (by omega)
    have B1 : Hid (Below w.heap.size w (w.alloc (.cells #[.bool false, .slice A1 n' c1, v2] 38))) := below_new w _
    clear h
    go_enter Tryd.func55, Tryd.ntmps55
    go_wp2_with fail
    go_ret
    exact ⟨⟨1, by omega, rfl⟩, B1.out⟩
theorem nsign_neg (n' : Nat) (v2 : Value) (h : n' ≠ 0) : Calls Tryd.prog 55 #[.agg #[.bool true, .slice A1 n' c1, v2]] w fun e w' => e = .returned (.int .i64 (-1)) ∧ Below w.heap.size w w' := by
  have q : ((n' : Int) == 0) = false := beq_eq_false_iff_ne.2 (by omega)
  have B1 : Hid (Below w.heap.size w (w.alloc (.cells #[.bool true, .slice A1 n' c1, v2] 38))) := below_new w _
  clear h
  go_enter Tryd.func55, Tryd.ntmps55
  go_wp2_with fail
  go_ret
  exact ⟨rfl, B1.out⟩
/-- what Up answers -/
def UpPost (neg : Bool) (n d : Nat) (w : World) (e : Ending) (w' : World) : Prop := e = .returned (.tuple (if neg = false ∧ ceilN n d ≤ 1000000 then #[.int .i64 ((ceilN n d : Nat) : Int), .int .i64 0] else #[.int .i64 0, .int .i64 4])) ∧ Below w.heap.size w w'
end
set_option maxHeartbeats 1000000 in
theorem nup_pos (A1 A2 : Option Addr) (c1 c2 n d : Nat) (w : World) (hln : (digs n).length ≤ 40000) (hld : (digs d).length ≤ 40000) (hd0 : d ≠ 0) (hn : NS w (.slice A1 (digs n).length c1) (digs n)) (hd : NS w (.slice A2 (digs d).length c2) (digs d)) : Calls Tryd.prog 25 #[.agg #[.bool false, .slice A1 (digs n).length c1, .slice A2 (digs d).length c2]] w (UpPost false n d w) := by
  have CC := Lib.hid (fun w' (b : Below w.heap.size w w') => nceil_pos A1 A2 c1 c2 n d w' hln hld hd0 (hn.keep b) (hd.keep b))
  have CS := Lib.hid (fun w' => nsign_pos A1 c1 w' (digs n).length (.slice A2 (digs d).length c2))
  have K0 : Hid (Blk (w.alloc (.cells #[.bool false, .slice A1 (digs n).length c1, .slice A2 (digs d).length c2] 38)) w.heap.size 38 #[.bool false, .slice A1 (digs n).length c1, .slice A2 (digs d).length c2]) := Blk.new w _ _
  have B0 : Hid (Below w.heap.size w (w.alloc (.cells #[.bool false, .slice A1 (digs n).length c1, .slice A2 (digs d).length c2] 38))) := below_new w _
  clear hn hd hln hld hd0
  go_enter Tryd.func25, Tryd.ntmps25
  go_upto_region 1 with fail
  generalize w.alloc (.cells #[.bool false, .slice A1 (digs n).length c1, .slice A2 (digs d).length c2] 38) = w1 at *
  have k1 := K0.out.c3
  go_wp2_with fail
  refine (CC.out _ B0.out).mono ?_
  rintro e w2 ⟨v, b, ⟨rfl, b2⟩, h1, h2⟩
  have B2 := Lib.hid (chain0 B0.out b2)
  have k2 := (K0.out.below' b2).c3
  clear b2 k1
  by_cases hbig : 9223372036854775808 ≤ ceilN n d
  · obtain ⟨rfl, rfl⟩ := h2 hbig
    have HE : Hid (UpPost false n d w (.returned (.tuple #[.int .i64 0, .int .i64 4])) w2) := ⟨by rw [if_neg (by omega)], B2.out⟩
    clear h1 h2 hbig
    go_wp2_with fail
    go_ret2
    exact HE.out
  · obtain ⟨rfl, rfl⟩ := h1 (by omega)
    by_cases hok : ceilN n d ≤ 1000000
    · have CI := Lib.hid (fun w => So.is_yes ((ceilN n d : Nat) : Int) w (by omega) (by omega))
      have HE : Hid (∀ w', Below w.heap.size w w' → UpPost false n d w (.returned (.tuple #[.int .i64 ((ceilN n d : Nat) : Int), .int .i64 0])) w') := fun w' b => ⟨by rw [if_pos ⟨rfl, hok⟩], b⟩
      clear h1 h2 hbig hok
      generalize ceilN n d = c at *
      go_wp2_with fail
      refine (CS.out _).mono ?_
      rintro e w3 ⟨⟨s, hs, rfl⟩, b3⟩
      have B3 := Lib.hid (chain0 B2.out b3)
      have hd1 : decide (s < 0) = false := decide_eq_false (by omega)
      clear b3 hs
      go_wp2_with fail
      refine (CI.out _).mono ?_
      rintro e w4 ⟨rfl, rfl⟩
      go_wp2_with fail
      go_ret2
      exact HE.out _ B3.out
    · have CI := Lib.hid (fun w => So.is_no ((ceilN n d : Nat) : Int) w (by omega))
      have HE : Hid (∀ w', Below w.heap.size w w' → UpPost false n d w (.returned (.tuple #[.int .i64 0, .int .i64 4])) w') := fun w' b => ⟨by rw [if_neg (by omega)], b⟩
      clear h1 h2 hbig hok
      generalize ceilN n d = c at *
      go_wp2_with fail
      refine (CS.out _).mono ?_
      rintro e w3 ⟨⟨s, hs, rfl⟩, b3⟩
      have B3 := Lib.hid (chain0 B2.out b3)
      have hd1 : decide (s < 0) = false := decide_eq_false (by omega)
      clear b3 hs
      go_wp2_with fail
      refine (CI.out _).mono ?_
      rintro e w4 ⟨rfl, rfl⟩
      go_wp2_with fail
      go_ret2
      exact HE.out _ B3.out
set_option maxHeartbeats 1000000 in
theorem nup_neg (A1 A2 : Option Addr) (c1 c2 n d : Nat) (w : World) (hln : (digs n).length ≤ 40000) (hld : (digs d).length ≤ 40000) (hd0 : d ≠ 0) (hn0 : n ≠ 0) (hn : NS w (.slice A1 (digs n).length c1) (digs n)) (hd : NS w (.slice A2 (digs d).length c2) (digs d)) : Calls Tryd.prog 25 #[.agg #[.bool true, .slice A1 (digs n).length c1, .slice A2 (digs d).length c2]] w (UpPost true n d w) := by
  have CC := Lib.hid (fun w' (b : Below w.heap.size w w') => nceil_neg A1 A2 c1 c2 n d w' hln hld hd0 (hn.keep b) (hd.keep b))
  have hl := digs_pos_len hn0
  have CS := Lib.hid (fun w' => nsign_neg A1 c1 w' (digs n).length (.slice A2 (digs d).length c2) (by omega))
  have K0 : Hid (Blk (w.alloc (.cells #[.bool true, .slice A1 (digs n).length c1, .slice A2 (digs d).length c2] 38)) w.heap.size 38 #[.bool true, .slice A1 (digs n).length c1, .slice A2 (digs d).length c2]) := Blk.new w _ _
  have B0 : Hid (Below w.heap.size w (w.alloc (.cells #[.bool true, .slice A1 (digs n).length c1, .slice A2 (digs d).length c2] 38))) := below_new w _
  have HE : Hid (∀ w', Below w.heap.size w w' → UpPost true n d w (.returned (.tuple #[.int .i64 0, .int .i64 4])) w') := fun w' b => ⟨by rw [if_neg (by simp)], b⟩
  clear hn hd hln hld hd0 hn0 hl
  go_enter Tryd.func25, Tryd.ntmps25
  go_upto_region 1 with fail
  generalize w.alloc (.cells #[.bool true, .slice A1 (digs n).length c1, .slice A2 (digs d).length c2] 38) = w1 at *
  have k1 := K0.out.c3
  go_wp2_with fail
  refine (CC.out _ B0.out).mono ?_
  rintro e w2 ⟨v, b, rfl, b2⟩
  have B2 := Lib.hid (chain0 B0.out b2)
  have k2 := (K0.out.below' b2).c3
  clear b2 k1
  cases b
  · go_wp2_with fail
    go_ret2
    exact HE.out _ B2.out
  · go_wp2_with fail
    refine (CS.out _).mono ?_
    rintro e w3 ⟨rfl, b3⟩
    have B3 := Lib.hid (chain0 B2.out b3)
    clear b3
    go_wp2_with fail
    go_ret2
    exact HE.out _ B3.out
end Fr
end Go.Proofs.YtfopmaeaclbknaaDoor
namespace Go.Proofs.YtfopmaeaclbknaaDoor
open Go.ChangeShapes Go.WideShapes Go.ChangeAt Go.RowKit
set_option linter.unusedVariables false
set_option linter.unusedSimpArgs false
namespace Am
open So (IS toI IsOrder shares SortsAt)
theorem Tab.keep {w w' : World} (h : Tab w) (b : Below w.heap.size w w') : Tab w' := Lib.tabBelow_of_tabIs h w' b
set_option maxHeartbeats 1000000 in
theorem same_yes (xs : List Int) (va vb : Value) (w : World) (hl : xs.length ≤ 1000) (ha : IS w va xs) (hb : IS w vb xs) : Calls Tryd.prog 17 #[va, vb] w fun e w' => e = .returned (.bool true) ∧ Below w.heap.size w w' := by
  have HA := Lib.hid ha
  have HB := Lib.hid hb
  obtain ⟨A1, c1, rfl, _, _, h1⟩ := So.is_cases ha
  obtain ⟨A2, c2, rfl, _, _, h2⟩ := So.is_cases hb
  have H1 := Lib.hid h1
  have H2 := Lib.hid h2
  have hl6 : (xs.length : Int) ≤ 1000 := by omega
  have q1 : ((xs.length : Int) != (xs.length : Int)) = false := by simp
  clear ha hb h1 h2
  go_enter Tryd.func17, Tryd.ntmps17
  go_wp2_with fail
  go_loopw [5] (fun iv wr => ∃ k : Nat, k ≤ xs.length ∧ iv = .int .i64 (k : Int) ∧ Hid (Below w.heap.size w wr)) (fun iv _ => xs.length - (intOf iv).toNat)
  case atStart => exact ⟨0, Nat.zero_le _, rfl, Below.refl _ _⟩
  case round =>
    obtain ⟨k, hk, rfl, HW⟩ := hrel
    have hk0 : (0 : Int) ≤ (k : Int) := by omega
    have hk5 : (k : Int) ≤ 1000 := by omega
    by_cases hkn : k < xs.length
    · have hd1 : decide (k < xs.length) = true := decide_eq_true hkn
      have hd2 : decide ((k : Int) < (xs.length : Int)) = true := decide_eq_true (by omega)
      obtain ⟨b1, o1, e1, hb1, hc1⟩ := H1.out (by omega)
      obtain ⟨b2, o2, e2, hb2, hc2⟩ := H2.out (by omega)
      subst e1 e2
      have d1 : wr.cell? ⟨b1, o1 + k, none⟩ = some (.int .i64 xs[k]) := (HW.out.cell (p := ⟨b1, o1 + k, none⟩) hb1).trans (hc1 k _ (List.getElem?_eq_getElem hkn))
      have d2 : wr.cell? ⟨b2, o2 + k, none⟩ = some (.int .i64 xs[k]) := (HW.out.cell (p := ⟨b2, o2 + k, none⟩) hb2).trans (hc2 k _ (List.getElem?_eq_getElem hkn))
      generalize xs[k] = x at *
      have q2 : (x != x) = false := by simp
      clear hc1 hc2
      go_wp2_with fail
      go_quiet (fail)
      go_wp2_with fail
      go_roundw
      case rel => exact ⟨k + 1, by omega, by go_num, chain0 HW.out (Fr.drewN_below _ _)⟩
      case measure => simp [intOf]; omega
    · have hd1 : decide (k < xs.length) = false := decide_eq_false hkn
      have hd2 : decide ((k : Int) < (xs.length : Int)) = false := decide_eq_false (by omega)
      go_wp2_with fail
      go_ret
      exact ⟨rfl, HW.out⟩
theorem order_one {r : Nat → Nat} : ∀ {l k : List Nat}, l.Perm k → l.Pairwise (So.LT r) → k.Pairwise (So.LT r) → l = k
  | [], k, h, _, _ => (List.nil_perm.1 h).symm
  | x :: l, [], h, _, _ => absurd h.symm (List.not_perm_nil_cons _ _)
  | x :: l, y :: k, h, h1, h2 => by
    have hxy : x = y := by
      rcases List.mem_cons.1 (h.mem_iff.1 (List.mem_cons_self ..)) with e | hx
      · exact e
      · rcases List.mem_cons.1 (h.mem_iff.2 (List.mem_cons_self ..)) with e | hy
        · exact e.symm
        · exact absurd (So.LT.trans ((List.pairwise_cons.1 h1).1 y hy) ((List.pairwise_cons.1 h2).1 x hx)) So.LT.irrefl
    subst hxy
    rw [order_one ((List.perm_cons _).1 h) (List.pairwise_cons.1 h1).2 (List.pairwise_cons.1 h2).2]
theorem order_is {T : Nat} {W : List Nat} {S : Nat} {o1 o2 : List Nat} (h1 : IsOrder T W S o1) (h2 : IsOrder T W S o2) : o1 = o2 := order_one (h1.1.trans h2.1.symm) h1.2 h2.2
instance (r : Nat → Nat) (x y : Nat) : Decidable (So.LT r x y) := by unfold So.LT; infer_instance
theorem order1 : IsOrder 10 [1, 1, 1] 3 [0, 1, 2] := ⟨by decide, by decide⟩
theorem order2 : IsOrder 7 [2, 1] 3 [0, 1] := ⟨by decide, by decide⟩
theorem shares1 : shares 10 [1, 1, 1] 3 [0, 1, 2] = [4, 3, 3] := by decide
theorem shares2 : shares 7 [2, 1] 3 [0, 1] = [5, 2] := by decide
theorem is_new3 (w : World) (a b c : Nat) : IS (w.alloc (.cells #[.int .i64 (a : Int), .int .i64 (b : Int), .int .i64 (c : Int)] 2)) (.slice (some ⟨w.heap.size, 0, none⟩) 3 3) (toI [a, b, c]) := by
  refine ⟨rfl, _, _, rfl, Nat.le_refl _, by unfold maxLen; omega, fun _ => ⟨w.heap.size, 0, rfl, by simp, fun j u hu => ?_⟩⟩
  rw [(Blk.new w 2 _).cell]
  match j, hu with
  | 0, hu => simpa [toI] using hu
  | 1, hu => simpa [toI] using hu
  | 2, hu => simpa [toI] using hu
  | j + 3, hu => simp [toI] at hu
theorem is_new2 (w : World) (a b : Nat) : IS (w.alloc (.cells #[.int .i64 (a : Int), .int .i64 (b : Int)] 2)) (.slice (some ⟨w.heap.size, 0, none⟩) 2 2) (toI [a, b]) := by
  refine ⟨rfl, _, _, rfl, Nat.le_refl _, by unfold maxLen; omega, fun _ => ⟨w.heap.size, 0, rfl, by simp, fun j u hu => ?_⟩⟩
  rw [(Blk.new w 2 _).cell]
  match j, hu with
  | 0, hu => simpa [toI] using hu
  | 1, hu => simpa [toI] using hu
  | j + 2, hu => simp [toI] at hu
theorem is_new1 (w : World) (a : Nat) : IS (w.alloc (.cells #[.int .i64 (a : Int)] 2)) (.slice (some ⟨w.heap.size, 0, none⟩) 1 1) (toI [a]) := by
  refine ⟨rfl, _, _, rfl, Nat.le_refl _, by unfold maxLen; omega, fun _ => ⟨w.heap.size, 0, rfl, by simp, fun j u hu => ?_⟩⟩
  rw [(Blk.new w 2 _).cell]
  match j, hu with
  | 0, hu => simpa [toI] using hu
  | j + 1, hu => simp [toI] at hu
theorem share1 (w : World) : Calls Tryd.prog 15 #[.int .i64 10, .slice (some ⟨w.heap.size, 0, none⟩) 3 3] (w.alloc (.cells #[.int .i64 1, .int .i64 1, .int .i64 1] 2)) fun e w' => ∃ v, e = .returned (.tuple #[v, .int .i64 0]) ∧ IS w' v [4, 3, 3] ∧ Below (w.heap.size + 1) (w.alloc (.cells #[.int .i64 1, .int .i64 1, .int .i64 1] 2)) w' := by
  refine (So.share_ok 10 [1, 1, 1] _ _ (by decide) (by decide) (by decide) (by decide) (So.sorts_small 3 (by decide)) (is_new3 w 1 1 1)).mono ?_
  rintro e w' ⟨order, v, he, ho, hi, hb⟩
  have := order_is ho order1
  subst this
  refine ⟨v, he, ?_, by simpa using hb⟩
  have e2 : So.sumN [1, 1, 1] [1, 1, 1].length = 3 := rfl
  rw [e2, shares1] at hi
  exact hi
theorem share2 (w : World) : Calls Tryd.prog 15 #[.int .i64 7, .slice (some ⟨w.heap.size, 0, none⟩) 2 2] (w.alloc (.cells #[.int .i64 2, .int .i64 1] 2)) fun e w' => ∃ v, e = .returned (.tuple #[v, .int .i64 0]) ∧ IS w' v [5, 2] ∧ Below (w.heap.size + 1) (w.alloc (.cells #[.int .i64 2, .int .i64 1] 2)) w' := by
  refine (So.share_ok 7 [2, 1] _ _ (by decide) (by decide) (by decide) (by decide) (So.sorts_small 2 (by decide)) (is_new2 w 2 1)).mono ?_
  rintro e w' ⟨order, v, he, ho, hi, hb⟩
  have := order_is ho order2
  subst this
  refine ⟨v, he, ?_, by simpa using hb⟩
  have e2 : So.sumN [2, 1] [2, 1].length = 3 := rfl
  rw [e2, shares2] at hi
  exact hi
theorem share3 (w : World) : Calls Tryd.prog 15 #[.int .i64 1, .slice (some ⟨w.heap.size, 0, none⟩) 1 1] (w.alloc (.cells #[.int .i64 0] 2)) fun e w' => e = .returned (.tuple #[.slice none 0 0, .int .i64 6]) ∧ Below (w.heap.size + 1) (w.alloc (.cells #[.int .i64 0] 2)) w' := by
  refine (So.share_none 1 [0] _ _ (by decide) (by decide) (by decide) (by decide) (by decide) (is_new1 w 0)).mono ?_
  rintro e w' ⟨he, hb⟩
  exact ⟨he, by simpa using hb⟩
def s1 : ByteArray := ⟨#[49, 48, 48, 48, 48, 48, 48]⟩
def s2 : ByteArray := ⟨#[48, 48, 55]⟩
theorem all_of (l : List UInt8) (h : l.all Lex.isDig = true) : PAll ⟨l.toArray⟩ := by
  intro j hj
  have := List.all_eq_true.1 h (l[j]'(by simpa [ByteArray.size] using hj)) (List.getElem_mem _)
  exact this
theorem reads1 : Reads s1 1000000 0 := by
  have h : pn s1 s1.size = 1000000 := by decide +kernel
  have := Reads.ok (s := s1) (by decide) (all_of [49, 48, 48, 48, 48, 48, 48] (by decide)) (by decide) (by rw [h]; exact Nat.le_refl _)
  rw [h] at this
  exact this
theorem reads2 : Reads s2 0 2 := Reads.zero (by decide) (all_of [48, 48, 55] (by decide)) (by decide)
theorem fmt5 : Lib.itoa (-5) = [45, 53] := by
  unfold Lib.itoa
  rw [if_pos (by decide), show (-5 : Int).natAbs = 5 by decide, dec_small (by decide)]
  rfl
theorem new72 (w : World) : Calls Tryd.prog 45 #[.int .i64 7, .int .i64 2] w (Fr.FracPost2 false 7 2 w) := by
  have := Fr.rnew_any 7 2 w (by decide) (by decide) (by decide) (by decide) (by decide)
  exact this
theorem format5 (w : World) (ht : Tab w) : Calls Tryd.prog 20 #[.int .i64 (-5)] w fun e w' => e = .returned (.string ⟨#[45, 53]⟩) ∧ Below w.heap.size w w' := by
  have := format_any (-5) w (by decide) (by decide) ht
  unfold fmtPost at this
  rw [fmt5] at this
  exact this
theorem check7 (w : World) : Calls Tryd.prog 22 #[.int .i64 1000001] w fun e w' => e = .returned (.int .i64 4) ∧ w = w' := So.check_any 1000001 w
set_option maxHeartbeats 4000000 in
set_option maxRecDepth 100000 in
theorem awake_any (w : World) (ht : Tab w) : Calls Tryd.prog 14 #[] w fun e w' => e = .returned (.bool true) ∧ Below w.heap.size w w' := by
  have HT := Lib.hid ht
  have C1 := Lib.hid share1
  have C2 := Lib.hid share2
  have C3 := Lib.hid share3
  have C4 : Hid (∀ w, Calls Tryd.prog 18 #[.string ⟨#[49, 48, 48, 48, 48, 48, 48]⟩] w (ParsePost 1000000 0 w)) := fun w => parse_any s1 w (by decide) reads1
  have C5 : Hid (∀ w, Calls Tryd.prog 18 #[.string ⟨#[48, 48, 55]⟩] w (ParsePost 0 2 w)) := fun w => parse_any s2 w (by decide) reads2
  have C6 := Lib.hid new72
  clear ht
  go_enter Tryd.func14, Tryd.ntmps14
  go_wp2_with fail
  refine (C1.out _).mono ?_
  rintro e w1 ⟨v1, rfl, i1, b1⟩
  have B1 : Hid (Below w.heap.size w w1) := (below_new w _).trans (b1.mono (by omega))
  have I1 := Lib.hid i1
  obtain ⟨A1, c1, rfl, _⟩ := So.is_cases i1
  clear i1 b1
  go_wp2_with fail
  refine (C2.out _).mono ?_
  rintro e w2 ⟨v2, rfl, i2, b2⟩
  have b2' : Below w1.heap.size w1 w2 := (below_new w1 _).trans (b2.mono (by omega))
  have B2 := Lib.hid (chain0 B1.out b2')
  have I1 := Lib.hid (I1.out.keep b2')
  have I2 := Lib.hid i2
  obtain ⟨A2, c2, rfl, _⟩ := So.is_cases i2
  clear i2 b2 b2' B1
  go_wp2_with fail
  refine (C3.out _).mono ?_
  rintro e w3 ⟨rfl, b3⟩
  have b3' : Below w2.heap.size w2 w3 := (below_new w2 _).trans (b3.mono (by omega))
  have B3 := Lib.hid (chain0 B2.out b3')
  have I1 := Lib.hid (I1.out.keep b3')
  have I2 := Lib.hid (I2.out.keep b3')
  clear b3 b3' B2
  go_wp2_with fail
  refine (C4.out _).mono ?_
  rintro e w3' ⟨rfl, rfl⟩
  go_wp2_with fail
  refine (C5.out _).mono ?_
  rintro e w3' ⟨rfl, rfl⟩
  go_wp2_with fail
  refine (C6.out _).mono ?_
  rintro e w4 ⟨v4, rfl, f4, b4⟩
  have B4 := Lib.hid (chain0 B3.out b4)
  have I1 := Lib.hid (I1.out.keep b4)
  have I2 := Lib.hid (I2.out.keep b4)
  obtain ⟨A3, c3, A4, c4, rfl, n3, n4⟩ := f4
  have N3 := Lib.hid n3
  have N4 := Lib.hid n4
  clear n3 n4 b4 B3
  have CU := Lib.hid (fun w' (b : Below w4.heap.size w4 w') => Fr.nup_pos A3 A4 c3 c4 7 2 w' (by decide) (by decide) (by decide) (N3.out.keep b) (N4.out.keep b))
  unfold Fr.UpPost at CU
  have hce : Fr.ceilN 7 2 = 4 := by decide
  rw [hce] at CU
  clear hce
  obtain ⟨l7, h7⟩ : ∃ l7, l7 = (Fr.digs 7).length := ⟨_, rfl⟩
  obtain ⟨l2, h2⟩ : ∃ l2, l2 = (Fr.digs 2).length := ⟨_, rfl⟩
  rw [← h7, ← h2] at CU ⊢
  clear N3 N4 h7 h2
  go_wp2_with fail
  refine (CU.out _ (below_new w4 _)).mono ?_
  rintro e w5 ⟨rfl, b5⟩
  have b5' : Below w4.heap.size w4 w5 := chain1 (Below.refl _ _) b5
  have B5 := Lib.hid (chain0 B4.out b5')
  have I1 := Lib.hid (I1.out.keep b5')
  have I2 := Lib.hid (I2.out.keep b5')
  clear b5 b5' B4
  have CS1 := Lib.hid (same_yes [4, 3, 3] _ (.slice (some ⟨w5.heap.size, 0, none⟩) 3 3) (w5.alloc (.cells #[.int .i64 4, .int .i64 3, .int .i64 3] 2)) (by decide) (I1.out.keep (below_new _ _)) (is_new3 w5 4 3 3))
  have HS2 := Lib.hid (fun w' (b : Below w5.heap.size w5 w') => same_yes [5, 2] _ (.slice (some ⟨w'.heap.size, 0, none⟩) 2 2) (w'.alloc (.cells #[.int .i64 5, .int .i64 2] 2)) (by decide) (I2.out.keep (b.trans ((below_new w' _).mono b.size))) (is_new2 w' 5 2))
  go_wp2_with fail
  refine (CS1.out).mono ?_
  rintro e w6 ⟨rfl, b6⟩
  have b6' : Below w5.heap.size w5 w6 := chain1 (Below.refl _ _) b6
  have B6 := Lib.hid (chain0 B5.out b6')
  have CS2 := Lib.hid (HS2.out w6 b6')
  clear b6 b6' B5 CS1 HS2
  go_wp2_with fail
  refine (CS2.out).mono ?_
  rintro e w7 ⟨rfl, b7⟩
  have b7' : Below w6.heap.size w6 w7 := chain1 (Below.refl _ _) b7
  have B7 := Lib.hid (chain0 B6.out b7')
  have CF := Lib.hid (format5 w7 (HT.out.keep B7.out))
  clear b7 b7' B6 CS2
  go_wp2_with fail
  refine (CF.out).mono ?_
  rintro e w8 ⟨rfl, b8⟩
  have B8 := Lib.hid (chain0 B7.out b8)
  have CK := Lib.hid check7
  clear b8 B7 CF
  go_wp2_with fail
  refine (CK.out _).mono ?_
  rintro e w9 ⟨rfl, rfl⟩
  go_wp2_with fail
  go_ret
  exact ⟨rfl, B8.out⟩
end Am
end Go.Proofs.YtfopmaeaclbknaaDoor
