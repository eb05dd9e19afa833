/- The law Adds: plain part and walk. Printed by gen_catX.py. -/
import Derived.Test.YtabkaaapkcadhaaCatU
namespace Go.Proofs.Ytabkaaapkcadhaa
open Go.ChangeShapes Go.WideShapes Go.ChangeAt Go.RowKit
set_option linter.unusedVariables false
set_option linter.unusedSimpArgs false
namespace Cat
open Lex
attribute [local go_sem] later_cell
def addB (a b : Nat → Int) : Nat → Int := fun j => a j + b j
theorem sw_add (f : Prod → Int) (a b : Nat → Int) (l : List Prod) : ∀ k, sw f (addB a b) l k = sw f a l k + sw f b l k
  | 0 => rfl
  | k + 1 => by
    unfold sw
    rw [sw_add f a b l k]
    unfold addB
    rw [Int.add_mul]
    omega
theorem sumE_add (f : Prod → Int) {a b : Nat → Int} (l : List Prod) (ha : validB a = true) (hb : validB b = true) (hc : validB (addB a b) = true) : sumE f (addB a b) l = sumE f a l + sumE f b l := by
  unfold sumE
  by_cases hz : checkE l = 0
  · rw [if_pos ⟨hz, hc⟩, if_pos ⟨hz, ha⟩, if_pos ⟨hz, hb⟩, sw_add]
  · rw [if_neg (fun e => hz e.1), if_neg (fun e => hz e.1), if_neg (fun e => hz e.1)]
    rfl
theorem sumE_le {f : Prod → Int} {b : Nat → Int} {l : List Prod} (hf : ∀ p ∈ l, rangeOk p = true → 0 ≤ f p ∧ f p ≤ 1000000) : 0 ≤ sumE f b l ∧ sumE f b l ≤ 24000000 := by
  unfold sumE
  by_cases h : checkE l = 0 ∧ validB b = true
  · rw [if_pos h]
    obtain ⟨hz, hv⟩ := h
    obtain ⟨_, h6, hg⟩ := checkE_zero hz
    have := sw_le (validB_iff.1 hv) (fun p hp => hf p hp (checkGo_range l 0 hg p hp).1) h6 l.length (Nat.le_refl _)
    omega
  · rw [if_neg h]
    omega
theorem wrap_sum {f : Prod → Int} {a b : Nat → Int} {l : List Prod} (hf : ∀ p ∈ l, rangeOk p = true → 0 ≤ f p ∧ f p ≤ 1000000) (ha : validB a = true) (hb : validB b = true) (hc : validB (addB a b) = true) : IntKind.i64.wrap (sumE f a l + sumE f b l) = sumE f (addB a b) l := by
  rw [sumE_add f l ha hb hc]
  have h1 := sumE_le (b := a) hf
  have h2 := sumE_le (b := b) hf
  exact IntWalk.i64_in _ (by omega)
theorem f_points {l : List Prod} : ∀ p ∈ l, rangeOk p = true → 0 ≤ p.points ∧ p.points ≤ 1000000 := fun p _ h => by
  have := rangeOk_iff.1 h
  omega
theorem f_reserve {l : List Prod} : ∀ p ∈ l, rangeOk p = true → 0 ≤ p.reserve ∧ p.reserve ≤ 1000000 := fun p _ h => by
  have := rangeOk_iff.1 h
  omega
theorem f_units {l : List Prod} (g : Int) : ∀ p ∈ l, rangeOk p = true → 0 ≤ gw g p ∧ gw g p ≤ 1000000 := fun p _ _ => by
  unfold gw
  split <;> omega
set_option maxHeartbeats 2000000 in
set_option maxRecDepth 100000 in
theorem law_adds_long (l : List Prod) (v : Value) (a b : Nat → Int) (w : World) (h : PS w v l) (hn : ∀ p ∈ l, p.name.size ≤ maxLen) (hl : 100 < l.length) : Calls Try.prog 10 #[v, .agg (arr a), .agg (arr b)] w fun e w' => e = .returned (.bool true) ∧ Below w.heap.size w w' := by
  have AW := Lib.hid awake_any
  have hd : decide ((100 : Int) < (l.length : Int)) = true := by simp; omega
  obtain ⟨A, c, rfl, _, _, _⟩ := ps_cases h
  clear h hn
  unfold arr
  go_enter Try.func10, Try.ntmps10
  go_wp2_with fail
  refine (AW.out _).mono ?_
  rintro e w1 ⟨rfl, b1⟩
  have B1 := Lib.hid (chain2 (Below.refl _ _) b1)
  clear b1
  go_wp2_with fail
  go_ret
  exact ⟨rfl, B1.out⟩
set_option maxHeartbeats 2000000 in
set_option maxRecDepth 100000 in
theorem law_adds_a (l : List Prod) (v : Value) (a b : Nat → Int) (w : World) (h : PS w v l) (hn : ∀ p ∈ l, p.name.size ≤ maxLen) (hl : l.length ≤ 100) (ha : validB a = false) : Calls Try.prog 10 #[v, .agg (arr a), .agg (arr b)] w fun e w' => e = .returned (.bool true) ∧ Below w.heap.size w w' := by
  have AW := Lib.hid awake_any
  have hd : decide ((100 : Int) < (l.length : Int)) = false := by simp; omega
  obtain ⟨A, c, rfl, _, _, _⟩ := ps_cases h
  have V1 : Hid (∀ w, Calls Try.prog 53 #[.agg (arr a)] w fun e w' => e = .returned (.bool false) ∧ Below w.heap.size w w') := fun w => by rw [← ha]; exact valid_any a w
  have KA0 : Hid (Box ((w.alloc (.cells #[.int .i64 (a 0), .int .i64 (a 1), .int .i64 (a 2), .int .i64 (a 3), .int .i64 (a 4), .int .i64 (a 5)] 60)).alloc (.cells #[.int .i64 (b 0), .int .i64 (b 1), .int .i64 (b 2), .int .i64 (b 3), .int .i64 (b 4), .int .i64 (b 5)] 60)) w.heap.size a) := (box_new w a 60).alloc _
  have KB0 : Hid (Box ((w.alloc (.cells #[.int .i64 (a 0), .int .i64 (a 1), .int .i64 (a 2), .int .i64 (a 3), .int .i64 (a 4), .int .i64 (a 5)] 60)).alloc (.cells #[.int .i64 (b 0), .int .i64 (b 1), .int .i64 (b 2), .int .i64 (b 3), .int .i64 (b 4), .int .i64 (b 5)] 60)) (w.heap.size + 1) b) := by
    have := box_new (w.alloc (.cells #[.int .i64 (a 0), .int .i64 (a 1), .int .i64 (a 2), .int .i64 (a 3), .int .i64 (a 4), .int .i64 (a 5)] 60)) b 60
    rwa [show (w.alloc (.cells #[.int .i64 (a 0), .int .i64 (a 1), .int .i64 (a 2), .int .i64 (a 3), .int .i64 (a 4), .int .i64 (a 5)] 60)).heap.size = w.heap.size + 1 by simp] at this
  clear h hn ha
  unfold arr at V1
  unfold arr
  go_enter Try.func10, Try.ntmps10
  go_wp2_with fail
  refine (V1.out _).mono ?_
  rintro e w1 ⟨rfl, b1⟩
  have B1 := Lib.hid (chain2 (Below.refl _ _) b1)
  clear b1
  go_wp2_with fail
  refine (AW.out _).mono ?_
  rintro e w2 ⟨rfl, b2⟩
  have B2 := Lib.hid (chain0 B1.out b2)
  clear b2
  go_wp2_with fail
  go_ret
  exact ⟨rfl, B2.out⟩
set_option maxHeartbeats 2000000 in
set_option maxRecDepth 100000 in
theorem law_adds_b (l : List Prod) (v : Value) (a b : Nat → Int) (w : World) (h : PS w v l) (hn : ∀ p ∈ l, p.name.size ≤ maxLen) (hl : l.length ≤ 100) (ha : validB a = true) (hb : validB b = false) : Calls Try.prog 10 #[v, .agg (arr a), .agg (arr b)] w fun e w' => e = .returned (.bool true) ∧ Below w.heap.size w w' := by
  have AW := Lib.hid awake_any
  have hd : decide ((100 : Int) < (l.length : Int)) = false := by simp; omega
  obtain ⟨A, c, rfl, _, _, _⟩ := ps_cases h
  have V1 : Hid (∀ w, Calls Try.prog 53 #[.agg (arr a)] w fun e w' => e = .returned (.bool true) ∧ Below w.heap.size w w') := fun w => by rw [← ha]; exact valid_any a w
  have V2 : Hid (∀ w, Calls Try.prog 53 #[.agg (arr b)] w fun e w' => e = .returned (.bool false) ∧ Below w.heap.size w w') := fun w => by rw [← hb]; exact valid_any b w
  have KA0 : Hid (Box ((w.alloc (.cells #[.int .i64 (a 0), .int .i64 (a 1), .int .i64 (a 2), .int .i64 (a 3), .int .i64 (a 4), .int .i64 (a 5)] 60)).alloc (.cells #[.int .i64 (b 0), .int .i64 (b 1), .int .i64 (b 2), .int .i64 (b 3), .int .i64 (b 4), .int .i64 (b 5)] 60)) w.heap.size a) := (box_new w a 60).alloc _
  have KB0 : Hid (Box ((w.alloc (.cells #[.int .i64 (a 0), .int .i64 (a 1), .int .i64 (a 2), .int .i64 (a 3), .int .i64 (a 4), .int .i64 (a 5)] 60)).alloc (.cells #[.int .i64 (b 0), .int .i64 (b 1), .int .i64 (b 2), .int .i64 (b 3), .int .i64 (b 4), .int .i64 (b 5)] 60)) (w.heap.size + 1) b) := by
    have := box_new (w.alloc (.cells #[.int .i64 (a 0), .int .i64 (a 1), .int .i64 (a 2), .int .i64 (a 3), .int .i64 (a 4), .int .i64 (a 5)] 60)) b 60
    rwa [show (w.alloc (.cells #[.int .i64 (a 0), .int .i64 (a 1), .int .i64 (a 2), .int .i64 (a 3), .int .i64 (a 4), .int .i64 (a 5)] 60)).heap.size = w.heap.size + 1 by simp] at this
  clear h hn ha hb
  unfold arr at V1 V2
  unfold arr
  go_enter Try.func10, Try.ntmps10
  go_wp2_with fail
  refine (V1.out _).mono ?_
  rintro e w1 ⟨rfl, b1⟩
  have B1 := Lib.hid (chain2 (Below.refl _ _) b1)
  have KA1 := Lib.hid (KA0.out.below b1 KA0.out.lt)
  obtain ⟨KA10, KA11, KA12, KA13, KA14, KA15⟩ := KA1.out.cells
  have KAg1 := KA1.out.lt
  have KB1 := Lib.hid (KB0.out.below b1 KB0.out.lt)
  obtain ⟨KB10, KB11, KB12, KB13, KB14, KB15⟩ := KB1.out.cells
  have KBg1 := KB1.out.lt
  clear b1 KA0 KB0
  go_wp2_with fail
  refine (V2.out _).mono ?_
  rintro e w2 ⟨rfl, b2⟩
  have B2 := Lib.hid (chain0 B1.out b2)
  clear b2
  go_wp2_with fail
  refine (AW.out _).mono ?_
  rintro e w3 ⟨rfl, b3⟩
  have B3 := Lib.hid (chain0 B2.out b3)
  clear b3
  go_wp2_with fail
  go_ret
  exact ⟨rfl, B3.out⟩
set_option maxHeartbeats 2000000 in
set_option maxRecDepth 100000 in
theorem law_adds_c (l : List Prod) (v : Value) (a b : Nat → Int) (w : World) (h : PS w v l) (hn : ∀ p ∈ l, p.name.size ≤ maxLen) (hl : l.length ≤ 100) (ha : validB a = true) (hb : validB b = true) (hc : validB (addB a b) = false) : Calls Try.prog 10 #[v, .agg (arr a), .agg (arr b)] w fun e w' => e = .returned (.bool true) ∧ Below w.heap.size w w' := by
  have AW := Lib.hid awake_any
  have hd : decide ((100 : Int) < (l.length : Int)) = false := by simp; omega
  obtain ⟨A, c, rfl, _, _, _⟩ := ps_cases h
  have V1 : Hid (∀ w, Calls Try.prog 53 #[.agg (arr a)] w fun e w' => e = .returned (.bool true) ∧ Below w.heap.size w w') := fun w => by rw [← ha]; exact valid_any a w
  have V2 : Hid (∀ w, Calls Try.prog 53 #[.agg (arr b)] w fun e w' => e = .returned (.bool true) ∧ Below w.heap.size w w') := fun w => by rw [← hb]; exact valid_any b w
  have KA0 : Hid (Box ((w.alloc (.cells #[.int .i64 (a 0), .int .i64 (a 1), .int .i64 (a 2), .int .i64 (a 3), .int .i64 (a 4), .int .i64 (a 5)] 60)).alloc (.cells #[.int .i64 (b 0), .int .i64 (b 1), .int .i64 (b 2), .int .i64 (b 3), .int .i64 (b 4), .int .i64 (b 5)] 60)) w.heap.size a) := (box_new w a 60).alloc _
  have KB0 : Hid (Box ((w.alloc (.cells #[.int .i64 (a 0), .int .i64 (a 1), .int .i64 (a 2), .int .i64 (a 3), .int .i64 (a 4), .int .i64 (a 5)] 60)).alloc (.cells #[.int .i64 (b 0), .int .i64 (b 1), .int .i64 (b 2), .int .i64 (b 3), .int .i64 (b 4), .int .i64 (b 5)] 60)) (w.heap.size + 1) b) := by
    have := box_new (w.alloc (.cells #[.int .i64 (a 0), .int .i64 (a 1), .int .i64 (a 2), .int .i64 (a 3), .int .i64 (a 4), .int .i64 (a 5)] 60)) b 60
    rwa [show (w.alloc (.cells #[.int .i64 (a 0), .int .i64 (a 1), .int .i64 (a 2), .int .i64 (a 3), .int .i64 (a 4), .int .i64 (a 5)] 60)).heap.size = w.heap.size + 1 by simp] at this
  have V3 : Hid (∀ w, Calls Try.prog 53 #[.agg (arr (addB a b))] w fun e w' => e = .returned (.bool false) ∧ Below w.heap.size w w') := fun w => by rw [← hc]; exact valid_any (addB a b) w
  have RA := Lib.hid (validB_iff.1 ha)
  have RB := Lib.hid (validB_iff.1 hb)
  clear h hn ha hb hc
  unfold arr at V1 V2 V3
  unfold arr
  go_enter Try.func10, Try.ntmps10
  go_wp2_with fail
  refine (V1.out _).mono ?_
  rintro e w1 ⟨rfl, b1⟩
  have B1 := Lib.hid (chain2 (Below.refl _ _) b1)
  have KA1 := Lib.hid (KA0.out.below b1 KA0.out.lt)
  obtain ⟨KA10, KA11, KA12, KA13, KA14, KA15⟩ := KA1.out.cells
  have KAg1 := KA1.out.lt
  have KB1 := Lib.hid (KB0.out.below b1 KB0.out.lt)
  obtain ⟨KB10, KB11, KB12, KB13, KB14, KB15⟩ := KB1.out.cells
  have KBg1 := KB1.out.lt
  clear b1 KA0 KB0
  go_wp2_with fail
  refine (V2.out _).mono ?_
  rintro e w2 ⟨rfl, b2⟩
  have B2 := Lib.hid (chain0 B1.out b2)
  have KA2 := Lib.hid (KA1.out.below b2 KA1.out.lt)
  obtain ⟨KA20, KA21, KA22, KA23, KA24, KA25⟩ := KA2.out.cells
  have KAg2 := KA2.out.lt
  have KB2 := Lib.hid (KB1.out.below b2 KB1.out.lt)
  obtain ⟨KB20, KB21, KB22, KB23, KB24, KB25⟩ := KB2.out.cells
  have KBg2 := KB2.out.lt
  clear b2 KA1 KB1
  go_wp2_with fail
  have L0 := Lib.hid (below_new w2 (.cells #[.int .i64 (zero6 0), .int .i64 (zero6 1), .int .i64 (zero6 2), .int .i64 (zero6 3), .int .i64 (zero6 4), .int .i64 (zero6 5)] 60))
  have Z0 : Hid (Box (w2.alloc (.cells #[.int .i64 (zero6 0), .int .i64 (zero6 1), .int .i64 (zero6 2), .int .i64 (zero6 3), .int .i64 (zero6 4), .int .i64 (zero6 5)] 60)) w2.heap.size (fun j => if j < 0 then addB a b j else 0)) := (box_new w2 zero6 60).congr fun k _ => by simp [zero6]
  have n1 : ¬ w.heap.size = w2.heap.size := by omega
  have n2 : ¬ w.heap.size + 1 = w2.heap.size := by omega
  have lg : w.heap.size ≤ w2.heap.size := by omega
  have BX0 := Lib.hid (B2.out.alloc B2.out.size (.cells #[.int .i64 (zero6 0), .int .i64 (zero6 1), .int .i64 (zero6 2), .int .i64 (zero6 3), .int .i64 (zero6 4), .int .i64 (zero6 5)] 60))
  have XA0 := Lib.hid (KA2.out.alloc (.cells #[.int .i64 (zero6 0), .int .i64 (zero6 1), .int .i64 (zero6 2), .int .i64 (zero6 3), .int .i64 (zero6 4), .int .i64 (zero6 5)] 60))
  have XB0 := Lib.hid (KB2.out.alloc (.cells #[.int .i64 (zero6 0), .int .i64 (zero6 1), .int .i64 (zero6 2), .int .i64 (zero6 3), .int .i64 (zero6 4), .int .i64 (zero6 5)] 60))
  have LT0 : w2.heap.size < (w2.alloc (.cells #[.int .i64 (zero6 0), .int .i64 (zero6 1), .int .i64 (zero6 2), .int .i64 (zero6 3), .int .i64 (zero6 4), .int .i64 (zero6 5)] 60)).heap.size := by simp
  unfold zero6 at Z0 BX0 XA0 XB0 LT0
  clear KA2 KB2 KAg2 KBg2 L0
  generalize w2.alloc (.cells #[.int .i64 0, .int .i64 0, .int .i64 0, .int .i64 0, .int .i64 0, .int .i64 0] 60) = w3 at *
  generalize w2.heap.size = g at *
  clear KA20 KA21 KA22 KA23 KA24 KA25 KB20 KB21 KB22 KB23 KB24 KB25
  go_loopw [8] (fun i wr => ∃ k : Nat, k ≤ 6 ∧ i = .int .i64 (k : Int) ∧ Hid (Box wr w.heap.size a) ∧ Hid (Box wr (w.heap.size + 1) b) ∧ Hid (Box wr g (fun j => if j < k then addB a b j else 0)) ∧ Hid (Below w.heap.size w wr)) (fun i _ => 6 - (intOf i).toNat)
  case atStart => exact ⟨0, by omega, rfl, XA0, XB0, Z0, BX0⟩
  case round =>
    obtain ⟨k, hk, rfl, XA, XB, Z, BX⟩ := hrel
    clear XA0 XB0 Z0 BX0
    by_cases hlt : k < 6
    · have hd6 : decide ((k : Int) < 6) = true := by simp; omega
      have hi0 : (0 : Int) ≤ (k : Int) := by omega
      have hi6 : (k : Int) < 6 := by omega
      have ca := XA.out.cell k hlt
      have cb := XB.out.cell k hlt
      have cz := Z.out.cell k hlt
      have fz := Z.out.free k
      have la := XA.out.lt
      have lb := XB.out.lt
      have lz := Z.out.lt
      have ra := RA.out k hlt
      have rb := RB.out k hlt
      have ws : IntKind.i64.wrap (a k + b k) = a k + b k := IntWalk.i64_in _ (by omega)
      have HZ : Hid (∀ j, j < 6 → (if j = k then a k + b k else if j < k then addB a b j else 0) = if j < k + 1 then addB a b j else 0) := fun j _ => by
        by_cases e : j = k
        · subst e
          rw [if_pos rfl, if_pos (by omega)]
          rfl
        · by_cases e2 : j < k
          · rw [if_neg e, if_pos e2, if_pos (by omega)]
          · rw [if_neg e, if_neg e2, if_neg (by omega)]
      clear ra rb
      go_wp2_with fail
      go_region
      all_goals
        go_wp2_with fail
        go_roundw
        case rel => exact ⟨k + 1, by omega, by go_num, (XA.out.other n1 _).drew, (XB.out.other n2 _).drew, ((Z.out.set k hlt _).congr HZ.out).drew, (BX.out.setCell lg _).drew⟩
        case measure => simp [intOf]; omega
    · obtain rfl : k = 6 := by omega
      have hd6 : decide (((6 : Nat) : Int) < 6) = false := by simp
      have Z6 : Hid (Box wr g (addB a b)) := Z.out.congr fun j hj => by simp [hj]
      clear Z LT0
      obtain ⟨z0, z1, z2, z3, z4, z5⟩ := Z6.out.cells
      have zg := Z6.out.lt
      go_wp2_with fail
      refine (V3.out _).mono ?_
      rintro e w4 ⟨rfl, b4⟩
      have B4 := Lib.hid (chain0 BX.out b4)
      clear b4
      go_wp2_with fail
      refine (AW.out _).mono ?_
      rintro e w5 ⟨rfl, b5⟩
      have B5 := Lib.hid (chain0 B4.out b5)
      clear b5
      go_wp2_with fail
      go_ret
      exact ⟨rfl, B5.out⟩
set_option maxHeartbeats 2000000 in
set_option maxRecDepth 100000 in
theorem law_adds_d (l : List Prod) (v : Value) (a b : Nat → Int) (w : World) (h : PS w v l) (hn : ∀ p ∈ l, p.name.size ≤ maxLen) (hl : l.length ≤ 100) (ha : validB a = true) (hb : validB b = true) (hc : validB (addB a b) = true) : Calls Try.prog 10 #[v, .agg (arr a), .agg (arr b)] w fun e w' => e = .returned (.bool true) ∧ Below w.heap.size w w' := by
  have AW := Lib.hid awake_any
  have hd : decide ((100 : Int) < (l.length : Int)) = false := by simp; omega
  obtain ⟨A, c, rfl, _, _, _⟩ := ps_cases h
  have V1 : Hid (∀ w, Calls Try.prog 53 #[.agg (arr a)] w fun e w' => e = .returned (.bool true) ∧ Below w.heap.size w w') := fun w => by rw [← ha]; exact valid_any a w
  have V2 : Hid (∀ w, Calls Try.prog 53 #[.agg (arr b)] w fun e w' => e = .returned (.bool true) ∧ Below w.heap.size w w') := fun w => by rw [← hb]; exact valid_any b w
  have KA0 : Hid (Box ((w.alloc (.cells #[.int .i64 (a 0), .int .i64 (a 1), .int .i64 (a 2), .int .i64 (a 3), .int .i64 (a 4), .int .i64 (a 5)] 60)).alloc (.cells #[.int .i64 (b 0), .int .i64 (b 1), .int .i64 (b 2), .int .i64 (b 3), .int .i64 (b 4), .int .i64 (b 5)] 60)) w.heap.size a) := (box_new w a 60).alloc _
  have KB0 : Hid (Box ((w.alloc (.cells #[.int .i64 (a 0), .int .i64 (a 1), .int .i64 (a 2), .int .i64 (a 3), .int .i64 (a 4), .int .i64 (a 5)] 60)).alloc (.cells #[.int .i64 (b 0), .int .i64 (b 1), .int .i64 (b 2), .int .i64 (b 3), .int .i64 (b 4), .int .i64 (b 5)] 60)) (w.heap.size + 1) b) := by
    have := box_new (w.alloc (.cells #[.int .i64 (a 0), .int .i64 (a 1), .int .i64 (a 2), .int .i64 (a 3), .int .i64 (a 4), .int .i64 (a 5)] 60)) b 60
    rwa [show (w.alloc (.cells #[.int .i64 (a 0), .int .i64 (a 1), .int .i64 (a 2), .int .i64 (a 3), .int .i64 (a 4), .int .i64 (a 5)] 60)).heap.size = w.heap.size + 1 by simp] at this
  have V3 : Hid (∀ w, Calls Try.prog 53 #[.agg (arr (addB a b))] w fun e w' => e = .returned (.bool true) ∧ Below w.heap.size w w') := fun w => by rw [← hc]; exact valid_any (addB a b) w
  have RA := Lib.hid (validB_iff.1 ha)
  have RB := Lib.hid (validB_iff.1 hb)
  have HN := Lib.hid hn
  have HP := Lib.hid (fun w' (k : Below w.heap.size w w') => Sl.keep h k)
  have i1 := wrap_sum f_points ha hb hc (l := l)
  have i2 := wrap_sum f_reserve ha hb hc (l := l)
  have i3 := wrap_sum (f_units 1) ha hb hc (l := l)
  have I1 := Lib.hid i1
  have I2 := Lib.hid i2
  have I3 := Lib.hid i3
  clear i1 i2 i3
  clear h hn ha hb hc
  unfold arr at V1 V2 V3
  unfold arr
  go_enter Try.func10, Try.ntmps10
  go_wp2_with fail
  refine (V1.out _).mono ?_
  rintro e w1 ⟨rfl, b1⟩
  have B1 := Lib.hid (chain2 (Below.refl _ _) b1)
  have KA1 := Lib.hid (KA0.out.below b1 KA0.out.lt)
  obtain ⟨KA10, KA11, KA12, KA13, KA14, KA15⟩ := KA1.out.cells
  have KAg1 := KA1.out.lt
  have KB1 := Lib.hid (KB0.out.below b1 KB0.out.lt)
  obtain ⟨KB10, KB11, KB12, KB13, KB14, KB15⟩ := KB1.out.cells
  have KBg1 := KB1.out.lt
  clear b1 KA0 KB0
  go_wp2_with fail
  refine (V2.out _).mono ?_
  rintro e w2 ⟨rfl, b2⟩
  have B2 := Lib.hid (chain0 B1.out b2)
  have KA2 := Lib.hid (KA1.out.below b2 KA1.out.lt)
  obtain ⟨KA20, KA21, KA22, KA23, KA24, KA25⟩ := KA2.out.cells
  have KAg2 := KA2.out.lt
  have KB2 := Lib.hid (KB1.out.below b2 KB1.out.lt)
  obtain ⟨KB20, KB21, KB22, KB23, KB24, KB25⟩ := KB2.out.cells
  have KBg2 := KB2.out.lt
  clear b2 KA1 KB1
  go_wp2_with fail
  have L0 := Lib.hid (below_new w2 (.cells #[.int .i64 (zero6 0), .int .i64 (zero6 1), .int .i64 (zero6 2), .int .i64 (zero6 3), .int .i64 (zero6 4), .int .i64 (zero6 5)] 60))
  have Z0 : Hid (Box (w2.alloc (.cells #[.int .i64 (zero6 0), .int .i64 (zero6 1), .int .i64 (zero6 2), .int .i64 (zero6 3), .int .i64 (zero6 4), .int .i64 (zero6 5)] 60)) w2.heap.size (fun j => if j < 0 then addB a b j else 0)) := (box_new w2 zero6 60).congr fun k _ => by simp [zero6]
  have n1 : ¬ w.heap.size = w2.heap.size := by omega
  have n2 : ¬ w.heap.size + 1 = w2.heap.size := by omega
  have lg : w.heap.size ≤ w2.heap.size := by omega
  have BX0 := Lib.hid (B2.out.alloc B2.out.size (.cells #[.int .i64 (zero6 0), .int .i64 (zero6 1), .int .i64 (zero6 2), .int .i64 (zero6 3), .int .i64 (zero6 4), .int .i64 (zero6 5)] 60))
  have XA0 := Lib.hid (KA2.out.alloc (.cells #[.int .i64 (zero6 0), .int .i64 (zero6 1), .int .i64 (zero6 2), .int .i64 (zero6 3), .int .i64 (zero6 4), .int .i64 (zero6 5)] 60))
  have XB0 := Lib.hid (KB2.out.alloc (.cells #[.int .i64 (zero6 0), .int .i64 (zero6 1), .int .i64 (zero6 2), .int .i64 (zero6 3), .int .i64 (zero6 4), .int .i64 (zero6 5)] 60))
  have LT0 : w2.heap.size < (w2.alloc (.cells #[.int .i64 (zero6 0), .int .i64 (zero6 1), .int .i64 (zero6 2), .int .i64 (zero6 3), .int .i64 (zero6 4), .int .i64 (zero6 5)] 60)).heap.size := by simp
  unfold zero6 at Z0 BX0 XA0 XB0 LT0
  clear KA2 KB2 KAg2 KBg2 L0
  generalize w2.alloc (.cells #[.int .i64 0, .int .i64 0, .int .i64 0, .int .i64 0, .int .i64 0, .int .i64 0] 60) = w3 at *
  generalize w2.heap.size = g at *
  clear KA20 KA21 KA22 KA23 KA24 KA25 KB20 KB21 KB22 KB23 KB24 KB25
  go_loopw [8] (fun i wr => ∃ k : Nat, k ≤ 6 ∧ i = .int .i64 (k : Int) ∧ Hid (Box wr w.heap.size a) ∧ Hid (Box wr (w.heap.size + 1) b) ∧ Hid (Box wr g (fun j => if j < k then addB a b j else 0)) ∧ Hid (Below w.heap.size w wr)) (fun i _ => 6 - (intOf i).toNat)
  case atStart => exact ⟨0, by omega, rfl, XA0, XB0, Z0, BX0⟩
  case round =>
    obtain ⟨k, hk, rfl, XA, XB, Z, BX⟩ := hrel
    clear XA0 XB0 Z0 BX0
    by_cases hlt : k < 6
    · have hd6 : decide ((k : Int) < 6) = true := by simp; omega
      have hi0 : (0 : Int) ≤ (k : Int) := by omega
      have hi6 : (k : Int) < 6 := by omega
      have ca := XA.out.cell k hlt
      have cb := XB.out.cell k hlt
      have cz := Z.out.cell k hlt
      have fz := Z.out.free k
      have la := XA.out.lt
      have lb := XB.out.lt
      have lz := Z.out.lt
      have ra := RA.out k hlt
      have rb := RB.out k hlt
      have ws : IntKind.i64.wrap (a k + b k) = a k + b k := IntWalk.i64_in _ (by omega)
      have HZ : Hid (∀ j, j < 6 → (if j = k then a k + b k else if j < k then addB a b j else 0) = if j < k + 1 then addB a b j else 0) := fun j _ => by
        by_cases e : j = k
        · subst e
          rw [if_pos rfl, if_pos (by omega)]
          rfl
        · by_cases e2 : j < k
          · rw [if_neg e, if_pos e2, if_pos (by omega)]
          · rw [if_neg e, if_neg e2, if_neg (by omega)]
      clear ra rb
      go_wp2_with fail
      go_region
      all_goals
        go_wp2_with fail
        go_roundw
        case rel => exact ⟨k + 1, by omega, by go_num, (XA.out.other n1 _).drew, (XB.out.other n2 _).drew, ((Z.out.set k hlt _).congr HZ.out).drew, (BX.out.setCell lg _).drew⟩
        case measure => simp [intOf]; omega
    · obtain rfl : k = 6 := by omega
      have hd6 : decide (((6 : Nat) : Int) < 6) = false := by simp
      have Z6 : Hid (Box wr g (addB a b)) := Z.out.congr fun j hj => by simp [hj]
      clear Z LT0
      obtain ⟨z0, z1, z2, z3, z4, z5⟩ := Z6.out.cells
      have zg := Z6.out.lt
      go_wp2_with fail
      refine (V3.out _).mono ?_
      rintro e w4 ⟨rfl, b4⟩
      have B4 := Lib.hid (chain0 BX.out b4)
      have XA4 := Lib.hid (XA.out.below b4 XA.out.lt)
      have XB4 := Lib.hid (XB.out.below b4 XB.out.lt)
      have Z4 := Lib.hid (Z6.out.below b4 Z6.out.lt)
      clear b4 XA XB Z6 z0 z1 z2 z3 z4 z5 zg
      obtain ⟨x0, x1, x2, x3, x4, x5⟩ := XA4.out.cells
      obtain ⟨y0, y1, y2, y3, y4, y5⟩ := XB4.out.cells
      obtain ⟨z0, z1, z2, z3, z4, z5⟩ := Z4.out.cells
      have xg := XA4.out.lt
      have yg := XB4.out.lt
      have zg := Z4.out.lt
      have hps := HP.out _ B4.out
      go_wp2_with fail
      have Cpointsa := Lib.hid (fun x => points_any l (.slice A l.length c) a (later w4 x) (by omega) (Sl.keep hps (later_below w4 x)) HN.out)
      have Cpointsb := Lib.hid (fun x => points_any l (.slice A l.length c) b (later w4 x) (by omega) (Sl.keep hps (later_below w4 x)) HN.out)
      have Cpointsc := Lib.hid (fun x => points_any l (.slice A l.length c) (addB a b) (later w4 x) (by omega) (Sl.keep hps (later_below w4 x)) HN.out)
      have Creservea := Lib.hid (fun x => reserve_any l (.slice A l.length c) a (later w4 x) (by omega) (Sl.keep hps (later_below w4 x)) HN.out)
      have Creserveb := Lib.hid (fun x => reserve_any l (.slice A l.length c) b (later w4 x) (by omega) (Sl.keep hps (later_below w4 x)) HN.out)
      have Creservec := Lib.hid (fun x => reserve_any l (.slice A l.length c) (addB a b) (later w4 x) (by omega) (Sl.keep hps (later_below w4 x)) HN.out)
      have Cunitsa := Lib.hid (fun x => units_any l (.slice A l.length c) 1 a (later w4 x) (by omega) (Sl.keep hps (later_below w4 x)) HN.out)
      have Cunitsb := Lib.hid (fun x => units_any l (.slice A l.length c) 1 b (later w4 x) (by omega) (Sl.keep hps (later_below w4 x)) HN.out)
      have Cunitsc := Lib.hid (fun x => units_any l (.slice A l.length c) 1 (addB a b) (later w4 x) (by omega) (Sl.keep hps (later_below w4 x)) HN.out)
      have i1 := I1.out
      generalize sumE Prod.points a l = s0a at *
      generalize sumE Prod.points b l = s0b at *
      generalize sumE Prod.points (addB a b) l = s0c at *
      have i2 := I2.out
      generalize sumE Prod.reserve a l = s1a at *
      generalize sumE Prod.reserve b l = s1b at *
      generalize sumE Prod.reserve (addB a b) l = s1c at *
      have i3 := I3.out
      generalize sumE (gw 1) a l = s2a at *
      generalize sumE (gw 1) b l = s2b at *
      generalize sumE (gw 1) (addB a b) l = s2c at *
      clear hps I1 I2 I3 HP HN V1 V2 V3
      unfold arr at Cpointsa Cpointsb Cpointsc Creservea Creserveb Creservec Cunitsa Cunitsb Cunitsc
      refine wp_region_later (by kernel_rfl) (by kernel_rfl) ?_
      repeat (quiet_step (first
        | (go_at_call 50; (with_reducible exact calls_later (Cpointsa.out _)))
        | (go_at_call 50; (with_reducible exact calls_later (Cpointsb.out _)))
        | (go_at_call 50; (with_reducible exact calls_later (Cpointsc.out _)))
        | (go_at_call 51; (with_reducible exact calls_later (Creservea.out _)))
        | (go_at_call 51; (with_reducible exact calls_later (Creserveb.out _)))
        | (go_at_call 51; (with_reducible exact calls_later (Creservec.out _)))
        | (go_at_call 52; (with_reducible exact calls_later (Cunitsa.out _)))
        | (go_at_call 52; (with_reducible exact calls_later (Cunitsb.out _)))
        | (go_at_call 52; (with_reducible exact calls_later (Cunitsc.out _)))
        | (go_at_call 42; exact calls_later (AW.out _))))
      refine wpQuiet_nil ?_
      rintro _ ⟨x, rfl⟩
      go_wp2
      go_ret
      exact ⟨rfl, chain0 B4.out (later_below _ _)⟩
theorem law_adds (l : List Prod) (v : Value) (a b : Nat → Int) (w : World) (h : PS w v l) (hn : ∀ p ∈ l, p.name.size ≤ maxLen) : Calls Try.prog 10 #[v, .agg (arr a), .agg (arr b)] w fun e w' => e = .returned (.bool true) ∧ Below w.heap.size w w' := by
  by_cases hl : l.length ≤ 100
  · cases ha : validB a with
    | false => exact law_adds_a l v a b w h hn hl ha
    | true =>
      cases hb : validB b with
      | false => exact law_adds_b l v a b w h hn hl ha hb
      | true =>
        cases hc : validB (addB a b) with
        | false => exact law_adds_c l v a b w h hn hl ha hb hc
        | true => exact law_adds_d l v a b w h hn hl ha hb hc
  · exact law_adds_long l v a b w h hn (by omega)
end Cat
end Go.Proofs.Ytabkaaapkcadhaa
