/- The laws Checks, Sums, Formats, Parses: walks. Printed by gen_catU.py. -/
import Derived.Test.YtabkaaapkcadhaaCatR
namespace Go.Proofs.Ytabkaaapkcadhaa
open Go.ChangeShapes Go.WideShapes Go.ChangeAt Go.RowKit
set_option linter.unusedVariables false
set_option linter.unusedSimpArgs false
namespace Cat
open Lex
theorem eq6_self (a : Nat → Int) : eq6 a a = true := (eq6_iff a a).2 fun _ _ => rfl
theorem eq27_self (a : Nat → Int) : ∀ w, (Op.equalIn 10000 60 (.agg (arr a)) (.agg (arr a))).run Try.prog w = .ok true w := fun w => by
  have := eq27 a a w
  rwa [eq6_self] at this
set_option maxHeartbeats 2000000 in
set_option maxRecDepth 100000 in
theorem law_checks_long (l : List Prod) (v : Value) (name : ByteArray) (w : World) (h : PS w v l) (hn : ∀ p ∈ l, p.name.size ≤ maxLen) (hl : 100 < l.length) : Calls Try.prog 8 #[v, .string name] w fun e w' => e = .returned (.bool true) ∧ Below w.heap.size w w' := by
  have AW := Lib.hid awake_any
  have hd : decide ((100 : Int) < (l.length : Int)) = true := by simp; omega
  obtain ⟨A, c, rfl, _, _, _⟩ := ps_cases h
  clear h hn
  go_enter Try.func8, Try.ntmps8
  go_wp2_with fail
  refine (AW.out _).mono ?_
  rintro e w1 ⟨rfl, b1⟩
  have B1 := Lib.hid (chain0 (Below.refl _ _) b1)
  clear b1
  go_wp2_with fail
  go_ret
  exact ⟨rfl, B1.out⟩
set_option maxHeartbeats 2000000 in
set_option maxRecDepth 100000 in
theorem law_checks_short (l : List Prod) (v : Value) (name : ByteArray) (w : World) (h : PS w v l) (hn : ∀ p ∈ l, p.name.size ≤ maxLen) (hl : l.length ≤ 100) : Calls Try.prog 8 #[v, .string name] w fun e w' => e = .returned (.bool true) ∧ Below w.heap.size w w' := by
  have AW := Lib.hid awake_any
  have hd : decide ((100 : Int) < (l.length : Int)) = false := by simp; omega
  obtain ⟨A, c, rfl, _, _, _⟩ := ps_cases h
  have F1 := Lib.hid (fun w' (k : Below w.heap.size w w') => find_any l (.slice A l.length c) name w' (by omega) (Sl.keep h k))
  have F2 := Lib.hid (fun w' (k : Below w.heap.size w w') => rfind_any l (.slice A l.length c) name w' (by omega) (Sl.keep h k))
  have F3 := Lib.hid (fun w' (k : Below w.heap.size w w') => check_any l (.slice A l.length c) w' (by omega) (Sl.keep h k) hn)
  have F4 := Lib.hid (fun w' (k : Below w.heap.size w w') => rcheck_any l (.slice A l.length c) w' (by omega) (Sl.keep h k) hn)
  have F5 := Lib.hid (fun w' (k : Below w.heap.size w w') => supply_any l (.slice A l.length c) w' (by omega) (Sl.keep h k))
  have F6 := Lib.hid (fun w' (k : Below w.heap.size w w') => rsupply_any l (.slice A l.length c) w' (by omega) (Sl.keep h k))
  have q := eq27_self (supP l)
  generalize supP l = sp at *
  unfold arr at *
  clear h hn
  go_enter Try.func8, Try.ntmps8
  go_wp2_with fail
  refine (F1.out _ (Below.refl _ _)).mono ?_
  rintro e w1 ⟨rfl, b1⟩
  have B1 := Lib.hid (chain0 (Below.refl _ _) b1)
  clear b1
  go_wp2_with fail
  refine (F2.out _ B1.out).mono ?_
  rintro e w2 ⟨rfl, b2⟩
  have B2 := Lib.hid (chain0 B1.out b2)
  clear b2
  go_wp2_with fail
  refine (F3.out _ B2.out).mono ?_
  rintro e w3 ⟨rfl, b3⟩
  have B3 := Lib.hid (chain0 B2.out b3)
  clear b3
  go_wp2_with fail
  refine (F4.out _ B3.out).mono ?_
  rintro e w4 ⟨rfl, b4⟩
  have B4 := Lib.hid (chain0 B3.out b4)
  clear b4
  go_wp2_with fail
  refine (F5.out _ B4.out).mono ?_
  rintro e w5 ⟨rfl, b5⟩
  have B5 := Lib.hid (chain0 B4.out b5)
  clear b5
  go_wp2_with fail
  refine (F6.out _ B5.out).mono ?_
  rintro e w6 ⟨rfl, b6⟩
  have B6 := Lib.hid (chain0 B5.out b6)
  clear b6
  go_wp2_with fail
  refine (AW.out _).mono ?_
  rintro e w7 ⟨rfl, b7⟩
  have B7 := Lib.hid (chain0 B6.out b7)
  clear b7
  go_wp2_with fail
  go_ret
  exact ⟨rfl, B7.out⟩
theorem law_checks (l : List Prod) (v : Value) (name : ByteArray) (w : World) (h : PS w v l) (hn : ∀ p ∈ l, p.name.size ≤ maxLen) : Calls Try.prog 8 #[v, .string name] w fun e w' => e = .returned (.bool true) ∧ Below w.heap.size w w' := by
  by_cases hl : l.length ≤ 100
  · exact law_checks_short l v name w h hn hl
  · exact law_checks_long l v name w h hn (by omega)
set_option maxHeartbeats 2000000 in
set_option maxRecDepth 100000 in
theorem law_sums_long (l : List Prod) (v : Value) (g : Int) (b : Nat → Int) (w : World) (h : PS w v l) (hn : ∀ p ∈ l, p.name.size ≤ maxLen) (hl : 100 < l.length) : Calls Try.prog 9 #[v, .int .i64 g, .agg (arr b)] w fun e w' => e = .returned (.bool true) ∧ Below w.heap.size w w' := by
  have AW := Lib.hid awake_any
  have hd : decide ((100 : Int) < (l.length : Int)) = true := by simp; omega
  obtain ⟨A, c, rfl, _, _, _⟩ := ps_cases h
  clear h hn
  unfold arr
  go_enter Try.func9, Try.ntmps9
  go_wp2_with fail
  refine (AW.out _).mono ?_
  rintro e w1 ⟨rfl, b1⟩
  have B1 := Lib.hid (chain1 (Below.refl _ _) b1)
  clear b1
  go_wp2_with fail
  go_ret
  exact ⟨rfl, B1.out⟩
set_option maxHeartbeats 2000000 in
set_option maxRecDepth 100000 in
theorem law_sums_short (l : List Prod) (v : Value) (g : Int) (b : Nat → Int) (w : World) (h : PS w v l) (hn : ∀ p ∈ l, p.name.size ≤ maxLen) (hl : l.length ≤ 100) : Calls Try.prog 9 #[v, .int .i64 g, .agg (arr b)] w fun e w' => e = .returned (.bool true) ∧ Below w.heap.size w w' := by
  have AW := Lib.hid awake_any
  have hd : decide ((100 : Int) < (l.length : Int)) = false := by simp; omega
  obtain ⟨A, c, rfl, _, _, _⟩ := ps_cases h
  have F1 := Lib.hid (fun w' (k : Below w.heap.size w w') => rsums_any l (.slice A l.length c) g b w' (by omega) (Sl.keep h k) hn)
  have F2 := Lib.hid (fun w' (k : Below w.heap.size w w') => points_any l (.slice A l.length c) b w' (by omega) (Sl.keep h k) hn)
  have F3 := Lib.hid (fun w' (k : Below w.heap.size w w') => reserve_any l (.slice A l.length c) b w' (by omega) (Sl.keep h k) hn)
  have F4 := Lib.hid (fun w' (k : Below w.heap.size w w') => units_any l (.slice A l.length c) g b w' (by omega) (Sl.keep h k) hn)
  have K0 : Hid (Box (w.alloc (.cells #[.int .i64 (b 0), .int .i64 (b 1), .int .i64 (b 2), .int .i64 (b 3), .int .i64 (b 4), .int .i64 (b 5)] 60)) w.heap.size b) := box_new w b _
  unfold sums3 at F1
  unfold arr at F1 F2 F3 F4
  unfold arr
  clear h hn
  go_enter Try.func9, Try.ntmps9
  go_wp2_with fail
  refine (F1.out _ (below_new _ _)).mono ?_
  rintro e w1 ⟨rfl, b1⟩
  have B1 := Lib.hid (chain1 (Below.refl _ _) b1)
  have K1 := Lib.hid (K0.out.below b1 K0.out.lt)
  obtain ⟨K10, K11, K12, K13, K14, K15⟩ := K1.out.cells
  have Kg1 := K1.out.lt
  clear b1 K0
  go_wp2_with fail
  refine (F2.out _ B1.out).mono ?_
  rintro e w2 ⟨rfl, b2⟩
  have B2 := Lib.hid (chain0 B1.out b2)
  have K2 := Lib.hid (K1.out.below b2 K1.out.lt)
  obtain ⟨K20, K21, K22, K23, K24, K25⟩ := K2.out.cells
  have Kg2 := K2.out.lt
  clear b2 K1
  go_wp2_with fail
  refine (F3.out _ B2.out).mono ?_
  rintro e w3 ⟨rfl, b3⟩
  have B3 := Lib.hid (chain0 B2.out b3)
  have K3 := Lib.hid (K2.out.below b3 K2.out.lt)
  obtain ⟨K30, K31, K32, K33, K34, K35⟩ := K3.out.cells
  have Kg3 := K3.out.lt
  clear b3 K2
  go_wp2_with fail
  refine (F4.out _ B3.out).mono ?_
  rintro e w4 ⟨rfl, b4⟩
  have B4 := Lib.hid (chain0 B3.out b4)
  have K4 := Lib.hid (K3.out.below b4 K3.out.lt)
  obtain ⟨K40, K41, K42, K43, K44, K45⟩ := K4.out.cells
  have Kg4 := K4.out.lt
  clear b4 K3
  go_wp2_with fail
  refine (AW.out _).mono ?_
  rintro e w5 ⟨rfl, b5⟩
  have B5 := Lib.hid (chain0 B4.out b5)
  clear b5
  go_wp2_with fail
  go_ret
  exact ⟨rfl, B5.out⟩
theorem law_sums (l : List Prod) (v : Value) (g : Int) (b : Nat → Int) (w : World) (h : PS w v l) (hn : ∀ p ∈ l, p.name.size ≤ maxLen) : Calls Try.prog 9 #[v, .int .i64 g, .agg (arr b)] w fun e w' => e = .returned (.bool true) ∧ Below w.heap.size w w' := by
  by_cases hl : l.length ≤ 100
  · exact law_sums_short l v g b w h hn hl
  · exact law_sums_long l v g b w h hn (by omega)
end Cat
end Go.Proofs.Ytabkaaapkcadhaa
