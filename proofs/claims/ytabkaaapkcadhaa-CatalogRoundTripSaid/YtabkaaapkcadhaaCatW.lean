/- The laws Formats, Parses, RoundTrip: walks. Printed by gen_catW.py. -/
import Derived.Test.YtabkaaapkcadhaaCatU
import Derived.Test.YtabkaaapkcadhaaCatV
namespace Go.Proofs.Ytabkaaapkcadhaa
open Go.ChangeShapes Go.WideShapes Go.ChangeAt Go.RowKit
set_option linter.unusedVariables false
set_option linter.unusedSimpArgs false
namespace Cat
open Lex
attribute [local go_sem] later_cell
set_option maxHeartbeats 2000000 in
set_option maxRecDepth 100000 in
theorem law_formats_long (l : List Prod) (v : Value) (b : Nat → Int) (w : World) (h : PS w v l) (hn : ∀ p ∈ l, p.name.size ≤ maxLen) (hl : 100 < l.length) : Calls Try.prog 11 #[v, .agg (arr b)] w fun e w' => e = .returned (.bool true) ∧ Below w.heap.size w w' := by
  have AW := Lib.hid awake_any
  have hd : decide ((100 : Int) < (l.length : Int)) = true := by simp; omega
  obtain ⟨A, c, rfl, _, _, _⟩ := ps_cases h
  clear h hn
  unfold arr
  go_enter Try.func11, Try.ntmps11
  go_wp2_with fail
  refine (AW.out _).mono ?_
  rintro e w1 ⟨rfl, b1⟩
  have B1 := Lib.hid (chain1 (Below.refl _ _) b1)
  clear b1
  go_wp2_with fail
  go_ret
  exact ⟨rfl, B1.out⟩
set_option maxHeartbeats 2000000 in
set_option maxRecDepth 100000 in
theorem law_formats_short (l : List Prod) (v : Value) (b : Nat → Int) (w : World) (h : PS w v l) (hn : ∀ p ∈ l, p.name.size ≤ maxLen) (hl : l.length ≤ 100) : Calls Try.prog 11 #[v, .agg (arr b)] w fun e w' => e = .returned (.bool true) ∧ Below w.heap.size w w' := by
  have AW := Lib.hid awake_any
  have hd : decide ((100 : Int) < (l.length : Int)) = false := by simp; omega
  have hps := (Sl.keep h (below_new w (.cells #[.int .i64 (b 0), .int .i64 (b 1), .int .i64 (b 2), .int .i64 (b 3), .int .i64 (b 4), .int .i64 (b 5)] 60)))
  have HB := Lib.hid (below_new w (.cells #[.int .i64 (b 0), .int .i64 (b 1), .int .i64 (b 2), .int .i64 (b 3), .int .i64 (b 4), .int .i64 (b 5)] 60))
  have K0 : Box (w.alloc (.cells #[.int .i64 (b 0), .int .i64 (b 1), .int .i64 (b 2), .int .i64 (b 3), .int .i64 (b 4), .int .i64 (b 5)] 60)) w.heap.size b := box_new w b _
  obtain ⟨A, c, rfl, _, _, _⟩ := ps_cases h
  clear h
  obtain ⟨c0, c1, c2, c3, c4, c5⟩ := K0.cells
  have g0 := K0.lt
  go_enter Try.func11, Try.ntmps11
  go_wp2_with fail
  generalize (w.alloc (.cells #[.int .i64 (b 0), .int .i64 (b 1), .int .i64 (b 2), .int .i64 (b 3), .int .i64 (b 4), .int .i64 (b 5)] 60)) = w1 at *
  have C1 := Lib.hid (fun x => format_any l (.slice A l.length c) b (later w1 x) (by omega) (Sl.keep hps (later_below w1 x)) hn)
  have C2 := Lib.hid (fun x => rformat_any l (.slice A l.length c) b (later w1 x) (by omega) (Sl.keep hps (later_below w1 x)) hn)
  have q : ((fmtS b l).toList == (fmtS b l).toList) = true := beq_self_eq_true _
  generalize fmtS b l = s at *
  clear hps hn K0
  unfold arr at C1 C2
  refine wp_region_later (by kernel_rfl) (by kernel_rfl) ?_
  repeat (quiet_step (first
    | (go_at_call 54; exact calls_later (C1.out _))
    | (go_at_call 55; exact calls_later (C2.out _))
    | (go_at_call 42; exact calls_later (AW.out _))))
  refine wpQuiet_nil ?_
  rintro _ ⟨x, rfl⟩
  go_wp2
  go_ret
  exact ⟨rfl, chain0 HB.out (later_below _ _)⟩
theorem law_formats (l : List Prod) (v : Value) (b : Nat → Int) (w : World) (h : PS w v l) (hn : ∀ p ∈ l, p.name.size ≤ maxLen) : Calls Try.prog 11 #[v, .agg (arr b)] w fun e w' => e = .returned (.bool true) ∧ Below w.heap.size w w' := by
  by_cases hl : l.length ≤ 100
  · exact law_formats_short l v b w h hn hl
  · exact law_formats_long l v b w h hn (by omega)
set_option maxHeartbeats 2000000 in
set_option maxRecDepth 100000 in
theorem law_parses_long (l : List Prod) (v : Value) (s : ByteArray) (w : World) (h : PS w v l) (hn : ∀ p ∈ l, p.name.size ≤ maxLen) (hl : 100 < l.length) : Calls Try.prog 12 #[v, .string s] w fun e w' => e = .returned (.bool true) ∧ Below w.heap.size w w' := by
  have AW := Lib.hid awake_any
  have hd : decide ((100 : Int) < (l.length : Int)) = true := by simp; omega
  obtain ⟨A, c, rfl, _, _, _⟩ := ps_cases h
  clear h hn
  go_enter Try.func12, Try.ntmps12
  go_wp2_with fail
  refine (AW.out _).mono ?_
  rintro e w1 ⟨rfl, b1⟩
  have B1 := Lib.hid (chain0 (Below.refl _ _) b1)
  clear b1
  go_wp2_with fail
  go_ret
  exact ⟨rfl, B1.out⟩
set_option maxHeartbeats 2000000 in
set_option maxRecDepth 100000 in
theorem law_parses_big (l : List Prod) (v : Value) (s : ByteArray) (w : World) (h : PS w v l) (hn : ∀ p ∈ l, p.name.size ≤ maxLen) (hl : l.length ≤ 100) (hs : 5000 < s.size) : Calls Try.prog 12 #[v, .string s] w fun e w' => e = .returned (.bool true) ∧ Below w.heap.size w w' := by
  have AW := Lib.hid awake_any
  have hd : decide ((100 : Int) < (l.length : Int)) = false := by simp; omega
  have hd2 : decide ((5000 : Int) < (s.size : Int)) = true := by simp; omega
  obtain ⟨A, c, rfl, _, _, _⟩ := ps_cases h
  clear h hn
  go_enter Try.func12, Try.ntmps12
  go_wp2_with fail
  refine (AW.out _).mono ?_
  rintro e w1 ⟨rfl, b1⟩
  have B1 := Lib.hid (chain0 (Below.refl _ _) b1)
  clear b1
  go_wp2_with fail
  go_ret
  exact ⟨rfl, B1.out⟩
set_option maxHeartbeats 2000000 in
set_option maxRecDepth 100000 in
theorem law_parses_short (l : List Prod) (v : Value) (s : ByteArray) (w : World) (h : PS w v l) (hn : ∀ p ∈ l, p.name.size ≤ maxLen) (hl : l.length ≤ 100) (hs : s.size ≤ 5000) : Calls Try.prog 12 #[v, .string s] w fun e w' => e = .returned (.bool true) ∧ Below w.heap.size w w' := by
  have AW := Lib.hid awake_any
  have hd : decide ((100 : Int) < (l.length : Int)) = false := by simp; omega
  have hd2 : decide ((5000 : Int) < (s.size : Int)) = false := by simp; omega
  obtain ⟨A, c, rfl, _, _, _⟩ := ps_cases h
  have C1 := Lib.hid (fun w' (k : Below w.heap.size w w') => parse_any l (.slice A l.length c) s w' (by omega) (Sl.keep h k) hn hs)
  have C2 := Lib.hid (fun w' (k : Below w.heap.size w w') => rparse_any l (.slice A l.length c) s w' (by omega) (Sl.keep h k) hn hs)
  have q := eq27_self (parseF l s).1
  generalize parseF l s = r at *
  obtain ⟨p, e5⟩ := r
  clear h hn
  unfold ParsePost at C1 C2
  dsimp only at C1 C2 q
  unfold arr at C1 C2 q
  go_enter Try.func12, Try.ntmps12
  go_wp2_with fail
  refine (C1.out _ (Below.refl _ _)).mono ?_
  rintro e w1 ⟨rfl, b1⟩
  have B1 := Lib.hid (chain0 (Below.refl _ _) b1)
  have K1 := Lib.hid (box_new w1 p 60)
  clear b1
  go_wp2_with fail
  refine (C2.out _ (B1.out.alloc B1.out.size _)).mono ?_
  rintro e w2 ⟨rfl, b2⟩
  have B2 := Lib.hid (chain1 B1.out b2)
  have K2 := Lib.hid (K1.out.below b2 K1.out.lt)
  have K3 := Lib.hid (K2.out.alloc (.cells #[.int .i64 (p 0), .int .i64 (p 1), .int .i64 (p 2), .int .i64 (p 3), .int .i64 (p 4), .int .i64 (p 5)] 60))
  have K4 := Lib.hid (box_new w2 p 60)
  obtain ⟨c0, c1, c2, c3, c4, c5⟩ := K2.out.cells
  have g2 := K2.out.lt
  clear b2
  go_wp2_with fail
  refine (AW.out _).mono ?_
  rintro e w3 ⟨rfl, b3⟩
  have B3 := Lib.hid (chain1 B2.out b3)
  clear b3
  go_wp2_with fail
  go_ret
  exact ⟨rfl, B3.out⟩
theorem law_parses (l : List Prod) (v : Value) (s : ByteArray) (w : World) (h : PS w v l) (hn : ∀ p ∈ l, p.name.size ≤ maxLen) : Calls Try.prog 12 #[v, .string s] w fun e w' => e = .returned (.bool true) ∧ Below w.heap.size w w' := by
  by_cases hl : l.length ≤ 100
  · by_cases hs : s.size ≤ 5000
    · exact law_parses_short l v s w h hn hl hs
    · exact law_parses_big l v s w h hn hl (by omega)
  · exact law_parses_long l v s w h hn (by omega)
set_option maxHeartbeats 2000000 in
set_option maxRecDepth 100000 in
theorem law_round_long (l : List Prod) (v : Value) (b : Nat → Int) (w : World) (h : PS w v l) (hn : ∀ p ∈ l, p.name.size ≤ maxLen) (hl : 100 < l.length) : Calls Try.prog 13 #[v, .agg (arr b)] w fun e w' => e = .returned (.bool true) ∧ Below w.heap.size w w' := by
  have AW := Lib.hid awake_any
  have hd : decide ((100 : Int) < (l.length : Int)) = true := by simp; omega
  obtain ⟨A, c, rfl, _, _, _⟩ := ps_cases h
  clear h hn
  unfold arr
  go_enter Try.func13, Try.ntmps13
  go_wp2_with fail
  refine (AW.out _).mono ?_
  rintro e w1 ⟨rfl, b1⟩
  have B1 := Lib.hid (chain1 (Below.refl _ _) b1)
  clear b1
  go_wp2_with fail
  go_ret
  exact ⟨rfl, B1.out⟩
set_option maxHeartbeats 2000000 in
set_option maxRecDepth 100000 in
theorem law_round_no (l : List Prod) (v : Value) (b : Nat → Int) (w : World) (h : PS w v l) (hn : ∀ p ∈ l, p.name.size ≤ maxLen) (hl : l.length ≤ 100) (hf : rfitsB b l = false) : Calls Try.prog 13 #[v, .agg (arr b)] w fun e w' => e = .returned (.bool true) ∧ Below w.heap.size w w' := by
  have AW := Lib.hid awake_any
  have hd : decide ((100 : Int) < (l.length : Int)) = false := by simp; omega
  obtain ⟨A, c, rfl, _, _, _⟩ := ps_cases h
  have C1 : Hid (∀ w', Below w.heap.size w w' → Calls Try.prog 58 #[.slice A l.length c, .agg (arr b)] w' fun e w2 => e = .returned (.bool false) ∧ Below w'.heap.size w' w2) := fun w' k => by
    rw [← hf]
    exact rfits_any l (.slice A l.length c) b w' (by omega) (Sl.keep h k) hn
  have K0 := Lib.hid (box_new w b 60)
  clear h hn hf
  unfold arr at C1
  unfold arr
  go_enter Try.func13, Try.ntmps13
  go_wp2_with fail
  refine (C1.out _ (below_new _ _)).mono ?_
  rintro e w1 ⟨rfl, b1⟩
  have B1 := Lib.hid (chain1 (Below.refl _ _) b1)
  clear b1
  go_wp2_with fail
  refine (AW.out _).mono ?_
  rintro e w2 ⟨rfl, b2⟩
  have B2 := Lib.hid (chain0 B1.out b2)
  clear b2
  go_wp2_with fail
  go_ret
  exact ⟨rfl, B2.out⟩
set_option maxHeartbeats 2000000 in
set_option maxRecDepth 100000 in
theorem law_round_yes (l : List Prod) (v : Value) (b : Nat → Int) (w : World) (h : PS w v l) (hn : ∀ p ∈ l, p.name.size ≤ maxLen) (hl : l.length ≤ 100) (hf : rfitsB b l = true) : Calls Try.prog 13 #[v, .agg (arr b)] w fun e w' => e = .returned (.bool true) ∧ Below w.heap.size w w' := by
  have AW := Lib.hid awake_any
  have hd : decide ((100 : Int) < (l.length : Int)) = false := by simp; omega
  obtain ⟨A, c, rfl, _, _, _⟩ := ps_cases h
  have C1 : Hid (∀ w', Below w.heap.size w w' → Calls Try.prog 58 #[.slice A l.length c, .agg (arr b)] w' fun e w2 => e = .returned (.bool true) ∧ Below w'.heap.size w' w2) := fun w' k => by
    rw [← hf]
    exact rfits_any l (.slice A l.length c) b w' (by omega) (Sl.keep h k) hn
  have K0 := Lib.hid (box_new w b 60)
  have hm : (fmtS b l).size ≤ 5000 := by
    have := fmt_size b l hf
    omega
  have C2 := Lib.hid (fun w' (k : Below w.heap.size w w') => format_any l (.slice A l.length c) b w' (by omega) (Sl.keep h k) hn)
  have C3 := Lib.hid (fun w' (k : Below w.heap.size w w') => parse_any l (.slice A l.length c) (fmtS b l) w' (by omega) (Sl.keep h k) hn hm)
  obtain ⟨r1, r2⟩ := roundtrip l b hf
  have q := eq27 (parseF l (fmtS b l)).1 b
  rw [r2] at q
  generalize parseF l (fmtS b l) = r at *
  obtain ⟨p, e5⟩ := r
  dsimp only at r1
  subst r1
  clear r2 hm
  generalize fmtS b l = s at *
  clear h hn hf
  unfold ParsePost at C3
  dsimp only at C3 q
  unfold arr at C1 C2 C3 q
  unfold arr
  go_enter Try.func13, Try.ntmps13
  go_wp2_with fail
  refine (C1.out _ (below_new _ _)).mono ?_
  rintro e w1 ⟨rfl, b1⟩
  have B1 := Lib.hid (chain1 (Below.refl _ _) b1)
  have K1 := Lib.hid (K0.out.below b1 K0.out.lt)
  obtain ⟨K10, K11, K12, K13, K14, K15⟩ := K1.out.cells
  have Kg1 := K1.out.lt
  clear b1 K0
  go_wp2_with fail
  refine (C2.out _ B1.out).mono ?_
  rintro e w2 ⟨rfl, b2⟩
  have B2 := Lib.hid (chain0 B1.out b2)
  have K2 := Lib.hid (K1.out.below b2 K1.out.lt)
  obtain ⟨K20, K21, K22, K23, K24, K25⟩ := K2.out.cells
  have Kg2 := K2.out.lt
  clear b2 K1
  go_wp2_with fail
  refine (C3.out _ B2.out).mono ?_
  rintro e w3 ⟨rfl, b3⟩
  have B3 := Lib.hid (chain0 B2.out b3)
  have K3 := Lib.hid (K2.out.below b3 K2.out.lt)
  obtain ⟨K30, K31, K32, K33, K34, K35⟩ := K3.out.cells
  have Kg3 := K3.out.lt
  have M3 := Lib.hid (box_new w3 p 60)
  clear b3 K2
  go_wp2_with fail
  refine (AW.out _).mono ?_
  rintro e w4 ⟨rfl, b4⟩
  have B4 := Lib.hid (chain1 B3.out b4)
  clear b4
  go_wp2_with fail
  go_ret
  exact ⟨rfl, B4.out⟩
theorem law_round (l : List Prod) (v : Value) (b : Nat → Int) (w : World) (h : PS w v l) (hn : ∀ p ∈ l, p.name.size ≤ maxLen) : Calls Try.prog 13 #[v, .agg (arr b)] w fun e w' => e = .returned (.bool true) ∧ Below w.heap.size w w' := by
  by_cases hl : l.length ≤ 100
  · cases hf : rfitsB b l with
    | false => exact law_round_no l v b w h hn hl hf
    | true => exact law_round_yes l v b w h hn hl hf
  · exact law_round_long l v b w h hn (by omega)
end Cat
end Go.Proofs.Ytabkaaapkcadhaa
