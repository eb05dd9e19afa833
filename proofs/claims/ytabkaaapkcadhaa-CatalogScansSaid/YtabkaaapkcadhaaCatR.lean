/- The examples of the chapter hold. Printed by gen_catR.py. -/
import Derived.Test.YtabkaaapkcadhaaCatQ
import Derived.Deep.RegionHeld3
import Derived.Deep.DrawnRows
namespace Go.Proofs.Ytabkaaapkcadhaa
open Go.ChangeShapes Go.WideShapes Go.ChangeAt Go.RowKit
set_option linter.unusedVariables false
set_option linter.unusedSimpArgs false
namespace Cat
open Lex
theorem two_alloc (w : World) (o : Obj) : Calls Try.prog 72 #[] (w.alloc o) fun e w' => e = .returned (twoV (w.heap.size + 1)) ∧ Below (w.alloc o).heap.size (w.alloc o) w' ∧ PS w' (twoV (w.heap.size + 1)) twoL := (two_any (w.alloc o)).mono fun e w' ⟨he, hb, hp⟩ => ⟨by rw [he, World.size_alloc], hb, by rwa [World.size_alloc] at hp⟩
attribute [local go_sem ↓] Go.wp_at_zero Go.wp_at_succ
set_option maxHeartbeats 8000000 in
set_option maxRecDepth 100000 in
theorem awake_any (w : World) : Calls Try.prog 42 #[] w fun e w' => e = .returned (.bool true) ∧ Below w.heap.size w w' := by
  have q1 := eq27 b12 b12
  have q2 := eq27 b22 b22
  have e1 : eq6 b12 b12 = true := by decide
  have e2 : eq6 b22 b22 = true := by decide
  rw [e1] at q1
  rw [e2] at q2
  have a1 : arr b12 = #[.int .i64 1, .int .i64 2, .int .i64 0, .int .i64 0, .int .i64 0, .int .i64 0] := rfl
  have a2 : arr b22 = #[.int .i64 2, .int .i64 2, .int .i64 0, .int .i64 0, .int .i64 0, .int .i64 0] := rfl
  rw [a1] at q1
  rw [a2] at q2
  clear a1 a2 e1 e2
  go_enter Try.func42, Try.ntmps42
  go_wp2_with fail
  refine (two_any _).mono ?_
  rintro e w1 ⟨rfl, d, p⟩
  have P := Lib.hid p
  have B1 := Lib.hid (chain0 (Below.refl _ _) d)
  clear d p
  go_wp2_with fail
  refine (p1_any _ _ P.out).mono ?_
  rintro e w2 ⟨rfl, d⟩
  have B2 := Lib.hid (chain0 B1.out d)
  have K2 := Lib.hid (Blk.new w2 60 #[.int .i64 1, .int .i64 2, .int .i64 0, .int .i64 0, .int .i64 0, .int .i64 0])
  clear d P B1
  go_wp2_with fail
  refine (two_alloc _ _).mono ?_
  rintro e w3 ⟨rfl, d, p⟩
  have P := Lib.hid p
  have B3 := Lib.hid (chain1 B2.out d)
  have K3 := Lib.hid (K2.out|>.below' d)
  clear d p K2 B2
  go_wp2_with fail
  refine (p2_any _ _ P.out).mono ?_
  rintro e w4 ⟨rfl, d⟩
  have B4 := Lib.hid (chain0 B3.out d)
  have K4 := Lib.hid (K3.out.below' d)
  clear d P K3 B3
  go_wp2_with fail
  refine (two_alloc _ _).mono ?_
  rintro e w5 ⟨rfl, d, p⟩
  have P := Lib.hid p
  have B5 := Lib.hid (chain1 B4.out d)
  have K5 := Lib.hid (K4.out.alloc (.cells #[.int .i64 0, .int .i64 0, .int .i64 0, .int .i64 0, .int .i64 0, .int .i64 0] 60)|>.below' d)
  clear d p K4 B4
  go_wp2_with fail
  refine (p3_any _ _ P.out).mono ?_
  rintro e w6 ⟨rfl, d⟩
  have B6 := Lib.hid (chain0 B5.out d)
  have K6 := Lib.hid (K5.out.below' d)
  clear d P K5 B5
  go_wp2_with fail
  refine (two_alloc _ _).mono ?_
  rintro e w7 ⟨rfl, d, p⟩
  have P := Lib.hid p
  have B7 := Lib.hid (chain1 B6.out d)
  have K7 := Lib.hid (K6.out.alloc (.cells #[.int .i64 0, .int .i64 0, .int .i64 0, .int .i64 0, .int .i64 0, .int .i64 0] 60)|>.below' d)
  clear d p K6 B6
  go_wp2_with fail
  refine (p4_any _ _ P.out).mono ?_
  rintro e w8 ⟨rfl, d⟩
  have B8 := Lib.hid (chain0 B7.out d)
  have K8 := Lib.hid (K7.out.below' d)
  clear d P K7 B7
  go_wp2_with fail
  refine (two_alloc _ _).mono ?_
  rintro e w9 ⟨rfl, d, p⟩
  have P := Lib.hid p
  have B9 := Lib.hid (chain1 B8.out d)
  have K9 := Lib.hid ((K8.out.alloc (.cells #[.int .i64 0, .int .i64 0, .int .i64 0, .int .i64 0, .int .i64 0, .int .i64 0] 60)).below' d)
  clear d p K8 B8
  go_wp2_with fail
  refine (f1_any _ _ P.out).mono ?_
  rintro e w10 ⟨rfl, d⟩
  have B := Lib.hid (chain0 B9.out d)
  have K := Lib.hid (K9.out.below' d)
  clear d P K9 B9
  generalize w2.heap.size = g at *
  have KD := Lib.hid K.out.drew
  have BD := Lib.hid B.out.drew
  have qq := KD.out.c6
  clear K B
  go_wp2_with fail
  go_region_held3 (fun w' => w'.cell? ⟨g, 0, none⟩ = some (.int .i64 1) ∧ w'.cell? ⟨g, 1, none⟩ = some (.int .i64 2) ∧ w'.cell? ⟨g, 2, none⟩ = some (.int .i64 0) ∧ w'.cell? ⟨g, 3, none⟩ = some (.int .i64 0) ∧ w'.cell? ⟨g, 4, none⟩ = some (.int .i64 0) ∧ w'.cell? ⟨g, 5, none⟩ = some (.int .i64 0)) (go_keep) (first | (go_at_call 72; refine (two_any _).mono ?_; rintro e wa ⟨rfl, d, p⟩; have P := Lib.hid p; replace BD := Lib.hid (chain0 BD.out d); replace KD := Lib.hid (KD.out.below' d); replace qq := KD.out.c6; clear d p) | (go_at_call 45; refine (c1_any _ _ P.out).mono ?_; rintro e wa ⟨rfl, d⟩; replace BD := Lib.hid (chain0 BD.out d); replace KD := Lib.hid (KD.out.below' d); replace qq := KD.out.c6; clear d P) | (go_at_call 50; refine (pt1_any _ _ P.out).mono ?_; rintro e wa ⟨rfl, d⟩; replace BD := Lib.hid (chain0 BD.out d); replace KD := Lib.hid (KD.out.below' d); replace qq := KD.out.c6; clear d P) | (go_at_call 51; refine (rs1_any _ _ P.out).mono ?_; rintro e wa ⟨rfl, d⟩; replace BD := Lib.hid (chain0 BD.out d); replace KD := Lib.hid (KD.out.below' d); replace qq := KD.out.c6; clear d P) | (go_at_call 52; refine (un1_any _ _ P.out).mono ?_; rintro e wa ⟨rfl, d⟩; replace BD := Lib.hid (chain0 BD.out d); replace KD := Lib.hid (KD.out.below' d); replace qq := KD.out.c6; clear d P) | (go_at_call 54; refine (fm1_any _ _ P.out).mono ?_; rintro e wa ⟨rfl, d⟩; replace BD := Lib.hid (chain0 BD.out d); replace KD := Lib.hid (KD.out.below' d); replace qq := KD.out.c6; clear d P) | (go_at_call 47; refine (sp1_any _ _ P.out).mono ?_; rintro e wa ⟨rfl, d⟩; replace BD := Lib.hid (chain0 BD.out d); replace KD := Lib.hid (KD.out.below' d); replace qq := KD.out.c6; clear d P))
  go_wp2_with fail
  go_ret
  exact ⟨rfl, BD.out⟩
end Cat
end Go.Proofs.Ytabkaaapkcadhaa
