/- The examples of the chapter hold. Printed by gen_seB.py. -/
import Derived.Test.YtjjlhihocllgjaaDoorSeA
namespace Go.Proofs.YtjjlhihocllgjaaDoor.Se
open Go.ChangeShapes Go.WideShapes Go.ChangeAt Go.RowKit Gn Cat Lex Ros
set_option linter.unusedVariables false
set_option linter.unusedSimpArgs false
attribute [local go_sem ↓] Go.wp_at_zero Go.wp_at_succ
set_option maxHeartbeats 8000000 in
set_option maxRecDepth 100000 in
theorem awake_any (w : World) (ht : Env w) : Calls Tryd.prog 18 #[] w fun e w' => e = .returned (.bool true) ∧ Below w.heap.size w w' := by
  have q1 := eq27 (n6 1) (n6 1)
  have e1 : eq6 (n6 1) (n6 1) = true := by decide
  rw [e1] at q1
  rw [arr_n6] at q1
  clear e1
  have HEN := Lib.hid (fun W (b : Below w.heap.size w W) => ht.keep b)
  go_enter Tryd.func18, Tryd.ntmps18
  go_wp2_with fail

  refine (small_any _).mono ?_
  rintro e w1 ⟨b1, b2, b3, rfl, d, p⟩
  have K2 := Lib.hid (Blk.new w1 43 #[.slice (some ⟨b1, 0, none⟩) 1 1, .slice (some ⟨b2, 0, none⟩) 2 2, .slice none 0 0, .slice (some ⟨b3, 0, none⟩) 1 1])
  have P2 := Lib.hid (p.keep (below_new w1 (.cells #[.slice (some ⟨b1, 0, none⟩) 1 1, .slice (some ⟨b2, 0, none⟩) 2 2, .slice none 0 0, .slice (some ⟨b3, 0, none⟩) 1 1] 43)))
  have B2 := Lib.hid (d.alloc d.size (.cells #[.slice (some ⟨b1, 0, none⟩) 1 1, .slice (some ⟨b2, 0, none⟩) 2 2, .slice none 0 0, .slice (some ⟨b3, 0, none⟩) 1 1] 43))
  clear d p
  go_wp2_with fail
  generalize w1.alloc (.cells #[.slice (some ⟨b1, 0, none⟩) 1 1, .slice (some ⟨b2, 0, none⟩) 2 2, .slice none 0 0, .slice (some ⟨b3, 0, none⟩) 1 1] 43) = w2 at *
  generalize w1.heap.size = g at *
  refine (e_format _ _ _ _ P2.out (HEN.out _ B2.out)).mono ?_
  rintro e w3 ⟨rfl, d⟩
  have K3 := Lib.hid (K2.out.below' d)
  have P3 := Lib.hid (P2.out.keep d)
  have B3 := Lib.hid (chain0 B2.out d)
  clear d K2 P2 B2
  go_wp2_with fail
  refine (e_parse1 _ (HEN.out _ B3.out)).mono ?_
  rintro e w4 ⟨⟨va1, vn1, vc1, va2, vn2, vc2, va3, vn3, vc3, va4, vn4, vc4, rfl⟩, d⟩
  have K4 := Lib.hid ((K3.out.below' d).alloc (.cells #[.slice va1 vn1 vc1, .slice va2 vn2 vc2, .slice va3 vn3 vc3, .slice va4 vn4 vc4] 43))
  have P4 := Lib.hid ((P3.out.keep d).keep (below_new w4 (.cells #[.slice va1 vn1 vc1, .slice va2 vn2 vc2, .slice va3 vn3 vc3, .slice va4 vn4 vc4] 43)))
  have B4 := Lib.hid ((chain0 B3.out d).alloc (chain0 B3.out d).size (.cells #[.slice va1 vn1 vc1, .slice va2 vn2 vc2, .slice va3 vn3 vc3, .slice va4 vn4 vc4] 43))
  clear d K3 P3 B3
  go_wp2_with fail
  generalize w4.alloc (.cells #[.slice va1 vn1 vc1, .slice va2 vn2 vc2, .slice va3 vn3 vc3, .slice va4 vn4 vc4] 43) = w5 at *
  generalize w4.heap.size = gx at *
  refine (e_parse2 _ (HEN.out _ B4.out)).mono ?_
  rintro e w6 ⟨⟨ua1, un1, uc1, ua2, un2, uc2, ua3, un3, uc3, ua4, un4, uc4, rfl⟩, d⟩
  have K6 := Lib.hid ((K4.out.below' d).alloc (.cells #[.slice ua1 un1 uc1, .slice ua2 un2 uc2, .slice ua3 un3 uc3, .slice ua4 un4 uc4] 43))
  have P6 := Lib.hid ((P4.out.keep d).keep (below_new w6 (.cells #[.slice ua1 un1 uc1, .slice ua2 un2 uc2, .slice ua3 un3 uc3, .slice ua4 un4 uc4] 43)))
  have B6 := Lib.hid ((chain0 B4.out d).alloc (chain0 B4.out d).size (.cells #[.slice ua1 un1 uc1, .slice ua2 un2 uc2, .slice ua3 un3 uc3, .slice ua4 un4 uc4] 43))
  have kg := (K4.out.below' d).c4
  have kl := (K4.out.below' d).lt
  clear d K4 P4 B4
  go_wp2_with fail
  clear kg kl
  generalize w6.alloc (.cells #[.slice ua1 un1 uc1, .slice ua2 un2 uc2, .slice ua3 un3 uc3, .slice ua4 un4 uc4] 43) = w7 at *
  generalize w6.heap.size = gy at *
  refine (e_open _ _ _ _ P6.out).mono ?_
  rintro e w8 ⟨rfl, d⟩
  have KO := Lib.hid (Blk.new w8 24 #[.int .i64 1, .int .i64 0, .int .i64 0, .int .i64 0, .int .i64 0, .int .i64 0])
  have hs8 : g < w8.heap.size := (K6.out.below' d).lt
  have kg := (K6.out.below' d).c4
  have K8 := Lib.hid (((K6.out.below' d).alloc (.cells #[.int .i64 1, .int .i64 0, .int .i64 0, .int .i64 0, .int .i64 0, .int .i64 0] 24)).alloc (.cells #[.int .i64 1, .int .i64 0, .int .i64 0, .int .i64 0, .int .i64 0, .int .i64 0] 24))
  have P8 := Lib.hid (((P6.out.keep d).keep (below_new w8 (.cells #[.int .i64 1, .int .i64 0, .int .i64 0, .int .i64 0, .int .i64 0, .int .i64 0] 24))).keep (below_new (w8.alloc (.cells #[.int .i64 1, .int .i64 0, .int .i64 0, .int .i64 0, .int .i64 0, .int .i64 0] 24)) (.cells #[.int .i64 1, .int .i64 0, .int .i64 0, .int .i64 0, .int .i64 0, .int .i64 0] 24)))
  have B8 := Lib.hid (((chain0 B6.out d).alloc (chain0 B6.out d).size (.cells #[.int .i64 1, .int .i64 0, .int .i64 0, .int .i64 0, .int .i64 0, .int .i64 0] 24)).alloc ((chain0 B6.out d).alloc (chain0 B6.out d).size (.cells #[.int .i64 1, .int .i64 0, .int .i64 0, .int .i64 0, .int .i64 0, .int .i64 0] 24)).size (.cells #[.int .i64 1, .int .i64 0, .int .i64 0, .int .i64 0, .int .i64 0, .int .i64 0] 24))
  have KO2 := Lib.hid (KO.out.alloc (.cells #[.int .i64 1, .int .i64 0, .int .i64 0, .int .i64 0, .int .i64 0, .int .i64 0] 24))
  have KC2 := Lib.hid (Blk.new (w8.alloc (.cells #[.int .i64 1, .int .i64 0, .int .i64 0, .int .i64 0, .int .i64 0, .int .i64 0] 24)) 24 #[.int .i64 1, .int .i64 0, .int .i64 0, .int .i64 0, .int .i64 0, .int .i64 0])
  rw [World.size_alloc] at KC2
  clear d K6 P6 B6 KO
  go_wp2_with fail
  clear kg hs8
  generalize (w8.alloc (.cells #[.int .i64 1, .int .i64 0, .int .i64 0, .int .i64 0, .int .i64 0, .int .i64 0] 24)).alloc (.cells #[.int .i64 1, .int .i64 0, .int .i64 0, .int .i64 0, .int .i64 0, .int .i64 0] 24) = w9 at *
  refine (e_allowed0 _ _ _ _ P8.out).mono ?_
  rintro e w10 ⟨rfl, d⟩
  have P10 := Lib.hid (P8.out.keep d)
  have B10 := Lib.hid (chain0 B8.out d)
  have K10 := Lib.hid (K8.out.below' d)
  have kg := K10.out.c4
  have kl := K10.out.lt
  clear d P8 B8 K8 KO2 KC2
  go_wp2_with fail
  clear kg kl
  refine (e_allowed1 _ _ _ _ P10.out).mono ?_
  rintro e w11 ⟨rfl, d⟩
  have P11 := Lib.hid (P10.out.keep d)
  have B11 := Lib.hid (chain0 B10.out d)
  have K11 := Lib.hid (K10.out.below' d)
  have kg := K11.out.c4
  have kl := K11.out.lt
  clear d P10 B10 K10
  go_wp2_with fail
  clear kg kl
  have BN : Hid (BunS (w11.alloc (.cells #[.int .i64 1, .int .i64 0, .int .i64 0, .int .i64 0, .int .i64 0, .int .i64 0, .int .i64 1, .int .i64 0, .int .i64 0, .int .i64 0, .int .i64 0, .int .i64 0] 24)) (.slice (some ⟨w11.heap.size, 0, none⟩) 2 2) [n6 1, n6 1]) := bun_blk (Blk.new w11 24 #[.int .i64 1, .int .i64 0, .int .i64 0, .int .i64 0, .int .i64 0, .int .i64 0, .int .i64 1, .int .i64 0, .int .i64 0, .int .i64 0, .int .i64 0, .int .i64 0])
  refine (e_feas _ _ _ _ _ (P11.out.keep (below_new w11 _)) BN.out).mono ?_
  rintro e w12 ⟨rfl, d⟩
  have P12 := Lib.hid ((P11.out.keep (below_new w11 (.cells #[.int .i64 1, .int .i64 0, .int .i64 0, .int .i64 0, .int .i64 0, .int .i64 0, .int .i64 1, .int .i64 0, .int .i64 0, .int .i64 0, .int .i64 0, .int .i64 0] 24))).keep d)
  have B12 := Lib.hid (chain1 B11.out d)
  have K12 := Lib.hid ((K11.out.alloc (.cells #[.int .i64 1, .int .i64 0, .int .i64 0, .int .i64 0, .int .i64 0, .int .i64 0, .int .i64 1, .int .i64 0, .int .i64 0, .int .i64 0, .int .i64 0, .int .i64 0] 24)).below' d)
  have kg := K12.out.c4
  have kl := K12.out.lt
  clear d P11 B11 K11 BN
  go_wp2_with fail
  clear kg kl
  have BN : Hid (BunS (w12.alloc (.cells #[.int .i64 1, .int .i64 0, .int .i64 0, .int .i64 0, .int .i64 0, .int .i64 0, .int .i64 0, .int .i64 0, .int .i64 0, .int .i64 0, .int .i64 0, .int .i64 0] 24)) (.slice (some ⟨w12.heap.size, 0, none⟩) 2 2) [n6 1, n6 0]) := bun_blk (Blk.new w12 24 #[.int .i64 1, .int .i64 0, .int .i64 0, .int .i64 0, .int .i64 0, .int .i64 0, .int .i64 0, .int .i64 0, .int .i64 0, .int .i64 0, .int .i64 0, .int .i64 0])
  refine (e_rest _ _ _ _ _ (P12.out.keep (below_new w12 _)) BN.out).mono ?_
  rintro e w13 ⟨rfl, d⟩
  have B13 := Lib.hid (chain1 B12.out d)
  clear d P12 B12 K12 BN
  go_wp2_with fail
  go_ret
  exact ⟨rfl, B13.out⟩
end Go.Proofs.YtjjlhihocllgjaaDoor.Se
