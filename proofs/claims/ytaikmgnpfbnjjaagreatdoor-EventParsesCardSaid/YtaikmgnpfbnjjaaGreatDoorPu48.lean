/- The walk of EventParses. Printed by gen_evd4.py. -/
import Derived.Test.YtaikmgnpfbnjjaaGreatDoorPu38
import Derived.Test.YtaikmgnpfbnjjaaGreatDoorPu43
import Derived.Test.YtaikmgnpfbnjjaaGreatDoorPu47
namespace Go.Proofs.YtaikmgnpfbnjjaaGreatDoor.Ev
open Go.ChangeShapes Go.WideShapes Go.ChangeAt Go.RowKit Gn Cat Lex Ros Se
set_option linter.unusedVariables false
set_option linter.unusedSimpArgs false
set_option maxHeartbeats 4000000 in
set_option maxRecDepth 100000 in
theorem law_parses (S : SetD) (s : ByteArray) (v1 v2 v3 v4 : Value) (w : World) (h : SetO w v1 v2 v3 v4 S) (hsh : Sh w) : Calls Tryz.prog 7 #[.agg #[v1, v2, v3, v4], .string s] w (TrueP w) := by
  have HAW := Lib.hid (fun W (b : Below w.heap.size w W) => awake_any W (sh_keep hsh b))
  obtain ⟨A1, c1, A2, c2, A3, c3, A4, c4, rfl, rfl, rfl, rfl⟩ := h.forms
  have CG := Lib.hid (few_any A1 A2 A3 A4 S.ps.length S.bs.length S.cs.length S.ad.length c1 c2 c3 c4)
  have C1 := Lib.hid (fun (hs : s.size ≤ 5000) (hl : fewB S.ps.length S.bs.length S.cs.length S.ad.length = true) => fun W (b : Below w.heap.size w W) => parse_any S s _ _ _ _ W ((h.setW (by have := few_yes hl; omega)).keep b) (sh_keep hsh b) hs)
  have C2 := Lib.hid (fun (hs : s.size ≤ 5000) (hl : fewB S.ps.length S.bs.length S.cs.length S.ad.length = true) => fun W (b : Below w.heap.size w W) => rparseE_any S s _ _ _ _ W ((h.setW (by have := few_yes hl; omega)).keep b) hs)
  generalize parseV S s = q at *
  obtain ⟨e, xe⟩ := q
  have EQ := fun W => eq_evt e e W
  rw [evEq_refl] at EQ
  obtain ⟨k, b, r, p, t, d⟩ := e
  unfold ParseP Evt.val at *
  dsimp only at *
  have e1 : (xe == xe) = true := by simp
  have K0 := Lib.hid (Blk.new w 42 #[.slice A1 S.ps.length c1, .slice A2 S.bs.length c2, .slice A3 S.cs.length c3, .slice A4 S.ad.length c4])
  have B0 := Lib.hid (below_new w (.cells #[.slice A1 S.ps.length c1, .slice A2 S.bs.length c2, .slice A3 S.cs.length c3, .slice A4 S.ad.length c4] 42))
  clear h hsh
  go_enter Tryz.func7, Tryz.ntmps7
  go_wp2_with fail
  refine (CG.out _).mono ?_
  rintro x w1 ⟨rfl, d1⟩
  have K1 := Lib.hid (K0.out.below' d1)
  have B1 := Lib.hid (chain0 B0.out d1)
  clear d1 K0 B0
  have su := K1.out.c4
  have lu := K1.out.lt
  cases hfw : fewB S.ps.length S.bs.length S.cs.length S.ad.length with
  | false =>
    go_wp2_with fail
    refine (HAW.out _ B1.out).mono ?_
    rintro x w9 ⟨rfl, d9⟩
    go_wp2_with fail
    go_ret
    exact ⟨rfl, chain0 B1.out d9⟩
  | true =>
    by_cases hs : 5000 < s.size
    · have hd : decide ((5000 : Int) < (s.size : Int)) = true := decide_eq_true (by omega)
      clear hs C1 C2 hfw
      go_wp2_with fail
      refine (HAW.out _ B1.out).mono ?_
      rintro x w9 ⟨rfl, d9⟩
      go_wp2_with fail
      go_ret
      exact ⟨rfl, chain0 B1.out d9⟩
    have hd : decide ((5000 : Int) < (s.size : Int)) = false := decide_eq_false (by omega)
    have D1 := Lib.hid (C1.out (by omega) hfw)
    have D2 := Lib.hid (C2.out (by omega) hfw)
    clear hs C1 C2 hfw
    go_wp2_with fail
    refine (D1.out _ B1.out).mono ?_
    rintro x w2 ⟨rfl, d2⟩
    have K2 := Lib.hid ((K1.out.below' d2).alloc (.cells #[.int .i64 k, .int .i64 b, .int .i64 r, .int .i64 (p 0), .int .i64 (p 1), .int .i64 (p 2), .int .i64 (p 3), .int .i64 (p 4), .int .i64 (p 5), .string t, .int .u64 (d : Int)] 26))
    have E2 := Lib.hid (Blk.new w2 26 #[.int .i64 k, .int .i64 b, .int .i64 r, .int .i64 (p 0), .int .i64 (p 1), .int .i64 (p 2), .int .i64 (p 3), .int .i64 (p 4), .int .i64 (p 5), .string t, .int .u64 (d : Int)])
    have B2 := Lib.hid ((chain0 B1.out d2).alloc (chain0 B1.out d2).size (.cells #[.int .i64 k, .int .i64 b, .int .i64 r, .int .i64 (p 0), .int .i64 (p 1), .int .i64 (p 2), .int .i64 (p 3), .int .i64 (p 4), .int .i64 (p 5), .string t, .int .u64 (d : Int)] 26))
    clear d2 K1 B1 su lu
    go_upto_region 4 with fail
    generalize w2.alloc (.cells #[.int .i64 k, .int .i64 b, .int .i64 r, .int .i64 (p 0), .int .i64 (p 1), .int .i64 (p 2), .int .i64 (p 3), .int .i64 (p 4), .int .i64 (p 5), .string t, .int .u64 (d : Int)] 26) = w3 at *
    generalize w2.heap.size = g1 at *
    have su := K2.out.c4
    have lu := K2.out.lt
    go_wp2_with fail
    refine (D2.out _ B2.out).mono ?_
    rintro x w4 ⟨rfl, d4⟩
    have E4 := Lib.hid ((E2.out.below' d4).alloc (.cells #[.int .i64 k, .int .i64 b, .int .i64 r, .int .i64 (p 0), .int .i64 (p 1), .int .i64 (p 2), .int .i64 (p 3), .int .i64 (p 4), .int .i64 (p 5), .string t, .int .u64 (d : Int)] 26))
    have G4 := Lib.hid (Blk.new w4 26 #[.int .i64 k, .int .i64 b, .int .i64 r, .int .i64 (p 0), .int .i64 (p 1), .int .i64 (p 2), .int .i64 (p 3), .int .i64 (p 4), .int .i64 (p 5), .string t, .int .u64 (d : Int)])
    have B4 := Lib.hid ((chain0 B2.out d4).alloc (chain0 B2.out d4).size (.cells #[.int .i64 k, .int .i64 b, .int .i64 r, .int .i64 (p 0), .int .i64 (p 1), .int .i64 (p 2), .int .i64 (p 3), .int .i64 (p 4), .int .i64 (p 5), .string t, .int .u64 (d : Int)] 26))
    clear d4 K2 E2 B2 su lu
    go_upto_region 5 with fail
    generalize w4.alloc (.cells #[.int .i64 k, .int .i64 b, .int .i64 r, .int .i64 (p 0), .int .i64 (p 1), .int .i64 (p 2), .int .i64 (p 3), .int .i64 (p 4), .int .i64 (p 5), .string t, .int .u64 (d : Int)] 26) = w5 at *
    generalize w4.heap.size = g3 at *
    have k3 := Blk11 E4.out
    have l3 := E4.out.lt
    have m3 := Blk11 G4.out
    have n3 := G4.out.lt
    go_wp2_with fail
    refine (HAW.out _ B4.out).mono ?_
    rintro x w9 ⟨rfl, d9⟩
    go_wp2_with fail
    go_ret
    exact ⟨rfl, chain0 B4.out d9⟩
end Go.Proofs.YtaikmgnpfbnjjaaGreatDoor.Ev
