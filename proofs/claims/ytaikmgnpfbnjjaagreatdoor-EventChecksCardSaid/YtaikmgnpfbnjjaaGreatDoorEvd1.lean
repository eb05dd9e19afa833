/- The walks of EventChecks, EventEncodes. Printed by gen_evd1.py. -/
import Derived.Test.YtaikmgnpfbnjjaaGreatDoorEvc1
import Derived.Test.YtaikmgnpfbnjjaaGreatDoorPw13
namespace Go.Proofs.YtaikmgnpfbnjjaaGreatDoor.Ev
open Go.ChangeShapes Go.WideShapes Go.ChangeAt Go.RowKit Gn Cat Lex Ros Se
set_option linter.unusedVariables false
set_option linter.unusedSimpArgs false
attribute [local go_sem] later_cell
set_option maxHeartbeats 4000000 in
set_option maxRecDepth 100000 in
theorem law_checks (e : Evt) (w : World) (he : EvO e) (hsh : Sh w) : Calls Tryz.prog 3 #[e.val] w (TrueP w) := by
  have HAW := Lib.hid (fun W (b : Below w.heap.size w W) => awake_any W (sh_keep hsh b))
  have C1 := Lib.hid (fun ht W => check_any e W ht he.digest)
  have C2 := Lib.hid (fun ht W => rcheckE_any e W ht he.digest)
  have C3 := Lib.hid (fun W => name_any e.kind W)
  have C4 := Lib.hid (fun W => rname_any e.kind W)
  generalize checkV e = ck at *
  generalize nameK e.kind = nk at *
  obtain ⟨k, b, r, p, t, d⟩ := e
  unfold Evt.val at *
  dsimp only at *
  have K0 := Lib.hid (Blk.new w 26 (cells11 k b r p t d))
  have B0 := Lib.hid (below_new w (.cells (cells11 k b r p t d) 26))
  clear he hsh
  go_enter Tryz.func3, Tryz.ntmps3
  go_wp2_with fail
  generalize w.alloc (.cells #[.int .i64 k, .int .i64 b, .int .i64 r, .int .i64 (p 0), .int .i64 (p 1), .int .i64 (p 2), .int .i64 (p 3), .int .i64 (p 4), .int .i64 (p 5), .string t, .int .u64 (d : Int)] 26) = w0 at *
  have q0 := Blk11 K0.out
  have l0 := K0.out.lt
  have F3 := Lib.hid (fun y => C3.out (later w0 y))
  have F4 := Lib.hid (fun y => C4.out (later w0 y))
  have F5 := Lib.hid (fun y => HAW.out (later w0 y) (B0.out.trans ((later_below w0 y).mono B0.out.size)))
  have BL := Lib.hid (fun y => B0.out.trans ((later_below w0 y).mono B0.out.size))
  have e1 : (ck == ck) = true := by simp
  have e2 := eqS_yes (rfl : nk = nk)
  by_cases ht : 5000 < t.size
  · have dt : decide ((5000 : Int) < (t.size : Int)) = true := decide_eq_true (by omega)
    clear ht
    refine wp_region_later (by kernel_rfl) (by kernel_rfl) ?_
    repeat (first | go_big_quiet_step (fail) | quiet_step (fail))
    refine wpQuiet_nil ?_
    rintro _ ⟨y, rfl⟩
    go_wp2_with fail
    go_ret
    exact ⟨rfl, BL.out y⟩
  · have dt : decide ((5000 : Int) < (t.size : Int)) = false := decide_eq_false (by omega)
    have F1 := Lib.hid (fun y => C1.out (by omega) (later w0 y))
    have F2 := Lib.hid (fun y => C2.out (by omega) (later w0 y))
    clear ht C1 C2 C3 C4
    refine wp_region_later (by kernel_rfl) (by kernel_rfl) ?_
    repeat (first | go_big_quiet_step (first | (go_at_call 9; exact calls_later (F1.out _)) | (go_at_call 10; exact calls_later (F2.out _)) | (go_at_call 11; exact calls_later (F3.out _)) | (go_at_call 12; exact calls_later (F4.out _)) | (go_at_call 13; exact calls_later (F5.out _))) | quiet_step (first | (go_at_call 9; exact calls_later (F1.out _)) | (go_at_call 10; exact calls_later (F2.out _)) | (go_at_call 11; exact calls_later (F3.out _)) | (go_at_call 12; exact calls_later (F4.out _)) | (go_at_call 13; exact calls_later (F5.out _))))
    refine wpQuiet_nil ?_
    rintro _ ⟨y, rfl⟩
    go_wp2_with fail
    go_ret
    exact ⟨rfl, BL.out y⟩
set_option maxHeartbeats 4000000 in
set_option maxRecDepth 100000 in
theorem law_encodes (e : Evt) (w : World) (he : EvO e) (hsh : Sh w) : Calls Tryz.prog 4 #[e.val] w (TrueP w) := by
  have HAW := Lib.hid (fun W (b : Below w.heap.size w W) => awake_any W (sh_keep hsh b))
  have C1 := Lib.hid (fun ht W => encode_any e W ht he.digest)
  have C2 := Lib.hid (fun ht W => rencode_any e W ht he.digest)
  generalize encodeV e = q at *
  obtain ⟨q1, q2⟩ := q
  obtain ⟨k, b, r, p, t, d⟩ := e
  unfold Evt.val at *
  dsimp only at *
  have K0 := Lib.hid (Blk.new w 26 (cells11 k b r p t d))
  have B0 := Lib.hid (below_new w (.cells (cells11 k b r p t d) 26))
  clear he hsh
  go_enter Tryz.func4, Tryz.ntmps4
  have e1 := eqS_yes (rfl : q1 = q1)
  have e2 : (q2 == q2) = true := by simp
  by_cases ht : 5000 < t.size
  · have dt : decide ((5000 : Int) < (t.size : Int)) = true := decide_eq_true (by omega)
    clear ht
    go_wp2_with fail
    refine (HAW.out _ B0.out).mono ?_
    rintro x w1 ⟨rfl, d1⟩
    go_wp2_with fail
    go_ret
    exact ⟨rfl, chain1 (Below.refl _ _) d1⟩
  · have dt : decide ((5000 : Int) < (t.size : Int)) = false := decide_eq_false (by omega)
    have D1 := Lib.hid (C1.out (by omega))
    have D2 := Lib.hid (C2.out (by omega))
    clear ht C1 C2
    go_wp2_with fail
    refine (D1.out _).mono ?_
    rintro x w1 ⟨rfl, d1⟩
    have K1 := Lib.hid (K0.out.below' d1)
    have B1 := Lib.hid (chain1 (Below.refl _ _) d1)
    clear d1 K0 B0
    have k1 := Blk11 K1.out
    have l1 := K1.out.lt
    go_wp2_with fail
    refine (D2.out _).mono ?_
    rintro x w2 ⟨rfl, d2⟩
    have B2 := Lib.hid (chain0 B1.out d2)
    clear d2
    go_wp2_with fail
    refine (HAW.out _ B2.out).mono ?_
    rintro x w3 ⟨rfl, d3⟩
    go_wp2_with fail
    go_ret
    exact ⟨rfl, chain0 B2.out d3⟩
end Go.Proofs.YtaikmgnpfbnjjaaGreatDoor.Ev
