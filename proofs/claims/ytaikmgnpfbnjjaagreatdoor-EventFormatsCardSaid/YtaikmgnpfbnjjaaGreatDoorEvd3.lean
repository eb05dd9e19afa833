/- The walk of EventFormats. Printed by gen_evd3.py. -/
import Derived.Test.YtaikmgnpfbnjjaaGreatDoorEve2
import Derived.Test.YtaikmgnpfbnjjaaGreatDoorPw13
namespace Go.Proofs.YtaikmgnpfbnjjaaGreatDoor.Ev
open Go.ChangeShapes Go.WideShapes Go.ChangeAt Go.RowKit Gn Cat Lex Ros Se
set_option linter.unusedVariables false
set_option linter.unusedSimpArgs false
attribute [local go_sem] later_cell
set_option maxHeartbeats 4000000 in
set_option maxRecDepth 100000 in
theorem law_formats (S : SetD) (e : Evt) (v1 v2 v3 v4 : Value) (w : World) (h : SetO w v1 v2 v3 v4 S) (he : EvO e) (hsh : Sh w) : Calls Tryz.prog 6 #[.agg #[v1, v2, v3, v4], e.val] w (TrueP w) := by
  have HAW := Lib.hid (fun W (b : Below w.heap.size w W) => awake_any W (sh_keep hsh b))
  obtain ⟨A1, c1, A2, c2, A3, c3, A4, c4, rfl, rfl, rfl, rfl⟩ := h.forms
  have CG := Lib.hid (few_any A1 A2 A3 A4 S.ps.length S.bs.length S.cs.length S.ad.length c1 c2 c3 c4)
  have C2 := Lib.hid (fun (ht : e.text.size ≤ 5000) (hl : fewB S.ps.length S.bs.length S.cs.length S.ad.length = true) => fun W (b : Below w.heap.size w W) => format_any S e _ _ _ _ W ((h.setW (by have := few_yes hl; omega)).keep b) (sh_keep hsh b) ht he.digest)
  have C3 := Lib.hid (fun (ht : e.text.size ≤ 5000) (hl : fewB S.ps.length S.bs.length S.cs.length S.ad.length = true) => fun W (b : Below w.heap.size w W) => rformatE_any S e _ _ _ _ W ((h.setW (by have := few_yes hl; omega)).keep b) (sh_keep hsh b) ht he.digest)
  generalize formatV S e = L at *
  obtain ⟨k, b, r, p, t, d⟩ := e
  unfold Evt.val at *
  dsimp only at *
  have M0 := Lib.hid (fm_new w #[.slice A1 S.ps.length c1, .slice A2 S.bs.length c2, .slice A3 S.cs.length c3, .slice A4 S.ad.length c4] (cells11 k b r p t d))
  clear h he hsh
  have e1 := eqS_yes (rfl : L = L)
  go_enter Tryz.func6, Tryz.ntmps6
  go_wp2_with fail
  generalize (w.alloc (.cells #[.slice A1 S.ps.length c1, .slice A2 S.bs.length c2, .slice A3 S.cs.length c3, .slice A4 S.ad.length c4] 42)).alloc (.cells #[.int .i64 k, .int .i64 b, .int .i64 r, .int .i64 (p 0), .int .i64 (p 1), .int .i64 (p 2), .int .i64 (p 3), .int .i64 (p 4), .int .i64 (p 5), .string t, .int .u64 (d : Int)] 26) = w0 at *
  generalize w.heap.size + 1 = ge at *
  have su := M0.out.su.c4
  have lu := M0.out.su.lt
  have se := Blk11 M0.out.ev
  have le := M0.out.ev.lt
  have BL := Lib.hid (fun y => M0.out.bl.trans ((later_below w0 y).mono M0.out.bl.size))
  have F1 := Lib.hid (fun y => CG.out (later w0 y))
  have F4 := Lib.hid (fun y => HAW.out (later w0 y) (BL.out y))
  cases hfw : fewB S.ps.length S.bs.length S.cs.length S.ad.length with
  | false =>
    rw [hfw] at F1
    clear hfw C2 C3 CG HAW
    refine wp_region_later (by kernel_rfl) (by kernel_rfl) ?_
    repeat (first | go_big_quiet_step (first | (go_at_call 18; exact calls_later (F1.out _))) | quiet_step (first | (go_at_call 18; exact calls_later (F1.out _))))
    refine wpQuiet_nil ?_
    rintro _ ⟨y, rfl⟩
    go_wp2_with fail
    go_ret
    exact ⟨rfl, BL.out y⟩
  | true =>
    rw [hfw] at F1
    by_cases ht : 5000 < t.size
    · have dt : decide ((5000 : Int) < (t.size : Int)) = true := decide_eq_true (by omega)
      clear ht hfw C2 C3 CG HAW
      refine wp_region_later (by kernel_rfl) (by kernel_rfl) ?_
      repeat (first | go_big_quiet_step (first | (go_at_call 18; exact calls_later (F1.out _))) | quiet_step (first | (go_at_call 18; exact calls_later (F1.out _))))
      refine wpQuiet_nil ?_
      rintro _ ⟨y, rfl⟩
      go_wp2_with fail
      go_ret
      exact ⟨rfl, BL.out y⟩
    · have dt : decide ((5000 : Int) < (t.size : Int)) = false := decide_eq_false (by omega)
      have F2 := Lib.hid (fun y => C2.out (by omega) hfw (later w0 y) (BL.out y))
      have F3 := Lib.hid (fun y => C3.out (by omega) hfw (later w0 y) (BL.out y))
      clear ht hfw C2 C3 CG HAW
      refine wp_region_later (by kernel_rfl) (by kernel_rfl) ?_
      repeat (first | go_big_quiet_step (first | (go_at_call 18; exact calls_later (F1.out _)) | (go_at_call 19; exact calls_later (F2.out _)) | (go_at_call 20; exact calls_later (F3.out _)) | (go_at_call 13; exact calls_later (F4.out _))) | quiet_step (first | (go_at_call 18; exact calls_later (F1.out _)) | (go_at_call 19; exact calls_later (F2.out _)) | (go_at_call 20; exact calls_later (F3.out _)) | (go_at_call 13; exact calls_later (F4.out _))))
      refine wpQuiet_nil ?_
      rintro _ ⟨y, rfl⟩
      go_wp2_with fail
      go_ret
      exact ⟨rfl, BL.out y⟩
end Go.Proofs.YtaikmgnpfbnjjaaGreatDoor.Ev
