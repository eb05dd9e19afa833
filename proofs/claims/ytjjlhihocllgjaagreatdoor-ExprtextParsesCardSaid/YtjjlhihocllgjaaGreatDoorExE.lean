/- Contract of exprtext.operation. Printed by gen_exE.py. -/
import Derived.Test.YtjjlhihocllgjaaGreatDoorExA
import Derived.Laws.RangeString
namespace Go.Proofs.YtjjlhihocllgjaaGreatDoor.Ex
open Go.ChangeShapes Go.WideShapes Go.ChangeAt Go.RowKit Gn Cat Lex
set_option linter.unusedVariables false
set_option linter.unusedSimpArgs false
abbrev wXor : ByteArray := ⟨#[120, 111, 114]⟩
abbrev wOr : ByteArray := ⟨#[111, 114]⟩
abbrev wBonus : ByteArray := ⟨#[98, 111, 110, 117, 115]⟩
abbrev wLimit : ByteArray := ⟨#[108, 105, 109, 105, 116]⟩
/-- the operation with a name -/
def opW (s : ByteArray) : Int := if eqB wXor s then 2 else if eqB wOr s then 3 else if eqB wBonus s then 4 else if eqB wLimit s then 5 else 0
theorem lit_wXor (s : ByteArray) : eqB wXor s = ([120, 111, 114] == s.toList) := by
  show (wXor.toList == s.toList) = _
  rw [show wXor.toList = [120, 111, 114] by decide +kernel]
theorem lit_wOr (s : ByteArray) : eqB wOr s = ([111, 114] == s.toList) := by
  show (wOr.toList == s.toList) = _
  rw [show wOr.toList = [111, 114] by decide +kernel]
theorem lit_wBonus (s : ByteArray) : eqB wBonus s = ([98, 111, 110, 117, 115] == s.toList) := by
  show (wBonus.toList == s.toList) = _
  rw [show wBonus.toList = [98, 111, 110, 117, 115] by decide +kernel]
theorem lit_wLimit (s : ByteArray) : eqB wLimit s = ([108, 105, 109, 105, 116] == s.toList) := by
  show (wLimit.toList == s.toList) = _
  rw [show wLimit.toList = [108, 105, 109, 105, 116] by decide +kernel]
theorem cut_0 (W : World) : (Instr.slice 9 (.string (⟨#[120, 111, 114, 32, 111, 114, 32, 98, 111, 110, 117, 115, 32, 108, 105, 109, 105, 116, 32]⟩ : ByteArray)) (some (.int .i64 0)) (some (.int .i64 3)) none).run Tryz.prog W = .ok (.string ⟨#[120, 111, 114]⟩) W := by
  have h := run_slice_string (P := Tryz.prog) W 9 (⟨#[120, 111, 114, 32, 111, 114, 32, 98, 111, 110, 117, 115, 32, 108, 105, 109, 105, 116, 32]⟩ : ByteArray) .i64 .i64 0 3 (by kernel_rfl) (by omega) (by omega) (by show (3 : Int) ≤ 19; omega)
  rw [show (⟨#[120, 111, 114, 32, 111, 114, 32, 98, 111, 110, 117, 115, 32, 108, 105, 109, 105, 116, 32]⟩ : ByteArray).extract (0 : Int).toNat (3 : Int).toNat = ⟨#[120, 111, 114]⟩ by decide +kernel] at h
  exact h
theorem cut_1 (W : World) : (Instr.slice 9 (.string (⟨#[120, 111, 114, 32, 111, 114, 32, 98, 111, 110, 117, 115, 32, 108, 105, 109, 105, 116, 32]⟩ : ByteArray)) (some (.int .i64 4)) (some (.int .i64 6)) none).run Tryz.prog W = .ok (.string ⟨#[111, 114]⟩) W := by
  have h := run_slice_string (P := Tryz.prog) W 9 (⟨#[120, 111, 114, 32, 111, 114, 32, 98, 111, 110, 117, 115, 32, 108, 105, 109, 105, 116, 32]⟩ : ByteArray) .i64 .i64 4 6 (by kernel_rfl) (by omega) (by omega) (by show (6 : Int) ≤ 19; omega)
  rw [show (⟨#[120, 111, 114, 32, 111, 114, 32, 98, 111, 110, 117, 115, 32, 108, 105, 109, 105, 116, 32]⟩ : ByteArray).extract (4 : Int).toNat (6 : Int).toNat = ⟨#[111, 114]⟩ by decide +kernel] at h
  exact h
theorem cut_2 (W : World) : (Instr.slice 9 (.string (⟨#[120, 111, 114, 32, 111, 114, 32, 98, 111, 110, 117, 115, 32, 108, 105, 109, 105, 116, 32]⟩ : ByteArray)) (some (.int .i64 7)) (some (.int .i64 12)) none).run Tryz.prog W = .ok (.string ⟨#[98, 111, 110, 117, 115]⟩) W := by
  have h := run_slice_string (P := Tryz.prog) W 9 (⟨#[120, 111, 114, 32, 111, 114, 32, 98, 111, 110, 117, 115, 32, 108, 105, 109, 105, 116, 32]⟩ : ByteArray) .i64 .i64 7 12 (by kernel_rfl) (by omega) (by omega) (by show (12 : Int) ≤ 19; omega)
  rw [show (⟨#[120, 111, 114, 32, 111, 114, 32, 98, 111, 110, 117, 115, 32, 108, 105, 109, 105, 116, 32]⟩ : ByteArray).extract (7 : Int).toNat (12 : Int).toNat = ⟨#[98, 111, 110, 117, 115]⟩ by decide +kernel] at h
  exact h
theorem cut_3 (W : World) : (Instr.slice 9 (.string (⟨#[120, 111, 114, 32, 111, 114, 32, 98, 111, 110, 117, 115, 32, 108, 105, 109, 105, 116, 32]⟩ : ByteArray)) (some (.int .i64 13)) (some (.int .i64 18)) none).run Tryz.prog W = .ok (.string ⟨#[108, 105, 109, 105, 116]⟩) W := by
  have h := run_slice_string (P := Tryz.prog) W 9 (⟨#[120, 111, 114, 32, 111, 114, 32, 98, 111, 110, 117, 115, 32, 108, 105, 109, 105, 116, 32]⟩ : ByteArray) .i64 .i64 13 18 (by kernel_rfl) (by omega) (by omega) (by show (18 : Int) ≤ 19; omega)
  rw [show (⟨#[120, 111, 114, 32, 111, 114, 32, 98, 111, 110, 117, 115, 32, 108, 105, 109, 105, 116, 32]⟩ : ByteArray).extract (13 : Int).toNat (18 : Int).toNat = ⟨#[108, 105, 109, 105, 116]⟩ by decide +kernel] at h
  exact h
set_option maxHeartbeats 8000000 in
set_option maxRecDepth 100000 in
theorem op_any (s : ByteArray) (w : World) : Calls Tryz.prog 72 #[.string s] w fun r w' => r = .returned (.int .i64 (opW s)) ∧ Below w.heap.size w w' := by
  obtain ⟨R, hR⟩ : ∃ R, R = opW s := ⟨_, rfl⟩
  have HR := Lib.hid (hR.trans (show opW s = if eqB wXor s then 2 else if eqB wOr s then 3 else if eqB wBonus s then 4 else if eqB wLimit s then 5 else 0 from rfl))
  rw [← hR]
  clear hR
  have HB := Lib.hid (fun p => below_new w (.stringIter (⟨#[120, 111, 114, 32, 111, 114, 32, 98, 111, 110, 117, 115, 32, 108, 105, 109, 105, 116, 32]⟩ : ByteArray) p))
  go_enter Tryz.func72, Tryz.ntmps72
  go_wp2_with fail
  refine wp_loop_rounds 20 ?_
  rw [rounds_succ]
  have hn := fun ty => (show (Instr.next (.pointer (some ⟨w.heap.size, 0, none⟩)) true ty).run Tryz.prog (w.iter (⟨#[120, 111, 114, 32, 111, 114, 32, 98, 111, 110, 117, 115, 32, 108, 105, 109, 105, 116, 32]⟩ : ByteArray) 0) = .ok (.tuple #[.bool true, .int .i64 0, .int .i32 120]) (w.iter (⟨#[120, 111, 114, 32, 111, 114, 32, 98, 111, 110, 117, 115, 32, 108, 105, 109, 105, 116, 32]⟩ : ByteArray) 1) from run_next_ascii w (⟨#[120, 111, 114, 32, 111, 114, 32, 98, 111, 110, 117, 115, 32, 108, 105, 109, 105, 116, 32]⟩ : ByteArray) 0 ty (by decide) (by decide))
  go_wp2_with fail
  clear hn
  rw [rounds_succ]
  have hn := fun ty => (show (Instr.next (.pointer (some ⟨w.heap.size, 0, none⟩)) true ty).run Tryz.prog (w.iter (⟨#[120, 111, 114, 32, 111, 114, 32, 98, 111, 110, 117, 115, 32, 108, 105, 109, 105, 116, 32]⟩ : ByteArray) 1) = .ok (.tuple #[.bool true, .int .i64 1, .int .i32 111]) (w.iter (⟨#[120, 111, 114, 32, 111, 114, 32, 98, 111, 110, 117, 115, 32, 108, 105, 109, 105, 116, 32]⟩ : ByteArray) 2) from run_next_ascii w (⟨#[120, 111, 114, 32, 111, 114, 32, 98, 111, 110, 117, 115, 32, 108, 105, 109, 105, 116, 32]⟩ : ByteArray) 1 ty (by decide) (by decide))
  go_wp2_with fail
  clear hn
  rw [rounds_succ]
  have hn := fun ty => (show (Instr.next (.pointer (some ⟨w.heap.size, 0, none⟩)) true ty).run Tryz.prog (w.iter (⟨#[120, 111, 114, 32, 111, 114, 32, 98, 111, 110, 117, 115, 32, 108, 105, 109, 105, 116, 32]⟩ : ByteArray) 2) = .ok (.tuple #[.bool true, .int .i64 2, .int .i32 114]) (w.iter (⟨#[120, 111, 114, 32, 111, 114, 32, 98, 111, 110, 117, 115, 32, 108, 105, 109, 105, 116, 32]⟩ : ByteArray) 3) from run_next_ascii w (⟨#[120, 111, 114, 32, 111, 114, 32, 98, 111, 110, 117, 115, 32, 108, 105, 109, 105, 116, 32]⟩ : ByteArray) 2 ty (by decide) (by decide))
  go_wp2_with fail
  clear hn
  rw [rounds_succ]
  have hn := fun ty => (show (Instr.next (.pointer (some ⟨w.heap.size, 0, none⟩)) true ty).run Tryz.prog (w.iter (⟨#[120, 111, 114, 32, 111, 114, 32, 98, 111, 110, 117, 115, 32, 108, 105, 109, 105, 116, 32]⟩ : ByteArray) 3) = .ok (.tuple #[.bool true, .int .i64 3, .int .i32 32]) (w.iter (⟨#[120, 111, 114, 32, 111, 114, 32, 98, 111, 110, 117, 115, 32, 108, 105, 109, 105, 116, 32]⟩ : ByteArray) 4) from run_next_ascii w (⟨#[120, 111, 114, 32, 111, 114, 32, 98, 111, 110, 117, 115, 32, 108, 105, 109, 105, 116, 32]⟩ : ByteArray) 3 ty (by decide) (by decide))
  have hc := cut_0
  cases h0 : eqB wXor s with
  | true =>
    have HV : Hid (R = 2) := by show _ = _; rw [HR.out, h0]; rfl
    rw [lit_wXor] at h0
    go_wp2_with fail
    try dsimp only [Exit.noGoto, Exit.inBlock, Exit.then]
    go_ret
    exact ⟨by rw [HV.out]; rfl, HB.out 4⟩
  | false =>
  have HR0 := Lib.hid h0
  rw [lit_wXor] at h0
  go_wp2_with fail
  clear hn hc h0
  have h0 := HR0.out
  rw [rounds_succ]
  have hn := fun ty => (show (Instr.next (.pointer (some ⟨w.heap.size, 0, none⟩)) true ty).run Tryz.prog (w.iter (⟨#[120, 111, 114, 32, 111, 114, 32, 98, 111, 110, 117, 115, 32, 108, 105, 109, 105, 116, 32]⟩ : ByteArray) 4) = .ok (.tuple #[.bool true, .int .i64 4, .int .i32 111]) (w.iter (⟨#[120, 111, 114, 32, 111, 114, 32, 98, 111, 110, 117, 115, 32, 108, 105, 109, 105, 116, 32]⟩ : ByteArray) 5) from run_next_ascii w (⟨#[120, 111, 114, 32, 111, 114, 32, 98, 111, 110, 117, 115, 32, 108, 105, 109, 105, 116, 32]⟩ : ByteArray) 4 ty (by decide) (by decide))
  go_wp2_with fail
  clear hn
  rw [rounds_succ]
  have hn := fun ty => (show (Instr.next (.pointer (some ⟨w.heap.size, 0, none⟩)) true ty).run Tryz.prog (w.iter (⟨#[120, 111, 114, 32, 111, 114, 32, 98, 111, 110, 117, 115, 32, 108, 105, 109, 105, 116, 32]⟩ : ByteArray) 5) = .ok (.tuple #[.bool true, .int .i64 5, .int .i32 114]) (w.iter (⟨#[120, 111, 114, 32, 111, 114, 32, 98, 111, 110, 117, 115, 32, 108, 105, 109, 105, 116, 32]⟩ : ByteArray) 6) from run_next_ascii w (⟨#[120, 111, 114, 32, 111, 114, 32, 98, 111, 110, 117, 115, 32, 108, 105, 109, 105, 116, 32]⟩ : ByteArray) 5 ty (by decide) (by decide))
  go_wp2_with fail
  clear hn
  rw [rounds_succ]
  have hn := fun ty => (show (Instr.next (.pointer (some ⟨w.heap.size, 0, none⟩)) true ty).run Tryz.prog (w.iter (⟨#[120, 111, 114, 32, 111, 114, 32, 98, 111, 110, 117, 115, 32, 108, 105, 109, 105, 116, 32]⟩ : ByteArray) 6) = .ok (.tuple #[.bool true, .int .i64 6, .int .i32 32]) (w.iter (⟨#[120, 111, 114, 32, 111, 114, 32, 98, 111, 110, 117, 115, 32, 108, 105, 109, 105, 116, 32]⟩ : ByteArray) 7) from run_next_ascii w (⟨#[120, 111, 114, 32, 111, 114, 32, 98, 111, 110, 117, 115, 32, 108, 105, 109, 105, 116, 32]⟩ : ByteArray) 6 ty (by decide) (by decide))
  have hc := cut_1
  cases h1 : eqB wOr s with
  | true =>
    have HV : Hid (R = 3) := by show _ = _; rw [HR.out, h0, h1]; rfl
    rw [lit_wOr] at h1
    go_wp2_with fail
    try dsimp only [Exit.noGoto, Exit.inBlock, Exit.then]
    go_ret
    exact ⟨by rw [HV.out]; rfl, HB.out 7⟩
  | false =>
  have HR1 := Lib.hid h1
  rw [lit_wOr] at h1
  go_wp2_with fail
  clear hn hc h1
  have h1 := HR1.out
  rw [rounds_succ]
  have hn := fun ty => (show (Instr.next (.pointer (some ⟨w.heap.size, 0, none⟩)) true ty).run Tryz.prog (w.iter (⟨#[120, 111, 114, 32, 111, 114, 32, 98, 111, 110, 117, 115, 32, 108, 105, 109, 105, 116, 32]⟩ : ByteArray) 7) = .ok (.tuple #[.bool true, .int .i64 7, .int .i32 98]) (w.iter (⟨#[120, 111, 114, 32, 111, 114, 32, 98, 111, 110, 117, 115, 32, 108, 105, 109, 105, 116, 32]⟩ : ByteArray) 8) from run_next_ascii w (⟨#[120, 111, 114, 32, 111, 114, 32, 98, 111, 110, 117, 115, 32, 108, 105, 109, 105, 116, 32]⟩ : ByteArray) 7 ty (by decide) (by decide))
  go_wp2_with fail
  clear hn
  rw [rounds_succ]
  have hn := fun ty => (show (Instr.next (.pointer (some ⟨w.heap.size, 0, none⟩)) true ty).run Tryz.prog (w.iter (⟨#[120, 111, 114, 32, 111, 114, 32, 98, 111, 110, 117, 115, 32, 108, 105, 109, 105, 116, 32]⟩ : ByteArray) 8) = .ok (.tuple #[.bool true, .int .i64 8, .int .i32 111]) (w.iter (⟨#[120, 111, 114, 32, 111, 114, 32, 98, 111, 110, 117, 115, 32, 108, 105, 109, 105, 116, 32]⟩ : ByteArray) 9) from run_next_ascii w (⟨#[120, 111, 114, 32, 111, 114, 32, 98, 111, 110, 117, 115, 32, 108, 105, 109, 105, 116, 32]⟩ : ByteArray) 8 ty (by decide) (by decide))
  go_wp2_with fail
  clear hn
  rw [rounds_succ]
  have hn := fun ty => (show (Instr.next (.pointer (some ⟨w.heap.size, 0, none⟩)) true ty).run Tryz.prog (w.iter (⟨#[120, 111, 114, 32, 111, 114, 32, 98, 111, 110, 117, 115, 32, 108, 105, 109, 105, 116, 32]⟩ : ByteArray) 9) = .ok (.tuple #[.bool true, .int .i64 9, .int .i32 110]) (w.iter (⟨#[120, 111, 114, 32, 111, 114, 32, 98, 111, 110, 117, 115, 32, 108, 105, 109, 105, 116, 32]⟩ : ByteArray) 10) from run_next_ascii w (⟨#[120, 111, 114, 32, 111, 114, 32, 98, 111, 110, 117, 115, 32, 108, 105, 109, 105, 116, 32]⟩ : ByteArray) 9 ty (by decide) (by decide))
  go_wp2_with fail
  clear hn
  rw [rounds_succ]
  have hn := fun ty => (show (Instr.next (.pointer (some ⟨w.heap.size, 0, none⟩)) true ty).run Tryz.prog (w.iter (⟨#[120, 111, 114, 32, 111, 114, 32, 98, 111, 110, 117, 115, 32, 108, 105, 109, 105, 116, 32]⟩ : ByteArray) 10) = .ok (.tuple #[.bool true, .int .i64 10, .int .i32 117]) (w.iter (⟨#[120, 111, 114, 32, 111, 114, 32, 98, 111, 110, 117, 115, 32, 108, 105, 109, 105, 116, 32]⟩ : ByteArray) 11) from run_next_ascii w (⟨#[120, 111, 114, 32, 111, 114, 32, 98, 111, 110, 117, 115, 32, 108, 105, 109, 105, 116, 32]⟩ : ByteArray) 10 ty (by decide) (by decide))
  go_wp2_with fail
  clear hn
  rw [rounds_succ]
  have hn := fun ty => (show (Instr.next (.pointer (some ⟨w.heap.size, 0, none⟩)) true ty).run Tryz.prog (w.iter (⟨#[120, 111, 114, 32, 111, 114, 32, 98, 111, 110, 117, 115, 32, 108, 105, 109, 105, 116, 32]⟩ : ByteArray) 11) = .ok (.tuple #[.bool true, .int .i64 11, .int .i32 115]) (w.iter (⟨#[120, 111, 114, 32, 111, 114, 32, 98, 111, 110, 117, 115, 32, 108, 105, 109, 105, 116, 32]⟩ : ByteArray) 12) from run_next_ascii w (⟨#[120, 111, 114, 32, 111, 114, 32, 98, 111, 110, 117, 115, 32, 108, 105, 109, 105, 116, 32]⟩ : ByteArray) 11 ty (by decide) (by decide))
  go_wp2_with fail
  clear hn
  rw [rounds_succ]
  have hn := fun ty => (show (Instr.next (.pointer (some ⟨w.heap.size, 0, none⟩)) true ty).run Tryz.prog (w.iter (⟨#[120, 111, 114, 32, 111, 114, 32, 98, 111, 110, 117, 115, 32, 108, 105, 109, 105, 116, 32]⟩ : ByteArray) 12) = .ok (.tuple #[.bool true, .int .i64 12, .int .i32 32]) (w.iter (⟨#[120, 111, 114, 32, 111, 114, 32, 98, 111, 110, 117, 115, 32, 108, 105, 109, 105, 116, 32]⟩ : ByteArray) 13) from run_next_ascii w (⟨#[120, 111, 114, 32, 111, 114, 32, 98, 111, 110, 117, 115, 32, 108, 105, 109, 105, 116, 32]⟩ : ByteArray) 12 ty (by decide) (by decide))
  have hc := cut_2
  cases h2 : eqB wBonus s with
  | true =>
    have HV : Hid (R = 4) := by show _ = _; rw [HR.out, h0, h1, h2]; rfl
    rw [lit_wBonus] at h2
    go_wp2_with fail
    try dsimp only [Exit.noGoto, Exit.inBlock, Exit.then]
    go_ret
    exact ⟨by rw [HV.out]; rfl, HB.out 13⟩
  | false =>
  have HR2 := Lib.hid h2
  rw [lit_wBonus] at h2
  go_wp2_with fail
  clear hn hc h2
  have h2 := HR2.out
  rw [rounds_succ]
  have hn := fun ty => (show (Instr.next (.pointer (some ⟨w.heap.size, 0, none⟩)) true ty).run Tryz.prog (w.iter (⟨#[120, 111, 114, 32, 111, 114, 32, 98, 111, 110, 117, 115, 32, 108, 105, 109, 105, 116, 32]⟩ : ByteArray) 13) = .ok (.tuple #[.bool true, .int .i64 13, .int .i32 108]) (w.iter (⟨#[120, 111, 114, 32, 111, 114, 32, 98, 111, 110, 117, 115, 32, 108, 105, 109, 105, 116, 32]⟩ : ByteArray) 14) from run_next_ascii w (⟨#[120, 111, 114, 32, 111, 114, 32, 98, 111, 110, 117, 115, 32, 108, 105, 109, 105, 116, 32]⟩ : ByteArray) 13 ty (by decide) (by decide))
  go_wp2_with fail
  clear hn
  rw [rounds_succ]
  have hn := fun ty => (show (Instr.next (.pointer (some ⟨w.heap.size, 0, none⟩)) true ty).run Tryz.prog (w.iter (⟨#[120, 111, 114, 32, 111, 114, 32, 98, 111, 110, 117, 115, 32, 108, 105, 109, 105, 116, 32]⟩ : ByteArray) 14) = .ok (.tuple #[.bool true, .int .i64 14, .int .i32 105]) (w.iter (⟨#[120, 111, 114, 32, 111, 114, 32, 98, 111, 110, 117, 115, 32, 108, 105, 109, 105, 116, 32]⟩ : ByteArray) 15) from run_next_ascii w (⟨#[120, 111, 114, 32, 111, 114, 32, 98, 111, 110, 117, 115, 32, 108, 105, 109, 105, 116, 32]⟩ : ByteArray) 14 ty (by decide) (by decide))
  go_wp2_with fail
  clear hn
  rw [rounds_succ]
  have hn := fun ty => (show (Instr.next (.pointer (some ⟨w.heap.size, 0, none⟩)) true ty).run Tryz.prog (w.iter (⟨#[120, 111, 114, 32, 111, 114, 32, 98, 111, 110, 117, 115, 32, 108, 105, 109, 105, 116, 32]⟩ : ByteArray) 15) = .ok (.tuple #[.bool true, .int .i64 15, .int .i32 109]) (w.iter (⟨#[120, 111, 114, 32, 111, 114, 32, 98, 111, 110, 117, 115, 32, 108, 105, 109, 105, 116, 32]⟩ : ByteArray) 16) from run_next_ascii w (⟨#[120, 111, 114, 32, 111, 114, 32, 98, 111, 110, 117, 115, 32, 108, 105, 109, 105, 116, 32]⟩ : ByteArray) 15 ty (by decide) (by decide))
  go_wp2_with fail
  clear hn
  rw [rounds_succ]
  have hn := fun ty => (show (Instr.next (.pointer (some ⟨w.heap.size, 0, none⟩)) true ty).run Tryz.prog (w.iter (⟨#[120, 111, 114, 32, 111, 114, 32, 98, 111, 110, 117, 115, 32, 108, 105, 109, 105, 116, 32]⟩ : ByteArray) 16) = .ok (.tuple #[.bool true, .int .i64 16, .int .i32 105]) (w.iter (⟨#[120, 111, 114, 32, 111, 114, 32, 98, 111, 110, 117, 115, 32, 108, 105, 109, 105, 116, 32]⟩ : ByteArray) 17) from run_next_ascii w (⟨#[120, 111, 114, 32, 111, 114, 32, 98, 111, 110, 117, 115, 32, 108, 105, 109, 105, 116, 32]⟩ : ByteArray) 16 ty (by decide) (by decide))
  go_wp2_with fail
  clear hn
  rw [rounds_succ]
  have hn := fun ty => (show (Instr.next (.pointer (some ⟨w.heap.size, 0, none⟩)) true ty).run Tryz.prog (w.iter (⟨#[120, 111, 114, 32, 111, 114, 32, 98, 111, 110, 117, 115, 32, 108, 105, 109, 105, 116, 32]⟩ : ByteArray) 17) = .ok (.tuple #[.bool true, .int .i64 17, .int .i32 116]) (w.iter (⟨#[120, 111, 114, 32, 111, 114, 32, 98, 111, 110, 117, 115, 32, 108, 105, 109, 105, 116, 32]⟩ : ByteArray) 18) from run_next_ascii w (⟨#[120, 111, 114, 32, 111, 114, 32, 98, 111, 110, 117, 115, 32, 108, 105, 109, 105, 116, 32]⟩ : ByteArray) 17 ty (by decide) (by decide))
  go_wp2_with fail
  clear hn
  rw [rounds_succ]
  have hn := fun ty => (show (Instr.next (.pointer (some ⟨w.heap.size, 0, none⟩)) true ty).run Tryz.prog (w.iter (⟨#[120, 111, 114, 32, 111, 114, 32, 98, 111, 110, 117, 115, 32, 108, 105, 109, 105, 116, 32]⟩ : ByteArray) 18) = .ok (.tuple #[.bool true, .int .i64 18, .int .i32 32]) (w.iter (⟨#[120, 111, 114, 32, 111, 114, 32, 98, 111, 110, 117, 115, 32, 108, 105, 109, 105, 116, 32]⟩ : ByteArray) 19) from run_next_ascii w (⟨#[120, 111, 114, 32, 111, 114, 32, 98, 111, 110, 117, 115, 32, 108, 105, 109, 105, 116, 32]⟩ : ByteArray) 18 ty (by decide) (by decide))
  have hc := cut_3
  cases h3 : eqB wLimit s with
  | true =>
    have HV : Hid (R = 5) := by show _ = _; rw [HR.out, h0, h1, h2, h3]; rfl
    rw [lit_wLimit] at h3
    go_wp2_with fail
    try dsimp only [Exit.noGoto, Exit.inBlock, Exit.then]
    go_ret
    exact ⟨by rw [HV.out]; rfl, HB.out 19⟩
  | false =>
  have HR3 := Lib.hid h3
  rw [lit_wLimit] at h3
  go_wp2_with fail
  clear hn hc h3
  have h3 := HR3.out
  rw [rounds_succ]
  have hn := fun ty => (show (Instr.next (.pointer (some ⟨w.heap.size, 0, none⟩)) true ty).run Tryz.prog (w.iter (⟨#[120, 111, 114, 32, 111, 114, 32, 98, 111, 110, 117, 115, 32, 108, 105, 109, 105, 116, 32]⟩ : ByteArray) 19) = .ok (.tuple #[.bool false]) (w.iter (⟨#[120, 111, 114, 32, 111, 114, 32, 98, 111, 110, 117, 115, 32, 108, 105, 109, 105, 116, 32]⟩ : ByteArray) 19) from run_next_end (P := Tryz.prog) w (⟨#[120, 111, 114, 32, 111, 114, 32, 98, 111, 110, 117, 115, 32, 108, 105, 109, 105, 116, 32]⟩ : ByteArray) 19 ty (by decide))
  have HV : Hid (R = 0) := by show _ = _; rw [HR.out, h0, h1, h2, h3]; rfl
  clear h0 h1 h2 h3
  go_wp2_with fail
  go_ret
  exact ⟨by rw [HV.out]; rfl, HB.out 19⟩
end Go.Proofs.YtjjlhihocllgjaaGreatDoor.Ex
