/- Contract of one: marks and the rest. -/
import Derived.Test.YtabkaaapkcadhaaLex7
import Derived.Test.YtabkaaapkcadhaaMem
namespace Go.Proofs.Ytabkaaapkcadhaa
open Go.ChangeShapes Go.WideShapes Go.ChangeAt Go.RowKit
set_option linter.unusedVariables false
set_option linter.unusedSimpArgs false
namespace Lex
theorem one_none (s : ByteArray) (a : Nat) (w : World) (hs : s.size ≤ 5000) (ha : a < s.size) (hl : isLet s[a] = false) (hg : isDig s[a] = false) (hm : isMark s[a] = false) :
    Calls Try.prog 61 #[.string s, .int .i64 (a : Int)] w fun e w' => e = .returned (.tuple #[.agg #[.int .i64 0, .string ⟨#[]⟩, .int .i64 0, .int .i64 0], .int .i64 2]) ∧ Below w.heap.size w w' := by
  have hb := s[a].toNat_lt
  have CL := Lib.hid (letter_any s[a])
  have CD := Lib.hid (digit_any s[a])
  have WB := Lib.hid (wrap32_byte s[a])
  have CC := Lib.hid (containsRune_any s[a])
  unfold marks at CC
  go_enter Try.func61, Try.ntmps61
  go_wp2_with (first | (go_at_call 63; (try rw [WB.out]); refine (CL.out _).mono ?_; rintro e w' ⟨rfl, rfl⟩; rw [hl]) | (go_at_call 85; (try rw [WB.out]); refine (CD.out _).mono ?_; rintro e w' ⟨rfl, rfl⟩; rw [hg]) | fail)
  refine (CC.out _).mono ?_
  rintro e w1 ⟨rfl, b1⟩
  rw [hm]
  have B := Lib.hid (chain2 (Below.refl _ _) b1)
  have hB := (((Blk.new w 33 #[.int .i64 0, .string ⟨#[]⟩, .int .i64 0, .int .i64 0]).alloc _)).below' b1
  have hc := hB.c4
  clear b1
  go_wp2_with fail
  have hB4 := (((hB.put 0 (.int .i64 0)).put 1 (.string ⟨#[]⟩)).put 2 (.int .i64 0)).put 3 (.int .i64 0)
  refine bodyPost_ret (v := .tuple #[.agg #[.int .i64 0, .string ⟨#[]⟩, .int .i64 0, .int .i64 0], .int .i64 2]) (results_blk_tmp (p := 4) (u := 5) rfl rfl hB4 Try.underlying33 rfl (by kernel_rfl) rfl) rfl ⟨rfl, ?_⟩
  exact (((B.out.setCell (Nat.le_refl _) _).setCell (Nat.le_refl _) _).setCell (Nat.le_refl _) _).setCell (Nat.le_refl _) _

theorem one_mark (s : ByteArray) (a : Nat) (w : World) (hs : s.size ≤ 5000) (ha : a < s.size) (hl : isLet s[a] = false) (hg : isDig s[a] = false) (hm : isMark s[a] = true) :
    Calls Try.prog 61 #[.string s, .int .i64 (a : Int)] w fun e w' => e = .returned (.tuple #[.agg #[.int .i64 3, .string (s.extract a (a + 1)), .int .i64 0, .int .i64 (a : Int)], .int .i64 0]) ∧ Below w.heap.size w w' := by
  have hb := s[a].toNat_lt
  have CL := Lib.hid (letter_any s[a])
  have CD := Lib.hid (digit_any s[a])
  have WB := Lib.hid (wrap32_byte s[a])
  have CC := Lib.hid (containsRune_any s[a])
  unfold marks at CC
  go_enter Try.func61, Try.ntmps61
  go_wp2_with (first | (go_at_call 63; (try rw [WB.out]); refine (CL.out _).mono ?_; rintro e w' ⟨rfl, rfl⟩; rw [hl]) | (go_at_call 85; (try rw [WB.out]); refine (CD.out _).mono ?_; rintro e w' ⟨rfl, rfl⟩; rw [hg]) | fail)
  refine (CC.out _).mono ?_
  rintro e w1 ⟨rfl, b1⟩
  rw [hm]
  have B := Lib.hid (chain2 (Below.refl _ _) b1)
  have hB := (((Blk.new w 33 #[.int .i64 0, .string ⟨#[]⟩, .int .i64 0, .int .i64 0]).alloc (.cells #[.int .i64 0, .string ⟨#[]⟩, .int .i64 0, .int .i64 (a : Int)] 33))).below' b1
  have hB2 := (Blk.new (w.alloc (.cells #[.int .i64 0, .string ⟨#[]⟩, .int .i64 0, .int .i64 0] 33)) 33 #[.int .i64 0, .string ⟨#[]⟩, .int .i64 0, .int .i64 (a : Int)]).below' b1
  have hc := hB.c4
  have hc2 := hB2.c4
  simp at hc2
  have hz : (w.alloc (.cells #[.int .i64 0, .string ⟨#[]⟩, .int .i64 0, .int .i64 0] 33)).heap.size = w.heap.size + 1 := by simp
  rw [hz] at hB2
  clear hz
  clear b1
  go_wp2_with fail
  have i1 : IntKind.i64.wrap ((a : Int) + 1) = (a : Int) + 1 := IntWalk.i64_in _ (by omega)
  have i2 : ((a : Int) + 1).toNat = a + 1 := by omega
  have i3 : (0 : Int) ≤ (a : Int) + 1 := by omega
  have i4 : (a : Int) ≤ (a : Int) + 1 := by omega
  have i5 : a ≤ a + 1 := by omega
  have i6 : a + 1 ≤ s.size := by omega
  have i7 : (a : Int) + 1 ≤ (s.size : Int) := by omega
  go_region
  all_goals go_wp2_with fail
  have hB5 := (((((hB.far (p := ⟨w.heap.size + 1, 0, none⟩) (by show _ ≠ w.heap.size + 1; omega) (.int .i64 3)).far (p := ⟨w.heap.size + 1, 1, none⟩) (by show _ ≠ w.heap.size + 1; omega) (.string (s.extract a (a + 1)))).put 0 (.int .i64 3)).put 1 (.string (s.extract a (a + 1)))).put 2 (.int .i64 0)).put 3 (.int .i64 (a : Int))
  refine bodyPost_ret (v := .tuple #[.agg #[.int .i64 3, .string (s.extract a (a + 1)), .int .i64 0, .int .i64 (a : Int)], .int .i64 0]) (results_blk_tmp (p := 4) (u := 5) rfl rfl hB5.drew Try.underlying33 rfl (by kernel_rfl) rfl) rfl ⟨rfl, ?_⟩
  exact ((((((B.out.setCell (Nat.le_succ _) _).setCell (Nat.le_succ _) _).setCell (Nat.le_refl _) _).setCell (Nat.le_refl _) _).setCell (Nat.le_refl _) _).setCell (Nat.le_refl _) _).drew
end Lex
end Go.Proofs.Ytabkaaapkcadhaa
