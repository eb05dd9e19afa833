/- Contract of one: numbers. -/
import Derived.Test.YtabkaaapkcadhaaLex6
namespace Go.Proofs.Ytabkaaapkcadhaa
open Go.ChangeShapes Go.WideShapes Go.ChangeAt Go.RowKit
namespace Lex
theorem one_num (s t : ByteArray) (a : Nat) (w : World) (hs : s.size ≤ 5000) (ha : a < s.size) (hl : isLet s[a] = false) (hg : isDig s[a] = true) (ht : s.extract a (a + runLen isDig s a) = t) (v : Nat)
    (hn : ∀ w, Calls Try.prog 86 #[.string t] w fun e w' => e = .returned (.tuple #[.int .i64 (v : Int), .int .i64 0]) ∧ w = w') :
    Calls Try.prog 61 #[.string s, .int .i64 (a : Int)] w fun e w' => e = .returned (.tuple #[.agg #[.int .i64 2, .string t, .int .i64 (v : Int), .int .i64 (a : Int)], .int .i64 0]) ∧ Below w.heap.size w w' := by
  have hb := s[a].toNat_lt
  have CL := Lib.hid (letter_any s[a])
  have CD := Lib.hid (digit_any s[a])
  have WB := Lib.hid (wrap32_byte s[a])
  have CR := Lib.hid (fun w => run_digit s a w (by unfold maxLen; omega) (by omega))
  rw [ht] at CR
  have CN := Lib.hid hn
  clear hn ht
  go_enter Try.func61, Try.ntmps61
  go_wp2_with (first | (go_at_call 63; (try rw [WB.out]); refine (CL.out _).mono ?_; rintro e w' ⟨rfl, rfl⟩; rw [hl]) | (go_at_call 85; (try rw [WB.out]); refine (CD.out _).mono ?_; rintro e w' ⟨rfl, rfl⟩; rw [hg]) | (go_at_call 64; refine (CR.out _).mono ?_; rintro e w' ⟨rfl, rfl⟩) | (go_at_call 86; refine (CN.out _).mono ?_; rintro e w' ⟨rfl, rfl⟩))
  refine bodyPost_ret (v := .tuple #[.agg #[.int .i64 2, .string t, .int .i64 (v : Int), .int .i64 (a : Int)], .int .i64 0]) (results_cell_row_tmp (p := 4) (u := 5) rfl _ _ w.heap.size 33 _ (0, 0) _ rfl (heap_two w _ _) Try.underlying33 rfl (by kernel_rfl) rfl) rfl ⟨rfl, ?_⟩
  go_grown
theorem one_numerr (s t : ByteArray) (a : Nat) (w : World) (hs : s.size ≤ 5000) (ha : a < s.size) (hl : isLet s[a] = false) (hg : isDig s[a] = true) (ht : s.extract a (a + runLen isDig s a) = t) (e0 : Int) (he0 : e0 = 2 ∨ e0 = 4)
    (hn : ∀ w, Calls Try.prog 86 #[.string t] w fun e w' => e = .returned (.tuple #[.int .i64 0, .int .i64 e0]) ∧ w = w') :
    Calls Try.prog 61 #[.string s, .int .i64 (a : Int)] w fun e w' => e = .returned (.tuple #[.agg #[.int .i64 0, .string ⟨#[]⟩, .int .i64 0, .int .i64 0], .int .i64 e0]) ∧ Below w.heap.size w w' := by
  have hb := s[a].toNat_lt
  have CL := Lib.hid (letter_any s[a])
  have CD := Lib.hid (digit_any s[a])
  have WB := Lib.hid (wrap32_byte s[a])
  have CR := Lib.hid (fun w => run_digit s a w (by unfold maxLen; omega) (by omega))
  rw [ht] at CR
  have CN := Lib.hid hn
  clear hn ht
  have hq : (e0 != (0 : Int)) = true := by rcases he0 with rfl | rfl <;> rfl
  clear he0
  go_enter Try.func61, Try.ntmps61
  go_wp2_with (first | (go_at_call 63; (try rw [WB.out]); refine (CL.out _).mono ?_; rintro e w' ⟨rfl, rfl⟩; rw [hl]) | (go_at_call 85; (try rw [WB.out]); refine (CD.out _).mono ?_; rintro e w' ⟨rfl, rfl⟩; rw [hg]) | (go_at_call 64; refine (CR.out _).mono ?_; rintro e w' ⟨rfl, rfl⟩) | (go_at_call 86; refine (CN.out _).mono ?_; rintro e w' ⟨rfl, rfl⟩))
  refine bodyPost_ret (v := .tuple #[.agg #[.int .i64 0, .string ⟨#[]⟩, .int .i64 0, .int .i64 0], .int .i64 e0]) (results_cell_row_tmp (p := 4) (u := 5) rfl _ _ w.heap.size 33 _ (0, 0) _ rfl (heap_two w _ _) Try.underlying33 rfl (by kernel_rfl) rfl) rfl ⟨rfl, ?_⟩
  go_grown
end Lex
end Go.Proofs.Ytabkaaapkcadhaa
