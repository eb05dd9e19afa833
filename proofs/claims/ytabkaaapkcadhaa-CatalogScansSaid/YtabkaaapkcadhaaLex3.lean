/- Contracts of the searches for a byte and a rune in a string. -/
import Derived.Test.YtabkaaapkcadhaaLex2
import Derived.Laws.Externs
import Derived.Laws.Runes
import Derived.Lib.Bytealg
namespace Go.Proofs.Ytabkaaapkcadhaa
open Go.ChangeShapes Go.WideShapes Go.ChangeAt Go.RowKit
namespace Lex

theorem drewN_below (w : World) (n : Nat) : Below w.heap.size w (w.drewN n) := ⟨rfl, rfl, rfl, Nat.le_refl _, fun _ _ => rfl⟩
set_option maxRecDepth 100000 in
theorem slIndexByte (s : ByteArray) (c : Int) (w : World) : Calls Try.prog 101 #[.string s, .int .u8 c] w fun e w' => e = .returned (.int .i64 (Lib.indexByte s.data.toList c.toNat.toUInt8)) ∧ w = w' := by
  go_enter Try.func101, Try.ntmps101
  go_wp2
  rw [run_callFunc_extern Try.func102 (by kernel_rfl) (by kernel_rfl) (by kernel_rfl) (e := Extern.BytealgIndexByte.indexByte) (by kernel_rfl), Lib.run_indexByteString]
  simp only [Result.andThen]
  rw [Oper.upon_value]
  go_wp2
  go_ret
  exact ⟨rfl, rfl⟩
theorem indexByte_any (s : ByteArray) (c : Int) (w : World) : Calls Try.prog 96 #[.string s, .int .u8 c] w fun e w' => e = .returned (.int .i64 (Lib.indexByte s.data.toList c.toNat.toUInt8)) ∧ w = w' := by
  go_enter Try.func96, Try.ntmps96
  go_wp2_with (go_at_call 101; refine (slIndexByte _ _ _).mono ?_; rintro e w' ⟨rfl, rfl⟩)
  go_ret
  exact ⟨rfl, rfl⟩
theorem validRune_byte (r : Int) (w : World) (h0 : 0 ≤ r) (h1 : r < 55296) : Calls Try.prog 97 #[.int .i32 r] w fun e w' => e = .returned (.bool true) ∧ w = w' := by
  go_enter Try.func97, Try.ntmps97
  go_wp2_with fail
  go_ret
  exact ⟨rfl, rfl⟩
/-- the marks -/
def marks : ByteArray := ⟨#[123, 125, 40, 41, 44, 58, 64, 43, 45, 61]⟩
set_option maxRecDepth 100000 in
theorem indexRune_low (r : Int) (w : World) (h0 : 0 ≤ r) (h1 : r < 128) : Calls Try.prog 93 #[.string marks, .int .i32 r] w fun e w' => e = .returned (.int .i64 (Lib.indexByte marks.data.toList r.toNat.toUInt8)) ∧ w = w' := by
  have CI := Lib.hid indexByte_any
  generalize marks = s at *
  go_enter Try.func93, Try.ntmps93
  go_wp2_with (go_at_call 96; refine (CI.out _ _ _).mono ?_; rintro e w' ⟨rfl, rfl⟩)
  go_ret
  exact ⟨rfl, rfl⟩
theorem enc_high (b : UInt8) (h : 128 ≤ b.toNat) : ∃ r : ByteArray, Utf8.encode (b.toNat : Int) = r ∧ r.size = 2 ∧ ∀ h, 128 ≤ (r[1]'h).toNat := by
  have hb := b.toNat_lt
  have hv : Utf8.valid (b.toNat : Int) = true := by rw [validRune_eq]; unfold validRune; simp; omega
  refine ⟨⟨#[UInt8.ofNat (192 + b.toNat / 64), UInt8.ofNat (128 + b.toNat % 64)]⟩, ?_, rfl, fun _ => ?_⟩
  · unfold Utf8.encode
    have h1 : ¬ b.toNat < 128 := by omega
    have h2 : b.toNat < 2048 := by omega
    simp [hv, h1, h2]
  · show 128 ≤ (UInt8.ofNat (128 + b.toNat % 64)).toNat
    simp; omega
theorem marks_none (c : UInt8) (h : 128 ≤ c.toNat) (a e : Nat) : Lib.indexByte (marks.extract a e).data.toList c = -1 := by
  rw [← Lib.firstIdx_eq]
  exact firstIdx_ascii marks a e c (by decide +kernel) h
set_option maxRecDepth 100000 in
theorem indexRune_high (b : UInt8) (w : World) (h : 128 ≤ b.toNat) : Calls Try.prog 93 #[.string marks, .int .i32 (b.toNat : Int)] w fun e w' => e = .returned (.int .i64 (-1)) ∧ Below w.heap.size w w' := by
  have hb := b.toNat_lt
  have CI := Lib.hid indexByte_any
  obtain ⟨r, he, hr, hy⟩ := enc_high b h
  have hz : marks.size = 10 := by decide +kernel
  have h1 : ∀ h, (marks[1]'h).toNat = 125 := fun _ => rfl
  have MN := Lib.hid marks_none
  have c1 : decide ((0 : Int) ≤ (b.toNat : Int)) = true := by simp; try omega
  have c2 : decide ((b.toNat : Int) < 128) = false := by simp; omega
  have c3 : ((b.toNat : Int) == 65533) = false := by simp; omega
  generalize marks = s at *
  have hs1 : 1 < s.size := by omega
  have hr1 : 1 < r.size := by omega
  have hn : (((s[1]).toNat : Int) != ((r[1]).toNat : Int)) = true := by have := hy hr1; have := h1 hs1; simp; omega
  have HC := Lib.hid (show 128 ≤ (((r[1]).toNat : Int).toNat.toUInt8).toNat by have := hy hr1; have h9 := (r[1]).toNat_lt; simp; omega)
  clear hy h1
  go_enter Try.func93, Try.ntmps93
  go_wp2_with (go_at_call 97; refine (validRune_byte _ _ (by omega) (by omega)).mono ?_; rintro e w' ⟨rfl, rfl⟩)
  clear c1 c2 c3
  go_step3
  go_wp2_with fail
  refine wp_loop_rounds 1 ?_
  rw [rounds_succ]
  go_wp2_with fail
  go_step3
  go_wp2_with fail
  go_quiet (fail)
  go_wp2_with fail
  have B1 : Below w.heap.size w (w.drewN nq) := drewN_below w nq
  generalize w.drewN nq = w1 at B1 ⊢
  have w2 : IntKind.i64.wrap 2 = 2 := rfl
  have q1 : (2 : Int) ≤ (s.size : Int) := by omega
  go_quiet (first | (go_at_call 96; refine (CI.out _ _ _).mono ?_; rintro e w' ⟨rfl, rfl⟩; rw [MN.out _ HC.out]; exact ⟨rfl, _, rfl⟩))
  go_wp2_with fail
  dsimp only [Exit.noGoto, Exit.inBlock, Exit.then]
  go_ret
  exact ⟨rfl, chain0 B1 (drewN_below _ nq)⟩
end Lex
end Go.Proofs.Ytabkaaapkcadhaa
