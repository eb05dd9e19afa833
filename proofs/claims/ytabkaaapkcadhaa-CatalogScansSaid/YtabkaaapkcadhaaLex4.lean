/- Contract of strings.ContainsRune on the marks, and of the reference's mark. -/
import Derived.Test.YtabkaaapkcadhaaLex3
namespace Go.Proofs.Ytabkaaapkcadhaa
open Go.ChangeShapes Go.WideShapes Go.ChangeAt Go.RowKit
namespace Lex
theorem marks_low (b : UInt8) (_h : b.toNat < 128) : decide ((0 : Int) ≤ Lib.indexByte marks.data.toList ((b.toNat : Int).toNat.toUInt8)) = isMark b := by
  have e : ((b.toNat : Int).toNat.toUInt8) = b := by simp
  rw [e]
  have key : ∀ n : Fin 256, decide ((0 : Int) ≤ Lib.indexByte marks.data.toList (UInt8.ofNat n.val)) = isMark (UInt8.ofNat n.val) := by decide +kernel
  have := key ⟨b.toNat, b.toNat_lt⟩
  simpa using this
theorem mark_high (b : UInt8) (h : 128 ≤ b.toNat) : isMark b = false := by
  unfold isMark
  simp
  omega
theorem containsRune_any (b : UInt8) (w : World) : Calls Try.prog 87 #[.string marks, .int .i32 (b.toNat : Int)] w fun e w' => e = .returned (.bool (isMark b)) ∧ Below w.heap.size w w' := by
  by_cases h : b.toNat < 128
  · have C := Lib.hid (fun w => indexRune_low (b.toNat : Int) w (by omega) (by omega))
    have M := Lib.hid (marks_low b h)
    generalize marks = s at *
    go_enter Try.func87, Try.ntmps87
    go_wp2_with (go_at_call 93; refine (C.out _).mono ?_; rintro e w' ⟨rfl, rfl⟩)
    go_ret
    exact ⟨by rw [← M.out]; simp, Below.refl _ _⟩
  · have C := Lib.hid (fun w => indexRune_high b w (by omega))
    have M := Lib.hid (mark_high b (by omega))
    generalize marks = s at *
    go_enter Try.func87, Try.ntmps87
    go_wp2_with fail
    refine (C.out _).mono ?_
    rintro e w1 ⟨rfl, b1⟩
    go_wp2_with fail
    go_ret
    exact ⟨by rw [M.out]; rfl, b1⟩
end Lex
end Go.Proofs.Ytabkaaapkcadhaa
