/- Contract of the reference's mark. Printed by gen_lex5.py. -/
import Derived.Test.YtabkaaapkcadhaaLex4
namespace Go.Proofs.Ytabkaaapkcadhaa
open Go.ChangeShapes Go.WideShapes Go.ChangeAt Go.RowKit
namespace Lex
set_option maxHeartbeats 4000000 in
theorem rmark_any (b : UInt8) (w : World) : Calls Try.prog 89 #[.int .u8 (b.toNat : Int)] w fun e w' => e = .returned (.bool (isMark b)) ∧ w = w' := by
  have hb := b.toNat_lt
  by_cases h0 : b.toNat = 123
  · have c0 : ((123 : Int) == (b.toNat : Int)) = true := by simp; omega
    have hm : isMark b = true := by unfold isMark; simp [h0]
    go_enter Try.func89, Try.ntmps89
    go_wp2_with fail
    refine wp_loop_rounds 1 ?_
    iterate 1 (rw [rounds_succ]; go_wp2_with fail)
    go_ret
    exact ⟨by rw [hm]; rfl, rfl⟩
  have c0 : ((123 : Int) == (b.toNat : Int)) = false := by simp; omega
  have d0 : ((((⟨#[123, 125, 40, 41, 58, 44, 64, 43, 45, 61]⟩ : ByteArray)[0]'(by decide)).toNat : Int) == (b.toNat : Int)) = false := c0
  by_cases h1 : b.toNat = 125
  · have c1 : ((125 : Int) == (b.toNat : Int)) = true := by simp; omega
    have hm : isMark b = true := by unfold isMark; simp [h1]
    go_enter Try.func89, Try.ntmps89
    go_wp2_with fail
    refine wp_loop_rounds 2 ?_
    iterate 2 (rw [rounds_succ]; go_wp2_with fail)
    go_ret
    exact ⟨by rw [hm]; rfl, rfl⟩
  have c1 : ((125 : Int) == (b.toNat : Int)) = false := by simp; omega
  have d1 : ((((⟨#[123, 125, 40, 41, 58, 44, 64, 43, 45, 61]⟩ : ByteArray)[1]'(by decide)).toNat : Int) == (b.toNat : Int)) = false := c1
  by_cases h2 : b.toNat = 40
  · have c2 : ((40 : Int) == (b.toNat : Int)) = true := by simp; omega
    have hm : isMark b = true := by unfold isMark; simp [h2]
    go_enter Try.func89, Try.ntmps89
    go_wp2_with fail
    refine wp_loop_rounds 3 ?_
    iterate 3 (rw [rounds_succ]; go_wp2_with fail)
    go_ret
    exact ⟨by rw [hm]; rfl, rfl⟩
  have c2 : ((40 : Int) == (b.toNat : Int)) = false := by simp; omega
  have d2 : ((((⟨#[123, 125, 40, 41, 58, 44, 64, 43, 45, 61]⟩ : ByteArray)[2]'(by decide)).toNat : Int) == (b.toNat : Int)) = false := c2
  by_cases h3 : b.toNat = 41
  · have c3 : ((41 : Int) == (b.toNat : Int)) = true := by simp; omega
    have hm : isMark b = true := by unfold isMark; simp [h3]
    go_enter Try.func89, Try.ntmps89
    go_wp2_with fail
    refine wp_loop_rounds 4 ?_
    iterate 4 (rw [rounds_succ]; go_wp2_with fail)
    go_ret
    exact ⟨by rw [hm]; rfl, rfl⟩
  have c3 : ((41 : Int) == (b.toNat : Int)) = false := by simp; omega
  have d3 : ((((⟨#[123, 125, 40, 41, 58, 44, 64, 43, 45, 61]⟩ : ByteArray)[3]'(by decide)).toNat : Int) == (b.toNat : Int)) = false := c3
  by_cases h4 : b.toNat = 58
  · have c4 : ((58 : Int) == (b.toNat : Int)) = true := by simp; omega
    have hm : isMark b = true := by unfold isMark; simp [h4]
    go_enter Try.func89, Try.ntmps89
    go_wp2_with fail
    refine wp_loop_rounds 5 ?_
    iterate 5 (rw [rounds_succ]; go_wp2_with fail)
    go_ret
    exact ⟨by rw [hm]; rfl, rfl⟩
  have c4 : ((58 : Int) == (b.toNat : Int)) = false := by simp; omega
  have d4 : ((((⟨#[123, 125, 40, 41, 58, 44, 64, 43, 45, 61]⟩ : ByteArray)[4]'(by decide)).toNat : Int) == (b.toNat : Int)) = false := c4
  by_cases h5 : b.toNat = 44
  · have c5 : ((44 : Int) == (b.toNat : Int)) = true := by simp; omega
    have hm : isMark b = true := by unfold isMark; simp [h5]
    go_enter Try.func89, Try.ntmps89
    go_wp2_with fail
    refine wp_loop_rounds 6 ?_
    iterate 6 (rw [rounds_succ]; go_wp2_with fail)
    go_ret
    exact ⟨by rw [hm]; rfl, rfl⟩
  have c5 : ((44 : Int) == (b.toNat : Int)) = false := by simp; omega
  have d5 : ((((⟨#[123, 125, 40, 41, 58, 44, 64, 43, 45, 61]⟩ : ByteArray)[5]'(by decide)).toNat : Int) == (b.toNat : Int)) = false := c5
  by_cases h6 : b.toNat = 64
  · have c6 : ((64 : Int) == (b.toNat : Int)) = true := by simp; omega
    have hm : isMark b = true := by unfold isMark; simp [h6]
    go_enter Try.func89, Try.ntmps89
    go_wp2_with fail
    refine wp_loop_rounds 7 ?_
    iterate 7 (rw [rounds_succ]; go_wp2_with fail)
    go_ret
    exact ⟨by rw [hm]; rfl, rfl⟩
  have c6 : ((64 : Int) == (b.toNat : Int)) = false := by simp; omega
  have d6 : ((((⟨#[123, 125, 40, 41, 58, 44, 64, 43, 45, 61]⟩ : ByteArray)[6]'(by decide)).toNat : Int) == (b.toNat : Int)) = false := c6
  by_cases h7 : b.toNat = 43
  · have c7 : ((43 : Int) == (b.toNat : Int)) = true := by simp; omega
    have hm : isMark b = true := by unfold isMark; simp [h7]
    go_enter Try.func89, Try.ntmps89
    go_wp2_with fail
    refine wp_loop_rounds 8 ?_
    iterate 8 (rw [rounds_succ]; go_wp2_with fail)
    go_ret
    exact ⟨by rw [hm]; rfl, rfl⟩
  have c7 : ((43 : Int) == (b.toNat : Int)) = false := by simp; omega
  have d7 : ((((⟨#[123, 125, 40, 41, 58, 44, 64, 43, 45, 61]⟩ : ByteArray)[7]'(by decide)).toNat : Int) == (b.toNat : Int)) = false := c7
  by_cases h8 : b.toNat = 45
  · have c8 : ((45 : Int) == (b.toNat : Int)) = true := by simp; omega
    have hm : isMark b = true := by unfold isMark; simp [h8]
    go_enter Try.func89, Try.ntmps89
    go_wp2_with fail
    refine wp_loop_rounds 9 ?_
    iterate 9 (rw [rounds_succ]; go_wp2_with fail)
    go_ret
    exact ⟨by rw [hm]; rfl, rfl⟩
  have c8 : ((45 : Int) == (b.toNat : Int)) = false := by simp; omega
  have d8 : ((((⟨#[123, 125, 40, 41, 58, 44, 64, 43, 45, 61]⟩ : ByteArray)[8]'(by decide)).toNat : Int) == (b.toNat : Int)) = false := c8
  by_cases h9 : b.toNat = 61
  · have c9 : ((61 : Int) == (b.toNat : Int)) = true := by simp; omega
    have hm : isMark b = true := by unfold isMark; simp [h9]
    go_enter Try.func89, Try.ntmps89
    go_wp2_with fail
    refine wp_loop_rounds 10 ?_
    iterate 10 (rw [rounds_succ]; go_wp2_with fail)
    go_ret
    exact ⟨by rw [hm]; rfl, rfl⟩
  have c9 : ((61 : Int) == (b.toNat : Int)) = false := by simp; omega
  have d9 : ((((⟨#[123, 125, 40, 41, 58, 44, 64, 43, 45, 61]⟩ : ByteArray)[9]'(by decide)).toNat : Int) == (b.toNat : Int)) = false := c9
  have hm : isMark b = false := by unfold isMark; simp; omega
  go_enter Try.func89, Try.ntmps89
  go_wp2_with fail
  refine wp_loop_rounds 11 ?_
  iterate 11 (rw [rounds_succ]; go_wp2_with fail)
  go_ret
  exact ⟨by rw [hm]; rfl, rfl⟩
end Lex
end Go.Proofs.Ytabkaaapkcadhaa
