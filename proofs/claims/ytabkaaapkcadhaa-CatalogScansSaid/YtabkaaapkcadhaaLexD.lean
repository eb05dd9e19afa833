/- Contracts of like and equal on equal lists. -/
import Derived.Test.YtabkaaapkcadhaaLexC
namespace Go.Proofs.Ytabkaaapkcadhaa
open Go.ChangeShapes Go.WideShapes Go.ChangeAt Go.RowKit
namespace Lex
theorem sl_cases {w : World} {v : Value} {L : List Tok} (h : Sl w 4 v L.length (cellsOf L)) : ∃ A c, v = .slice A L.length c ∧ L.length ≤ c ∧ c ≤ maxLen ∧ (0 < L.length → ∃ b o, A = some ⟨b, o, none⟩ ∧ b < w.heap.size ∧ TokRow w b o L) := by
  obtain ⟨_, A, c, h1, h2, h3, h4⟩ := h
  exact ⟨A, c, h1, h2, h3, h4⟩
theorem like_empty (a b : Option Addr) (c d : Nat) (w : World) : Calls Try.prog 18 #[.slice a 0 c, .slice b 0 d] w fun e w' => e = .returned (.bool true) ∧ Below w.heap.size w w' := by
  go_enter Try.func18, Try.ntmps18
  go_wp2_with fail
  refine wp_loop_rounds 1 ?_
  rw [rounds_succ]
  go_wp2_with fail
  go_ret
  exact ⟨rfl, Below.refl _ _⟩
theorem like_some (L : List Tok) (b1 o1 c1 b2 o2 c2 : Nat) (w : World) (hL : L.length ≤ 5000)
    (h1 : TokRow w b1 o1 L) (h2 : TokRow w b2 o2 L) :
    Calls Try.prog 18 #[.slice (some ⟨b1, o1, none⟩) L.length c1, .slice (some ⟨b2, o2, none⟩) L.length c2] w fun e w' => e = .returned (.bool true) ∧ Below w.heap.size w w' := by
  have H1 := Lib.hid h1
  have H2 := Lib.hid h2
  clear h1 h2
  go_enter Try.func18, Try.ntmps18
  go_wp2_with fail
  go_loopw [13] (fun i wr => ∃ k : Nat, k ≤ L.length ∧ i = .int .i64 (k : Int) ∧ ∃ n, wr = w.drewN n) (fun i _ => L.length - (intOf i).toNat)
  case atStart => exact ⟨0, by omega, rfl, 0, rfl⟩
  case round =>
    obtain ⟨k, hk, rfl, n, rfl⟩ := hrel
    by_cases hlt : k < L.length
    · have hd : decide ((k : Int) < (L.length : Int)) = true := by simp; omega
      have e1 := H1.out.at_ k hlt
      have e2 := H2.out.at_ k hlt
      generalize L[k] = t at *
      have j1 : (0 : Int) ≤ (k : Int) := by omega
      go_wp2_with fail
      go_quiet (fail)
      go_wp2_with fail
      go_roundw
      case rel => exact ⟨k + 1, by omega, by go_num, n + nq, rfl⟩
      case measure => simp [intOf]; omega
    · obtain rfl : k = L.length := by omega
      have hd : decide ((L.length : Int) < (L.length : Int)) = false := by simp
      go_wp2_with fail
      go_ret
      exact ⟨rfl, drewN_below _ _⟩

theorem like_same (L : List Tok) (v1 v2 : Value) (w : World) (hL : L.length ≤ 5000) (h1 : Sl w 4 v1 L.length (cellsOf L)) (h2 : Sl w 4 v2 L.length (cellsOf L)) :
    Calls Try.prog 18 #[v1, v2] w fun e w' => e = .returned (.bool true) ∧ Below w.heap.size w w' := by
  obtain ⟨A, c, rfl, _, _, ha⟩ := sl_cases h1
  obtain ⟨B, d, rfl, _, _, hb⟩ := sl_cases h2
  rcases Nat.eq_zero_or_pos L.length with h0 | h0
  · rw [h0]
    exact like_empty A B c d w
  · obtain ⟨b1, o1, rfl, _, r1⟩ := ha h0
    obtain ⟨b2, o2, rfl, _, r2⟩ := hb h0
    exact like_some L b1 o1 c b2 o2 d w hL r1 r2
theorem equal_empty (a b : Option Addr) (c d : Nat) (w : World) : Calls Try.prog 41 #[.slice a 0 c, .slice b 0 d] w fun e w' => e = .returned (.bool true) ∧ Below w.heap.size w w' := by
  go_enter Try.func41, Try.ntmps41
  go_wp2_with fail
  refine wp_loop_rounds 1 ?_
  rw [rounds_succ]
  go_wp2_with fail
  go_ret
  exact ⟨rfl, Below.refl _ _⟩
theorem equal_some (L : List Tok) (b1 o1 c1 b2 o2 c2 : Nat) (w : World) (hL : L.length ≤ 5000)
    (h1 : TokRow w b1 o1 L) (h2 : TokRow w b2 o2 L) :
    Calls Try.prog 41 #[.slice (some ⟨b1, o1, none⟩) L.length c1, .slice (some ⟨b2, o2, none⟩) L.length c2] w fun e w' => e = .returned (.bool true) ∧ Below w.heap.size w w' := by
  have H1 := Lib.hid h1
  have H2 := Lib.hid h2
  clear h1 h2
  go_enter Try.func41, Try.ntmps41
  go_wp2_with fail
  go_loopw [13] (fun i wr => ∃ k : Nat, k ≤ L.length ∧ i = .int .i64 (k : Int) ∧ ∃ n, wr = w.drewN n) (fun i _ => L.length - (intOf i).toNat)
  case atStart => exact ⟨0, by omega, rfl, 0, rfl⟩
  case round =>
    obtain ⟨k, hk, rfl, n, rfl⟩ := hrel
    by_cases hlt : k < L.length
    · have hd : decide ((k : Int) < (L.length : Int)) = true := by simp; omega
      have e1 := H1.out.at_ k hlt
      have e2 := H2.out.at_ k hlt
      generalize L[k] = t at *
      have j1 : (0 : Int) ≤ (k : Int) := by omega
      go_wp2_with fail
      go_quiet (fail)
      go_wp2_with fail
      go_roundw
      case rel => exact ⟨k + 1, by omega, by go_num, n + nq, rfl⟩
      case measure => simp [intOf]; omega
    · obtain rfl : k = L.length := by omega
      have hd : decide ((L.length : Int) < (L.length : Int)) = false := by simp
      go_wp2_with fail
      go_ret
      exact ⟨rfl, drewN_below _ _⟩

theorem equal_same (L : List Tok) (v1 v2 : Value) (w : World) (hL : L.length ≤ 5000) (h1 : Sl w 4 v1 L.length (cellsOf L)) (h2 : Sl w 4 v2 L.length (cellsOf L)) :
    Calls Try.prog 41 #[v1, v2] w fun e w' => e = .returned (.bool true) ∧ Below w.heap.size w w' := by
  obtain ⟨A, c, rfl, _, _, ha⟩ := sl_cases h1
  obtain ⟨B, d, rfl, _, _, hb⟩ := sl_cases h2
  rcases Nat.eq_zero_or_pos L.length with h0 | h0
  · rw [h0]
    exact equal_empty A B c d w
  · obtain ⟨b1, o1, rfl, _, r1⟩ := ha h0
    obtain ⟨b2, o2, rfl, _, r2⟩ := hb h0
    exact equal_some L b1 o1 c b2 o2 d w hL r1 r2
end Lex
end Go.Proofs.Ytabkaaapkcadhaa
