/- Contracts of clockprice.valid and its reference: arrays of six prices. -/
import Derived.Test.YtnnakikhfacnpaaClk1
import Derived.ChangeKeysEq
import Derived.Test.YtnnakikhfacnpaaClkNum
namespace Go.Proofs.Ytnnakikhfacnpaa
open Go.ChangeShapes Go.WideShapes Go.ChangeAt Go.RowKit
namespace Clk

/-- an array of six numbers -/
@[reducible] def arr (p : Nat → Int) : Array Value := #[.int .i64 (p 0), .int .i64 (p 1), .int .i64 (p 2), .int .i64 (p 3), .int .i64 (p 4), .int .i64 (p 5)]

theorem und25 : Try.prog.underlying 25 = some (.array 6 2) := by kernel_rfl

theorem idx25 (p : Nat → Int) (k : Nat) (hk : k < 6) (w : World) :
    (Instr.index 25 (.agg (arr p)) (.int .i64 (k : Int))).run Try.prog w = .ok (.int .i64 (p k)) w := by
  obtain rfl | rfl | rfl | rfl | rfl | rfl : k = 0 ∨ k = 1 ∨ k = 2 ∨ k = 3 ∨ k = 4 ∨ k = 5 := by omega
  all_goals kernel_rfl

def eq6 (a b : Nat → Int) : Bool := a 0 == b 0 && (a 1 == b 1 && (a 2 == b 2 && (a 3 == b 3 && (a 4 == b 4 && (a 5 == b 5)))))
theorem eq6_iff (a b : Nat → Int) : eq6 a b = true ↔ ∀ k, k < 6 → a k = b k := by
  simp only [eq6, Bool.and_eq_true, beq_iff_eq]
  constructor
  · rintro ⟨h0, h1, h2, h3, h4, h5⟩ k hk
    obtain rfl | rfl | rfl | rfl | rfl | rfl : k = 0 ∨ k = 1 ∨ k = 2 ∨ k = 3 ∨ k = 4 ∨ k = 5 := by omega
    all_goals assumption
  · intro h
    exact ⟨h 0 (by omega), h 1 (by omega), h 2 (by omega), h 3 (by omega), h 4 (by omega), h 5 (by omega)⟩
section
variable {P : Program} {E : TypeId} {d : Nat}
theorem item_step (hE : P.underlying E = some (.int .i64)) (hp : P.plainKey E = true) (xs ys : Array Value) (j : Nat) (is : List Nat) (a b : Int) (ha : xs[j]? = some (.int .i64 a)) (hb : ys[j]? = some (.int .i64 b)) (r : Bool) (w : World)
    (hr : (Op.eqItems (d + 1) E 1 xs ys is).run P w = .ok r w) : (Op.eqItems (d + 1) E 1 xs ys (j :: is)).run P w = .ok (a == b && r) w := by
  have e1 := run_part_plain (w := w) hp (off := j) ha
  have e2 := run_part_plain (w := w) hp (off := j) hb
  have e3 : (Op.equalIn (d + 1) E (.int .i64 a) (.int .i64 b)).run P w = .ok (a == b) w := by simp [Op.equalIn, run_underlying hE]
  simp only [Op.eqItems, Nat.mul_one, Sem.run_bind, e1, e2, e3, Result.andThen_ok]
  cases h : (a == b)
  · simp
  · simp [hr]
theorem run_eq6 {T : TypeId} {i : TypeInfo} (hT : P.underlying T = some (.array 6 E)) (hi : P.info? E = some i) (hE : P.underlying E = some (.int .i64)) (hp : P.plainKey E = true) (hc : P.cellsOf E = 1) (a b : Nat → Int) (w : World) :
    (Op.equalIn 10000 T (.agg (arr a)) (.agg (arr b))).run P w = .ok (eq6 a b) w := by
  rw [run_equalIn_array w 9999 _ _ hT hi, hc]
  show (Op.eqItems (9998 + 1) E 1 (arr a) (arr b) [0, 1, 2, 3, 4, 5]).run P w = _
  unfold eq6
  refine item_step hE hp _ _ 0 _ (a 0) (b 0) rfl rfl _ w ?_
  refine item_step hE hp _ _ 1 _ (a 1) (b 1) rfl rfl _ w ?_
  refine item_step hE hp _ _ 2 _ (a 2) (b 2) rfl rfl _ w ?_
  refine item_step hE hp _ _ 3 _ (a 3) (b 3) rfl rfl _ w ?_
  refine item_step hE hp _ _ 4 _ (a 4) (b 4) rfl rfl _ w ?_
  rw [show (a 5 == b 5) = (a 5 == b 5 && true) by simp]
  exact item_step hE hp _ _ 5 _ (a 5) (b 5) rfl rfl _ w rfl
end
theorem eq25 (a b : Nat → Int) (w : World) : (Op.equalIn 10000 25 (.agg (arr a)) (.agg (arr b))).run Try.prog w = .ok (eq6 a b) w :=
  run_eq6 (P := Try.prog) (E := 2) (by kernel_rfl) (Option.some_get (by kernel_rfl)).symm (by kernel_rfl) (by kernel_rfl) (by kernel_rfl) a b w
theorem eq27 (a b : Nat → Int) (w : World) : (Op.equalIn 10000 27 (.agg (arr a)) (.agg (arr b))).run Try.prog w = .ok (eq6 a b) w :=
  run_eq6 (P := Try.prog) (E := 3) (by kernel_rfl) (Option.some_get (by kernel_rfl)).symm (by kernel_rfl) (by kernel_rfl) (by kernel_rfl) a b w

def valid (p : Nat → Int) : Prop := ∀ j, j < 6 → 0 ≤ p j ∧ p j ≤ 1000000

theorem valid_yes (p : Nat → Int) (w : World) (h : valid p) :
    Calls Try.prog 43 #[.agg (arr p)] w fun e w' => e = .returned (.bool true) ∧ Below w.heap.size w w' := by
  have H := Lib.hid h
  clear h
  have hi := idx25 p
  unfold arr at hi ⊢
  go_enter Try.func43, Try.ntmps43
  go_wp2
  go_loop [6] (fun i => ∃ k : Nat, k ≤ 6 ∧ i = .int .i64 k) (fun i => 6 - (intOf i).toNat)
  case atStart => exact ⟨0, by omega, rfl⟩
  case round =>
    obtain ⟨k, hk, rfl⟩ := hrel
    by_cases hlt : k < 6
    · have hb := H.out k hlt
      have hi' := hi k hlt
      clear hi
      obtain ⟨h0, h1⟩ := hb
      go_wp2_with (go_at_call 52; refine (amtCheck_yes (p k) _ h0 h1).mono ?_; rintro e w' ⟨rfl, rfl⟩)
      go_round
      case rel => exact ⟨k + 1, by omega, by go_num⟩
      case measure => simp [intOf]; omega
    · clear hi
      go_wp2
      go_ret
      exact ⟨rfl, by go_grown⟩

theorem valid_no (p : Nat → Int) (w : World) (h : ¬ valid p) :
    Calls Try.prog 43 #[.agg (arr p)] w fun e w' => e = .returned (.bool false) ∧ Below w.heap.size w w' := by
  have H := Lib.hid h
  clear h
  have hi := idx25 p
  unfold arr at hi ⊢
  go_enter Try.func43, Try.ntmps43
  go_wp2
  go_loop [6] (fun i => ∃ k : Nat, k ≤ 6 ∧ i = .int .i64 k ∧ ∀ j, j < k → 0 ≤ p j ∧ p j ≤ 1000000) (fun i => 6 - (intOf i).toNat)
  case atStart => exact ⟨0, by omega, rfl, by intro j hj; omega⟩
  case round =>
    obtain ⟨k, hk, rfl, hall⟩ := hrel
    have HA := Lib.hid hall
    clear hall
    by_cases hlt : k < 6
    · have hi' := hi k hlt
      clear hi
      by_cases hb : 0 ≤ p k ∧ p k ≤ 1000000
      · obtain ⟨h0, h1⟩ := hb
        go_wp2_with (go_at_call 52; refine (amtCheck_yes (p k) _ h0 h1).mono ?_; rintro e w' ⟨rfl, rfl⟩)
        go_round
        case rel => exact ⟨k + 1, by omega, by go_num, fun j hj => by
          by_cases e : j = k
          · subst e; exact ⟨h0, h1⟩
          · exact HA.out j (by omega)⟩
        case measure => simp [intOf]; omega
      · have hb' : p k < 0 ∨ 1000000 < p k := by omega
        have HB := Lib.hid hb'
        clear hb hb'
        go_wp2_with (go_at_call 52; refine (amtCheck_no (p k) _ HB.out).mono ?_; rintro e w' ⟨rfl, rfl⟩)
        go_ret
        exact ⟨rfl, by go_grown⟩
    · exfalso
      obtain rfl : k = 6 := by omega
      exact H.out HA.out

theorem cellArr (w : World) (p : Nat → Int) (T : TypeId) (k : Nat) (hk : k < 6) :
    (w.alloc (.cells (arr p) T)).cell? ⟨w.heap.size, k, none⟩ = some (.int .i64 (p k)) := by
  obtain rfl | rfl | rfl | rfl | rfl | rfl : k = 0 ∨ k = 1 ∨ k = 2 ∨ k = 3 ∨ k = 4 ∨ k = 5 := by omega
  all_goals simp [arr, go_sem]

theorem amounts_yes (p : Nat → Int) (w : World) (h : valid p) :
    Calls Try.prog 44 #[.agg (arr p)] w fun e w' => e = .returned (.bool true) ∧ Below w.heap.size w w' := by
  have H := Lib.hid h
  clear h
  have hi := cellArr w p 25
  unfold arr at hi ⊢
  go_enter Try.func44, Try.ntmps44
  go_wp2
  go_loop [3] (fun i => ∃ k : Nat, k ≤ 6 ∧ i = .int .i64 k) (fun i => 6 - (intOf i).toNat)
  case atStart => exact ⟨0, by omega, rfl⟩
  case round =>
    obtain ⟨k, hk, rfl⟩ := hrel
    by_cases hlt : k < 6
    · have hb := H.out k hlt
      have hi' := hi k hlt
      clear hi
      obtain ⟨h0, h1⟩ := hb
      go_wp2
      go_round
      case rel => exact ⟨k + 1, by omega, by go_num⟩
      case measure => simp [intOf]; omega
    · clear hi
      go_wp2
      go_ret
      exact ⟨rfl, by go_grown⟩

theorem amounts_no (p : Nat → Int) (w : World) (h : ¬ valid p) :
    Calls Try.prog 44 #[.agg (arr p)] w fun e w' => e = .returned (.bool false) ∧ Below w.heap.size w w' := by
  have H := Lib.hid h
  clear h
  have hi := cellArr w p 25
  unfold arr at hi ⊢
  go_enter Try.func44, Try.ntmps44
  go_wp2
  go_loop [3] (fun i => ∃ k : Nat, k ≤ 6 ∧ i = .int .i64 k ∧ ∀ j, j < k → 0 ≤ p j ∧ p j ≤ 1000000) (fun i => 6 - (intOf i).toNat)
  case atStart => exact ⟨0, by omega, rfl, by intro j hj; omega⟩
  case round =>
    obtain ⟨k, hk, rfl, hall⟩ := hrel
    have HA := Lib.hid hall
    clear hall
    by_cases hlt : k < 6
    · have hi' := hi k hlt
      clear hi
      by_cases hb : 0 ≤ p k
      · by_cases hb2 : p k ≤ 1000000
        · go_wp2
          go_round
          case rel => exact ⟨k + 1, by omega, by go_num, fun j hj => by
            by_cases e : j = k
            · subst e; exact ⟨hb, hb2⟩
            · exact HA.out j (by omega)⟩
          case measure => simp [intOf]; omega
        · go_wp2
          go_ret
          exact ⟨rfl, by go_grown⟩
      · go_wp2
        go_ret
        exact ⟨rfl, by go_grown⟩
    · exfalso
      obtain rfl : k = 6 := by omega
      exact H.out HA.out


theorem mul_bd {x p : Int} (h0 : 0 ≤ x) (h1 : x ≤ 1000000) (p0 : 0 ≤ p) (p1 : p ≤ 100) : 0 ≤ x * p ∧ x * p ≤ 100000000 := by
  refine ⟨Int.mul_nonneg h0 p0, ?_⟩
  have := Int.mul_le_mul h1 p1 p0 (by omega : (0:Int) ≤ 1000000)
  omega

theorem raised_any (s p u r : Int) (w : World) :
    Calls Try.prog 42 #[.agg #[.int .i64 s, .int .i64 p, .int .i64 u, .int .i64 r]] w fun e w' => e = .returned (.func (.func 51) #[] #[.pointer (some ⟨w.heap.size, 0, none⟩)]) ∧ w.alloc (.cells #[.int .i64 s, .int .i64 p, .int .i64 u, .int .i64 r] 23) = w' := by
  go_enter Try.func42, Try.ntmps42
  go_wp2
  go_ret
  exact ⟨rfl, rfl⟩

theorem raise_any (s p x : Int) (b : Nat) (w : World) (c0 : w.cell? ⟨b, 0, none⟩ = some (.int .i64 s)) (c1 : w.cell? ⟨b, 1, none⟩ = some (.int .i64 p))
    (s0 : 1 ≤ s) (s1 : s ≤ 1000000) (p0 : 0 ≤ p) (p1 : p ≤ 100) (h0 : 0 ≤ x) (h1 : x ≤ 1000000) :
    Calls Try.prog 51 #[.int .i64 x, .pointer (some ⟨b, 0, none⟩)] w fun e w' => e = .returned (.int .i64 (up s p x)) ∧ w = w' := by
  obtain ⟨m0, m1⟩ := mul_bd h0 h1 p0 p1
  go_enter Try.func51, Try.ntmps51
  go_wp2
  go_ret
  exact ⟨rfl, rfl⟩

theorem refRaised_any (s p u r x : Int) (w : World) 
    (s0 : 1 ≤ s) (s1 : s ≤ 1000000) (p0 : 0 ≤ p) (p1 : p ≤ 100) (h0 : 0 ≤ x) (h1 : x ≤ 1000000) :
    Calls Try.prog 45 #[.agg #[.int .i64 s, .int .i64 p, .int .i64 u, .int .i64 r], .int .i64 x] w fun e w' => e = .returned (.int .i64 (up s p x)) ∧ w.alloc (.cells #[.int .i64 s, .int .i64 p, .int .i64 u, .int .i64 r] 23) = w' := by
  obtain ⟨m0, m1⟩ := mul_bd h0 h1 p0 p1
  by_cases hr : 0 < (x * p) % 100
  · go_enter Try.func45, Try.ntmps45
    go_wp2
    go_ret
    refine ⟨?_, rfl⟩
    show Ending.returned (.int .i64 _) = _
    congr 2
    unfold up
    simp
    omega
  · go_enter Try.func45, Try.ntmps45
    go_wp2
    go_ret
    refine ⟨?_, rfl⟩
    show Ending.returned (.int .i64 _) = _
    congr 2
    unfold up
    simp
    omega

theorem refCheck_yes (s p u r : Int) (w : World) (h : Pol s p u r) :
    Calls Try.prog 19 #[.agg #[.int .i64 s, .int .i64 p, .int .i64 u, .int .i64 r]] w fun e w' => e = .returned (.int .i64 0) ∧ Below w.heap.size w w' := by
  obtain ⟨a, b, c, d, e, f, g, h⟩ := h
  go_enter Try.func19, Try.ntmps19
  go_wp2
  go_ret
  exact ⟨rfl, by go_grown⟩

set_option maxHeartbeats 400000 in
theorem refCheck_no (s p u r : Int) (w : World) (h : ¬ Pol s p u r) :
    Calls Try.prog 19 #[.agg #[.int .i64 s, .int .i64 p, .int .i64 u, .int .i64 r]] w fun e w' => e = .returned (.int .i64 4) ∧ Below w.heap.size w w' := by
  go_enter Try.func19, Try.ntmps19
  go_wp2
  all_goals first
    | (go_ret; exact ⟨rfl, by go_grown⟩)
    | (exfalso; exact h ⟨by omega, by omega, by omega, by omega, by omega, by omega, by omega, by omega⟩)

end Clk
end Go.Proofs.Ytnnakikhfacnpaa
