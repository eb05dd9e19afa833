/- Contracts of the checksum's small functions. -/
import Derived.Test.YtnnakikhfacnpaaRows
import Derived.Test.YtnnakikhfacnpaaBase
import Derived.Test.YtnnakikhfacnpaaSumNum
import Derived.Laws.BitsAllLaws
namespace Go.Proofs.Ytnnakikhfacnpaa
open Go.ChangeShapes Go.WideShapes Go.ChangeAt Go.RowKit
namespace Sum

theorem bx32 {a : Int} {n : Nat} {b : Int} {m : Nat} (ha : a = (n : Int)) (hb : b = (m : Int)) (hn : n < 4294967296) (hm : m < 4294967296) : bits .xor .u32 a b = ((n ^^^ m : Nat) : Int) := by
  subst ha hb; exact u32_xor_nat n m hn hm
theorem bxb (r : Nat) (b : UInt8) (hr : r < 4294967296) : bits .xor .u32 (r : Int) ((b.toNat : Int) % 4294967296) = ((r ^^^ b.toNat : Nat) : Int) :=
  bx32 rfl (by have := b.toNat_lt; omega) hr (by have := b.toNat_lt; omega)
theorem bxp (x : Nat) (hx : x < 4294967296) : bits .xor .u32 ((x : Int) / 2) 2197175160 = ((x / 2 ^^^ poly : Nat) : Int) :=
  bx32 (by omega) (by rfl) (by omega) (by decide)
theorem step1_odd {x : Nat} (h : x % 2 = 1) : step1 x = x / 2 ^^^ poly := by unfold step1; rw [if_pos h]
theorem step1_even {x : Nat} (h : ¬ x % 2 = 1) : step1 x = x / 2 := by unfold step1; rw [if_neg h]

theorem step_any (r : Nat) (b : UInt8) (w : World) (hr : r < 4294967296) :
    Calls Try.prog 48 #[.int .u32 (r : Int), .int .u8 (b.toNat : Int)] w fun e w' => e = .returned (.int .u32 (byteStep r b : Nat)) ∧ w = w' := by
  have e1 := bxb r b hr
  have HL := Lib.hid (xorb_lt b hr)
  have HD := Lib.hid (show byteStep r b = stepN 8 (r ^^^ b.toNat) from rfl)
  go_enter Try.func48, Try.ntmps48
  go_wp2
  clear e1
  go_loop [0, 5] (fun x i => ∃ (k y : Nat), k ≤ 8 ∧ i = .int .i64 k ∧ x = .int .u32 y ∧ y < 4294967296 ∧ byteStep r b = stepN (8 - k) y) (fun _ i => 8 - (intOf i).toNat)
  case atStart => exact ⟨0, r ^^^ b.toNat, by omega, rfl, rfl, HL.out, HD.out⟩
  case round =>
    obtain ⟨k, y, hk, rfl, rfl, hy, hs⟩ := hrel
    have HS := Lib.hid hs
    clear hs
    by_cases hlt : k < 8
    · have hn : 8 - k = (8 - (k + 1)) + 1 := by omega
      have HN := Lib.hid hn
      clear hn
      by_cases ho : y % 2 = 1
      · have c1 : ((y : Int) % 2 == 1) = true := by simp; omega
        have e2 := bxp y hy
        have HO := Lib.hid ho
        clear ho
        go_wp2
        go_round
        case rel =>
          refine ⟨k + 1, step1 y, by omega, by go_num, ?_, step1_lt hy, ?_⟩
          · rw [step1_odd HO.out]
          · have h := HS.out
            rw [HN.out] at h
            exact h
        case measure => simp [intOf]; omega
      · have c1 : ((y : Int) % 2 == 1) = false := by simp; omega
        have HO := Lib.hid ho
        clear ho
        go_wp2
        go_round
        case rel =>
          refine ⟨k + 1, step1 y, by omega, by go_num, ?_, step1_lt hy, ?_⟩
          · rw [step1_even HO.out]; rfl
          · have h := HS.out
            rw [HN.out] at h
            exact h
        case measure => simp [intOf]; omega
    · go_wp2
      go_ret
      obtain rfl : k = 8 := by omega
      exact ⟨by rw [HS.out]; rfl, rfl⟩

/-- an array of sixteen numbers -/
@[reducible] def arr16 (p : Nat → Int) : Array Value := #[.int .u32 (p 0), .int .u32 (p 1), .int .u32 (p 2), .int .u32 (p 3), .int .u32 (p 4), .int .u32 (p 5), .int .u32 (p 6), .int .u32 (p 7), .int .u32 (p 8), .int .u32 (p 9), .int .u32 (p 10), .int .u32 (p 11), .int .u32 (p 12), .int .u32 (p 13), .int .u32 (p 14), .int .u32 (p 15)]
theorem lt16 {k : Nat} (h : k < 16) : k = 0 ∨ k = 1 ∨ k = 2 ∨ k = 3 ∨ k = 4 ∨ k = 5 ∨ k = 6 ∨ k = 7 ∨ k = 8 ∨ k = 9 ∨ k = 10 ∨ k = 11 ∨ k = 12 ∨ k = 13 ∨ k = 14 ∨ k = 15 := by omega
structure Box16 (w : World) (b : Nat) (p : Nat → Int) : Prop where
  blk : ∃ T, w.heap[b]? = some (.cells (arr16 p) T (0, 0))
theorem Box16.cell {w : World} {b : Nat} {p : Nat → Int} (h : Box16 w b p) (k : Nat) (hk : k < 16) : w.cell? ⟨b, k, none⟩ = some (.int .u32 (p k)) := by
  obtain ⟨T, h⟩ := h.blk
  rw [cell_of_row w b k _ T _ h]
  rcases lt16 hk with rfl | rfl | rfl | rfl | rfl | rfl | rfl | rfl | rfl | rfl | rfl | rfl | rfl | rfl | rfl | rfl
  all_goals rfl
theorem Box16.free {w : World} {b : Nat} {p : Nat → Int} (h : Box16 w b p) (k : Nat) : w.frozen? ⟨b, k, none⟩ = false := by
  obtain ⟨T, h⟩ := h.blk
  exact frozen_of_row w b k _ T h
theorem Box16.lt {w : World} {b : Nat} {p : Nat → Int} (h : Box16 w b p) : b < w.heap.size := block_lt_of_cell (h.cell 0 (by omega))
theorem Box16.below {B : Nat} {w w1 : World} {b : Nat} {p : Nat → Int} (h : Box16 w b p) (hb : Below B w w1) (hB : b < B) : Box16 w1 b p := by
  obtain ⟨T, h⟩ := h.blk
  exact ⟨T, by rw [hb.block b hB]; exact h⟩
theorem Box16.other {w : World} {b c k : Nat} {p : Nat → Int} (h : Box16 w b p) (hn : b ≠ c) (v : Value) : Box16 (w.setCell ⟨c, k, none⟩ v) b p := by
  obtain ⟨T, h⟩ := h.blk
  exact ⟨T, by rw [heap_setCell_other _ _ _ _ hn]; exact h⟩
theorem Box16.set {w : World} {b : Nat} {p : Nat → Int} (h : Box16 w b p) (k : Nat) (hk : k < 16) (x : Int) : Box16 (w.setCell ⟨b, k, none⟩ (.int .u32 x)) b (fun j => if j = k then x else p j) := by
  obtain ⟨T, h⟩ := h.blk
  refine ⟨T, ?_⟩
  rw [heap_setCell_same w b k _ T _ h]
  rcases lt16 hk with rfl | rfl | rfl | rfl | rfl | rfl | rfl | rfl | rfl | rfl | rfl | rfl | rfl | rfl | rfl | rfl
  all_goals simp [arr16]
theorem Box16.congr {w : World} {b : Nat} {p q : Nat → Int} (h : Box16 w b p) (he : ∀ k, k < 16 → p k = q k) : Box16 w b q := by
  obtain ⟨T, h⟩ := h.blk
  refine ⟨T, ?_⟩
  rw [h]
  simp [arr16, he]
theorem box16_new (w : World) (p : Nat → Int) (T : TypeId) : Box16 (w.alloc (.cells (arr16 p) T)) w.heap.size p := ⟨T, by show (w.heap.push _)[w.heap.size]? = _; simp⟩
theorem Box16.alloc {w : World} {b : Nat} {p : Nat → Int} (h : Box16 w b p) (o : Obj) : Box16 (w.alloc o) b p := h.below (below_new w o) h.lt

theorem Box16.fill {w : World} {b : Nat} {p : Nat → Int} (h : Box16 w b p) (q : Nat → Int) : Box16 ((((((((((((((((w.setCell ⟨b, 0, none⟩ (.int .u32 (q 0))).setCell ⟨b, 1, none⟩ (.int .u32 (q 1))).setCell ⟨b, 2, none⟩ (.int .u32 (q 2))).setCell ⟨b, 3, none⟩ (.int .u32 (q 3))).setCell ⟨b, 4, none⟩ (.int .u32 (q 4))).setCell ⟨b, 5, none⟩ (.int .u32 (q 5))).setCell ⟨b, 6, none⟩ (.int .u32 (q 6))).setCell ⟨b, 7, none⟩ (.int .u32 (q 7))).setCell ⟨b, 8, none⟩ (.int .u32 (q 8))).setCell ⟨b, 9, none⟩ (.int .u32 (q 9))).setCell ⟨b, 10, none⟩ (.int .u32 (q 10))).setCell ⟨b, 11, none⟩ (.int .u32 (q 11))).setCell ⟨b, 12, none⟩ (.int .u32 (q 12))).setCell ⟨b, 13, none⟩ (.int .u32 (q 13))).setCell ⟨b, 14, none⟩ (.int .u32 (q 14))).setCell ⟨b, 15, none⟩ (.int .u32 (q 15))) b q :=
  ((((((((((((((((h.set 0 (by omega) (q 0)).set 1 (by omega) (q 1)).set 2 (by omega) (q 2)).set 3 (by omega) (q 3)).set 4 (by omega) (q 4)).set 5 (by omega) (q 5)).set 6 (by omega) (q 6)).set 7 (by omega) (q 7)).set 8 (by omega) (q 8)).set 9 (by omega) (q 9)).set 10 (by omega) (q 10)).set 11 (by omega) (q 11)).set 12 (by omega) (q 12)).set 13 (by omega) (q 13)).set 14 (by omega) (q 14)).set 15 (by omega) (q 15)).congr (by
    intro k hk
    rcases lt16 hk with rfl | rfl | rfl | rfl | rfl | rfl | rfl | rfl | rfl | rfl | rfl | rfl | rfl | rfl | rfl | rfl
    all_goals rfl)

/-- the table -/
def tab (k : Nat) : Int := (stepN 4 k : Nat)

set_option maxRecDepth 100000 in
theorem nibbles_any (w : World) : Calls Try.prog 47 #[] w fun e w' => e = .returned (.agg (arr16 tab)) ∧ Below w.heap.size w w' := by
  go_enter Try.func47, Try.ntmps47
  go_wp2_with fail
  go_loopw [4] (fun i wr => ∃ k : Nat, k ≤ 16 ∧ i = .int .i64 k ∧ Box16 wr w.heap.size (fun _ => 0) ∧ Box16 wr (w.heap.size + 1) (fun j => if j < k then tab j else 0) ∧ Below w.heap.size w wr) (fun i _ => 16 - (intOf i).toNat)
  case atStart =>
    have h1 := box16_new (w.alloc (.cells (arr16 fun _ => 0) 67)) (fun _ => 0) 67
    simp only [World.size_alloc] at h1
    exact ⟨0, by omega, rfl, (box16_new w (fun _ => 0) _).alloc _, h1.congr (by intro k _; simp), (below_new _ _).trans ((below_new _ _).mono (by go_size))⟩
  case round =>
    obtain ⟨k, hk, rfl, X0, X1, B⟩ := hrel
    by_cases hlt : k < 16
    · have hd : decide ((k : Int) < 16) = true := by simp; omega
      have hk32 : (k : Int) < 4294967296 := by omega
      go_wp2_with fail
      obtain ⟨wo, rfl⟩ : ∃ wo : World, wo = wr := ⟨_, rfl⟩
      go_loop [3, 9] (fun x i => ∃ (j y : Nat), j ≤ 4 ∧ i = .int .i64 j ∧ x = .int .u32 y ∧ y < 4294967296 ∧ stepN 4 k = stepN (4 - j) y) (fun _ i => 4 - (intOf i).toNat)
      case atStart => exact ⟨0, k, by omega, rfl, by simp, by omega, rfl⟩
      case round =>
        obtain ⟨j, y, hj, rfl, rfl, hy, hs⟩ := hrel
        have HS := Lib.hid hs
        clear hs
        by_cases hlj : j < 4
        · have hn : 4 - j = (4 - (j + 1)) + 1 := by omega
          have HN := Lib.hid hn
          clear hn
          have hd4 : decide ((j : Int) < 4) = true := by simp; omega
          by_cases ho : y % 2 = 1
          · have c1 : bits .and .u32 (y : Int) 1 = 1 := by
              rw [show (1 : Int) = ((1 : Nat) : Int) from rfl, u32_and_nat y 1 hy (by omega), nat_mask1, ho]
            have e2 := bxp y hy
            have HO := Lib.hid ho
            clear ho
            go_wp2
            go_round
            case rel =>
              refine ⟨j + 1, step1 y, by omega, by go_num, ?_, step1_lt hy, ?_⟩
              · rw [step1_odd HO.out]
              · have h := HS.out
                rw [HN.out] at h
                exact h
            case measure => simp [intOf]; omega
          · have c1 : bits .and .u32 (y : Int) 1 = 0 := by
              rw [show (1 : Int) = ((1 : Nat) : Int) from rfl, u32_and_nat y 1 hy (by omega), nat_mask1, show y % 2 = 0 by omega]; rfl
            have HO := Lib.hid ho
            clear ho
            go_wp2
            go_round
            case rel =>
              refine ⟨j + 1, step1 y, by omega, by go_num, ?_, step1_lt hy, ?_⟩
              · rw [step1_even HO.out]; rfl
              · have h := HS.out
                rw [HN.out] at h
                exact h
            case measure => simp [intOf]; omega
        · have hd4 : decide ((j : Int) < 4) = false := by simp; omega
          have ck := X1.cell k hlt
          have cf := X1.free k
          have ht : Hid ((y : Int) = tab k) := by
            have h := HS.out
            obtain rfl : j = 4 := by omega
            unfold tab
            rw [h]; rfl
          go_wp2
          go_roundw
          case rel =>
            refine ⟨k + 1, by omega, by go_num, X0.other (by omega) _, ?_, B.setCell (p := ⟨w.heap.size + 1, k, none⟩) (by show w.heap.size ≤ w.heap.size + 1; omega) _⟩
            refine (X1.set k hlt y).congr ?_
            intro j hj
            by_cases e : j = k
            · subst e; simp [ht.out]
            · by_cases l : j < k
              · simp [e, l, Nat.lt_succ_of_lt l]
              · simp [e, l, show ¬ j < k + 1 by omega]
          case measure => simp [intOf]; omega
    · have hd : decide ((k : Int) < 16) = false := by simp; omega
      have X2 : Box16 wr (w.heap.size + 1) tab := X1.congr (by intro j hj; rw [if_pos (by omega)])
      clear X1
      have c0 := X2.cell 0 (by omega)
      have c1 := X2.cell 1 (by omega)
      have c2 := X2.cell 2 (by omega)
      have c3 := X2.cell 3 (by omega)
      have c4 := X2.cell 4 (by omega)
      have c5 := X2.cell 5 (by omega)
      have c6 := X2.cell 6 (by omega)
      have c7 := X2.cell 7 (by omega)
      have c8 := X2.cell 8 (by omega)
      have c9 := X2.cell 9 (by omega)
      have c10 := X2.cell 10 (by omega)
      have c11 := X2.cell 11 (by omega)
      have c12 := X2.cell 12 (by omega)
      have c13 := X2.cell 13 (by omega)
      have c14 := X2.cell 14 (by omega)
      have c15 := X2.cell 15 (by omega)
      have z0 := X0.cell 0 (by omega)
      have z1 := X0.cell 1 (by omega)
      have z2 := X0.cell 2 (by omega)
      have z3 := X0.cell 3 (by omega)
      have z4 := X0.cell 4 (by omega)
      have z5 := X0.cell 5 (by omega)
      have z6 := X0.cell 6 (by omega)
      have z7 := X0.cell 7 (by omega)
      have z8 := X0.cell 8 (by omega)
      have z9 := X0.cell 9 (by omega)
      have z10 := X0.cell 10 (by omega)
      have z11 := X0.cell 11 (by omega)
      have z12 := X0.cell 12 (by omega)
      have z13 := X0.cell 13 (by omega)
      have z14 := X0.cell 14 (by omega)
      have z15 := X0.cell 15 (by omega)
      have zf := X0.free
      go_wp2_with fail
      clear z0 z1 z2 z3 z4 z5 z6 z7 z8 z9 z10 z11 z12 z13 z14 z15 c0 c1 c2 c3 c4 c5 c6 c7 c8 c9 c10 c11 c12 c13 c14 c15
      obtain ⟨T, hT⟩ := (X0.fill tab).blk
      refine bodyPost_ret (v := .agg (arr16 tab)) (results_cell_row rfl _ _ w.heap.size T (arr16 tab) (0, 0) _ rfl hT Try.underlying67 rfl (by kernel_rfl)) rfl ⟨rfl, ?_⟩
      go_grown
end Sum
end Go.Proofs.Ytnnakikhfacnpaa
