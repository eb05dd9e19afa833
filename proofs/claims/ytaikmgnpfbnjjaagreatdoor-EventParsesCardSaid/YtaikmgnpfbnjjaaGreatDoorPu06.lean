/- Contracts of IsName of the catalog's reference, between, bundle.Check and Count, Valid. Printed by gen_catB.py. -/
import Derived.Test.YtaikmgnpfbnjjaaGreatDoorPu05
namespace Go.Proofs.YtaikmgnpfbnjjaaGreatDoor
open Go.ChangeShapes Go.WideShapes Go.ChangeAt Go.RowKit
set_option linter.unusedVariables false
set_option linter.unusedSimpArgs false
namespace Cat
open Lex
def restOk (s : ByteArray) (k : Nat) : Bool := (s.data.toList.drop k).all isInn
theorem span_all (p : UInt8 → Bool) : ∀ l : List UInt8, decide (span p l = l.length) = l.all p
  | [] => by simp [span]
  | b :: l => by
    have h := span_all p l
    unfold span
    cases hb : p b with
    | true =>
      rw [if_pos rfl, List.all_cons, hb, Bool.true_and, ← h]
      try simp
    | false =>
      rw [if_neg (by simp), List.all_cons, hb, Bool.false_and]
      try simp
theorem restOk_step {s : ByteArray} {k : Nat} (h : k < s.size) : restOk s k = (isInn s[k] && restOk s (k + 1)) := by
  unfold restOk
  rw [drop_cons s k h]
  rfl
theorem restOk_end (s : ByteArray) : restOk s s.size = true := by
  unfold restOk
  have h : s.data.toList.length = s.size := rfl
  rw [← h, List.drop_length]
  rfl
theorem nameOk_head (s : ByteArray) (h : 0 < s.size) (h12 : s.size ≤ 12) : nameOk s = (isLet s[0] && restOk s 1) := by
  unfold nameOk
  rw [decide_eq_true h, head_any s h, decide_eq_true h12, Bool.true_and, Bool.true_and]
  have h1 : decide (runLen isInn s 0 = s.size) = restOk s 0 := by
    unfold runLen restOk
    have hz : s.size = (s.data.toList.drop 0).length := rfl
    rw [← span_all, hz]
  rw [h1, restOk_step h]
  cases hl : isLet s[0] with
  | true => rw [inn_of_let hl]; simp
  | false => simp
theorem nameOk_long (s : ByteArray) (h : s.size < 1 ∨ 12 < s.size) : nameOk s = false := by
  unfold nameOk
  rcases h with h | h
  · rw [decide_eq_false (by omega)]; rfl
  · rw [decide_eq_false (p := s.size ≤ 12) (by omega)]; simp
theorem nb (x : Bool) (h : x ≠ true) : x = false := by cases x <;> simp at h ⊢
set_option maxHeartbeats 1000000 in
theorem isName8_any (s : ByteArray) (w : World) (hs : s.size ≤ maxLen) : Calls Tryz.prog 94 #[.string s] w fun e w' => e = .returned (.bool (nameOk s)) ∧ Below w.heap.size w w' := by
  unfold maxLen at hs
  by_cases h0 : s.size < 1
  · have d1 : decide ((s.size : Int) < 1) = true := by simp; omega
    have HN := Lib.hid (nameOk_long s (.inl h0))
    go_enter Tryz.func94, Tryz.ntmps94
    go_wp2_with fail
    go_ret
    exact ⟨by rw [HN.out]; rfl, Below.refl _ _⟩
  · have d1 : decide ((s.size : Int) < 1) = false := by simp; omega
    by_cases h12 : 12 < s.size
    · have d2 : decide ((12 : Int) < (s.size : Int)) = true := by simp; omega
      have HN := Lib.hid (nameOk_long s (.inr h12))
      go_enter Tryz.func94, Tryz.ntmps94
      go_wp2_with fail
      go_ret
      exact ⟨by rw [HN.out]; rfl, Below.refl _ _⟩
    · have d2 : decide ((12 : Int) < (s.size : Int)) = false := by simp; omega
      have HN := Lib.hid (nameOk_head s (by omega) (by omega))
      generalize nameOk s = res at *
      go_enter Tryz.func94, Tryz.ntmps94
      go_wp2_with fail
      clear d1 d2
      go_loop [3] (fun i => ∃ k : Nat, k ≤ s.size ∧ i = .int .i64 (k : Int) ∧ (k = 0 ∨ 0 < k ∧ Hid (res = restOk s k))) (fun i => s.size - (intOf i).toNat)
      case atStart => exact ⟨0, by omega, rfl, .inl rfl⟩
      case round =>
        obtain ⟨k, hk, rfl, hx⟩ := hrel
        by_cases hlt : k < s.size
        · have hd : decide ((k : Int) < (s.size : Int)) = true := by simp; omega
          have hby := s[k].toNat_lt
          have hst := Lib.hid (restOk_step hlt)
          rcases hx with rfl | ⟨hk0, HX⟩
          · have z0 : ((0 : Int) == 0) = true := rfl
            simp at hd
            by_cases h1 : 97 ≤ s[0].toNat
            · have c1 : decide ((97 : Int) ≤ (s[0].toNat : Int)) = true := by simp; omega
              by_cases h2 : s[0].toNat ≤ 122
              · have c2 : decide ((s[0].toNat : Int) ≤ 122) = true := by simp; omega
                have C1 := h1
                have C2 := h2
                have HF : Hid (res = restOk s 1) := by rw [HN.out, show isLet s[0] = true by unfold isLet; simp; omega]; rfl
                clear C1 C2
                go_wp2_with fail
                go_round
                case rel => exact ⟨1, by omega, by go_num, .inr ⟨by omega, HF⟩⟩
                case measure => simp [intOf]; omega
              · have c2 : decide ((s[0].toNat : Int) ≤ 122) = false := by simp; omega
                have HF : Hid (res = false) := by rw [HN.out, show isLet s[0] = false by unfold isLet; simp; omega]; rfl
                go_wp2_with fail
                go_ret
                exact ⟨by rw [HF.out]; rfl, Below.refl _ _⟩
            · have c1 : decide ((97 : Int) ≤ (s[0].toNat : Int)) = false := by simp; omega
              have HF : Hid (res = false) := by rw [HN.out, show isLet s[0] = false by unfold isLet; simp; omega]; rfl
              go_wp2_with fail
              go_ret
              exact ⟨by rw [HF.out]; rfl, Below.refl _ _⟩
          · have z0 : ((k : Int) == 0) = false := by simp; omega
            have hi0 : (0 : Int) ≤ (k : Int) := by omega
            have HS : Hid (res = (isInn s[k] && restOk s (k + 1))) := HX.out.trans hst.out
            clear hst HX
            by_cases h1 : 97 ≤ s[k].toNat
            · have c1 : decide ((97 : Int) ≤ (s[k].toNat : Int)) = true := by simp; omega
              by_cases h2 : s[k].toNat ≤ 122
              · have c2 : decide ((s[k].toNat : Int) ≤ 122) = true := by simp; omega
                have CS : 97 ≤ s[k].toNat ∧ s[k].toNat ≤ 122 := ⟨h1, h2⟩
                have HF : Hid (res = restOk s (k + 1)) := by rw [HS.out, show isInn s[k] = true by unfold isInn isLet isDig; simp; omega]; rfl
                clear CS
                go_wp2_with fail
                go_round
                case rel => exact ⟨k + 1, by omega, by go_num, .inr ⟨by omega, HF⟩⟩
                case measure => simp [intOf]; omega
              · have c2 : decide ((s[k].toNat : Int) ≤ 122) = false := by simp; omega
                have c5 : ((s[k].toNat : Int) != 95) = true := by simp; omega
                have c3 : decide ((s[k].toNat : Int) < 48) = false := by simp; omega
                have c4 : decide ((57 : Int) < (s[k].toNat : Int)) = true := by simp; omega
                have HF : Hid (res = false) := by rw [HS.out, show isInn s[k] = false by unfold isInn isLet isDig; simp; omega]; rfl
                go_wp2_with fail
                go_ret
                exact ⟨by rw [HF.out]; rfl, Below.refl _ _⟩
            · have c1 : decide ((97 : Int) ≤ (s[k].toNat : Int)) = false := by simp; omega
              by_cases h5 : s[k].toNat = 95
              · have c5 : ((s[k].toNat : Int) != 95) = false := by simp; omega
                have CS := h5
                have HF : Hid (res = restOk s (k + 1)) := by rw [HS.out, show isInn s[k] = true by unfold isInn isLet isDig; simp; omega]; rfl
                clear CS
                go_wp2_with fail
                go_round
                case rel => exact ⟨k + 1, by omega, by go_num, .inr ⟨by omega, HF⟩⟩
                case measure => simp [intOf]; omega
              · have c5 : ((s[k].toNat : Int) != 95) = true := by simp; omega
                by_cases h3 : s[k].toNat < 48
                · have c3 : decide ((s[k].toNat : Int) < 48) = true := by simp; omega
                  have HF : Hid (res = false) := by rw [HS.out, show isInn s[k] = false by unfold isInn isLet isDig; simp; omega]; rfl
                  go_wp2_with fail
                  go_ret
                  exact ⟨by rw [HF.out]; rfl, Below.refl _ _⟩
                · have c3 : decide ((s[k].toNat : Int) < 48) = false := by simp; omega
                  by_cases h4 : 57 < s[k].toNat
                  · have c4 : decide ((57 : Int) < (s[k].toNat : Int)) = true := by simp; omega
                    have HF : Hid (res = false) := by rw [HS.out, show isInn s[k] = false by unfold isInn isLet isDig; simp; omega]; rfl
                    go_wp2_with fail
                    go_ret
                    exact ⟨by rw [HF.out]; rfl, Below.refl _ _⟩
                  · have c4 : decide ((57 : Int) < (s[k].toNat : Int)) = false := by simp; omega
                    have CS : 48 ≤ s[k].toNat ∧ s[k].toNat ≤ 57 := by omega
                    have HF : Hid (res = restOk s (k + 1)) := by rw [HS.out, show isInn s[k] = true by unfold isInn isLet isDig; simp; omega]; rfl
                    clear CS
                    go_wp2_with fail
                    go_round
                    case rel => exact ⟨k + 1, by omega, by go_num, .inr ⟨by omega, HF⟩⟩
                    case measure => simp [intOf]; omega
        · obtain rfl : k = s.size := by omega
          have hd : decide ((s.size : Int) < (s.size : Int)) = false := by simp
          have HF : Hid (res = true) := by
            rcases hx with e | ⟨_, HX⟩
            · omega
            · exact HX.out.trans (restOk_end s)
          go_wp2_with fail
          go_ret
          exact ⟨by rw [HF.out]; rfl, Below.refl _ _⟩
theorem between_any (n a b : Int) (w : World) : Calls Tryz.prog 98 #[.int .i64 n, .int .i64 a, .int .i64 b] w fun e w' => e = .returned (.bool (inR n a b)) ∧ w = w' := by
  unfold inR
  cases h1 : decide (a ≤ n) with
  | true =>
    go_enter Tryz.func98, Tryz.ntmps98
    go_wp2_with fail
    go_ret
    exact ⟨by simp, rfl⟩
  | false =>
    go_enter Tryz.func98, Tryz.ntmps98
    go_wp2_with fail
    go_ret
    exact ⟨by simp, rfl⟩
theorem bcheck_yes (p : Nat → Int) (w : World) (h : validB p = true) : Calls Tryz.prog 25 #[.agg (arr p)] w fun e w' => e = .returned ( .int .i64 0) ∧ Below w.heap.size w w' := by
  have H := Lib.hid (validB_iff.1 h)
  clear h
  have hi := idx27 p
  unfold arr at hi ⊢
  go_enter Tryz.func25, Tryz.ntmps25
  go_wp2_with fail
  go_loop [6] (fun i => ∃ k : Nat, k ≤ 6 ∧ i = .int .i64 (k : Int)) (fun i => 6 - (intOf i).toNat)
  case atStart => exact ⟨0, by omega, rfl⟩
  case round =>
    obtain ⟨k, hk, rfl⟩ := hrel
    by_cases hlt : k < 6
    · have hb := H.out k hlt
      have hi' := hi k hlt
      clear hi
      have hd : decide ((k : Int) < 6) = true := by simp; omega
      have hi0 : (0 : Int) ≤ (k : Int) := by omega
      have c1 : decide (p k < 0) = false := by simp; omega
      have c2 : decide (4 < p k) = false := by simp; omega
      clear hb
      go_wp2_with fail
      go_round
      case rel => exact ⟨k + 1, by omega, by go_num⟩
      case measure => simp [intOf]; omega
    · obtain rfl : k = 6 := by omega
      clear hi
      go_wp2_with fail
      go_ret
      exact ⟨rfl, by go_grown⟩
theorem bcheck_no (p : Nat → Int) (w : World) (h : validB p = false) : Calls Tryz.prog 25 #[.agg (arr p)] w fun e w' => e = .returned (.int .i64 4) ∧ Below w.heap.size w w' := by
  have H : Hid (¬ ∀ i, i < 6 → 0 ≤ p i ∧ p i ≤ 4) := fun k => by rw [validB_iff.2 k] at h; cases h
  clear h
  have hi := idx27 p
  unfold arr at hi ⊢
  go_enter Tryz.func25, Tryz.ntmps25
  go_wp2_with fail
  go_loop [6] (fun i => ∃ k : Nat, k ≤ 6 ∧ i = .int .i64 (k : Int) ∧ Hid (∀ j, j < k → 0 ≤ p j ∧ p j ≤ 4)) (fun i => 6 - (intOf i).toNat)
  case atStart => exact ⟨0, by omega, rfl, fun j hj => by omega⟩
  case round =>
    obtain ⟨k, hk, rfl, HA⟩ := hrel
    by_cases hlt : k < 6
    · have hi' := hi k hlt
      clear hi
      have hd : decide ((k : Int) < 6) = true := by simp; omega
      have hi0 : (0 : Int) ≤ (k : Int) := by omega
      by_cases hb : p k < 0
      · have c1 : decide (p k < 0) = true := by simp; omega
        go_wp2_with fail
        go_ret
        exact ⟨rfl, by go_grown⟩
      · have c1 : decide (p k < 0) = false := by simp; omega
        by_cases hb2 : 4 < p k
        · have c2 : decide (4 < p k) = true := by simp; omega
          go_wp2_with fail
          go_ret
          exact ⟨rfl, by go_grown⟩
        · have c2 : decide (4 < p k) = false := by simp; omega
          have HA2 : Hid (∀ j, j < k + 1 → 0 ≤ p j ∧ p j ≤ 4) := fun j hj => by
            by_cases e : j = k
            · subst e; omega
            · exact HA.out j (by omega)
          clear hb hb2
          go_wp2_with fail
          go_round
          case rel => exact ⟨k + 1, by omega, by go_num, HA2⟩
          case measure => simp [intOf]; omega
    · exfalso
      obtain rfl : k = 6 := by omega
      exact H.out HA.out
/-- the number of bundles within b, from the quantities of the first k products -/
def cnt (b : Nat → Int) : Nat → Int
  | 0 => 1
  | k + 1 => cnt b k * (b k + 1)
theorem cnt_le {b : Nat → Int} (h : ∀ i, i < 6 → 0 ≤ b i ∧ b i ≤ 4) : ∀ k, k ≤ 6 → 1 ≤ cnt b k ∧ cnt b k ≤ 5 ^ k
  | 0, _ => by simp [cnt]
  | k + 1, hk => by
    obtain ⟨h1, h2⟩ := cnt_le h k (by omega)
    obtain ⟨h3, h4⟩ := h k (by omega)
    unfold cnt
    constructor
    · have : 1 * 1 ≤ cnt b k * (b k + 1) := Int.mul_le_mul h1 (by omega) (by omega) (by omega)
      omega
    · have : cnt b k * (b k + 1) ≤ 5 ^ k * 5 := Int.mul_le_mul h2 (by omega) (by omega) (Int.le_of_lt (Int.pow_pos (by omega)))
      rw [Int.pow_succ]
      exact this
def countE (b : Nat → Int) : Int := if validB b = true then (if 1024 < cnt b 6 then 0 else cnt b 6) else 0
theorem count_no (p : Nat → Int) (w : World) (h : validB p = false) : Calls Tryz.prog 99 #[.agg (arr p)] w fun e w' => e = .returned (.int .i64 (countE p)) ∧ Below w.heap.size w w' := by
  have HE := Lib.hid (show countE p = 0 by unfold countE; rw [if_neg (by rw [h]; simp)])
  have HV := Lib.hid h
  clear h
  have C := Lib.hid (fun w => bcheck_no p w HV.out)
  generalize countE p = res at *
  unfold arr at *
  go_enter Tryz.func99, Tryz.ntmps99
  go_wp2_with fail
  refine (C.out _).mono ?_
  rintro e w1 ⟨rfl, b1⟩
  have B1 := Lib.hid (chain1 (Below.refl _ _) b1)
  clear b1
  go_wp2_with fail
  go_ret
  exact ⟨by rw [HE.out]; rfl, B1.out⟩
theorem count_yes (p : Nat → Int) (w : World) (h : validB p = true) : Calls Tryz.prog 99 #[.agg (arr p)] w fun e w' => e = .returned (.int .i64 (countE p)) ∧ Below w.heap.size w w' := by
  have HE := Lib.hid (show countE p = if 1024 < cnt p 6 then 0 else cnt p 6 by unfold countE; rw [if_pos h])
  have HL := Lib.hid (cnt_le (validB_iff.1 h))
  have HV := Lib.hid h
  clear h
  have C := Lib.hid (fun w => bcheck_yes p w HV.out)
  have hi := idx27 p
  have HU : Hid (∀ k, cnt p (k + 1) = cnt p k * (p k + 1)) := fun _ => rfl
  generalize countE p = res at *
  have hq := fun (b1 : World) (h : Below (w.alloc (.cells (arr p) 23)).heap.size (w.alloc (.cells (arr p) 23)) b1) => (Blk.new w 23 (arr p)).below' h
  have HQ := Lib.hid hq
  clear hq
  unfold arr at *
  go_enter Tryz.func99, Tryz.ntmps99
  go_wp2_with fail
  refine (C.out _).mono ?_
  rintro e w1 ⟨rfl, b1⟩
  have k1 := (HQ.out _ b1).c6
  have B1 := Lib.hid (chain1 (Below.refl _ _) b1)
  have hw : w.heap.size < w1.heap.size := by have := b1.size; simp at this; omega
  clear b1
  go_wp2_with fail
  go_loop [10, 3] (fun i n => ∃ k : Nat, k ≤ 6 ∧ i = .int .i64 (k : Int) ∧ n = .int .i64 (cnt p k)) (fun i _ => 6 - (intOf i).toNat)
  case atStart => exact ⟨0, by omega, rfl, rfl⟩
  case round =>
    obtain ⟨k, hk, rfl, rfl⟩ := hrel
    by_cases hlt : k < 6
    · have hi' := hi k hlt
      clear hi
      have hd : decide ((k : Int) < 6) = true := by simp; omega
      have hi0 : (0 : Int) ≤ (k : Int) := by omega
      have hl1 := HL.out k (by omega)
      have hl2 := HL.out (k + 1) (by omega)
      have hp1 := validB_iff.1 HV.out k hlt
      have hm1 : (5 : Int) ^ k ≤ 15625 := by
        obtain rfl | rfl | rfl | rfl | rfl | rfl : k = 0 ∨ k = 1 ∨ k = 2 ∨ k = 3 ∨ k = 4 ∨ k = 5 := by omega
        all_goals decide
      have hm2 : (5 : Int) ^ (k + 1) ≤ 15625 := by
        obtain rfl | rfl | rfl | rfl | rfl | rfl : k = 0 ∨ k = 1 ∨ k = 2 ∨ k = 3 ∨ k = 4 ∨ k = 5 := by omega
        all_goals decide
      have wr0 : ∀ q : Int, 1 ≤ q → q ≤ 15625 → IntKind.i64.wrap q = q := fun q _ _ => IntWalk.i64_in q (by omega)
      have wr1 := wr0 (p k + 1) (by omega) (by omega)
      have wr2 := wr0 (cnt p (k + 1)) hl2.1 (Int.le_trans hl2.2 hm2)
      clear wr0
      rw [HU.out k] at wr2
      clear hl1 hl2 hm1 hm2 hp1
      go_wp2_with fail
      go_round
      case rel => exact ⟨k + 1, by omega, by go_num, by rw [HU.out k]; try rfl⟩
      case measure => simp [intOf]; omega
    · obtain rfl : k = 6 := by omega
      clear hi
      have hl := HL.out 6 (by omega)
      have HL6 := Lib.hid hl
      clear hl
      by_cases hb : 1024 < cnt p 6
      · have HB := Lib.hid hb
        have hd : decide ((1024 : Int) < cnt p 6) = true := by simp; omega
        go_wp2_with fail
        go_ret
        exact ⟨by rw [HE.out, if_pos HB.out]; rfl, B1.out⟩
      · have HB := Lib.hid hb
        have hd : decide ((1024 : Int) < cnt p 6) = false := by simp; omega
        go_wp2_with fail
        go_ret
        exact ⟨by rw [HE.out, if_neg (by have := HB.out; omega)]; rfl, B1.out⟩
theorem count_any (p : Nat → Int) (w : World) : Calls Tryz.prog 99 #[.agg (arr p)] w fun e w' => e = .returned (.int .i64 (countE p)) ∧ Below w.heap.size w w' := by
  cases h : validB p with
  | true => exact count_yes p w h
  | false => exact count_no p w h
end Cat
end Go.Proofs.YtaikmgnpfbnjjaaGreatDoor
