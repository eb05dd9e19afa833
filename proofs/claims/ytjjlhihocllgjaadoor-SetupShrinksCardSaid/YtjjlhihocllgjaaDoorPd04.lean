/- Contracts of IsName of the catalog's reference, between, bundle.Check and Count, Valid. Printed by gen_catB.py. Contracts of Check of both. Printed by gen_catC.py. Contracts of the weights' closures and of (units).sum. Printed by gen_catD.py. -/
import Derived.Test.YtjjlhihocllgjaaDoorPd03
import Derived.Deep.RegionHeld3
import Derived.BigQuiet
namespace Go.Proofs.YtjjlhihocllgjaaDoor
open Go.ChangeShapes Go.WideShapes Go.ChangeAt Go.RowKit
set_option linter.unusedVariables false
set_option linter.unusedSimpArgs false
namespace Cat
open Lex
def restOk (s : ByteArray) (k : Nat) : Bool := (s.data.toList.drop k).all isInn
theorem span_all (p : UInt8 → Bool) : ∀ l : List UInt8, decide (span p l = l.length) = l.all p
  | [] => by simp [span]
  | b :: l => by
    have h := span_all p l
    unfold span
    cases hb : p b with
    | true =>
      rw [if_pos rfl, List.all_cons, hb, Bool.true_and, ← h]
      try simp
    | false =>
      rw [if_neg (by simp), List.all_cons, hb, Bool.false_and]
      try simp
theorem restOk_step {s : ByteArray} {k : Nat} (h : k < s.size) : restOk s k = (isInn s[k] && restOk s (k + 1)) := by
  unfold restOk
  rw [drop_cons s k h]
  rfl
theorem restOk_end (s : ByteArray) : restOk s s.size = true := by
  unfold restOk
  have h : s.data.toList.length = s.size := rfl
  rw [← h, List.drop_length]
  rfl
theorem nameOk_head (s : ByteArray) (h : 0 < s.size) (h12 : s.size ≤ 12) : nameOk s = (isLet s[0] && restOk s 1) := by
  unfold nameOk
  rw [decide_eq_true h, head_any s h, decide_eq_true h12, Bool.true_and, Bool.true_and]
  have h1 : decide (runLen isInn s 0 = s.size) = restOk s 0 := by
    unfold runLen restOk
    have hz : s.size = (s.data.toList.drop 0).length := rfl
    rw [← span_all, hz]
  rw [h1, restOk_step h]
  cases hl : isLet s[0] with
  | true => rw [inn_of_let hl]; simp
  | false => simp
theorem nameOk_long (s : ByteArray) (h : s.size < 1 ∨ 12 < s.size) : nameOk s = false := by
  unfold nameOk
  rcases h with h | h
  · rw [decide_eq_false (by omega)]; rfl
  · rw [decide_eq_false (p := s.size ≤ 12) (by omega)]; simp
theorem nb (x : Bool) (h : x ≠ true) : x = false := by cases x <;> simp at h ⊢
set_option maxHeartbeats 1000000 in
theorem isName8_any (s : ByteArray) (w : World) (hs : s.size ≤ maxLen) : Calls Tryd.prog 57 #[.string s] w fun e w' => e = .returned (.bool (nameOk s)) ∧ Below w.heap.size w w' := by
  unfold maxLen at hs
  by_cases h0 : s.size < 1
  · have d1 : decide ((s.size : Int) < 1) = true := by simp; omega
    have HN := Lib.hid (nameOk_long s (.inl h0))
    go_enter Tryd.func57, Tryd.ntmps57
    go_wp2_with fail
    go_ret
    exact ⟨by rw [HN.out]; rfl, Below.refl _ _⟩
  · have d1 : decide ((s.size : Int) < 1) = false := by simp; omega
    by_cases h12 : 12 < s.size
    · have d2 : decide ((12 : Int) < (s.size : Int)) = true := by simp; omega
      have HN := Lib.hid (nameOk_long s (.inr h12))
      go_enter Tryd.func57, Tryd.ntmps57
      go_wp2_with fail
      go_ret
      exact ⟨by rw [HN.out]; rfl, Below.refl _ _⟩
    · have d2 : decide ((12 : Int) < (s.size : Int)) = false := by simp; omega
      have HN := Lib.hid (nameOk_head s (by omega) (by omega))
      generalize nameOk s = res at *
      go_enter Tryd.func57, Tryd.ntmps57
      go_wp2_with fail
      clear d1 d2
      go_loop [3] (fun i => ∃ k : Nat, k ≤ s.size ∧ i = .int .i64 (k : Int) ∧ (k = 0 ∨ 0 < k ∧ Hid (res = restOk s k))) (fun i => s.size - (intOf i).toNat)
      case atStart => exact ⟨0, by omega, rfl, .inl rfl⟩
      case round =>
        obtain ⟨k, hk, rfl, hx⟩ := hrel
        by_cases hlt : k < s.size
        · have hd : decide ((k : Int) < (s.size : Int)) = true := by simp; omega
          have hby := s[k].toNat_lt
          have hst := Lib.hid (restOk_step hlt)
          rcases hx with rfl | ⟨hk0, HX⟩
          · have z0 : ((0 : Int) == 0) = true := rfl
            simp at hd
            by_cases h1 : 97 ≤ s[0].toNat
            · have c1 : decide ((97 : Int) ≤ (s[0].toNat : Int)) = true := by simp; omega
              by_cases h2 : s[0].toNat ≤ 122
              · have c2 : decide ((s[0].toNat : Int) ≤ 122) = true := by simp; omega
                have C1 := h1
                have C2 := h2
                have HF : Hid (res = restOk s 1) := by rw [HN.out, show isLet s[0] = true by unfold isLet; simp; omega]; rfl
                clear C1 C2
                go_wp2_with fail
                go_round
                case rel => exact ⟨1, by omega, by go_num, .inr ⟨by omega, HF⟩⟩
                case measure => simp [intOf]; omega
              · have c2 : decide ((s[0].toNat : Int) ≤ 122) = false := by simp; omega
                have HF : Hid (res = false) := by rw [HN.out, show isLet s[0] = false by unfold isLet; simp; omega]; rfl
                go_wp2_with fail
                go_ret
                exact ⟨by rw [HF.out]; rfl, Below.refl _ _⟩
            · have c1 : decide ((97 : Int) ≤ (s[0].toNat : Int)) = false := by simp; omega
              have HF : Hid (res = false) := by rw [HN.out, show isLet s[0] = false by unfold isLet; simp; omega]; rfl
              go_wp2_with fail
              go_ret
              exact ⟨by rw [HF.out]; rfl, Below.refl _ _⟩
          · have z0 : ((k : Int) == 0) = false := by simp; omega
            have hi0 : (0 : Int) ≤ (k : Int) := by omega
            have HS : Hid (res = (isInn s[k] && restOk s (k + 1))) := HX.out.trans hst.out
            clear hst HX
            by_cases h1 : 97 ≤ s[k].toNat
            · have c1 : decide ((97 : Int) ≤ (s[k].toNat : Int)) = true := by simp; omega
              by_cases h2 : s[k].toNat ≤ 122
              · have c2 : decide ((s[k].toNat : Int) ≤ 122) = true := by simp; omega
                have CS : 97 ≤ s[k].toNat ∧ s[k].toNat ≤ 122 := ⟨h1, h2⟩
                have HF : Hid (res = restOk s (k + 1)) := by rw [HS.out, show isInn s[k] = true by unfold isInn isLet isDig; simp; omega]; rfl
                clear CS
                go_wp2_with fail
                go_round
                case rel => exact ⟨k + 1, by omega, by go_num, .inr ⟨by omega, HF⟩⟩
                case measure => simp [intOf]; omega
              · have c2 : decide ((s[k].toNat : Int) ≤ 122) = false := by simp; omega
                have c5 : ((s[k].toNat : Int) != 95) = true := by simp; omega
                have c3 : decide ((s[k].toNat : Int) < 48) = false := by simp; omega
                have c4 : decide ((57 : Int) < (s[k].toNat : Int)) = true := by simp; omega
                have HF : Hid (res = false) := by rw [HS.out, show isInn s[k] = false by unfold isInn isLet isDig; simp; omega]; rfl
                go_wp2_with fail
                go_ret
                exact ⟨by rw [HF.out]; rfl, Below.refl _ _⟩
            · have c1 : decide ((97 : Int) ≤ (s[k].toNat : Int)) = false := by simp; omega
              by_cases h5 : s[k].toNat = 95
              · have c5 : ((s[k].toNat : Int) != 95) = false := by simp; omega
                have CS := h5
                have HF : Hid (res = restOk s (k + 1)) := by rw [HS.out, show isInn s[k] = true by unfold isInn isLet isDig; simp; omega]; rfl
                clear CS
                go_wp2_with fail
                go_round
                case rel => exact ⟨k + 1, by omega, by go_num, .inr ⟨by omega, HF⟩⟩
                case measure => simp [intOf]; omega
              · have c5 : ((s[k].toNat : Int) != 95) = true := by simp; omega
                by_cases h3 : s[k].toNat < 48
                · have c3 : decide ((s[k].toNat : Int) < 48) = true := by simp; omega
                  have HF : Hid (res = false) := by rw [HS.out, show isInn s[k] = false by unfold isInn isLet isDig; simp; omega]; rfl
                  go_wp2_with fail
                  go_ret
                  exact ⟨by rw [HF.out]; rfl, Below.refl _ _⟩
                · have c3 : decide ((s[k].toNat : Int) < 48) = false := by simp; omega
                  by_cases h4 : 57 < s[k].toNat
                  · have c4 : decide ((57 : Int) < (s[k].toNat : Int)) = true := by simp; omega
                    have HF : Hid (res = false) := by rw [HS.out, show isInn s[k] = false by unfold isInn isLet isDig; simp; omega]; rfl
                    go_wp2_with fail
                    go_ret
                    exact ⟨by rw [HF.out]; rfl, Below.refl _ _⟩
                  · have c4 : decide ((57 : Int) < (s[k].toNat : Int)) = false := by simp; omega
                    have CS : 48 ≤ s[k].toNat ∧ s[k].toNat ≤ 57 := by omega
                    have HF : Hid (res = restOk s (k + 1)) := by rw [HS.out, show isInn s[k] = true by unfold isInn isLet isDig; simp; omega]; rfl
                    clear CS
                    go_wp2_with fail
                    go_round
                    case rel => exact ⟨k + 1, by omega, by go_num, .inr ⟨by omega, HF⟩⟩
                    case measure => simp [intOf]; omega
        · obtain rfl : k = s.size := by omega
          have hd : decide ((s.size : Int) < (s.size : Int)) = false := by simp
          have HF : Hid (res = true) := by
            rcases hx with e | ⟨_, HX⟩
            · omega
            · exact HX.out.trans (restOk_end s)
          go_wp2_with fail
          go_ret
          exact ⟨by rw [HF.out]; rfl, Below.refl _ _⟩
theorem between_any (n a b : Int) (w : World) : Calls Tryd.prog 46 #[.int .i64 n, .int .i64 a, .int .i64 b] w fun e w' => e = .returned (.bool (inR n a b)) ∧ w = w' := by
  unfold inR
  cases h1 : decide (a ≤ n) with
  | true =>
    go_enter Tryd.func46, Tryd.ntmps46
    go_wp2_with fail
    go_ret
    exact ⟨by simp, rfl⟩
  | false =>
    go_enter Tryd.func46, Tryd.ntmps46
    go_wp2_with fail
    go_ret
    exact ⟨by simp, rfl⟩
theorem cellArr (w : World) (p : Nat → Int) (T : TypeId) (k : Nat) (hk : k < 6) :
    (w.alloc (.cells (arr p) T)).cell? ⟨w.heap.size, k, none⟩ = some (.int .i64 (p k)) := by
  obtain rfl | rfl | rfl | rfl | rfl | rfl : k = 0 ∨ k = 1 ∨ k = 2 ∨ k = 3 ∨ k = 4 ∨ k = 5 := by omega
  all_goals simp [arr, go_sem]
theorem bcheck_yes (p : Nat → Int) (w : World) (h : validB p = true) : Calls Tryd.prog 81 #[.agg (arr p)] w fun e w' => e = .returned ( .int .i64 0) ∧ Below w.heap.size w w' := by
  have H := Lib.hid (validB_iff.1 h)
  clear h
  have hi := idx27 p
  unfold arr at hi ⊢
  go_enter Tryd.func81, Tryd.ntmps81
  go_wp2_with fail
  go_loop [6] (fun i => ∃ k : Nat, k ≤ 6 ∧ i = .int .i64 (k : Int)) (fun i => 6 - (intOf i).toNat)
  case atStart => exact ⟨0, by omega, rfl⟩
  case round =>
    obtain ⟨k, hk, rfl⟩ := hrel
    by_cases hlt : k < 6
    · have hb := H.out k hlt
      have hi' := hi k hlt
      clear hi
      have hd : decide ((k : Int) < 6) = true := by simp; omega
      have hi0 : (0 : Int) ≤ (k : Int) := by omega
      have c1 : decide (p k < 0) = false := by simp; omega
      have c2 : decide (4 < p k) = false := by simp; omega
      clear hb
      go_wp2_with fail
      go_round
      case rel => exact ⟨k + 1, by omega, by go_num⟩
      case measure => simp [intOf]; omega
    · obtain rfl : k = 6 := by omega
      clear hi
      go_wp2_with fail
      go_ret
      exact ⟨rfl, by go_grown⟩
theorem bcheck_no (p : Nat → Int) (w : World) (h : validB p = false) : Calls Tryd.prog 81 #[.agg (arr p)] w fun e w' => e = .returned (.int .i64 4) ∧ Below w.heap.size w w' := by
  have H : Hid (¬ ∀ i, i < 6 → 0 ≤ p i ∧ p i ≤ 4) := fun k => by rw [validB_iff.2 k] at h; cases h
  clear h
  have hi := idx27 p
  unfold arr at hi ⊢
  go_enter Tryd.func81, Tryd.ntmps81
  go_wp2_with fail
  go_loop [6] (fun i => ∃ k : Nat, k ≤ 6 ∧ i = .int .i64 (k : Int) ∧ Hid (∀ j, j < k → 0 ≤ p j ∧ p j ≤ 4)) (fun i => 6 - (intOf i).toNat)
  case atStart => exact ⟨0, by omega, rfl, fun j hj => by omega⟩
  case round =>
    obtain ⟨k, hk, rfl, HA⟩ := hrel
    by_cases hlt : k < 6
    · have hi' := hi k hlt
      clear hi
      have hd : decide ((k : Int) < 6) = true := by simp; omega
      have hi0 : (0 : Int) ≤ (k : Int) := by omega
      by_cases hb : p k < 0
      · have c1 : decide (p k < 0) = true := by simp; omega
        go_wp2_with fail
        go_ret
        exact ⟨rfl, by go_grown⟩
      · have c1 : decide (p k < 0) = false := by simp; omega
        by_cases hb2 : 4 < p k
        · have c2 : decide (4 < p k) = true := by simp; omega
          go_wp2_with fail
          go_ret
          exact ⟨rfl, by go_grown⟩
        · have c2 : decide (4 < p k) = false := by simp; omega
          have HA2 : Hid (∀ j, j < k + 1 → 0 ≤ p j ∧ p j ≤ 4) := fun j hj => by
            by_cases e : j = k
            · subst e; omega
            · exact HA.out j (by omega)
          clear hb hb2
          go_wp2_with fail
          go_round
          case rel => exact ⟨k + 1, by omega, by go_num, HA2⟩
          case measure => simp [intOf]; omega
    · exfalso
      obtain rfl : k = 6 := by omega
      exact H.out HA.out
theorem valid_yes (p : Nat → Int) (w : World) (h : validB p = true) : Calls Tryd.prog 19 #[.agg (arr p)] w fun e w' => e = .returned (.bool true) ∧ Below w.heap.size w w' := by
  have H := Lib.hid (validB_iff.1 h)
  clear h
  have hi := cellArr w p 24
  unfold arr at hi ⊢
  go_enter Tryd.func19, Tryd.ntmps19
  go_wp2_with fail
  go_loop [3] (fun i => ∃ k : Nat, k ≤ 6 ∧ i = .int .i64 (k : Int)) (fun i => 6 - (intOf i).toNat)
  case atStart => exact ⟨0, by omega, rfl⟩
  case round =>
    obtain ⟨k, hk, rfl⟩ := hrel
    by_cases hlt : k < 6
    · have hb := H.out k hlt
      have hi' := hi k hlt
      clear hi
      have hd : decide ((k : Int) < 6) = true := by simp; omega
      have hi0 : (0 : Int) ≤ (k : Int) := by omega
      have c1 : decide (p k < 0) = false := by simp; omega
      have c2 : decide (4 < p k) = false := by simp; omega
      clear hb
      go_wp2_with fail
      go_round
      case rel => exact ⟨k + 1, by omega, by go_num⟩
      case measure => simp [intOf]; omega
    · obtain rfl : k = 6 := by omega
      clear hi
      go_wp2_with fail
      go_ret
      exact ⟨rfl, by go_grown⟩
theorem valid_no (p : Nat → Int) (w : World) (h : validB p = false) : Calls Tryd.prog 19 #[.agg (arr p)] w fun e w' => e = .returned (.bool false) ∧ Below w.heap.size w w' := by
  have H : Hid (¬ ∀ i, i < 6 → 0 ≤ p i ∧ p i ≤ 4) := fun k => by rw [validB_iff.2 k] at h; cases h
  clear h
  have hi := cellArr w p 24
  unfold arr at hi ⊢
  go_enter Tryd.func19, Tryd.ntmps19
  go_wp2_with fail
  go_loop [3] (fun i => ∃ k : Nat, k ≤ 6 ∧ i = .int .i64 (k : Int) ∧ Hid (∀ j, j < k → 0 ≤ p j ∧ p j ≤ 4)) (fun i => 6 - (intOf i).toNat)
  case atStart => exact ⟨0, by omega, rfl, fun j hj => by omega⟩
  case round =>
    obtain ⟨k, hk, rfl, HA⟩ := hrel
    by_cases hlt : k < 6
    · have hi' := hi k hlt
      clear hi
      have hd : decide ((k : Int) < 6) = true := by simp; omega
      have hi0 : (0 : Int) ≤ (k : Int) := by omega
      by_cases hb : p k < 0
      · have c1 : decide (p k < 0) = true := by simp; omega
        go_wp2_with fail
        go_ret
        exact ⟨rfl, by go_grown⟩
      · have c1 : decide (p k < 0) = false := by simp; omega
        by_cases hb2 : 4 < p k
        · have c2 : decide (4 < p k) = true := by simp; omega
          go_wp2_with fail
          go_ret
          exact ⟨rfl, by go_grown⟩
        · have c2 : decide (4 < p k) = false := by simp; omega
          have HA2 : Hid (∀ j, j < k + 1 → 0 ≤ p j ∧ p j ≤ 4) := fun j hj => by
            by_cases e : j = k
            · subst e; omega
            · exact HA.out j (by omega)
          clear hb hb2
          go_wp2_with fail
          go_round
          case rel => exact ⟨k + 1, by omega, by go_num, HA2⟩
          case measure => simp [intOf]; omega
    · exfalso
      obtain rfl : k = 6 := by omega
      exact H.out HA.out
/-- the number of bundles within b, from the quantities of the first k products -/
def cnt (b : Nat → Int) : Nat → Int
  | 0 => 1
  | k + 1 => cnt b k * (b k + 1)
theorem cnt_le {b : Nat → Int} (h : ∀ i, i < 6 → 0 ≤ b i ∧ b i ≤ 4) : ∀ k, k ≤ 6 → 1 ≤ cnt b k ∧ cnt b k ≤ 5 ^ k
  | 0, _ => by simp [cnt]
  | k + 1, hk => by
    obtain ⟨h1, h2⟩ := cnt_le h k (by omega)
    obtain ⟨h3, h4⟩ := h k (by omega)
    unfold cnt
    constructor
    · have : 1 * 1 ≤ cnt b k * (b k + 1) := Int.mul_le_mul h1 (by omega) (by omega) (by omega)
      omega
    · have : cnt b k * (b k + 1) ≤ 5 ^ k * 5 := Int.mul_le_mul h2 (by omega) (by omega) (Int.le_of_lt (Int.pow_pos (by omega)))
      rw [Int.pow_succ]
      exact this
def countE (b : Nat → Int) : Int := if validB b = true then (if 1024 < cnt b 6 then 0 else cnt b 6) else 0
theorem count_no (p : Nat → Int) (w : World) (h : validB p = false) : Calls Tryd.prog 47 #[.agg (arr p)] w fun e w' => e = .returned (.int .i64 (countE p)) ∧ Below w.heap.size w w' := by
  have HE := Lib.hid (show countE p = 0 by unfold countE; rw [if_neg (by rw [h]; simp)])
  have HV := Lib.hid h
  clear h
  have C := Lib.hid (fun w => bcheck_no p w HV.out)
  generalize countE p = res at *
  unfold arr at *
  go_enter Tryd.func47, Tryd.ntmps47
  go_wp2_with fail
  refine (C.out _).mono ?_
  rintro e w1 ⟨rfl, b1⟩
  have B1 := Lib.hid (chain1 (Below.refl _ _) b1)
  clear b1
  go_wp2_with fail
  go_ret
  exact ⟨by rw [HE.out]; rfl, B1.out⟩
theorem count_yes (p : Nat → Int) (w : World) (h : validB p = true) : Calls Tryd.prog 47 #[.agg (arr p)] w fun e w' => e = .returned (.int .i64 (countE p)) ∧ Below w.heap.size w w' := by
  have HE := Lib.hid (show countE p = if 1024 < cnt p 6 then 0 else cnt p 6 by unfold countE; rw [if_pos h])
  have HL := Lib.hid (cnt_le (validB_iff.1 h))
  have HV := Lib.hid h
  clear h
  have C := Lib.hid (fun w => bcheck_yes p w HV.out)
  have hi := idx27 p
  have HU : Hid (∀ k, cnt p (k + 1) = cnt p k * (p k + 1)) := fun _ => rfl
  generalize countE p = res at *
  have hq := fun (b1 : World) (h : Below (w.alloc (.cells (arr p) 24)).heap.size (w.alloc (.cells (arr p) 24)) b1) => (Blk.new w 24 (arr p)).below' h
  have HQ := Lib.hid hq
  clear hq
  unfold arr at *
  go_enter Tryd.func47, Tryd.ntmps47
  go_wp2_with fail
  refine (C.out _).mono ?_
  rintro e w1 ⟨rfl, b1⟩
  have k1 := (HQ.out _ b1).c6
  have B1 := Lib.hid (chain1 (Below.refl _ _) b1)
  have hw : w.heap.size < w1.heap.size := by have := b1.size; simp at this; omega
  clear b1
  go_wp2_with fail
  go_loop [10, 3] (fun i n => ∃ k : Nat, k ≤ 6 ∧ i = .int .i64 (k : Int) ∧ n = .int .i64 (cnt p k)) (fun i _ => 6 - (intOf i).toNat)
  case atStart => exact ⟨0, by omega, rfl, rfl⟩
  case round =>
    obtain ⟨k, hk, rfl, rfl⟩ := hrel
    by_cases hlt : k < 6
    · have hi' := hi k hlt
      clear hi
      have hd : decide ((k : Int) < 6) = true := by simp; omega
      have hi0 : (0 : Int) ≤ (k : Int) := by omega
      have hl1 := HL.out k (by omega)
      have hl2 := HL.out (k + 1) (by omega)
      have hp1 := validB_iff.1 HV.out k hlt
      have hm1 : (5 : Int) ^ k ≤ 15625 := by
        obtain rfl | rfl | rfl | rfl | rfl | rfl : k = 0 ∨ k = 1 ∨ k = 2 ∨ k = 3 ∨ k = 4 ∨ k = 5 := by omega
        all_goals decide
      have hm2 : (5 : Int) ^ (k + 1) ≤ 15625 := by
        obtain rfl | rfl | rfl | rfl | rfl | rfl : k = 0 ∨ k = 1 ∨ k = 2 ∨ k = 3 ∨ k = 4 ∨ k = 5 := by omega
        all_goals decide
      have wr0 : ∀ q : Int, 1 ≤ q → q ≤ 15625 → IntKind.i64.wrap q = q := fun q _ _ => IntWalk.i64_in q (by omega)
      have wr1 := wr0 (p k + 1) (by omega) (by omega)
      have wr2 := wr0 (cnt p (k + 1)) hl2.1 (Int.le_trans hl2.2 hm2)
      clear wr0
      rw [HU.out k] at wr2
      clear hl1 hl2 hm1 hm2 hp1
      go_wp2_with fail
      go_round
      case rel => exact ⟨k + 1, by omega, by go_num, by rw [HU.out k]; try rfl⟩
      case measure => simp [intOf]; omega
    · obtain rfl : k = 6 := by omega
      clear hi
      have hl := HL.out 6 (by omega)
      have HL6 := Lib.hid hl
      clear hl
      by_cases hb : 1024 < cnt p 6
      · have HB := Lib.hid hb
        have hd : decide ((1024 : Int) < cnt p 6) = true := by simp; omega
        go_wp2_with fail
        go_ret
        exact ⟨by rw [HE.out, if_pos HB.out]; rfl, B1.out⟩
      · have HB := Lib.hid hb
        have hd : decide ((1024 : Int) < cnt p 6) = false := by simp; omega
        go_wp2_with fail
        go_ret
        exact ⟨by rw [HE.out, if_neg (by have := HB.out; omega)]; rfl, B1.out⟩
theorem count_any (p : Nat → Int) (w : World) : Calls Tryd.prog 47 #[.agg (arr p)] w fun e w' => e = .returned (.int .i64 (countE p)) ∧ Below w.heap.size w w' := by
  cases h : validB p with
  | true => exact count_yes p w h
  | false => exact count_no p w h
theorem bcheck_any (p : Nat → Int) (w : World) : Calls Tryd.prog 81 #[.agg (arr p)] w fun e w' => e = .returned (.int .i64 (if validB p = true then 0 else 4)) ∧ Below w.heap.size w w' := by
  cases h : validB p with
  | true => exact bcheck_yes p w h
  | false => exact bcheck_no p w h
theorem valid_any (p : Nat → Int) (w : World) : Calls Tryd.prog 19 #[.agg (arr p)] w fun e w' => e = .returned (.bool (validB p)) ∧ Below w.heap.size w w' := by
  cases h : validB p with
  | true => exact valid_yes p w h
  | false => exact valid_no p w h
end Cat
end Go.Proofs.YtjjlhihocllgjaaDoor
namespace Go.Proofs.YtjjlhihocllgjaaDoor
open Go.ChangeShapes Go.WideShapes Go.ChangeAt Go.RowKit
set_option linter.unusedVariables false
set_option linter.unusedSimpArgs false
namespace Cat
open Lex
def checkE (l : List Prod) : Int :=
  if l.length = 0 then 1
  else if 6 < l.length then 3
  else if checkGo l l 0 ≠ 0 then checkGo l l 0
  else if 1024 < cnt (supI l) l.length then 12
  else 0
theorem checkE_err {l : List Prod} (h0 : 0 < l.length) (h6 : l.length ≤ 6) {x : Int} (h : checkGo l l 0 = x) (hx : x ≠ 0) : checkE l = x := by
  unfold checkE
  rw [if_neg (by omega), if_neg (by omega), h, if_pos hx]
theorem checkE_ok {l : List Prod} (h0 : 0 < l.length) (h6 : l.length ≤ 6) (h : checkGo l l 0 = 0) : checkE l = if 1024 < cnt (supI l) l.length then 12 else 0 := by
  unfold checkE
  rw [if_neg (by omega), if_neg (by omega), if_neg (by rw [h]; simp)]
/-- what Check's OK says -/
theorem checkE_zero {l : List Prod} (h : checkE l = 0) : 0 < l.length ∧ l.length ≤ 6 ∧ checkGo l l 0 = 0 := by
  unfold checkE at h
  split at h
  · cases h
  · split at h
    · cases h
    · split at h
      · rename_i hx
        exact absurd h hx
      · rename_i a b c
        refine ⟨by omega, by omega, ?_⟩
        by_cases e : checkGo l l 0 = 0
        · exact e
        · exact absurd e c
theorem supI_range {l : List Prod} (h : checkGo l l 0 = 0) (i : Nat) : 0 ≤ supI l i ∧ supI l i ≤ 4 := by
  by_cases hi : i < l.length
  · rw [supI_at l i hi]
    have := (rangeOk_iff.1 (checkGo_range l 0 h l[i] (List.getElem_mem hi)).1).1
    omega
  · unfold supI
    rw [show l.getD i Prod.none = Prod.none by simp [List.getD, List.getElem?_eq_none (Nat.le_of_not_lt hi)]]
    exact ⟨Int.le_refl 0, by decide⟩
theorem supP_valid {l : List Prod} (h : checkGo l l 0 = 0) : validB (supP l) = true := validB_iff.2 fun i _ => by
  unfold supP startP
  split
  · exact supI_range h i
  · omega
theorem cnt_start (re : Nat → Int) (n : Nat) : ∀ k, cnt (startP n re) k = cnt re (min k n)
  | 0 => by simp [cnt]
  | k + 1 => by
    rw [cnt, cnt_start re n k]
    by_cases h : k < n
    · rw [Nat.min_eq_left (by omega), Nat.min_eq_left (by omega), cnt]
      unfold startP
      rw [if_pos h]
    · rw [Nat.min_eq_right (by omega), Nat.min_eq_right (by omega)]
      unfold startP
      rw [if_neg h]
      simp
theorem count_zero {l : List Prod} (h6 : l.length ≤ 6) (h : checkGo l l 0 = 0) : (countE (supP l) == 0) = decide (1024 < cnt (supI l) l.length) := by
  have hv := supP_valid h
  have hc : cnt (supP l) 6 = cnt (supI l) l.length := by
    unfold supP
    rw [cnt_start, Nat.min_eq_right h6]
  have hl := cnt_le (validB_iff.1 hv) 6 (by omega)
  unfold countE
  rw [if_pos hv, hc]
  rw [hc] at hl
  by_cases hb : 1024 < cnt (supI l) l.length
  · rw [if_pos hb, decide_eq_true hb]
    rfl
  · rw [if_neg hb, decide_eq_false hb]
    simp
    omega
theorem ProdRow.below {w w' : World} {b o : Nat} {l : List Prod} (h : ProdRow w b o l) (hb : b < w.heap.size) (hB : Below w.heap.size w w') : ProdRow w' b o l := fun j u hu => by
  rw [hB.cell (p := ⟨b, _, none⟩) hb]
  exact h j u hu
theorem find_take (l : List Prod) (b1 o1 c1 k : Nat) (name : ByteArray) (w : World) (hl : l.length ≤ 5000) (hk : k ≤ l.length) (h1 : ProdRow w b1 o1 l) : Calls Tryd.prog 45 #[.slice (some ⟨b1, o1, none⟩) k c1, .string name] w (FindPost (l.take k) name w) := by
  have e : (l.take k).length = k := by simp; omega
  rcases Nat.eq_zero_or_pos k with rfl | h0
  · rw [List.take_zero]
    exact find_empty _ _ _ _
  · have h := find_some (l.take k) b1 o1 c1 name w (by omega) (h1.take k) (by omega)
    rw [e] at h
    exact h
abbrev CheckPost (l : List Prod) (w : World) : Ending → World → Prop := fun e w' => e = .returned (.int .i64 (checkE l)) ∧ Below w.heap.size w w'
theorem check_empty (A : Option Addr) (c : Nat) (w : World) : Calls Tryd.prog 21 #[.slice A 0 c] w (CheckPost [] w) := by
  have HE : Hid (checkE [] = 1) := rfl
  go_enter Tryd.func21, Tryd.ntmps21
  go_wp2_with fail
  go_ret
  exact ⟨by rw [HE.out]; rfl, Below.refl _ _⟩
theorem check_long (l : List Prod) (A : Option Addr) (c : Nat) (w : World) (hl : l.length ≤ 5000) (h : 6 < l.length) : Calls Tryd.prog 21 #[.slice A l.length c] w (CheckPost l w) := by
  have HE := Lib.hid (show checkE l = 3 by unfold checkE; simp [h, show ¬ l.length = 0 by omega])
  have d0 : ((l.length : Int) == 0) = false := beq_eq_false_iff_ne.2 (by omega)
  have d1 : decide ((6 : Int) < (l.length : Int)) = true := by simp; omega
  go_enter Tryd.func21, Tryd.ntmps21
  go_wp2_with fail
  go_ret
  exact ⟨by rw [HE.out]; rfl, Below.refl _ _⟩
set_option maxHeartbeats 800000 in
set_option maxRecDepth 100000 in
theorem check_some (l : List Prod) (b1 o1 c1 : Nat) (w : World) (h6 : l.length ≤ 6) (h0 : 0 < l.length) (hc : l.length ≤ c1) (_hm : c1 ≤ maxLen) (h1 : ProdRow w b1 o1 l) (hn : ∀ p ∈ l, p.name.size ≤ maxLen) :
    Calls Tryd.prog 21 #[.slice (some ⟨b1, o1, none⟩) l.length c1] w (CheckPost l w) := by
  have hb1 : b1 < w.heap.size := block_lt_of_cell (h1.at_ 0 h0).1
  have HN := Lib.hid fun k (h : k < l.length) => hn l[k] (List.getElem_mem h)
  have HR := Lib.hid fun w' => h1.below (w' := w') hb1
  have HE := Lib.hid fun x => checkE_err (x := x) h0 h6
  have HE0 := Lib.hid (checkE_ok h0 h6)
  have HD := Lib.hid (fun k (h : k < l.length) => checkGo_drop (l := l) (k := k) h)
  have HCZ := Lib.hid (count_zero (l := l) h6)
  have HSR := Lib.hid (supI_range (l := l))
  unfold maxLen at _hm
  clear hn h1
  have d0 : ((l.length : Int) == 0) = false := beq_eq_false_iff_ne.2 (by omega)
  have d1 : decide ((6 : Int) < (l.length : Int)) = false := by simp; omega
  go_enter Tryd.func21, Tryd.ntmps21
  go_wp2_with fail
  go_loopw [17] (fun i wr => ∃ k : Nat, k ≤ l.length ∧ i = .int .i64 (k : Int) ∧ Hid (checkGo l (l.drop k) k = checkGo l l 0) ∧ Hid (Below w.heap.size w wr)) (fun i _ => l.length - (intOf i).toNat)
  case atStart => exact ⟨0, by omega, rfl, rfl, Below.refl _ _⟩
  case round =>
    clear d0 d1
    obtain ⟨k, hk, rfl, HX, HB0⟩ := hrel
    by_cases hlt : k < l.length
    · have hd : decide ((k : Int) < (l.length : Int)) = true := by simp; omega
      have hi0 : (0 : Int) ≤ (k : Int) := by omega
      have et := (HR.out _ HB0.out).at_ k hlt
      have hbr : b1 < wr.heap.size := by have := HB0.out.size; omega
      have HST := Lib.hid (HX.out.symm.trans (HD.out k hlt))
      have hsz := HN.out k hlt
      clear HX
      have htk := HR.out
      generalize hp : l[k] = p at *
      have HP := Lib.hid hp
      clear hp
      have hc1 : 0 < c1 := by omega
      have hkc : k ≤ c1 := by omega
      cases hnm : nameOk p.name with
      | false =>
        have HF := Lib.hid (show checkGo l l 0 = 5 by rw [HST.out, hnm]; rfl)
        go_wp2_with fail
        refine (isName_any p.name _ hsz).mono ?_
        rintro e w1 ⟨rfl, rfl⟩
        rw [hnm]
        go_wp2_with fail
        go_ret
        exact ⟨by rw [HE.out _ HF.out (by decide)]; rfl, HB0.out.alloc HB0.out.size _⟩
      | true =>
        have HST1 := Lib.hid (show checkGo l l 0 = if (findP (l.take k) p.name).isSome then 7 else if rangeOk p then checkGo l (l.drop (k + 1)) (k + 1) else 4 by rw [HST.out, hnm]; rfl)
        clear HST
        go_wp2_with fail
        refine (isName_any p.name _ hsz).mono ?_
        rintro e w1 ⟨rfl, rfl⟩
        rw [hnm]
        clear et htk
        have K1 := Lib.hid (Blk.new wr 77 #[.string p.name, .int .i64 p.supply, .int .i64 p.reserve, .int .i64 p.points, .int .i64 p.group])
        have B1 := Lib.hid (HB0.out.alloc HB0.out.size (.cells #[.string p.name, .int .i64 p.supply, .int .i64 p.reserve, .int .i64 p.points, .int .i64 p.group] 77))
        have hg := K1.out.lt
        have e1 := K1.out.c5
        generalize wr.alloc _ = W at *
        generalize wr.heap.size = g at *
        cases hf : findOk (l.take k) p.name with
        | true =>
          have HF := Lib.hid (show checkGo l l 0 = 7 by rw [HST1.out]; unfold findOk at hf; rw [hf]; rfl)
          go_wp2_with fail
          go_region_held3 (fun w' => w'.cell? ⟨g, 0, none⟩ = some (.string p.name)) (go_keep) ((go_at_call 45; refine (find_take l b1 o1 c1 k p.name _ (by omega) hk (HR.out _ (chain0 B1.out (Below.refl _ _).drew))).mono ?_; rintro r w2 ⟨rfl, b2⟩; have B2 := Lib.hid (chain0 (chain0 B1.out (Below.refl _ _).drew) b2); rw [hf]; have e2 := (K1.out.drew.below' b2).c5; clear b2))
          go_wp2_with fail
          go_ret
          exact ⟨by rw [HE.out _ HF.out (by decide)]; rfl, B2.out⟩
        | false =>
          have HST2 := Lib.hid (show checkGo l l 0 = if rangeOk p then checkGo l (l.drop (k + 1)) (k + 1) else 4 by rw [HST1.out]; unfold findOk at hf; rw [hf]; rfl)
          clear HST1
          go_wp2_with fail
          go_region_held3 (fun w' => w'.cell? ⟨g, 0, none⟩ = some (.string p.name)) (go_keep) ((go_at_call 45; refine (find_take l b1 o1 c1 k p.name _ (by omega) hk (HR.out _ (chain0 B1.out (Below.refl _ _).drew))).mono ?_; rintro r w2 ⟨rfl, b2⟩; have B2 := Lib.hid (chain0 (chain0 B1.out (Below.refl _ _).drew) b2); rw [hf]; have e2 := (K1.out.drew.below' b2).c5; clear b2))
          clear e1
          cases r0 : inR p.supply 1 4 with
          | false =>
            have HF := Lib.hid (show checkGo l l 0 = 4 by rw [HST2.out, if_neg (by unfold rangeOk; rw [r0]; simp)])
            go_wp2_with (go_at_call 46; refine (between_any _ _ _ _).mono ?_; rintro e w3 ⟨rfl, rfl⟩; (first | rw [r0]))
            go_ret
            exact ⟨by rw [HE.out _ HF.out (by decide)]; rfl, B2.out⟩
          | true =>
            cases r1 : inR p.reserve 0 1000000 with
            | false =>
              have HF := Lib.hid (show checkGo l l 0 = 4 by rw [HST2.out, if_neg (by unfold rangeOk; rw [r0, r1]; simp)])
              go_wp2_with (go_at_call 46; refine (between_any _ _ _ _).mono ?_; rintro e w3 ⟨rfl, rfl⟩; (first | rw [r0] | rw [r1]))
              go_ret
              exact ⟨by rw [HE.out _ HF.out (by decide)]; rfl, B2.out⟩
            | true =>
              cases r2 : inR p.points 0 1000 with
              | false =>
                have HF := Lib.hid (show checkGo l l 0 = 4 by rw [HST2.out, if_neg (by unfold rangeOk; rw [r0, r1, r2]; simp)])
                go_wp2_with (go_at_call 46; refine (between_any _ _ _ _).mono ?_; rintro e w3 ⟨rfl, rfl⟩; (first | rw [r0] | rw [r1] | rw [r2]))
                go_ret
                exact ⟨by rw [HE.out _ HF.out (by decide)]; rfl, B2.out⟩
              | true =>
                cases r3 : inR p.group 0 4 with
                | false =>
                  have HF := Lib.hid (show checkGo l l 0 = 4 by rw [HST2.out, if_neg (by unfold rangeOk; rw [r0, r1, r2, r3]; simp)])
                  go_wp2_with (go_at_call 46; refine (between_any _ _ _ _).mono ?_; rintro e w3 ⟨rfl, rfl⟩; (first | rw [r0] | rw [r1] | rw [r2] | rw [r3]))
                  go_ret
                  exact ⟨by rw [HE.out _ HF.out (by decide)]; rfl, B2.out⟩
                | true =>
                  have HF := Lib.hid (show checkGo l (l.drop (k + 1)) (k + 1) = checkGo l l 0 by rw [HST2.out, if_pos (by unfold rangeOk; rw [r0, r1, r2, r3]; rfl)])
                  go_wp2_with (go_at_call 46; refine (between_any _ _ _ _).mono ?_; rintro e w3 ⟨rfl, rfl⟩; (first | rw [r0] | rw [r1] | rw [r2] | rw [r3]))
                  go_roundw
                  case rel => exact ⟨k + 1, by omega, by go_num, HF, B2⟩
                  case measure => simp [intOf]; omega
    · obtain rfl : k = l.length := by omega
      have hd : decide ((l.length : Int) < (l.length : Int)) = false := by simp
      have HZ : Hid (checkGo l l 0 = 0) := by
        rw [← HX.out, List.drop_length]
        rfl
      have hcz := HCZ.out HZ.out
      have HEZ := Lib.hid (HE0.out HZ.out)
      go_wp2_with fail
      refine (supply_some l b1 o1 c1 _ (by omega) (HR.out _ HB0.out) h0).mono ?_
      rintro e w1 ⟨rfl, b1⟩
      have B1 := Lib.hid (chain0 HB0.out b1)
      clear b1
      go_wp2_with fail
      refine (count_any (supP l) _).mono ?_
      rintro e w2 ⟨rfl, b2⟩
      have B2 := Lib.hid (chain0 B1.out b2)
      clear b2
      by_cases hb : 1024 < cnt (supI l) l.length
      · have HB := Lib.hid hb
        have hz : (countE (supP l) == 0) = true := by rw [hcz]; exact decide_eq_true hb
        clear hcz
        go_wp2_with fail
        go_ret
        exact ⟨by rw [HEZ.out, if_pos HB.out]; rfl, B2.out⟩
      · have HB := Lib.hid hb
        have hz : (countE (supP l) == 0) = false := by rw [hcz]; exact decide_eq_false hb
        clear hcz
        go_wp2_with fail
        go_ret
        exact ⟨by rw [HEZ.out, if_neg (by have := HB.out; omega)]; rfl, B2.out⟩
theorem check_any (l : List Prod) (v : Value) (w : World) (hl : l.length ≤ 5000) (h : PS w v l) (hn : ∀ p ∈ l, p.name.size ≤ maxLen) : Calls Tryd.prog 21 #[v] w (CheckPost l w) := by
  obtain ⟨A, c, rfl, h1, h2, ha⟩ := ps_cases h
  by_cases h6 : 6 < l.length
  · exact check_long l A c w hl h6
  · cases l with
    | nil => exact check_empty A c w
    | cons p l =>
      obtain ⟨b, o, rfl, _, r⟩ := ha (by simp)
      exact check_some _ b o c w (by omega) (by simp) h1 h2 r hn
end Cat
end Go.Proofs.YtjjlhihocllgjaaDoor
namespace Go.Proofs.YtjjlhihocllgjaaDoor
open Go.ChangeShapes Go.WideShapes Go.ChangeAt Go.RowKit
set_option linter.unusedVariables false
set_option linter.unusedSimpArgs false
namespace Cat
open Lex
/-- the quantities of the first k products times their weights -/
def sw (f : Prod → Int) (b : Nat → Int) (l : List Prod) : Nat → Int
  | 0 => 0
  | k + 1 => sw f b l k + b k * f (l.getD k Prod.none)
theorem sw_le {f : Prod → Int} {b : Nat → Int} {l : List Prod} (hb : ∀ i, i < 6 → 0 ≤ b i ∧ b i ≤ 4) (hf : ∀ p ∈ l, 0 ≤ f p ∧ f p ≤ 1000000) (h6 : l.length ≤ 6) : ∀ k, k ≤ l.length → 0 ≤ sw f b l k ∧ sw f b l k ≤ 4000000 * k
  | 0, _ => by simp [sw]
  | k + 1, hk => by
    have h := sw_le hb hf h6 k (by omega)
    have h1 := hb k (by omega)
    have h2 := hf l[k] (List.getElem_mem (by omega))
    have h3 : l.getD k Prod.none = l[k] := getD_prod l k (by omega)
    unfold sw
    rw [h3]
    have h4 : 0 ≤ b k * f l[k] := Int.mul_nonneg h1.1 h2.1
    have h5 : b k * f l[k] ≤ 4 * 1000000 := Int.mul_le_mul h1.2 h2.2 h2.1 (by omega)
    constructor <;> omega
def sumE (f : Prod → Int) (b : Nat → Int) (l : List Prod) : Int := if checkE l = 0 ∧ validB b = true then sw f b l l.length else 0
def gw (g : Int) (p : Prod) : Int := if p.group = g then 1 else 0
theorem units1_any (p : Prod) (g : Int) (a : Nat) (w : World) (h : w.cell? ⟨a, 0, none⟩ = some (.int .i64 g)) : Calls Tryd.prog 108 #[.agg #[.string p.name, .int .i64 p.supply, .int .i64 p.reserve, .int .i64 p.points, .int .i64 p.group], .pointer (some ⟨a, 0, none⟩)] w fun e w' => e = .returned (.int .i64 (gw g p)) ∧ Below w.heap.size w w' := by
  have ha : a < w.heap.size := block_lt_of_cell h
  by_cases e : p.group = g
  · have hq : (p.group == g) = true := by simpa using e
    have HG := Lib.hid (show gw g p = 1 by unfold gw; rw [if_pos e])
    clear e
    go_enter Tryd.func108, Tryd.ntmps108
    go_wp2_with fail
    go_ret
    exact ⟨by rw [HG.out]; rfl, below_new _ _⟩
  · have hq : (p.group == g) = false := by simpa using e
    have HG := Lib.hid (show gw g p = 0 by unfold gw; rw [if_neg e])
    clear e
    go_enter Tryd.func108, Tryd.ntmps108
    go_wp2_with fail
    go_ret
    exact ⟨by rw [HG.out]; rfl, below_new _ _⟩
end Cat
end Go.Proofs.YtjjlhihocllgjaaDoor
