/- Contracts of amount.Parse and of the reference's. Printed by gen_am1.py. -/
import Derived.Test.YtfopmaeaclbknaaDoorPk13
import Derived.Test.YtfopmaeaclbknaaDoorPk12
import Derived.WalkSpells
import Derived.WalkLawsBesides
namespace Go.Proofs.YtfopmaeaclbknaaDoor
open Go.ChangeShapes Go.WideShapes Go.ChangeAt Go.RowKit
set_option linter.unusedVariables false
set_option linter.unusedSimpArgs false
namespace Am
open Lex (isDig val val_snoc)
def pn (t : ByteArray) (k : Nat) : Nat := val (t.data.toList.take k)
theorem pn_snoc (t : ByteArray) (k : Nat) (h : k < t.size) : pn t (k + 1) = pn t k * 10 + (t[k].toNat - 48) := by
  unfold pn
  rw [List.take_add_one, List.getElem?_eq_getElem (by exact h)]
  exact val_snoc _ _
theorem pn_mono (t : ByteArray) (k : Nat) : pn t k ≤ pn t (k + 1) := by
  by_cases h : k < t.size
  · rw [pn_snoc t k h]; omega
  · unfold pn
    rw [List.take_of_length_le (by show t.size ≤ k; omega), List.take_of_length_le (by show t.size ≤ k + 1; omega)]
    exact Nat.le_refl _
theorem pn_le (t : ByteArray) {j k : Nat} (h : j ≤ k) : pn t j ≤ pn t k := by
  induction k with
  | zero => obtain rfl : j = 0 := by omega
            exact Nat.le_refl _
  | succ k ih =>
    by_cases e : j = k + 1
    · rw [e]; exact Nat.le_refl _
    · exact Nat.le_trans (ih (by omega)) (pn_mono t k)
theorem dig_le {b : UInt8} (h : isDig b = true) : 48 ≤ b.toNat ∧ b.toNat ≤ 57 := by
  unfold isDig at h
  simpa using h
/-- the number so far, cut above a million -/
def cut (n : Nat) : Nat := if n ≤ 1000001 then n else 1000001
theorem cut_le (n : Nat) : cut n ≤ 1000001 := by unfold cut; split <;> omega
theorem cut_step (n d : Nat) (hd : d ≤ 9) : cut (10 * cut n + d) = cut (n * 10 + d) := by
  unfold cut
  by_cases h : n ≤ 1000001
  · rw [if_pos h, Nat.mul_comm]
  · rw [if_neg h, if_neg (by omega), if_neg (by omega)]
/-- what is read -/
def P0 (s : ByteArray) : Prop := s.size = 0
def PBad (s : ByteArray) (m : Nat) : Prop := ∃ h : m < s.size, isDig s[m] = false ∧ ∀ j (h : j < m), isDig (s[j]'(by omega)) = true
def PAll (s : ByteArray) : Prop := ∀ j (h : j < s.size), isDig s[j] = true
theorem parse_cases (s : ByteArray) : s.size = 0 ∨ (∃ m, PBad s m) ∨ (0 < s.size ∧ PAll s) := by
  rcases Nat.eq_zero_or_pos s.size with h | h
  · exact .inl h
  · right
    by_cases hx : ∃ m, m < s.size ∧ ∀ hm : m < s.size, isDig s[m] = false
    · left
      obtain ⟨m, ⟨h1, h2⟩, hmin⟩ : ∃ m, (m < s.size ∧ ∀ hm : m < s.size, isDig s[m] = false) ∧ ∀ j, j < m → ¬ (j < s.size ∧ ∀ hj : j < s.size, isDig s[j] = false) := by
        obtain ⟨m, hm⟩ := hx
        induction m using Nat.strongRecOn with
        | _ m ih =>
          by_cases hj : ∃ j, j < m ∧ (j < s.size ∧ ∀ hj : j < s.size, isDig s[j] = false)
          · obtain ⟨j, hlt, hp⟩ := hj
            exact ih j hlt hp
          · exact ⟨m, hm, fun j hlt hp => hj ⟨j, hlt, hp⟩⟩
      refine ⟨m, h1, h2 h1, fun j hj => ?_⟩
      have := hmin j hj
      rcases hd : isDig (s[j]'(by omega)) with _ | _
      · exact absurd ⟨by omega, fun _ => hd⟩ this
      · rfl
    · right
      refine ⟨h, fun j hj => ?_⟩
      rcases hd : isDig s[j] with _ | _
      · exact absurd ⟨j, hj, fun _ => hd⟩ hx
      · rfl
/-- the result of reading an amount -/
inductive Reads (s : ByteArray) : Int → Int → Prop
  | short (h : s.size = 0) : Reads s 0 1
  | bad (m : Nat) (h : PBad s m) : Reads s 0 2
  | zero (h : 1 < s.size) (ha : PAll s) (h0 : s[0].toNat = 48) : Reads s 0 2
  | big (h : 0 < s.size) (ha : PAll s) (h0 : ¬ (1 < s.size ∧ s[0].toNat = 48)) (hb : 1000000 < pn s s.size) : Reads s 0 4
  | ok (h : 0 < s.size) (ha : PAll s) (h0 : ¬ (1 < s.size ∧ s[0].toNat = 48)) (hb : pn s s.size ≤ 1000000) : Reads s ((pn s s.size : Nat) : Int) 0
theorem reads_any (s : ByteArray) : ∃ v e, Reads s v e := by
  rcases parse_cases s with h | ⟨m, h⟩ | ⟨h, ha⟩
  · exact ⟨_, _, .short h⟩
  · exact ⟨_, _, .bad m h⟩
  · by_cases h0 : 1 < s.size ∧ s[0].toNat = 48
    · exact ⟨_, _, .zero h0.1 ha h0.2⟩
    · by_cases hb : pn s s.size ≤ 1000000
      · exact ⟨_, _, .ok h ha h0 hb⟩
      · exact ⟨_, _, .big h ha h0 (by omega)⟩
theorem tl_ne {s : ByteArray} (h : 0 < s.size) : s.toList.isEmpty = false := by
  rw [ByteArray.toList_eq]
  obtain ⟨⟨x⟩⟩ := s
  cases x with
  | nil => exact absurd h (Nat.lt_irrefl 0)
  | cons a b => rfl
theorem min_cut (c d : Nat) : (if (1000001 : Int) < 10 * (c : Int) + (d : Int) then (1000001 : Int) else 10 * (c : Int) + (d : Int)) = ((cut (10 * c + d) : Nat) : Int) := by
  unfold cut
  by_cases h : 10 * c + d ≤ 1000001
  · rw [if_pos h, if_neg (by omega)]; omega
  · rw [if_neg h, if_pos (by omega)]; rfl
def ParsePost (v e0 : Int) (w : World) (e : Ending) (w' : World) : Prop := e = .returned (.tuple #[.int .i64 v, .int .i64 e0]) ∧ w = w'
theorem byte_facts {b : UInt8} (h : isDig b = true) : ∃ c d : Nat, (c = b.toNat ∧ d = c - 48 ∧ d ≤ 9) ∧ decide ((c : Int) < 48) = false ∧ decide ((57 : Int) < (c : Int)) = false ∧ IntKind.u8.wrap ((c : Int) - 48) = ((d : Nat) : Int) ∧ (c : Int) - 48 = ((d : Nat) : Int) ∧ IntKind.i64.wrap ((d : Nat) : Int) = ((d : Nat) : Int) := by
  have := dig_le h
  refine ⟨b.toNat, b.toNat - 48, ⟨rfl, rfl, by omega⟩, decide_eq_false (by omega), decide_eq_false (by omega), ?_, by omega, IntWalk.i64_in _ (by omega)⟩
  rw [IntWalk.u8_in _ (by omega)]
  omega
set_option maxHeartbeats 1000000 in
theorem parse_short (s : ByteArray) (w : World) (hs : s.size ≤ 100) (h : s.size = 0) : Calls Tryd.prog 18 #[.string s] w (ParsePost 0 1 w) := by
  obtain rfl : s = ⟨#[]⟩ := by
    apply ByteArray.ext
    exact Array.eq_empty_of_size_eq_zero h
  go_enter Tryd.func18, Tryd.ntmps18
  go_wp2_with fail
  go_ret2
  exact ⟨rfl, rfl⟩
set_option maxHeartbeats 1000000 in
theorem rparse_short (s : ByteArray) (w : World) (hs : s.size ≤ 100) (h : s.size = 0) : Calls Tryd.prog 19 #[.string s] w (ParsePost 0 1 w) := by
  obtain rfl : s = ⟨#[]⟩ := by
    apply ByteArray.ext
    exact Array.eq_empty_of_size_eq_zero h
  go_enter Tryd.func19, Tryd.ntmps19
  go_wp2_with fail
  go_ret2
  exact ⟨rfl, rfl⟩
set_option maxHeartbeats 1000000 in
theorem parse_bad (s : ByteArray) (w : World) (hs : s.size ≤ 100) (m : Nat) (h : PBad s m) : Calls Tryd.prog 18 #[.string s] w (ParsePost 0 2 w) := by
  obtain ⟨hm, hb, hd⟩ := h
  have hs0 : (0 : Int) ≤ (s.size : Int) := by omega
  have hs1 : (s.size : Int) ≤ 100 := by omega
  have e1 : s.toList.isEmpty = false := tl_ne (by omega)
  have HD := Lib.hid hd
  have HB := Lib.hid hb
  clear hd hb
  go_enter Tryd.func18, Tryd.ntmps18
  go_wp2_with fail
  go_loop [10, 4] (fun iv vv => ∃ k : Nat, k ≤ m ∧ iv = .int .i64 (k : Int) ∧ vv = .int .i64 ((cut (pn s k) : Nat) : Int)) (fun iv _ => s.size - (intOf iv).toNat)
  case atStart => exact ⟨0, Nat.zero_le _, rfl, rfl⟩
  case round =>
    obtain ⟨k, hk, rfl, rfl⟩ := hrel
    have hk0 : (0 : Int) ≤ (k : Int) := by omega
    have hk5 : (k : Int) ≤ 100 := by omega
    have hc0 := cut_le (pn s k)
    have hc1 : (0 : Int) ≤ ((cut (pn s k) : Nat) : Int) := by omega
    have hc2 : ((cut (pn s k) : Nat) : Int) ≤ 1000001 := by omega
    by_cases hkn : k < m
    · have hks : k < s.size := by omega
      have hd1 : decide (k < s.size) = true := decide_eq_true hks
      have hd2 : decide ((k : Int) < (s.size : Int)) = true := decide_eq_true (by omega)
      obtain ⟨c, d, hcd, f1, f2, f3, f4, f5⟩ := byte_facts (HD.out k hkn)
      have HS : Hid (pn s (k + 1) = pn s k * 10 + d) := by
        have := pn_snoc s k hks
        rw [← hcd.1, ← hcd.2.1] at this
        exact this
      have HM : Hid ((if (1000001 : Int) < 10 * ((cut (pn s k) : Nat) : Int) + (d : Int) then (1000001 : Int) else 10 * ((cut (pn s k) : Nat) : Int) + (d : Int)) = ((cut (pn s (k + 1)) : Nat) : Int)) := by rw [HS.out, ← cut_step _ _ hcd.2.2]; exact min_cut _ _
      have hd9 : (d : Int) ≤ 9 := by omega
      have hd0 : (0 : Int) ≤ (d : Int) := by omega
      have hc : (s[k].toNat : Int) = (c : Int) := by rw [hcd.1]
      clear hcd hc0
      go_wp2_with fail
      go_round
      case rel => exact ⟨k + 1, by omega, by go_num, by first | rw [HM.out] | (rw [← HM.out]; congr 1; split <;> omega)⟩
      case measure => simp [intOf]; omega
    · obtain rfl : k = m := by omega
      have hd1 : decide (k < s.size) = true := decide_eq_true hm
      have hd2 : decide ((k : Int) < (s.size : Int)) = true := decide_eq_true (by omega)
      have hbb := HB.out
      obtain ⟨c, hc0'⟩ : ∃ c : Nat, c = s[k].toNat := ⟨_, rfl⟩
      have hc : (s[k].toNat : Int) = (c : Int) := by rw [hc0']
      unfold isDig at hbb
      rw [← hc0'] at hbb
      have hnb : ¬ (48 ≤ c ∧ c ≤ 57) := fun h => by simp [h.1, h.2] at hbb
      clear hbb hc0'
      by_cases h48 : c < 48
      · have g1 : decide ((c : Int) < 48) = true := decide_eq_true (by omega)
        clear h48 hnb
        go_wp2_with fail
        go_ret2
        exact ⟨rfl, rfl⟩
      · have g1 : decide ((c : Int) < 48) = false := decide_eq_false (by omega)
        have g2 : decide ((57 : Int) < (c : Int)) = true := decide_eq_true (by omega)
        clear h48 hnb
        go_wp2_with fail
        go_ret2
        exact ⟨rfl, rfl⟩
set_option maxHeartbeats 1000000 in
theorem rparse_bad (s : ByteArray) (w : World) (hs : s.size ≤ 100) (m : Nat) (h : PBad s m) : Calls Tryd.prog 19 #[.string s] w (ParsePost 0 2 w) := by
  obtain ⟨hm, hb, hd⟩ := h
  have hs0 : (0 : Int) ≤ (s.size : Int) := by omega
  have hs1 : (s.size : Int) ≤ 100 := by omega
  have e1 : s.toList.isEmpty = false := tl_ne (by omega)
  have HD := Lib.hid hd
  have HB := Lib.hid hb
  clear hd hb
  go_enter Tryd.func19, Tryd.ntmps19
  go_wp2_with fail
  go_loop [4] (fun iv => ∃ k : Nat, k ≤ m ∧ iv = .int .i64 (k : Int)) (fun iv => s.size - (intOf iv).toNat)
  case atStart => exact ⟨0, Nat.zero_le _, rfl⟩
  case round =>
    obtain ⟨k, hk, rfl⟩ := hrel
    have hk0 : (0 : Int) ≤ (k : Int) := by omega
    have hk5 : (k : Int) ≤ 100 := by omega
    by_cases hkn : k < m
    · have hks : k < s.size := by omega
      have hd1 : decide (k < s.size) = true := decide_eq_true hks
      have hd2 : decide ((k : Int) < (s.size : Int)) = true := decide_eq_true (by omega)
      obtain ⟨c, d, hcd, f1, f2, f3, f4, f5⟩ := byte_facts (HD.out k hkn)
      have hc : (s[k].toNat : Int) = (c : Int) := by rw [hcd.1]
      clear hcd
      go_wp2_with fail
      go_round
      case rel => exact ⟨k + 1, by omega, by go_num⟩
      case measure => simp [intOf]; omega
    · obtain rfl : k = m := by omega
      have hd1 : decide (k < s.size) = true := decide_eq_true hm
      have hd2 : decide ((k : Int) < (s.size : Int)) = true := decide_eq_true (by omega)
      have hbb := HB.out
      obtain ⟨c, hc0'⟩ : ∃ c : Nat, c = s[k].toNat := ⟨_, rfl⟩
      have hc : (s[k].toNat : Int) = (c : Int) := by rw [hc0']
      unfold isDig at hbb
      rw [← hc0'] at hbb
      have hnb : ¬ (48 ≤ c ∧ c ≤ 57) := fun h => by simp [h.1, h.2] at hbb
      clear hbb hc0'
      by_cases h48 : c < 48
      · have g1 : decide ((c : Int) < 48) = true := decide_eq_true (by omega)
        clear h48 hnb
        go_wp2_with fail
        go_ret2
        exact ⟨rfl, rfl⟩
      · have g1 : decide ((c : Int) < 48) = false := decide_eq_false (by omega)
        have g2 : decide ((57 : Int) < (c : Int)) = true := decide_eq_true (by omega)
        clear h48 hnb
        go_wp2_with fail
        go_ret2
        exact ⟨rfl, rfl⟩
set_option maxHeartbeats 1000000 in
theorem parse_zero (s : ByteArray) (w : World) (hs : s.size ≤ 100) (ha : PAll s) (h1 : 1 < s.size) (h0 : s[0].toNat = 48) : Calls Tryd.prog 18 #[.string s] w (ParsePost 0 2 w) := by
  have hp0 : 0 < s.size := by omega
  have hs0 : (0 : Int) ≤ (s.size : Int) := by omega
  have hs1 : (s.size : Int) ≤ 100 := by omega
  have e1 : s.toList.isEmpty = false := tl_ne (by omega)
  have HD := Lib.hid ha
  clear ha
  have t1 : decide ((1 : Int) < (s.size : Int)) = true := decide_eq_true (by omega)
  have t2 : decide (1 < s.size) = true := decide_eq_true (by omega)
  have hp : 0 < s.size := by omega
  have t3 : ((s[0].toNat : Int) == 48) = true := by rw [h0]; rfl
  clear h0
  go_enter Tryd.func18, Tryd.ntmps18
  go_wp2_with fail
  go_loop [10, 4] (fun iv vv => ∃ k : Nat, k ≤ s.size ∧ iv = .int .i64 (k : Int) ∧ vv = .int .i64 ((cut (pn s k) : Nat) : Int)) (fun iv _ => s.size - (intOf iv).toNat)
  case atStart => exact ⟨0, Nat.zero_le _, rfl, rfl⟩
  case round =>
    obtain ⟨k, hk, rfl, rfl⟩ := hrel
    have hk0 : (0 : Int) ≤ (k : Int) := by omega
    have hk5 : (k : Int) ≤ 100 := by omega
    have hc0 := cut_le (pn s k)
    have hc1 : (0 : Int) ≤ ((cut (pn s k) : Nat) : Int) := by omega
    have hc2 : ((cut (pn s k) : Nat) : Int) ≤ 1000001 := by omega
    by_cases hkn : k < s.size
    · have hks : k < s.size := by omega
      have hd1 : decide (k < s.size) = true := decide_eq_true hks
      have hd2 : decide ((k : Int) < (s.size : Int)) = true := decide_eq_true (by omega)
      obtain ⟨c, d, hcd, f1, f2, f3, f4, f5⟩ := byte_facts (HD.out k hks)
      have HS : Hid (pn s (k + 1) = pn s k * 10 + d) := by
        have := pn_snoc s k hks
        rw [← hcd.1, ← hcd.2.1] at this
        exact this
      have HM : Hid ((if (1000001 : Int) < 10 * ((cut (pn s k) : Nat) : Int) + (d : Int) then (1000001 : Int) else 10 * ((cut (pn s k) : Nat) : Int) + (d : Int)) = ((cut (pn s (k + 1)) : Nat) : Int)) := by rw [HS.out, ← cut_step _ _ hcd.2.2]; exact min_cut _ _
      have hd9 : (d : Int) ≤ 9 := by omega
      have hd0 : (0 : Int) ≤ (d : Int) := by omega
      have hc : (s[k].toNat : Int) = (c : Int) := by rw [hcd.1]
      clear hcd hc0
      go_wp2_with fail
      go_round
      case rel => exact ⟨k + 1, by omega, by go_num, by first | rw [HM.out] | (rw [← HM.out]; congr 1; split <;> omega)⟩
      case measure => simp [intOf]; omega
    · have hke : k = s.size := by omega
      subst hke
      have hd1 : decide (s.size < s.size) = false := decide_eq_false (by omega)
      have hd2 : decide ((s.size : Int) < (s.size : Int)) = false := decide_eq_false (by omega)
      clear hc0
      go_wp2_with fail
      go_ret2
      exact ⟨rfl, rfl⟩
set_option maxHeartbeats 1000000 in
theorem parse_one_big (s : ByteArray) (w : World) (hs : s.size ≤ 100) (ha : PAll s) (h1 : s.size = 1) (hv : 1000000 < pn s s.size) : Calls Tryd.prog 18 #[.string s] w (ParsePost 0 4 w) := by
  have hp0 : 0 < s.size := by omega
  have hs0 : (0 : Int) ≤ (s.size : Int) := by omega
  have hs1 : (s.size : Int) ≤ 100 := by omega
  have e1 : s.toList.isEmpty = false := tl_ne (by omega)
  have HD := Lib.hid ha
  clear ha
  have t1 : decide ((1 : Int) < (s.size : Int)) = false := decide_eq_false (by omega)
  have t2 : decide (1 < s.size) = false := decide_eq_false (by omega)
  have hp : 0 < s.size := by omega
  clear h1
  go_enter Tryd.func18, Tryd.ntmps18
  go_wp2_with fail
  go_loop [10, 4] (fun iv vv => ∃ k : Nat, k ≤ s.size ∧ iv = .int .i64 (k : Int) ∧ vv = .int .i64 ((cut (pn s k) : Nat) : Int)) (fun iv _ => s.size - (intOf iv).toNat)
  case atStart => exact ⟨0, Nat.zero_le _, rfl, rfl⟩
  case round =>
    obtain ⟨k, hk, rfl, rfl⟩ := hrel
    have hk0 : (0 : Int) ≤ (k : Int) := by omega
    have hk5 : (k : Int) ≤ 100 := by omega
    have hc0 := cut_le (pn s k)
    have hc1 : (0 : Int) ≤ ((cut (pn s k) : Nat) : Int) := by omega
    have hc2 : ((cut (pn s k) : Nat) : Int) ≤ 1000001 := by omega
    by_cases hkn : k < s.size
    · have hks : k < s.size := by omega
      have hd1 : decide (k < s.size) = true := decide_eq_true hks
      have hd2 : decide ((k : Int) < (s.size : Int)) = true := decide_eq_true (by omega)
      obtain ⟨c, d, hcd, f1, f2, f3, f4, f5⟩ := byte_facts (HD.out k hks)
      have HS : Hid (pn s (k + 1) = pn s k * 10 + d) := by
        have := pn_snoc s k hks
        rw [← hcd.1, ← hcd.2.1] at this
        exact this
      have HM : Hid ((if (1000001 : Int) < 10 * ((cut (pn s k) : Nat) : Int) + (d : Int) then (1000001 : Int) else 10 * ((cut (pn s k) : Nat) : Int) + (d : Int)) = ((cut (pn s (k + 1)) : Nat) : Int)) := by rw [HS.out, ← cut_step _ _ hcd.2.2]; exact min_cut _ _
      have hd9 : (d : Int) ≤ 9 := by omega
      have hd0 : (0 : Int) ≤ (d : Int) := by omega
      have hc : (s[k].toNat : Int) = (c : Int) := by rw [hcd.1]
      clear hcd hc0
      go_wp2_with fail
      go_round
      case rel => exact ⟨k + 1, by omega, by go_num, by first | rw [HM.out] | (rw [← HM.out]; congr 1; split <;> omega)⟩
      case measure => simp [intOf]; omega
    · have hke : k = s.size := by omega
      subst hke
      have hd1 : decide (s.size < s.size) = false := decide_eq_false (by omega)
      have hd2 : decide ((s.size : Int) < (s.size : Int)) = false := decide_eq_false (by omega)
      have hcv : cut (pn s s.size) = 1000001 := by unfold cut; split <;> omega
      have CI := Lib.hid (fun w => So.is_no 1000001 w (by omega))
      rw [hcv]
      clear hc0 hc1 hc2 hcv hv
      go_wp2_with fail
      refine (CI.out _).mono ?_
      rintro e w1 ⟨rfl, rfl⟩
      go_wp2_with fail
      go_ret2
      exact ⟨rfl, rfl⟩
set_option maxHeartbeats 1000000 in
theorem parse_one_ok (s : ByteArray) (w : World) (hs : s.size ≤ 100) (ha : PAll s) (h1 : s.size = 1) (hv : pn s s.size ≤ 1000000) : Calls Tryd.prog 18 #[.string s] w (ParsePost ((pn s s.size : Nat) : Int) 0 w) := by
  have hp0 : 0 < s.size := by omega
  have hs0 : (0 : Int) ≤ (s.size : Int) := by omega
  have hs1 : (s.size : Int) ≤ 100 := by omega
  have e1 : s.toList.isEmpty = false := tl_ne (by omega)
  have HD := Lib.hid ha
  clear ha
  have t1 : decide ((1 : Int) < (s.size : Int)) = false := decide_eq_false (by omega)
  have t2 : decide (1 < s.size) = false := decide_eq_false (by omega)
  have hp : 0 < s.size := by omega
  clear h1
  go_enter Tryd.func18, Tryd.ntmps18
  go_wp2_with fail
  go_loop [10, 4] (fun iv vv => ∃ k : Nat, k ≤ s.size ∧ iv = .int .i64 (k : Int) ∧ vv = .int .i64 ((cut (pn s k) : Nat) : Int)) (fun iv _ => s.size - (intOf iv).toNat)
  case atStart => exact ⟨0, Nat.zero_le _, rfl, rfl⟩
  case round =>
    obtain ⟨k, hk, rfl, rfl⟩ := hrel
    have hk0 : (0 : Int) ≤ (k : Int) := by omega
    have hk5 : (k : Int) ≤ 100 := by omega
    have hc0 := cut_le (pn s k)
    have hc1 : (0 : Int) ≤ ((cut (pn s k) : Nat) : Int) := by omega
    have hc2 : ((cut (pn s k) : Nat) : Int) ≤ 1000001 := by omega
    by_cases hkn : k < s.size
    · have hks : k < s.size := by omega
      have hd1 : decide (k < s.size) = true := decide_eq_true hks
      have hd2 : decide ((k : Int) < (s.size : Int)) = true := decide_eq_true (by omega)
      obtain ⟨c, d, hcd, f1, f2, f3, f4, f5⟩ := byte_facts (HD.out k hks)
      have HS : Hid (pn s (k + 1) = pn s k * 10 + d) := by
        have := pn_snoc s k hks
        rw [← hcd.1, ← hcd.2.1] at this
        exact this
      have HM : Hid ((if (1000001 : Int) < 10 * ((cut (pn s k) : Nat) : Int) + (d : Int) then (1000001 : Int) else 10 * ((cut (pn s k) : Nat) : Int) + (d : Int)) = ((cut (pn s (k + 1)) : Nat) : Int)) := by rw [HS.out, ← cut_step _ _ hcd.2.2]; exact min_cut _ _
      have hd9 : (d : Int) ≤ 9 := by omega
      have hd0 : (0 : Int) ≤ (d : Int) := by omega
      have hc : (s[k].toNat : Int) = (c : Int) := by rw [hcd.1]
      clear hcd hc0
      go_wp2_with fail
      go_round
      case rel => exact ⟨k + 1, by omega, by go_num, by first | rw [HM.out] | (rw [← HM.out]; congr 1; split <;> omega)⟩
      case measure => simp [intOf]; omega
    · have hke : k = s.size := by omega
      subst hke
      have hd1 : decide (s.size < s.size) = false := decide_eq_false (by omega)
      have hd2 : decide ((s.size : Int) < (s.size : Int)) = false := decide_eq_false (by omega)
      have hcv : cut (pn s s.size) = pn s s.size := by unfold cut; split <;> omega
      have CI := Lib.hid (fun w => So.is_yes ((pn s s.size : Nat) : Int) w (by omega) (by omega))
      rw [hcv]
      clear hc0 hc1 hc2 hcv hv
      go_wp2_with fail
      refine (CI.out _).mono ?_
      rintro e w1 ⟨rfl, rfl⟩
      go_wp2_with fail
      go_ret2
      exact ⟨rfl, rfl⟩
set_option maxHeartbeats 1000000 in
theorem parse_more_big (s : ByteArray) (w : World) (hs : s.size ≤ 100) (ha : PAll s) (h1 : 1 < s.size) (h0 : ¬ s[0].toNat = 48) (hv : 1000000 < pn s s.size) : Calls Tryd.prog 18 #[.string s] w (ParsePost 0 4 w) := by
  have hp0 : 0 < s.size := by omega
  have hs0 : (0 : Int) ≤ (s.size : Int) := by omega
  have hs1 : (s.size : Int) ≤ 100 := by omega
  have e1 : s.toList.isEmpty = false := tl_ne (by omega)
  have HD := Lib.hid ha
  clear ha
  have t1 : decide ((1 : Int) < (s.size : Int)) = true := decide_eq_true (by omega)
  have t2 : decide (1 < s.size) = true := decide_eq_true (by omega)
  have hp : 0 < s.size := by omega
  have t3 : ((s[0].toNat : Int) == 48) = false := beq_eq_false_iff_ne.2 (by omega)
  clear h0
  go_enter Tryd.func18, Tryd.ntmps18
  go_wp2_with fail
  go_loop [10, 4] (fun iv vv => ∃ k : Nat, k ≤ s.size ∧ iv = .int .i64 (k : Int) ∧ vv = .int .i64 ((cut (pn s k) : Nat) : Int)) (fun iv _ => s.size - (intOf iv).toNat)
  case atStart => exact ⟨0, Nat.zero_le _, rfl, rfl⟩
  case round =>
    obtain ⟨k, hk, rfl, rfl⟩ := hrel
    have hk0 : (0 : Int) ≤ (k : Int) := by omega
    have hk5 : (k : Int) ≤ 100 := by omega
    have hc0 := cut_le (pn s k)
    have hc1 : (0 : Int) ≤ ((cut (pn s k) : Nat) : Int) := by omega
    have hc2 : ((cut (pn s k) : Nat) : Int) ≤ 1000001 := by omega
    by_cases hkn : k < s.size
    · have hks : k < s.size := by omega
      have hd1 : decide (k < s.size) = true := decide_eq_true hks
      have hd2 : decide ((k : Int) < (s.size : Int)) = true := decide_eq_true (by omega)
      obtain ⟨c, d, hcd, f1, f2, f3, f4, f5⟩ := byte_facts (HD.out k hks)
      have HS : Hid (pn s (k + 1) = pn s k * 10 + d) := by
        have := pn_snoc s k hks
        rw [← hcd.1, ← hcd.2.1] at this
        exact this
      have HM : Hid ((if (1000001 : Int) < 10 * ((cut (pn s k) : Nat) : Int) + (d : Int) then (1000001 : Int) else 10 * ((cut (pn s k) : Nat) : Int) + (d : Int)) = ((cut (pn s (k + 1)) : Nat) : Int)) := by rw [HS.out, ← cut_step _ _ hcd.2.2]; exact min_cut _ _
      have hd9 : (d : Int) ≤ 9 := by omega
      have hd0 : (0 : Int) ≤ (d : Int) := by omega
      have hc : (s[k].toNat : Int) = (c : Int) := by rw [hcd.1]
      clear hcd hc0
      go_wp2_with fail
      go_round
      case rel => exact ⟨k + 1, by omega, by go_num, by first | rw [HM.out] | (rw [← HM.out]; congr 1; split <;> omega)⟩
      case measure => simp [intOf]; omega
    · have hke : k = s.size := by omega
      subst hke
      have hd1 : decide (s.size < s.size) = false := decide_eq_false (by omega)
      have hd2 : decide ((s.size : Int) < (s.size : Int)) = false := decide_eq_false (by omega)
      have hcv : cut (pn s s.size) = 1000001 := by unfold cut; split <;> omega
      have CI := Lib.hid (fun w => So.is_no 1000001 w (by omega))
      rw [hcv]
      clear hc0 hc1 hc2 hcv hv
      go_wp2_with fail
      refine (CI.out _).mono ?_
      rintro e w1 ⟨rfl, rfl⟩
      go_wp2_with fail
      go_ret2
      exact ⟨rfl, rfl⟩
set_option maxHeartbeats 1000000 in
theorem parse_more_ok (s : ByteArray) (w : World) (hs : s.size ≤ 100) (ha : PAll s) (h1 : 1 < s.size) (h0 : ¬ s[0].toNat = 48) (hv : pn s s.size ≤ 1000000) : Calls Tryd.prog 18 #[.string s] w (ParsePost ((pn s s.size : Nat) : Int) 0 w) := by
  have hp0 : 0 < s.size := by omega
  have hs0 : (0 : Int) ≤ (s.size : Int) := by omega
  have hs1 : (s.size : Int) ≤ 100 := by omega
  have e1 : s.toList.isEmpty = false := tl_ne (by omega)
  have HD := Lib.hid ha
  clear ha
  have t1 : decide ((1 : Int) < (s.size : Int)) = true := decide_eq_true (by omega)
  have t2 : decide (1 < s.size) = true := decide_eq_true (by omega)
  have hp : 0 < s.size := by omega
  have t3 : ((s[0].toNat : Int) == 48) = false := beq_eq_false_iff_ne.2 (by omega)
  clear h0
  go_enter Tryd.func18, Tryd.ntmps18
  go_wp2_with fail
  go_loop [10, 4] (fun iv vv => ∃ k : Nat, k ≤ s.size ∧ iv = .int .i64 (k : Int) ∧ vv = .int .i64 ((cut (pn s k) : Nat) : Int)) (fun iv _ => s.size - (intOf iv).toNat)
  case atStart => exact ⟨0, Nat.zero_le _, rfl, rfl⟩
  case round =>
    obtain ⟨k, hk, rfl, rfl⟩ := hrel
    have hk0 : (0 : Int) ≤ (k : Int) := by omega
    have hk5 : (k : Int) ≤ 100 := by omega
    have hc0 := cut_le (pn s k)
    have hc1 : (0 : Int) ≤ ((cut (pn s k) : Nat) : Int) := by omega
    have hc2 : ((cut (pn s k) : Nat) : Int) ≤ 1000001 := by omega
    by_cases hkn : k < s.size
    · have hks : k < s.size := by omega
      have hd1 : decide (k < s.size) = true := decide_eq_true hks
      have hd2 : decide ((k : Int) < (s.size : Int)) = true := decide_eq_true (by omega)
      obtain ⟨c, d, hcd, f1, f2, f3, f4, f5⟩ := byte_facts (HD.out k hks)
      have HS : Hid (pn s (k + 1) = pn s k * 10 + d) := by
        have := pn_snoc s k hks
        rw [← hcd.1, ← hcd.2.1] at this
        exact this
      have HM : Hid ((if (1000001 : Int) < 10 * ((cut (pn s k) : Nat) : Int) + (d : Int) then (1000001 : Int) else 10 * ((cut (pn s k) : Nat) : Int) + (d : Int)) = ((cut (pn s (k + 1)) : Nat) : Int)) := by rw [HS.out, ← cut_step _ _ hcd.2.2]; exact min_cut _ _
      have hd9 : (d : Int) ≤ 9 := by omega
      have hd0 : (0 : Int) ≤ (d : Int) := by omega
      have hc : (s[k].toNat : Int) = (c : Int) := by rw [hcd.1]
      clear hcd hc0
      go_wp2_with fail
      go_round
      case rel => exact ⟨k + 1, by omega, by go_num, by first | rw [HM.out] | (rw [← HM.out]; congr 1; split <;> omega)⟩
      case measure => simp [intOf]; omega
    · have hke : k = s.size := by omega
      subst hke
      have hd1 : decide (s.size < s.size) = false := decide_eq_false (by omega)
      have hd2 : decide ((s.size : Int) < (s.size : Int)) = false := decide_eq_false (by omega)
      have hcv : cut (pn s s.size) = pn s s.size := by unfold cut; split <;> omega
      have CI := Lib.hid (fun w => So.is_yes ((pn s s.size : Nat) : Int) w (by omega) (by omega))
      rw [hcv]
      clear hc0 hc1 hc2 hcv hv
      go_wp2_with fail
      refine (CI.out _).mono ?_
      rintro e w1 ⟨rfl, rfl⟩
      go_wp2_with fail
      go_ret2
      exact ⟨rfl, rfl⟩
end Am
end Go.Proofs.YtfopmaeaclbknaaDoor
