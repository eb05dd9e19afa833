/- Plain: texts cut at a byte; decimal numbers. -/
import Derived.Test.YtjjlhihocllgjaaDoorPd00
import Derived.Lib.Split
import Derived.Lib.SplitLaws
import Derived.Lib.Atoi
import Derived.Lib.ItoaNum
namespace Go.Proofs.YtjjlhihocllgjaaDoor.Se
open Go.ChangeShapes Go.WideShapes Go.ChangeAt Go.RowKit
set_option linter.unusedVariables false
set_option linter.unusedSimpArgs false
/-- a byte put ahead of the first part -/
def consH (x : UInt8) : List (List UInt8) → List (List UInt8)
  | [] => [[x]]
  | y :: ys => (x :: y) :: ys
/-- the parts of a list between separators -/
def splitL (c : UInt8) : List UInt8 → List (List UInt8)
  | [] => [[]]
  | x :: r => if x = c then [] :: splitL c r else consH x (splitL c r)
theorem splitL_ne (c : UInt8) : ∀ l, splitL c l ≠ []
  | [] => by simp [splitL]
  | x :: r => by
    unfold splitL
    split
    · simp
    · cases h : splitL c r with
      | nil => exact absurd h (splitL_ne c r)
      | cons y ys => simp [consH]
theorem index_eq (c : UInt8) (l : List UInt8) : Lib.index (c :: l) [c] = ((0 : Nat) : Int) := by rw [Lib.index]; simp [List.isPrefixOf]
theorem index_ne (b c : UInt8) (l : List UInt8) (h : b ≠ c) : Lib.index (b :: l) [c] = if Lib.index l [c] == -1 then -1 else Lib.index l [c] + 1 := by
  have hp : ([c] : List UInt8).isPrefixOf (b :: l) = false := by simp [List.isPrefixOf, Ne.symm h]
  rw [Lib.index, hp]; simp
theorem splitK_one (c : UInt8) : ∀ l : List UInt8, Lib.splitK [c] 0 (Lib.count l [c]) l = splitL c l
  | [] => by
    rw [Lib.count_miss (by simp [Lib.index])]
    rfl
  | x :: r => by
    by_cases h : x = c
    · subst h
      rw [Lib.count_cons_eq, Nat.add_comm, Lib.splitK, index_eq]
      rw [if_neg (by decide), splitL, if_pos rfl]
      show ([] : List UInt8) :: Lib.splitK [x] 0 _ _ = _
      rw [show ((((0 : Nat) : Int).toNat) + [x].length) = 1 from rfl, List.drop_succ_cons, List.drop_zero, splitK_one x r]
    · rw [Lib.count_cons_ne x c r h, splitL, if_neg h, ← splitK_one c r]
      by_cases hm : Lib.index r [c] = -1
      · rw [Lib.count_miss hm]
        rfl
      · have hge := Lib.index_ge r [c]
        obtain ⟨j, hj⟩ : ∃ j : Nat, Lib.index r [c] = j := ⟨(Lib.index r [c]).toNat, by omega⟩
        have hc : Lib.count r [c] = Lib.count (r.drop (j + [c].length)) [c] + 1 := by rw [Lib.count_hit (by simp) hj]; omega
        have hix : Lib.index (x :: r) [c] = ((j + 1 : Nat) : Int) := by rw [index_ne x c r h, if_neg (fun e => hm (beq_iff_eq.1 e)), hj]; omega
        rw [hc, Lib.splitK, Lib.splitK, hix, hj]
        rw [if_neg (fun e => by have := beq_iff_eq.1 e; omega), if_neg (fun e => by have := beq_iff_eq.1 e; omega)]
        simp only [Int.toNat_natCast, consH, List.length_cons, List.length_nil, Nat.zero_add, Nat.add_zero, List.take_succ_cons]
        rw [show j + 1 + 1 = (j + 1) + 1 from rfl, List.drop_succ_cons]
/-- the parts of a text between separators -/
def splitS (c : UInt8) (s : ByteArray) : List ByteArray := (splitL c s.data.toList).map fun l => ⟨l.toArray⟩
theorem back (s : ByteArray) : (⟨s.data.toList.toArray⟩ : ByteArray) = s := rfl
theorem splitB_one (c : UInt8) (s : ByteArray) : Lib.splitB ⟨#[c]⟩ 0 (Lib.countB s ⟨#[c]⟩) s = splitS c s := by
  have h := Lib.splitB_data ⟨#[c]⟩ 0 (Lib.countB s ⟨#[c]⟩) s
  have h2 := congrArg (List.map fun l : List UInt8 => (⟨l.toArray⟩ : ByteArray)) h
  rw [List.map_map] at h2
  rw [show (((fun l : List UInt8 => (⟨l.toArray⟩ : ByteArray)) ∘ fun x : ByteArray => x.data.toList)) = id from rfl, List.map_id] at h2
  rw [h2]
  show List.map _ (Lib.splitK [c] 0 (Lib.count s.data.toList [c]) s.data.toList) = _
  rw [splitK_one]
  rfl
theorem countB_one (c : UInt8) (s : ByteArray) : Lib.countB s ⟨#[c]⟩ + 1 = (splitS c s).length := by
  rw [← splitB_one, Lib.splitB_all ⟨#[c]⟩ (Nat.le_refl 1) 0 _ s rfl]
theorem splitL_len (c : UInt8) : ∀ l, (splitL c l).length ≤ l.length + 1
  | [] => by simp [splitL]
  | x :: r => by
    have ih := splitL_len c r
    unfold splitL
    split
    · simp; exact ih
    · cases h : splitL c r with
      | nil => simp [consH]
      | cons y ys => rw [h] at ih; simp [consH] at ih ⊢; omega
theorem splitL_part (c : UInt8) : ∀ l, ∀ p ∈ splitL c l, p.length ≤ l.length
  | [], p, h => by simp [splitL] at h; simp [h]
  | x :: r, p, h => by
    unfold splitL at h
    split at h
    · rcases List.mem_cons.1 h with rfl | h
      · simp
      · have := splitL_part c r p h; simp; omega
    · have ih := splitL_part c r
      cases hr : splitL c r with
      | nil => exact absurd hr (splitL_ne c r)
      | cons y ys =>
        rw [hr] at h ih
        rcases List.mem_cons.1 h with rfl | h
        · have := ih y (by simp); simp; omega
        · have := ih p (List.mem_cons_of_mem _ h); simp; omega
theorem splitS_size {c : UInt8} {s p : ByteArray} (h : p ∈ splitS c s) : p.size ≤ s.size := by
  obtain ⟨l, hl, rfl⟩ := List.mem_map.1 h
  have := splitL_part c _ l hl
  show l.toArray.size ≤ _
  rw [List.size_toArray]
  exact this
theorem splitS_len (c : UInt8) (s : ByteArray) : (splitS c s).length ≤ s.size + 1 := by
  unfold splitS
  rw [List.length_map]
  exact splitL_len c _
theorem splitS_pos (c : UInt8) (s : ByteArray) : 0 < (splitS c s).length := by
  unfold splitS
  rw [List.length_map]
  exact List.length_pos_iff.2 (splitL_ne c _)
/-- a list without the separator is one part; a part, a separator and the rest -/
theorem splitL_none {c : UInt8} : ∀ {l : List UInt8}, (∀ x ∈ l, x ≠ c) → splitL c l = [l]
  | [], _ => rfl
  | x :: r, h => by
    rw [splitL, if_neg (h x (by simp)), splitL_none fun y hy => h y (List.mem_cons_of_mem _ hy)]
    rfl
theorem splitL_app {c : UInt8} : ∀ {l : List UInt8} (r : List UInt8), (∀ x ∈ l, x ≠ c) → splitL c (l ++ c :: r) = l :: splitL c r
  | [], r, _ => by rw [List.nil_append, splitL, if_pos rfl]
  | x :: l, r, h => by
    rw [List.cons_append, splitL, if_neg (h x (by simp)), splitL_app r fun y hy => h y (List.mem_cons_of_mem _ hy)]
    rfl
/-- decimal digits -/
def dig (b : UInt8) : Bool := decide (48 ≤ b.toNat) && decide (b.toNat ≤ 57)
def nextV (n : Nat) (b : UInt8) : Nat := n * 10 + (b.toNat - 48)
def valF (n : Nat) (l : List UInt8) : Nat := l.foldl nextV n
theorem valF_nil (n : Nat) : valF n [] = n := rfl
theorem valF_cons (n : Nat) (b : UInt8) (r : List UInt8) : valF n (b :: r) = valF (n * 10 + (b.toNat - 48)) r := by
  unfold valF
  rw [List.foldl_cons]
  rfl
def valD (l : List UInt8) : Nat := valF 0 l
theorem valF_snoc (b : UInt8) : ∀ (l : List UInt8) (n : Nat), valF n (l ++ [b]) = valF n l * 10 + (b.toNat - 48)
  | [], n => by rw [List.nil_append, valF_cons, valF_nil, valF_nil]
  | x :: l, n => by rw [List.cons_append, valF_cons, valF_snoc b l, valF_cons]
theorem valF_lt : ∀ (l : List UInt8) (n : Nat), (∀ b ∈ l, dig b = true) → valF n l < (n + 1) * 10 ^ l.length
  | [], n, _ => by rw [valF_nil]; simp
  | b :: r, n, h => by
    have hb := h b (by simp)
    unfold dig at hb
    simp at hb
    have ih := valF_lt r (n * 10 + (b.toNat - 48)) fun x hx => h x (List.mem_cons_of_mem _ hx)
    rw [valF_cons, List.length_cons, Nat.pow_succ]
    refine Nat.lt_of_lt_of_le ih ?_
    rw [Nat.mul_comm (10 ^ r.length) 10, ← Nat.mul_assoc]
    exact Nat.mul_le_mul_right _ (by omega)
theorem valD_lt {l : List UInt8} (h : ∀ b ∈ l, dig b = true) (h9 : l.length ≤ 9) : valD l < 1000000000 := by
  have := valF_lt l 0 h
  have h2 : 10 ^ l.length ≤ 10 ^ 9 := Nat.pow_le_pow_right (by decide) h9
  unfold valD
  omega
theorem digitVal_dig {b : UInt8} (h : dig b = true) : Lib.digitVal b = some (b.toNat - 48) := by
  unfold dig at h
  simp at h
  unfold Lib.digitVal
  simp only [h.1, h.2, UInt8.le_iff_toNat_le, decide_true, Bool.and_self]
  first | rfl | simp [h.1, h.2] | skip
theorem decFrom_val : ∀ (l : List UInt8) (n : Nat), (∀ b ∈ l, dig b = true) → Lib.decFrom n l = some (valF n l)
  | [], n, _ => by rw [valF_nil]; rfl
  | b :: r, n, h => by
    rw [Lib.decFrom, digitVal_dig (h b (by simp)), valF_cons]
    exact decFrom_val r _ fun x hx => h x (List.mem_cons_of_mem _ hx)
theorem atoi_val {l : List UInt8} (h0 : l ≠ []) (h : ∀ b ∈ l, dig b = true) : Lib.atoi l = some (valD l : Int) := by
  cases l with
  | nil => exact absurd rfl h0
  | cons b r =>
    have hb := h b (by simp)
    have e1 : ¬ (b == 45) = true := fun e => by rw [beq_iff_eq.1 e] at hb; exact absurd hb (by decide)
    have e2 : ¬ (b == 43) = true := fun e => by rw [beq_iff_eq.1 e] at hb; exact absurd hb (by decide)
    show (if (b == 45) = true then Option.map (fun m : Nat => -(m : Int)) (Lib.decNat r) else if (b == 43) = true then Option.map (fun m : Nat => (m : Int)) (Lib.decNat r) else Option.map (fun m : Nat => (m : Int)) (Lib.decNat (b :: r))) = _
    rw [if_neg e1, if_neg e2]
    rw [show Lib.decNat (b :: r) = some (valD (b :: r)) from decFrom_val (b :: r) 0 h]
    rfl
/-- the numeral of a number: its digits, its value, its length, its first digit -/
theorem decD_dig : ∀ n : Nat, (∀ b ∈ Lib.decDigits n, dig b = true) ∧ valD (Lib.decDigits n) = n ∧ (Lib.decDigits n ≠ []) ∧ (n ≠ 0 → (Lib.decDigits n).head? ≠ some 48) := by
  intro n
  induction n using Nat.strongRecOn with
  | _ n ih =>
    by_cases h : n < 10
    · rw [Lib.decDigits, dif_pos h]
      obtain rfl | rfl | rfl | rfl | rfl | rfl | rfl | rfl | rfl | rfl : n = 0 ∨ n = 1 ∨ n = 2 ∨ n = 3 ∨ n = 4 ∨ n = 5 ∨ n = 6 ∨ n = 7 ∨ n = 8 ∨ n = 9 := by omega
      all_goals decide
    · have e : Lib.decDigits n = Lib.decDigits (n / 10) ++ [UInt8.ofNat (48 + n % 10)] := by
        conv => lhs; rw [Lib.decDigits]
        rw [dif_neg h]
      obtain ⟨h1, h2, h3, h4⟩ := ih (n / 10) (by omega)
      have hm : n % 10 < 10 := Nat.mod_lt _ (by decide)
      have ht : (UInt8.ofNat (48 + n % 10)).toNat = 48 + n % 10 := by simp; omega
      rw [e]
      refine ⟨?_, ?_, by simp, fun _ => ?_⟩
      · intro b hb
        rcases List.mem_append.1 hb with hb | hb
        · exact h1 b hb
        · rw [List.mem_singleton.1 hb]
          unfold dig
          rw [ht]
          simp
          omega
      · unfold valD at h2 ⊢
        rw [valF_snoc, h2, ht]
        omega
      · have h5 := h4 (by omega)
        cases hd : Lib.decDigits (n / 10) with
        | nil => exact absurd hd h3
        | cons x r =>
          rw [hd] at h5
          simpa using h5
theorem decD_len {n : Nat} (h : n < 1000000000) : (Lib.decDigits n).length ≤ 9 := by
  have key : ∀ (k u : Nat), u < 10 ^ (k + 1) → (Lib.decDigits u).length ≤ k + 1 := by
    intro k
    induction k with
    | zero =>
      intro u hu
      rw [Lib.decDigits, dif_pos (by omega)]
      simp
    | succ k ih =>
      intro u hu
      by_cases h9 : u < 10
      · rw [Lib.decDigits, dif_pos h9]; simp
      · rw [Lib.decDigits, dif_neg h9, List.length_append]
        have := ih (u / 10) (Nat.div_lt_of_lt_mul (by rw [Nat.pow_succ, Nat.mul_comm] at hu; exact hu))
        simp
        omega
  exact key 8 n (by omega)
/-- the error of a word that should be a number, and its value -/
def numE (w : ByteArray) : Int :=
  if w.data.toList.all dig = false then 2
  else if w.size = 0 ∨ (1 < w.size ∧ w.data.toList.head? = some 48) then 2
  else if 9 < w.size then 4 else 0
def numV (w : ByteArray) : Int := (valD w.data.toList : Int)
theorem numE_zero {w : ByteArray} (h : numE w = 0) : (∀ b ∈ w.data.toList, dig b = true) ∧ w.size ≠ 0 ∧ w.size ≤ 9 := by
  unfold numE at h
  split at h
  · cases h
  · split at h
    · cases h
    · split at h
      · cases h
      · rename_i h1 h2 h3
        rw [Bool.not_eq_false, List.all_eq_true] at h1
        exact ⟨h1, fun e => h2 (.inl e), by omega⟩
theorem numV_lt {w : ByteArray} (h : numE w = 0) : 0 ≤ numV w ∧ numV w < 1000000000 := by
  obtain ⟨h1, _, h2⟩ := numE_zero h
  have := valD_lt h1 h2
  unfold numV
  omega
/-- the numeral of a small number reads as it -/
theorem num_dec {n : Nat} (h : n < 1000000000) : numE ⟨(Lib.decDigits n).toArray⟩ = 0 ∧ numV ⟨(Lib.decDigits n).toArray⟩ = (n : Int) := by
  obtain ⟨h1, h2, h3, h4⟩ := decD_dig n
  have h5 := decD_len h
  constructor
  · unfold numE
    show (if (Lib.decDigits n).all dig = false then (2 : Int) else if (Lib.decDigits n).toArray.size = 0 ∨ (1 < (Lib.decDigits n).toArray.size ∧ (Lib.decDigits n).head? = some 48) then 2 else if 9 < (Lib.decDigits n).toArray.size then 4 else 0) = 0
    rw [List.size_toArray]
    rw [if_neg (by rw [Bool.not_eq_false, List.all_eq_true]; exact h1), if_neg, if_neg (by omega)]
    rintro (e | ⟨e1, e2⟩)
    · exact h3 (List.eq_nil_of_length_eq_zero e)
    · by_cases hn : n = 0
      · subst hn
        rw [Lib.decDigits, dif_pos (by decide)] at e1
        simp at e1
      · exact h4 hn e2
  · show ((valD (Lib.decDigits n) : Nat) : Int) = n
    rw [h2]
end Go.Proofs.YtjjlhihocllgjaaDoor.Se
