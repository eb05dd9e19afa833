/- Plain: numbers as lists of digits. -/
import Derived.Test.YtfopmaeaclbknaaDoorBase
namespace Go.Proofs.YtfopmaeaclbknaaDoor
namespace Fr
/-- the base of the digits -/
def B : Nat := 4294967296
theorem B_pos : 0 < B := by decide
theorem B_two : 1 < B := by decide
/-- the value of a list of digits, the least significant first -/
def nat : List Nat → Nat
  | [] => 0
  | d :: l => d + B * nat l
def digsF : Nat → Nat → List Nat
  | 0, _ => []
  | f + 1, n => if n = 0 then [] else (n % B) :: digsF f (n / B)
/-- the digits of a number, without leading zeros -/
def digs (n : Nat) : List Nat := digsF n n
theorem digsF_more : ∀ (f g n : Nat), n ≤ f → n ≤ g → digsF f n = digsF g n
  | 0, 0, _, _, _ => rfl
  | 0, g + 1, n, h, _ => by
    obtain rfl : n = 0 := by omega
    simp [digsF]
  | f + 1, 0, n, _, h => by
    obtain rfl : n = 0 := by omega
    simp [digsF]
  | f + 1, g + 1, n, h1, h2 => by
    unfold digsF
    by_cases e : n = 0
    · rw [if_pos e, if_pos e]
    · rw [if_neg e, if_neg e]
      have : n / B < n := Nat.div_lt_self (by omega) B_two
      rw [digsF_more f g (n / B) (by omega) (by omega)]
theorem digs_zero : digs 0 = [] := rfl
theorem digs_pos {n : Nat} (h : n ≠ 0) : digs n = (n % B) :: digs (n / B) := by
  unfold digs
  obtain ⟨m, rfl⟩ : ∃ m, n = m + 1 := ⟨n - 1, by omega⟩
  have : (m + 1) / B < m + 1 := Nat.div_lt_self (by omega) B_two
  conv => lhs; unfold digsF
  rw [if_neg h, digsF_more m ((m + 1) / B) _ (by omega) (Nat.le_refl _)]
theorem nat_digsF : ∀ (f n : Nat), n ≤ f → nat (digsF f n) = n
  | 0, n, h => by
    obtain rfl : n = 0 := by omega
    rfl
  | f + 1, n, h => by
    unfold digsF
    by_cases e : n = 0
    · rw [if_pos e, e]; rfl
    · rw [if_neg e]
      have : n / B < n := Nat.div_lt_self (by omega) B_two
      unfold nat
      rw [nat_digsF f (n / B) (by omega)]
      exact Nat.mod_add_div n B
theorem nat_digs (n : Nat) : nat (digs n) = n := nat_digsF n n (Nat.le_refl _)
theorem digsF_lt : ∀ (f n : Nat), ∀ d ∈ digsF f n, d < B
  | 0, _, d, h => by cases h
  | f + 1, n, d, h => by
    unfold digsF at h
    split at h
    · cases h
    · rcases List.mem_cons.1 h with rfl | h
      · exact Nat.mod_lt _ B_pos
      · exact digsF_lt f _ d h
theorem digs_lt (n : Nat) : ∀ d ∈ digs n, d < B := digsF_lt n n
/-- all are digits -/
def Dg (l : List Nat) : Prop := ∀ d ∈ l, d < B
theorem Dg.digs (n : Nat) : Dg (digs n) := digs_lt n
theorem Dg.nil : Dg [] := fun d h => by cases h
theorem Dg.cons {d : Nat} {l : List Nat} (h : d < B) (k : Dg l) : Dg (d :: l) := fun x hx => by
  rcases List.mem_cons.1 hx with rfl | hx
  · exact h
  · exact k x hx
theorem Dg.head {d : Nat} {l : List Nat} (h : Dg (d :: l)) : d < B := h d (by simp)
theorem Dg.tail {d : Nat} {l : List Nat} (h : Dg (d :: l)) : Dg l := fun x hx => h x (by simp [hx])
theorem Dg.append {l k : List Nat} (h : Dg l) (h' : Dg k) : Dg (l ++ k) := fun x hx => by
  rcases List.mem_append.1 hx with hx | hx
  · exact h x hx
  · exact h' x hx
theorem Dg.take {l : List Nat} (h : Dg l) (n : Nat) : Dg (l.take n) := fun x hx => h x (List.mem_of_mem_take hx)
theorem Dg.drop {l : List Nat} (h : Dg l) (n : Nat) : Dg (l.drop n) := fun x hx => h x (List.mem_of_mem_drop hx)
theorem Dg.at_ {l : List Nat} (h : Dg l) (i : Nat) (hi : i < l.length) : l[i] < B := h _ (List.getElem_mem hi)
theorem nat_append : ∀ (l k : List Nat), nat (l ++ k) = nat l + B ^ l.length * nat k
  | [], k => by simp [nat]
  | d :: l, k => by
    simp only [List.cons_append, nat, nat_append l k, List.length_cons, Nat.pow_succ, Nat.mul_add]
    rw [Nat.mul_comm (B ^ l.length) B, Nat.mul_assoc, Nat.add_assoc]
theorem nat_lt : ∀ {l : List Nat}, Dg l → nat l < B ^ l.length
  | [], _ => by simp [nat]
  | d :: l, h => by
    have h1 := nat_lt h.tail
    have h2 := h.head
    simp only [nat, List.length_cons, Nat.pow_succ]
    have h3 : B * nat l + B ≤ B ^ l.length * B := by
      rw [← Nat.mul_succ, Nat.mul_comm B]
      exact Nat.mul_le_mul_right B h1
    omega
theorem nat_zeros : ∀ (m : Nat), nat (List.replicate m 0) = 0
  | 0 => rfl
  | m + 1 => by simp [List.replicate_succ, nat, nat_zeros m]
theorem nat_eq_zero : ∀ {l : List Nat}, nat l = 0 → l = List.replicate l.length 0
  | [], _ => rfl
  | d :: l, h => by
    unfold nat at h
    have hb := B_pos
    have h2 : nat l = 0 := by
      rcases Nat.eq_zero_or_pos (nat l) with e | e
      · exact e
      · have := Nat.mul_pos hb e
        omega
    have h1 : d = 0 := by omega
    subst h1
    rw [List.length_cons, List.replicate_succ, ← nat_eq_zero h2]
/-- the digits come first, then zeros -/
theorem digs_split : ∀ {l : List Nat}, Dg l → l = digs (nat l) ++ List.replicate (l.length - (digs (nat l)).length) 0 ∧ (digs (nat l)).length ≤ l.length
  | [], _ => by simp [nat, digs_zero]
  | d :: l, h => by
    by_cases e : nat (d :: l) = 0
    · rw [e, digs_zero]
      exact ⟨by simpa using nat_eq_zero e, by simp⟩
    · obtain ⟨h1, h2⟩ := digs_split h.tail
      have hb := B_pos
      have e1 : nat (d :: l) % B = d := by
        show (d + B * nat l) % B = d
        rw [Nat.add_mul_mod_self_left]
        exact Nat.mod_eq_of_lt h.head
      have e2 : nat (d :: l) / B = nat l := by
        show (d + B * nat l) / B = nat l
        rw [Nat.add_mul_div_left _ _ hb, Nat.div_eq_of_lt h.head, Nat.zero_add]
      rw [digs_pos e, e1, e2]
      refine ⟨?_, by simpa using h2⟩
      rw [List.cons_append, List.length_cons, List.length_cons, Nat.add_sub_add_right, ← h1]
theorem digs_take {l : List Nat} (h : Dg l) : l.take (digs (nat l)).length = digs (nat l) := by
  have h1 := (digs_split h).1
  generalize digs (nat l) = D at *
  generalize l.length - D.length = m at h1
  subst h1
  simp
/-- a list without a leading zero is the list of its number's digits -/
theorem digs_of {l : List Nat} (h : Dg l) (hl : l.getLastD 1 ≠ 0) : digs (nat l) = l := by
  obtain ⟨h1, h2⟩ := digs_split h
  generalize hk : l.length - (digs (nat l)).length = k at h1
  cases k with
  | zero => simpa using h1.symm
  | succ k =>
    exfalso
    apply hl
    rw [h1, List.replicate_succ', ← List.append_assoc]
    simp
theorem digsF_last : ∀ (f n : Nat), (digsF f n).getLastD 1 ≠ 0 ∨ f < n
  | 0, n => by
    by_cases h : n = 0
    · left; subst h; simp [digsF]
    · right; omega
  | f + 1, n => by
    by_cases h : f + 1 < n
    · exact .inr h
    · left
      unfold digsF
      by_cases e : n = 0
      · rw [if_pos e]; simp
      · rw [if_neg e]
        have hlt : n / B < n := Nat.div_lt_self (by omega) B_two
        rcases digsF_last f (n / B) with h1 | h1
        · generalize hL : digsF f (n / B) = L at *
          cases L with
          | nil =>
            have hz : nat (digsF f (n / B)) = n / B := nat_digsF f _ (by omega)
            rw [hL] at hz
            have hz : n / B = 0 := hz.symm
            have : n % B = n := by
              have := Nat.mod_add_div n B
              rw [hz] at this
              simpa using this
            simp [this, e]
          | cons x L => simpa using h1
        · omega
theorem digs_last (n : Nat) : (digs n).getLastD 1 ≠ 0 := (digsF_last n n).resolve_right (by omega)
theorem digs_inj {l k : List Nat} (h : nat l = nat k) (hl : Dg l) (hk : Dg k) (h1 : l.getLastD 1 ≠ 0) (h2 : k.getLastD 1 ≠ 0) : l = k := by
  rw [← digs_of hl h1, ← digs_of hk h2, h]
theorem digs_len_le {n m : Nat} (h : n < B ^ m) : (digs n).length ≤ m := by
  induction m generalizing n with
  | zero =>
    obtain rfl : n = 0 := by simpa using h
    simp [digs_zero]
  | succ m ih =>
    by_cases e : n = 0
    · subst e; simp [digs_zero]
    · rw [digs_pos e, List.length_cons]
      have : n / B < B ^ m := by
        rw [Nat.pow_succ] at h
        exact Nat.div_lt_of_lt_mul (by rw [Nat.mul_comm]; exact h)
      have := ih this
      omega
theorem lt_digs_len (n : Nat) : n < B ^ (digs n).length := by
  have := nat_lt (Dg.digs n)
  rwa [nat_digs] at this
/-- as many digits as a number has, it is at least -/
theorem digs_len_ge {n m : Nat} (h : B ^ m ≤ n) : m < (digs n).length := by
  have h1 := lt_digs_len n
  have h2 : B ^ m < B ^ (digs n).length := Nat.lt_of_le_of_lt h h1
  exact (Nat.pow_lt_pow_iff_right B_two).1 h2
theorem digs_len_mono {a b : Nat} (h : a ≤ b) : (digs a).length ≤ (digs b).length := digs_len_le (Nat.lt_of_le_of_lt h (lt_digs_len b))
theorem digs_ge {n m : Nat} (h : m < (digs n).length) : B ^ m ≤ n := by
  rcases Nat.lt_or_ge n (B ^ m) with h1 | h1
  · have := digs_len_le h1; omega
  · exact h1
theorem digs_nil_iff {n : Nat} : digs n = [] ↔ n = 0 := by
  constructor
  · intro h
    have := nat_digs n
    rw [h] at this
    exact this.symm
  · rintro rfl; rfl
end Fr
end Go.Proofs.YtfopmaeaclbknaaDoor
