/- Plain numbers: how many increments lead from a price to another. -/
namespace Go.Proofs.Ytnnakikhfacnpaa
namespace Clk
def up (s p x : Int) : Int := x + s + (x * p + 99) / 100

theorem up_gt {s p x : Int} (s0 : 1 ≤ s) (p0 : 0 ≤ p) (h0 : 0 ≤ x) : x + 1 ≤ up s p x := by
  have := Int.mul_nonneg h0 p0
  unfold up; omega

def cnt (s p t : Int) : Nat → Int → Nat
  | 0, _ => 0
  | f + 1, x => if x < t then cnt s p t f (up s p x) + 1 else 0

theorem cnt_fuel {s p t : Int} (s0 : 1 ≤ s) (p0 : 0 ≤ p) : ∀ (f g : Nat) (x : Int), 0 ≤ x → (t - x).toNat ≤ f → (t - x).toNat ≤ g → cnt s p t f x = cnt s p t g x
  | 0, 0, _, _, _, _ => rfl
  | 0, g + 1, x, _, hf, _ => by
    have : ¬ x < t := by omega
    simp [cnt, this]
  | f + 1, 0, x, _, _, hg => by
    have : ¬ x < t := by omega
    simp [cnt, this]
  | f + 1, g + 1, x, h0, hf, hg => by
    by_cases h : x < t
    · have := up_gt s0 p0 h0
      simp only [cnt, h, if_true]
      rw [cnt_fuel s0 p0 f g (up s p x) (by omega) (by omega) (by omega)]
    · simp [cnt, h]

def num (s p x t : Int) : Nat := cnt s p t (t - x).toNat x

theorem num_step {s p x t : Int} (s0 : 1 ≤ s) (p0 : 0 ≤ p) (h0 : 0 ≤ x) (h : x < t) : num s p x t = num s p (up s p x) t + 1 := by
  have := up_gt s0 p0 h0
  unfold num
  obtain ⟨f, hf⟩ : ∃ f, (t - x).toNat = f + 1 := ⟨(t - x).toNat - 1, by omega⟩
  rw [hf]
  simp only [cnt, h, if_true]
  rw [cnt_fuel s0 p0 f (t - up s p x).toNat (up s p x) (by omega) (by omega) (by omega)]

theorem num_done {s p x t : Int} (h : ¬ x < t) : num s p x t = 0 := by
  unfold num
  have : (t - x).toNat = 0 := by omega
  rw [this]; rfl

def mostTo (f : Nat → Nat) : Nat → Nat
  | 0 => 0
  | k + 1 => max (mostTo f k) (f k)

/-- in the midst of counting -/
structure In (s p x t : Int) (j : Nat) (v : Int) : Prop where
  cn : num s p x t = j + num s p v t
  v0 : 0 ≤ v
  jv : (j : Int) ≤ v
theorem In.start {s p x t : Int} (h0 : 0 ≤ x) : In s p x t 0 x := ⟨by omega, h0, by omega⟩
theorem In.step {s p x t : Int} {j : Nat} {v : Int} (h : In s p x t j v) (s0 : 1 ≤ s) (p0 : 0 ≤ p) (hl : v < t) : In s p x t (j + 1) (up s p v) := by
  have h1 := num_step s0 p0 h.v0 hl
  have h2 := up_gt s0 p0 h.v0
  have h3 := h.cn
  have h4 := h.jv
  exact ⟨by omega, by have := h.v0; omega, by omega⟩
theorem In.done {s p x t : Int} {j : Nat} {v : Int} (h : In s p x t j v) (hl : ¬ v < t) : num s p x t = j := by
  have h1 := num_done (s := s) (p := p) hl
  have h3 := h.cn
  omega
theorem cnt_le {s p t : Int} (s0 : 1 ≤ s) (p0 : 0 ≤ p) : ∀ (f : Nat) (x : Int), 0 ≤ x → cnt s p t f x ≤ (t - x).toNat
  | 0, _, _ => Nat.zero_le _
  | f + 1, x, h0 => by
    by_cases h : x < t
    · have := up_gt s0 p0 h0
      have := cnt_le s0 p0 (t := t) f (up s p x) (by omega)
      simp only [cnt, h, if_true]; omega
    · simp [cnt, h]
theorem num_le {s p x t : Int} (s0 : 1 ≤ s) (p0 : 0 ≤ p) (h0 : 0 ≤ x) : num s p x t ≤ (t - x).toNat := cnt_le s0 p0 _ _ h0
theorem mostTo_le {f : Nat → Nat} {B : Nat} : ∀ k, (∀ j, j < k → f j ≤ B) → mostTo f k ≤ B
  | 0, _ => Nat.zero_le _
  | k + 1, h => by
    have := mostTo_le k (fun j hj => h j (by omega))
    have := h k (by omega)
    unfold mostTo; omega
theorem le_mostTo {f : Nat → Nat} : ∀ k j, j < k → f j ≤ mostTo f k
  | k + 1, j, h => by
    unfold mostTo
    by_cases e : j = k
    · subst e; omega
    · have := le_mostTo (f := f) k j (by omega); omega
theorem most_step {f : Nat → Nat} {k j : Nat} (h : f k = j) : (if mostTo f k < j then (j : Int) else (mostTo f k : Int)) = ((mostTo f (k + 1) : Nat) : Int) := by
  show _ = ((max (mostTo f k) (f k) : Nat) : Int)
  rw [h, Nat.max_def]
  split <;> split <;> omega
end Clk
end Go.Proofs.Ytnnakikhfacnpaa
