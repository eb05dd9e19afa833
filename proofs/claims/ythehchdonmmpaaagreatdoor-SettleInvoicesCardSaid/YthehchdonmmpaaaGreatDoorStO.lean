/- Plain: the invoices and what they exceed. -/
import Derived.Test.YthehchdonmmpaaaGreatDoorStT
import Derived.Test.YthehchdonmmpaaaGreatDoorPs17
namespace Go.Proofs.YthehchdonmmpaaaGreatDoor.St
open Go.ChangeShapes Go.WideShapes Go.ChangeAt Go.RowKit Gn Cat Lex Pr Ros Fr
set_option linter.unusedVariables false
set_option linter.unusedSimpArgs false
/-- what an invoice without an error says -/
theorem invR_ok {ps : List Prod} {bud : Int} {i : Nat} {won : Nat → Int} {f : Frc} {x : Inv} (h : invR ps bud i won f = .ok x) :
    x = ⟨(i : Int), won, sumE Prod.reserve won ps, (upN f : Int), sumE Prod.reserve won ps + (upN f : Int)⟩ ∧ validF f.neg f.num f.den = true ∧ f.neg = false ∧ upN f ≤ 1000000 ∧ (eq6 won zero6 = true → nat f.num = 0) ∧ sumE Prod.reserve won ps + (upN f : Int) ≤ 1000000 := by
  unfold invR at h
  repeat' split at h
  all_goals first
    | (cases h; done)
    | skip
  rename_i h1 h2 h3 h4 h5
  cases h
  exact ⟨rfl, h2, h3.1, h3.2.1, h3.2.2, h4⟩
theorem validF_den {neg : Bool} {l1 l2 : List Nat} (h : validF neg l1 l2 = true) : l1 = digs (nat l1) ∧ l2 = digs (nat l2) ∧ nat l2 ≠ 0 := by
  unfold validF at h
  simp only [Bool.and_eq_true, decide_eq_true_eq] at h
  obtain ⟨h1, h2, h3, _, _⟩ := h
  refine ⟨h1, h2, fun e => h3 ?_⟩
  rw [h2, e]
  rfl
section
variable (net : List Frc)
def nnK (k : Nat) : Nat := nat (net.getD k Frc.none).num
def ddK (k : Nat) : Nat := nat (net.getD k Frc.none).den
/-- the product of the first denominators, and the sum over it -/
def PD : Nat → Nat
  | 0 => 1
  | k + 1 => PD k * ddK net k
def SN : Nat → Nat
  | 0 => 0
  | k + 1 => SN k * ddK net k + nnK net k * PD net k
end
def usum (L : List Inv) : Nat := (L.map fun x => x.net.toNat).sum
theorem usum_snoc (L : List Inv) (x : Inv) : usum (L ++ [x]) = usum L + x.net.toNat := by simp [usum]
theorem step_lo {S U P n d u : Nat} (h : S ≤ U * P) (hu : n ≤ u * d) : S * d + n * P ≤ (U + u) * (P * d) := by
  have a : S * d ≤ (U * P) * d := Nat.mul_le_mul_right d h
  have b : n * P ≤ (u * d) * P := Nat.mul_le_mul_right P hu
  have e : (U + u) * (P * d) = (U * P) * d + (u * d) * P := by
    rw [Nat.add_mul, Nat.mul_assoc U P d, Nat.mul_assoc u d P, Nat.mul_comm d P]
  omega
theorem step_hi {S U P n d u l : Nat} (hP : P ≠ 0) (hd : d ≠ 0) (h : U * P ≤ S + l * P) (hu : u * d < n + d) : (U + u) * (P * d) < (S * d + n * P) + (l + 1) * (P * d) := by
  have a : (U * P) * d ≤ (S + l * P) * d := Nat.mul_le_mul_right d h
  have b : (u * d) * P < (n + d) * P := Nat.mul_lt_mul_of_pos_right hu (Nat.pos_of_ne_zero hP)
  have e : (U + u) * (P * d) = (U * P) * d + (u * d) * P := by
    rw [Nat.add_mul, Nat.mul_assoc U P d, Nat.mul_assoc u d P, Nat.mul_comm d P]
  have e2 : (S + l * P) * d = S * d + (l * P) * d := Nat.add_mul _ _ _
  have e3 : (n + d) * P = n * P + P * d := by rw [Nat.add_mul, Nat.mul_comm d P]
  have e4 : (l + 1) * (P * d) = (l * P) * d + P * d := by rw [Nat.add_mul, Nat.one_mul, Nat.mul_assoc]
  omega
theorem up_lt {f : Frc} (hd : nat f.den ≠ 0) : nat f.num ≤ upN f * nat f.den ∧ upN f * nat f.den < nat f.num + nat f.den ∧ (nat f.num = 0 → upN f = 0) := by
  obtain ⟨h1, h2, h3⟩ := ceil_facts (n := nat f.num) hd
  refine ⟨h1, ?_, h3⟩
  by_cases h0 : nat f.num = 0
  · have := h3 h0
    unfold upN
    rw [this, Nat.zero_mul]
    omega
  · obtain ⟨h4, h5⟩ := h2 h0
    unfold upN
    have e : ceilN (nat f.num) (nat f.den) * nat f.den = (ceilN (nat f.num) (nat f.den) - 1) * nat f.den + nat f.den := by
      conv => lhs; rw [show ceilN (nat f.num) (nat f.den) = (ceilN (nat f.num) (nat f.den) - 1) + 1 by omega]
      rw [Nat.add_mul, Nat.one_mul]
    omega
/-- what the invoices of a sale add up to -/
structure AddF (won : List (Nat → Int)) (net : List Frc) (ps : List Prod) (m : Nat) (L : List Inv) : Prop where
  pos : PD net m ≠ 0
  lo : SN net m ≤ usum L * PD net m
  hi : usum L * PD net m ≤ SN net m + L.length * PD net m
  lt : L ≠ [] → usum L * PD net m < SN net m + L.length * PD net m
  all : ∀ x ∈ L, (∃ i : Nat, i < m ∧ x.bidder = (i : Int) ∧ x.want = won.getD i zero6) ∧ x.reserve = sumE Prod.reserve x.want ps ∧ 0 ≤ x.net ∧ x.net ≤ 1000000 ∧ x.due = x.reserve + x.net ∧ x.due ≤ 1000000
  frc : ∀ k, k < m → (net.getD k Frc.none).neg = false ∧ (net.getD k Frc.none).num = digs (nnK net k) ∧ (net.getD k Frc.none).den = digs (ddK net k) ∧ ddK net k ≠ 0
theorem add_facts {ps : List Prod} {bs : List Bid} {won : List (Nat → Int)} {net : List Frc} : ∀ {m : Nat} {L : List Inv}, invsGo ps bs won net m = .ok L → AddF won net ps m L
  | 0, L, h => by
    cases h
    exact ⟨Nat.one_ne_zero, Nat.zero_le _, by show 0 * 1 ≤ 0 + 0 * 1; omega, fun h => absurd rfl h, by simp, fun k hk => absurd hk (by omega)⟩
  | m + 1, L, h => by
    cases hk : invsGo ps bs won net m with
    | error e => rw [invsGo, hk] at h; cases h
    | ok L' =>
      have F := add_facts hk
      rw [invsGo_step hk] at h
      cases ha : invAt ps bs won net m with
      | error e => rw [ha] at h; cases h
      | ok x =>
        rw [ha] at h
        simp only [Except.ok.injEq] at h
        obtain ⟨hx, hv, hn, hu, hz, hdu⟩ := invR_ok ha
        obtain ⟨v1, v2, v3⟩ := validF_den hv
        obtain ⟨u1, u2, u3⟩ := up_lt v3
        have hfr : ∀ k, k < m + 1 → (net.getD k Frc.none).neg = false ∧ (net.getD k Frc.none).num = digs (nnK net k) ∧ (net.getD k Frc.none).den = digs (ddK net k) ∧ ddK net k ≠ 0 := fun k hk' => by
          by_cases e : k = m
          · subst e; exact ⟨hn, v1, v2, v3⟩
          · exact F.frc k (by omega)
        have hpos : PD net (m + 1) ≠ 0 := Nat.mul_ne_zero F.pos v3
        by_cases hw : eq6 (won.getD m zero6) zero6 = true
        · rw [if_pos hw] at h
          subst h
          have n0 : nnK net m = 0 := hz hw
          have eS : SN net (m + 1) = SN net m * ddK net m := by show SN net m * ddK net m + nnK net m * PD net m = _; rw [n0]; omega
          have eP : ∀ a, a * PD net (m + 1) = (a * PD net m) * ddK net m := fun a => by show a * (PD net m * ddK net m) = _; rw [Nat.mul_assoc]
          refine ⟨hpos, ?_, ?_, fun hne => ?_, fun y hy => ?_, hfr⟩
          · rw [eS, eP]; exact Nat.mul_le_mul_right _ F.lo
          · rw [eS, eP, eP, ← Nat.add_mul]; exact Nat.mul_le_mul_right _ F.hi
          · rw [eS, eP, eP, ← Nat.add_mul]; exact Nat.mul_lt_mul_of_pos_right (F.lt hne) (Nat.pos_of_ne_zero v3)
          · obtain ⟨⟨i, hi, h1⟩, h2⟩ := F.all y hy
            exact ⟨⟨i, by omega, h1⟩, h2⟩
        · rw [if_neg hw] at h
          subst h
          have ex : x.net.toNat = upN (net.getD m Frc.none) := by rw [hx]; simp
          refine ⟨hpos, ?_, ?_, fun hne => ?_, fun y hy => ?_, hfr⟩
          · rw [usum_snoc, ex]
            exact step_lo F.lo u1
          · rw [usum_snoc, ex, List.length_append]
            exact Nat.le_of_lt (step_hi F.pos v3 F.hi u2)
          · rw [usum_snoc, ex, List.length_append]
            exact step_hi F.pos v3 F.hi u2
          · rcases List.mem_append.1 hy with hy | hy
            · obtain ⟨⟨i, hi, h1⟩, h2⟩ := F.all y hy
              exact ⟨⟨i, by omega, h1⟩, h2⟩
            · rw [List.mem_singleton] at hy
              subst hy
              rw [hx]
              exact ⟨⟨m, by omega, rfl, rfl⟩, rfl, by dsimp only; omega, by dsimp only; omega, rfl, hdu⟩
/-- the sum as a fraction: its value, and its size -/
structure Paid (net : List Frc) (R k N D : Nat) : Prop where
  d0 : D ≠ 0
  val : N * PD net k = (R * PD net k + SN net k) * D
  hD : D ≤ B ^ (2 * k)
  hN : N ≤ (R + k) * B ^ (2 * k)
/-- reduced by a common divisor, a fraction keeps its value -/
theorem red_val {x y g a b : Nat} (hg : g = Nat.gcd x y) (h0 : y ≠ 0) (h : x * a = b * y) : (x / g) * a = b * (y / g) := by
  have g0 : 0 < g := by rw [hg]; exact Nat.gcd_pos_of_pos_right _ (Nat.pos_of_ne_zero h0)
  have hx : g ∣ x := by rw [hg]; exact Nat.gcd_dvd_left _ _
  have hy : g ∣ y := by rw [hg]; exact Nat.gcd_dvd_right _ _
  obtain ⟨x', hx'⟩ := hx
  obtain ⟨y', hy'⟩ := hy
  subst hx' hy'
  rw [Nat.mul_div_cancel_left _ g0, Nat.mul_div_cancel_left _ g0]
  have e : g * (x' * a) = g * (b * y') := by rw [← Nat.mul_assoc, h, ← Nat.mul_assoc, ← Nat.mul_assoc, Nat.mul_comm b g]
  exact Nat.eq_of_mul_eq_mul_left g0 e
theorem red_ne {x y : Nat} (h0 : y ≠ 0) : y / Nat.gcd x y ≠ 0 := by
  have := Nat.div_pos (Nat.le_of_dvd (Nat.pos_of_ne_zero h0) (Nat.gcd_dvd_right x y)) (Nat.gcd_pos_of_pos_right x (Nat.pos_of_ne_zero h0))
  omega
theorem paid_zero (net : List Frc) : Paid net 0 0 0 1 := ⟨by decide, by show 0 * 1 = (0 * 1 + 0) * 1; rfl, by simp, by simp⟩
/-- a reserve more -/
theorem paid_int {net : List Frc} {R N D r : Nat} (h : Paid net R 0 N D) : Paid net (R + r) 0 ((N * 1 + r * D) / Nat.gcd (N * 1 + r * D) (D * 1)) ((D * 1) / Nat.gcd (N * 1 + r * D) (D * 1)) := by
  have hd := h.d0
  have hv : N * 1 = (R * 1 + 0) * D := h.val
  have hD : D ≤ 1 := h.hD
  have hN := h.hN
  obtain rfl : D = 1 := by omega
  rw [Nat.mul_one, Nat.mul_one, Nat.gcd_one_right, Nat.div_one, Nat.div_one]
  refine ⟨by decide, ?_, by simp, ?_⟩
  · show (N + r) * 1 = ((R + r) * 1 + 0) * 1
    omega
  · show N + r ≤ (R + r + 0) * 1
    omega
/-- a payment more -/
theorem paid_step {net : List Frc} {R k N D : Nat} (h : Paid net R k N D) (hd : ddK net k ≠ 0) (h1 : nnK net k ≤ B * B) (h2 : ddK net k ≤ B * B) :
    Paid net R (k + 1) ((N * ddK net k + nnK net k * D) / Nat.gcd (N * ddK net k + nnK net k * D) (D * ddK net k)) ((D * ddK net k) / Nat.gcd (N * ddK net k + nnK net k * D) (D * ddK net k)) := by
  have hy : D * ddK net k ≠ 0 := Nat.mul_ne_zero h.d0 hd
  have eB : B ^ (2 * (k + 1)) = B ^ (2 * k) * (B * B) := by rw [show 2 * (k + 1) = 2 * k + 1 + 1 by omega, Nat.pow_succ, Nat.pow_succ, Nat.mul_assoc]
  refine ⟨red_ne hy, red_val rfl hy ?_, ?_, ?_⟩
  · show (N * ddK net k + nnK net k * D) * (PD net k * ddK net k) = (R * (PD net k * ddK net k) + (SN net k * ddK net k + nnK net k * PD net k)) * (D * ddK net k)
    have hv := h.val
    generalize ddK net k = d at *
    generalize nnK net k = n at *
    generalize PD net k = P at *
    generalize SN net k = S at *
    have e1 : (N * d + n * D) * (P * d) = (N * P) * (d * d) + n * D * P * d := by
      rw [Nat.add_mul]
      congr 1
      · simp only [Nat.mul_assoc, Nat.mul_comm, Nat.mul_left_comm]
      · simp only [Nat.mul_assoc]
    have e2 : (R * (P * d) + (S * d + n * P)) * (D * d) = ((R * P + S) * D) * (d * d) + n * D * P * d := by
      have : R * (P * d) + (S * d + n * P) = (R * P + S) * d + n * P := by rw [Nat.add_mul, ← Nat.mul_assoc]; omega
      rw [this, Nat.add_mul]
      congr 1
      · simp only [Nat.mul_assoc, Nat.mul_comm, Nat.mul_left_comm]
      · simp only [Nat.mul_assoc, Nat.mul_comm, Nat.mul_left_comm]
    rw [e1, e2, hv]
  · rw [eB]
    exact Nat.le_trans (Nat.div_le_self _ _) (Nat.mul_le_mul h.hD h2)
  · rw [eB]
    refine Nat.le_trans (Nat.div_le_self _ _) ?_
    have a : N * ddK net k ≤ ((R + k) * B ^ (2 * k)) * (B * B) := Nat.mul_le_mul h.hN h2
    have b : nnK net k * D ≤ (B * B) * B ^ (2 * k) := Nat.mul_le_mul h1 h.hD
    have e : (R + (k + 1)) * (B ^ (2 * k) * (B * B)) = ((R + k) * B ^ (2 * k)) * (B * B) + (B * B) * B ^ (2 * k) := by
      rw [show R + (k + 1) = (R + k) + 1 by omega, Nat.add_mul, Nat.one_mul, Nat.mul_assoc, Nat.mul_comm (B * B)]
    omega
theorem paid_len {net : List Frc} {R k N D : Nat} (h : Paid net R k N D) (hk : k ≤ 8) (hR : R ≤ 1000000000) : (digs N).length ≤ 100 ∧ (digs D).length ≤ 100 := by
  have e : B ^ (2 * k) ≤ B ^ 16 := Nat.pow_le_pow_right (by decide) (by omega)
  have hB : 0 < B ^ 16 := Nat.pow_pos (by decide)
  have hD := h.hD
  have hN := h.hN
  have h1 : D < B ^ 100 := Nat.lt_of_le_of_lt (Nat.le_trans hD e) (Nat.pow_lt_pow_right (by decide) (by omega))
  have h2 : N < B ^ 100 := by
    have a : (R + k) * B ^ (2 * k) ≤ B * B ^ 16 := Nat.mul_le_mul (by have : B = 4294967296 := rfl; omega) e
    have b : B * B ^ 16 = B ^ 17 := by rw [Nat.pow_succ B 16, Nat.mul_comm]
    exact Nat.lt_of_le_of_lt (Nat.le_trans hN (Nat.le_trans a (Nat.le_of_eq b))) (Nat.pow_lt_pow_right (by decide) (by omega))
  exact ⟨digs_len_le h2, digs_len_le h1⟩
/-- what is left over the payments is none below, and less than one for each invoice -/
theorem over_lo {won : List (Nat → Int)} {net : List Frc} {ps : List Prod} {m R N D : Nat} {L : List Inv} (F : AddF won net ps m L) (h : Paid net R m N D) : N * 1 ≤ (R + usum L) * D := by
  have hp := Nat.pos_of_ne_zero F.pos
  refine Nat.le_of_mul_le_mul_right ?_ hp
  rw [Nat.mul_one, h.val]
  have : R * PD net m + SN net m ≤ (R + usum L) * PD net m := by rw [Nat.add_mul]; have := F.lo; omega
  calc (R * PD net m + SN net m) * D ≤ ((R + usum L) * PD net m) * D := Nat.mul_le_mul_right _ this
    _ = (R + usum L) * D * PD net m := by simp only [Nat.mul_assoc, Nat.mul_comm, Nat.mul_left_comm]
theorem over_hi {won : List (Nat → Int)} {net : List Frc} {ps : List Prod} {m R N D : Nat} {L : List Inv} (F : AddF won net ps m L) (h : Paid net R m N D) (hL : L ≠ []) : (R + usum L) * D < N + L.length * D := by
  have hp := Nat.pos_of_ne_zero F.pos
  refine Nat.lt_of_mul_lt_mul_right (a := PD net m) ?_
  have hlt := F.lt hL
  have e1 : (R + usum L) * D * PD net m = ((R * PD net m) + usum L * PD net m) * D := by rw [← Nat.add_mul]; simp only [Nat.mul_assoc, Nat.mul_comm, Nat.mul_left_comm]
  have e2 : (N + L.length * D) * PD net m = ((R * PD net m) + (SN net m + L.length * PD net m)) * D := by
    have e3 : L.length * D * PD net m = (L.length * PD net m) * D := by simp only [Nat.mul_assoc, Nat.mul_comm]
    rw [Nat.add_mul, h.val, e3, ← Nat.add_mul, Nat.add_assoc]
  rw [e1, e2]
  exact Nat.mul_lt_mul_of_pos_right (by omega) (Nat.pos_of_ne_zero h.d0)
end Go.Proofs.YthehchdonmmpaaaGreatDoor.St
