/- Plain: which bundles a setup allows. -/
import Derived.Test.YtjjlhihocllgjaaDoorSeT
import Derived.Test.YtjjlhihocllgjaaDoorSeW
import Derived.Test.YtjjlhihocllgjaaDoorPd04
namespace Go.Proofs.YtjjlhihocllgjaaDoor.Se
open Go.ChangeShapes Go.WideShapes Go.ChangeAt Go.RowKit Gn Cat Lex Ros
set_option linter.unusedVariables false
set_option linter.unusedSimpArgs false
/-- a setup -/
structure SetD where
  ps : List Prod
  bs : List Bid
  cs : List Cp
  ad : List Asd
def SetD.none : SetD := ⟨[], [], [], []⟩
abbrev SetD.err (S : SetD) : Int := setE S.ps S.bs S.cs S.ad
def openS (S : SetD) : Nat → Int := if S.err = 0 then openF S.ps S.ad else zero6
def clsS (S : SetD) : Nat → Int := if S.err = 0 then clsF S.ad else zero6
def clsOf (S : SetD) (i : Int) : Int := (S.bs.getD i.toNat Bid.none).cls
/-- units that count for the open units -/
def outP (k6 : Nat → Int) (c : Int) (b : Nat → Int) (k : Nat) : Int := if k6 k = 0 ∨ k6 k = c then 0 else b k
/-- does a cap bind? -/
def capHit (ps : List Prod) (i : Int) (b : Nat → Int) (c : Cp) : Bool := (decide (c.bidder = -1) || decide (c.bidder = i)) && decide (c.units < sumE (gw c.group) b ps)
/-- Allowed for a valid setup -/
def allowE (S : SetD) (i : Int) (b : Nat → Int) : Int :=
  if i < 0 ∨ (S.bs.length : Int) ≤ i then 6
  else if validB b = false then 4
  else if within6 b (supP S.ps) = false then 14
  else if within6 (outP (clsF S.ad) (clsOf S i) b) (openF S.ps S.ad) = false then 14
  else if S.cs.any (capHit S.ps i b) = true then 14 else 0
def allowedE (S : SetD) (i : Int) (b : Nat → Int) : Int := if S.err ≠ 0 then S.err else allowE S i b
/-- the first error of the bundles -/
def allE (S : SetD) (l : List (Nat → Int)) : Int := firstE (fun i => allowE S (i : Int) (l.getD i zero6)) 0 l.length
/-- the sums of the first bundles -/
def sumL (l : List (Nat → Int)) (n k : Nat) : Int := ((l.take n).map fun b => b k).sum
def outL (S : SetD) (l : List (Nat → Int)) : Nat → Nat → Int
  | 0, _ => 0
  | n + 1, k => outL S l n k + outP (clsF S.ad) (clsOf S (n : Int)) (l.getD n zero6) k
theorem sumL_zero (l : List (Nat → Int)) (k : Nat) : sumL l 0 k = 0 := rfl
theorem sumL_succ {l : List (Nat → Int)} {n : Nat} (h : n < l.length) (k : Nat) : sumL l (n + 1) k = sumL l n k + l.getD n zero6 k := by
  unfold sumL
  rw [List.take_succ_eq_append_getElem h, List.map_append, List.sum_append]
  simp [List.getD, h]
/-- too many units of product k are sold -/
def over (S : SetD) (l : List (Nat → Int)) (n k : Nat) : Bool := decide (supP S.ps k < sumL l n k) || decide (openF S.ps S.ad k < outL S l n k)
def overAny (S : SetD) (l : List (Nat → Int)) : Bool := (List.range 6).any (over S l l.length)
def feasE (S : SetD) (l : List (Nat → Int)) : Int :=
  if S.err ≠ 0 then S.err
  else if l.length ≠ S.bs.length then 3
  else if allE S l ≠ 0 then allE S l
  else if overAny S l = true then 14 else 0
def restS (S : SetD) (l : List (Nat → Int)) : Nat → Int := if feasE S l = 0 then fun k => supP S.ps k - sumL l l.length k else zero6
/-- what a bundle that is allowed obeys -/
theorem allowE_zero {S : SetD} {i : Int} {b : Nat → Int} (h : allowE S i b = 0) : (0 ≤ i ∧ i < (S.bs.length : Int)) ∧ (∀ k, k < 6 → 0 ≤ b k ∧ b k ≤ 4) ∧ (∀ k, k < 6 → b k ≤ supP S.ps k) ∧ (∀ k, k < 6 → outP (clsF S.ad) (clsOf S i) b k ≤ openF S.ps S.ad k) ∧ ∀ c ∈ S.cs, capHit S.ps i b c = false := by
  unfold allowE at h
  split at h
  · cases h
  · split at h
    · cases h
    · split at h
      · cases h
      · split at h
        · cases h
        · split at h
          · cases h
          · rename_i h1 h2 h3 h4 h5
            rw [Bool.not_eq_false] at h2 h3 h4
            rw [Bool.not_eq_true, List.any_eq_false] at h5
            exact ⟨⟨by omega, by omega⟩, validB_iff.1 h2, within6_iff.1 h3, within6_iff.1 h4, fun c hc => by simpa using h5 c hc⟩
theorem allowE_of {S : SetD} {i : Int} {b : Nat → Int} (h0 : 0 ≤ i ∧ i < (S.bs.length : Int)) (h1 : ∀ k, k < 6 → 0 ≤ b k ∧ b k ≤ 4) (h2 : ∀ k, k < 6 → b k ≤ supP S.ps k) (h3 : ∀ k, k < 6 → outP (clsF S.ad) (clsOf S i) b k ≤ openF S.ps S.ad k) (h4 : ∀ c ∈ S.cs, capHit S.ps i b c = false) : allowE S i b = 0 := by
  unfold allowE
  rw [if_neg (by omega), if_neg (by rw [Bool.not_eq_false]; exact validB_iff.2 h1), if_neg (by rw [Bool.not_eq_false]; exact within6_iff.2 h2), if_neg (by rw [Bool.not_eq_false]; exact within6_iff.2 h3), if_neg]
  rw [Bool.not_eq_true, List.any_eq_false]
  exact fun c hc => by rw [h4 c hc]; simp
theorem getD_at (l : List (Nat → Int)) (i : Nat) (h : i < l.length) : l.getD i zero6 = l[i] := by simp [List.getD, h]
theorem allE_zero {S : SetD} {l : List (Nat → Int)} (h : allE S l = 0) (i : Nat) (hi : i < l.length) : allowE S (i : Int) (l.getD i zero6) = 0 := firstE_zero h i (by omega) (by omega)
theorem outP_bounds {k6 : Nat → Int} {c : Int} {b : Nat → Int} (h : ∀ k, k < 6 → 0 ≤ b k ∧ b k ≤ 4) (k : Nat) (hk : k < 6) : 0 ≤ outP k6 c b k ∧ outP k6 c b k ≤ b k := by
  have := h k hk
  unfold outP
  split <;> omega
/-- sums of allowed bundles: bounds, and more bundles have more units -/
theorem sumL_bounds {S : SetD} {l : List (Nat → Int)} (h : allE S l = 0) (k : Nat) (hk : k < 6) : ∀ n, n ≤ l.length → (0 ≤ sumL l n k ∧ sumL l n k ≤ 4 * n) ∧ (0 ≤ outL S l n k ∧ outL S l n k ≤ 4 * n)
  | 0, _ => by rw [sumL_zero]; simp [outL]
  | n + 1, hn => by
    have ih := sumL_bounds h k hk n (by omega)
    have hb := (allowE_zero (allE_zero h n (by omega))).2.1
    have h1 := hb k hk
    have h2 := outP_bounds (k6 := clsF S.ad) (c := clsOf S (n : Int)) hb k hk
    rw [sumL_succ (by omega), outL]
    omega
theorem over_mono {S : SetD} {l : List (Nat → Int)} (h : allE S l = 0) {k : Nat} (hk : k < 6) {n : Nat} (ho : over S l n k = true) : ∀ m, n ≤ m → m ≤ l.length → over S l m k = true
  | 0, h1, _ => by
    obtain rfl : n = 0 := by omega
    exact ho
  | m + 1, h1, h2 => by
    by_cases e : n = m + 1
    · rw [← e]; exact ho
    · have ih := over_mono h hk ho m (by omega) (by omega)
      have hb := (allowE_zero (allE_zero h m (by omega))).2.1
      have b1 := hb k hk
      have b2 := outP_bounds (k6 := clsF S.ad) (c := clsOf S (m : Int)) hb k hk
      unfold over at ih ⊢
      rw [sumL_succ (by omega), outL]
      simp only [Bool.or_eq_true, decide_eq_true_eq] at ih ⊢
      omega
theorem over_any {S : SetD} {l : List (Nat → Int)} (h : allE S l = 0) {k : Nat} (hk : k < 6) {n : Nat} (hn : n ≤ l.length) (ho : over S l n k = true) : overAny S l = true := by
  unfold overAny
  rw [List.any_eq_true]
  exact ⟨k, List.mem_range.2 hk, over_mono h hk ho l.length hn (Nat.le_refl _)⟩
theorem over_none {S : SetD} {l : List (Nat → Int)} (h : ∀ k, k < 6 → over S l l.length k = false) : overAny S l = false := by
  unfold overAny
  rw [List.any_eq_false]
  intro k hk
  rw [h k (List.mem_range.1 hk)]
  simp
end Go.Proofs.YtjjlhihocllgjaaDoor.Se
