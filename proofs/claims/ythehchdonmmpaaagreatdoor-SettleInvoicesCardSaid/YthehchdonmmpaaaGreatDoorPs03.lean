/- Contract of natural.digit. Printed by gen_nb5.py. Contracts of the reference's Bit, Bits and high. Contracts of the reference's Bits and high. Printed by gen_nat7.py. -/
import Derived.Test.YthehchdonmmpaaaGreatDoorPs02
import Derived.Test.YthehchdonmmpaaaGreatDoorPs01
import Derived.Deep.CutBlock
import Derived.Deep.DeepCutAuto
import Derived.Deep.QuietTactic
import Derived.BigQuiet
namespace Go.Proofs.YthehchdonmmpaaaGreatDoor
open Go.ChangeShapes Go.WideShapes Go.ChangeAt Go.RowKit
set_option linter.unusedVariables false
set_option linter.unusedSimpArgs false
namespace Fr
structure DigitIn (w : World) (base g j N m gv : Nat) (U V : List Nat) : Prop where
  row : Row w base g 53 N U
  dg : Dg U
  fits : j + (m + 2) < N
  small : N ≤ 60000
  len : V.length = m + 2
  vdg : Dg V
  top : 2147483648 ≤ Fr.dg V (m + 1)
  apart : gv ≠ g
  lt : gv < w.heap.size
  cells : ∀ i, i < m + 2 → w.cell? ⟨gv, i, none⟩ = some (.int .u32 ((Fr.dg V i : Nat) : Int))
  less : win U j m < nat V * B
theorem digit_high {U V : List Nat} {j m : Nat} (hV : Dg V) (hl : V.length = m + 2) (h : win U j m < nat V * B) : Fr.dg U (j + (m + 2)) ≤ Fr.dg V (m + 1) := by
  have h1 : win U j m = val (U.drop j) (m + 2) + Fr.dg (U.drop j) (m + 2) * B ^ (m + 2) := rfl
  rw [dg_drop] at h1
  have h2 : nat V = val V (m + 1) + Fr.dg V (m + 1) * B ^ (m + 1) := (show val V (m + 2) = nat V from val_nat (by omega)).symm
  have h3 := val_lt hV (m + 1)
  have h4 : nat V * B < (Fr.dg V (m + 1) + 1) * B ^ (m + 2) := by
    have e : (Fr.dg V (m + 1) + 1) * B ^ (m + 2) = (Fr.dg V (m + 1) * B ^ (m + 1) + B ^ (m + 1)) * B := by rw [Nat.pow_succ B (m + 1), ← Nat.mul_assoc, Nat.add_mul, Nat.one_mul]
    rw [e]
    exact Nat.mul_lt_mul_of_pos_right (by omega) B_pos
  have h5 : Fr.dg U (j + (m + 2)) * B ^ (m + 2) < (Fr.dg V (m + 1) + 1) * B ^ (m + 2) := by omega
  have := Nat.lt_of_mul_lt_mul_right h5
  omega
/-- the first guess -/
theorem top_facts {x y v : Nat} (hx : x < B) (hy : y < B) (hv : 0 < v) (hv2 : 2147483648 ≤ v) (hxv : x ≤ v) : ∃ T γ ρ : Nat, (T = x * B + y ∧ γ * v + ρ = T ∧ ρ < v ∧ γ ≤ B + 1) ∧ bits BinOp.or IntKind.u64 (IntKind.u64.wrap ((x : Int) * 4294967296)) (y : Int) = ((T : Nat) : Int) ∧ (T : Int) / (v : Int) = ((γ : Nat) : Int) ∧ (T : Int) % (v : Int) = ((ρ : Nat) : Int) ∧ (0 : Int) ≤ (T : Int) ∧ IntKind.u64.wrap ((γ : Nat) : Int) = ((γ : Nat) : Int) := by
  have hd : (x * B + y) / v * v + (x * B + y) % v = x * B + y := by rw [Nat.mul_comm]; exact Nat.div_add_mod _ _
  have hm : (x * B + y) % v < v := Nat.mod_lt _ hv
  have hg : (x * B + y) / v ≤ B + 1 := by
    have : (x * B + y) / v < B + 2 := Nat.div_lt_of_lt_mul (by
      have h1 : x * B ≤ v * B := Nat.mul_le_mul_right _ hxv
      have h2 : v * (B + 2) = v * B + 2 * v := by rw [Nat.mul_add, Nat.mul_comm v 2]
      have h3 : B ≤ 2 * v := by unfold B; omega
      omega)
    omega
  refine ⟨x * B + y, (x * B + y) / v, (x * B + y) % v, ⟨rfl, hd, hm, hg⟩, ?_, by simp, by simp, by omega, ?_⟩
  · rw [or_hi hy hx, Nat.add_comm y, Nat.mul_comm B]
  · generalize (x * B + y) / v = q at *
    exact IntWalk.u64_in _ (by unfold B at hg; omega)
/-- the numbers of the test -/
theorem test_facts {G R y u : Nat} (hG : G < B) (hR : R < B) (hy : y < B) (hu : u < B) : ∃ p s : Nat, (p = G * y ∧ s = R * B + u) ∧ IntKind.u64.wrap ((G : Int) * (y : Int)) = ((p : Nat) : Int) ∧ bits BinOp.or IntKind.u64 (IntKind.u64.wrap ((R : Int) * 4294967296)) (u : Int) = ((s : Nat) : Int) := by
  refine ⟨G * y, R * B + u, ⟨rfl, rfl⟩, u64_mul ?_, ?_⟩
  · have := mul_lt_BB hG hy B_pos
    omega
  · rw [or_hi hu hR, Nat.add_comm u, Nat.mul_comm B]
/-- a guess that is lowered -/
theorem lower_facts {G R v : Nat} (hG : 0 < G) (hG2 : G ≤ B + 1) (hR : R < B) (hv : v < B) : ∃ G1 R1 : Nat, (G = G1 + 1 ∧ R1 = R + v) ∧ IntKind.u64.wrap ((G1 : Nat) : Int) = ((G1 : Nat) : Int) ∧ (G : Int) - 1 = ((G1 : Nat) : Int) ∧ IntKind.u64.wrap ((R : Int) + (v : Int)) = ((R1 : Nat) : Int) := by
  refine ⟨G - 1, R + v, ⟨by omega, rfl⟩, ?_, by omega, ?_⟩
  · exact IntWalk.u64_in _ (by unfold B at *; omega)
  · rw [IntWalk.u64_in _ (by unfold B at *; omega)]; omega
theorem val_nat_two {V : List Nat} {m : Nat} (hl : V.length = m + 2) : nat V = val V m + (dg V (m + 1) * B + dg V m) * B ^ m := by rw [← val_two, val_nat (by omega)]
theorem win_three (U : List Nat) (j m : Nat) : win U j m = val (U.drop j) m + ((dg U (j + (m + 2)) * B + dg U (j + (m + 1))) * B + dg U (j + m)) * B ^ m := by
  unfold win
  rw [val_three, dg_drop, dg_drop, dg_drop]
theorem Dg.drop' {l : List Nat} (h : Dg l) (n : Nat) : Dg (l.drop n) := h.drop n
/-- what is known of a guess -/
structure Guess (U V : List Nat) (j m G R T : Nat) : Prop where
  sum : G * dg V (m + 1) + R = T
  low : win U j m / nat V ≤ G
section
variable {U V : List Nat} {j m G R T : Nat}
theorem nat_pos_of_top (hl : V.length = m + 2) (ht : 2147483648 ≤ dg V (m + 1)) : 0 < nat V := by
  rw [val_nat_two hl]
  have h1 : 0 < B ^ m := Nat.pow_pos B_pos
  have h2 : 0 < dg V (m + 1) * B + dg V m := by
    have := Nat.mul_pos (show 0 < dg V (m + 1) by omega) B_pos
    omega
  have := Nat.mul_pos h2 h1
  omega
/-- at the head -/
theorem Guess.start (hU : Dg U) (hV : Dg V) (hl : V.length = m + 2) (ht : 2147483648 ≤ dg V (m + 1)) (hT : T = dg U (j + (m + 2)) * B + dg U (j + (m + 1))) (hs : G * dg V (m + 1) + R = T) (hr : R < dg V (m + 1)) : Guess U V j m G R T := by
  refine ⟨hs, ?_⟩
  have h0 := nat_pos_of_top hl ht
  have h1 : win U j m = val (U.drop j) (m + 1) + T * B ^ (m + 1) := by
    have := val_two (U.drop j) (m + 1)
    rw [dg_drop, dg_drop] at this
    rw [hT]
    exact this
  have h2 : nat V = val V (m + 1) + dg V (m + 1) * B ^ (m + 1) := (show val V (m + 2) = nat V from val_nat (by omega)).symm
  have h3 := guess_low (Nat.div_mul_le_self (win U j m) (nat V)) h2 h1 (val_lt (hU.drop j) (m + 1))
  have h4 : win U j m / nat V < G + 1 := by
    have : win U j m / nat V * dg V (m + 1) < (G + 1) * dg V (m + 1) := by rw [Nat.succ_mul]; omega
    exact Nat.lt_of_mul_lt_mul_right this
  omega
/-- a guess that fails the test may be lowered -/
theorem Guess.lower (hU : Dg U) (hl : V.length = m + 2) (ht : 2147483648 ≤ dg V (m + 1)) (hT : T = dg U (j + (m + 2)) * B + dg U (j + (m + 1))) (h : Guess U V j m (G + 1) R T) (hx : R * B + dg U (j + m) < (G + 1) * dg V m) : Guess U V j m G (R + dg V (m + 1)) T := by
  refine ⟨by have := h.sum; rw [Nat.succ_mul] at this; omega, ?_⟩
  have h0 := nat_pos_of_top hl ht
  have h1 := win_three U j m
  rw [← hT] at h1
  have h2 := guess_dec h.sum hx (val_nat_two hl) h1 (val_lt (hU.drop j) m)
  have : win U j m / nat V < G + 1 := Nat.div_lt_of_lt_mul (by rwa [Nat.mul_comm])
  omega
theorem Guess.lower_big (hl : V.length = m + 2) (ht : 2147483648 ≤ dg V (m + 1)) (hlt : win U j m < nat V * B) (h : Guess U V j m (G + 1) R T) (hx : B ≤ G + 1) : Guess U V j m G (R + dg V (m + 1)) T := by
  refine ⟨by have := h.sum; rw [Nat.succ_mul] at this; omega, ?_⟩
  have : win U j m / nat V < B := Nat.div_lt_of_lt_mul hlt
  omega
/-- at the end -/
theorem Guess.done (hV : Dg V) (hl : V.length = m + 2) (ht : 2147483648 ≤ dg V (m + 1)) (hT : T = dg U (j + (m + 2)) * B + dg U (j + (m + 1))) (h : Guess U V j m G R T) (hG : G < B) (hx : G * dg V m ≤ R * B + dg U (j + m)) : G < B ∧ (G = win U j m / nat V ∨ G = win U j m / nat V + 1) := by
  refine ⟨hG, ?_⟩
  have h0 := nat_pos_of_top hl ht
  have h1 := win_three U j m
  rw [← hT] at h1
  exact guess_two h0 h.low (guess_up h.sum hx (by omega) (by omega) (val_nat_two hl) (val_lt hV m) h1)
/-- out by the break -/
theorem Guess.broke (hU : Dg U) (hV : Dg V) (hl : V.length = m + 2) (ht : 2147483648 ≤ dg V (m + 1)) (hT : T = dg U (j + (m + 2)) * B + dg U (j + (m + 1))) (hh : dg U (j + (m + 2)) ≤ dg V (m + 1)) (h : Guess U V j m G R T) (hG : G ≤ B) (hR : B ≤ R) : G < B ∧ (G = win U j m / nat V ∨ G = win U j m / nat V + 1) := by
  have hGB : G < B := by
    rcases Nat.lt_or_ge G B with h1 | h1
    · exact h1
    · exfalso
      obtain rfl : G = B := by omega
      have h2 := h.sum
      have h3 := dg_lt hU (j + (m + 1))
      have h4 : dg U (j + (m + 2)) * B ≤ dg V (m + 1) * B := Nat.mul_le_mul_right _ hh
      rw [Nat.mul_comm] at h2
      omega
  refine Guess.done hV hl ht hT h hGB ?_
  have h5 : G * dg V m ≤ B * B := Nat.mul_le_mul (by omega) (by have := dg_lt hV m; omega)
  have h6 : B * B ≤ R * B := Nat.mul_le_mul_right _ hR
  omega
end
theorem row_drewN {w : World} {base g n : Nat} {e : TypeId} {l : List Nat} (h : Row w base g e n l) (k : Nat) : Row (w.drewN k) base g e n l := h.keep (drewN_below _ _)
/-- what digit answers -/
def DigitPost (w : World) (base g j N m : Nat) (U V : List Nat) (e : Ending) (w' : World) : Prop := ∃ X, e = .returned (.int .u32 ((win U j m / nat V : Nat) : Int)) ∧ Row w' base g 53 N X ∧ Dg X ∧ (∀ i, i < j ∨ j + (m + 2) < i → Fr.dg X i = Fr.dg U i) ∧ win X j m = win U j m % nat V ∧ OnlyG g w w'
theorem win_set {X : List Nat} {j m d : Nat} (h : j + (m + 2) < X.length) : win (X.set (j + (m + 2)) d) j m = val (X.drop j) (m + 2) + d * B ^ (m + 2) := val_set_at h
set_option maxHeartbeats 4000000 in
set_option maxRecDepth 100000 in
theorem ndigit_any (w : World) (base g j N m gv cv : Nat) (U V : List Nat) (hin : DigitIn w base g j N m gv U V) : Calls Tryz.prog 102 #[.slice (some ⟨g, j, none⟩) (m + 3) (m + 3), .slice (some ⟨gv, 0, none⟩) (m + 2) cv] w (DigitPost w base g j N m U V) := by
  have HI := Lib.hid hin
  have hm5 : m ≤ 60000 := by have := hin.fits; have := hin.small; omega
  have v1 := hin.cells (m + 1) (by omega)
  have v2 := hin.cells m (by omega)
  have u0 := hin.row.cell (i := j + (m + 2)) hin.fits
  have u1 := hin.row.cell (i := j + (m + 1)) (by have := hin.fits; omega)
  have u2 := hin.row.cell (i := j + m) (by have := hin.fits; omega)
  have k0 := u64w (dg_lt hin.dg (j + (m + 2)))
  have k1 := u64w (dg_lt hin.dg (j + (m + 1)))
  have k2 := u64w (dg_lt hin.dg (j + m))
  have l1 := u64w (dg_lt hin.vdg (m + 1))
  have l2 := u64w (dg_lt hin.vdg m)
  have hv0 : 0 < dg V (m + 1) := by have := hin.top; omega
  obtain ⟨T, γ, ρ, hT, f1, f2, f3, f4, f5⟩ := top_facts (dg_lt hin.dg (j + (m + 2))) (dg_lt hin.dg (j + (m + 1))) hv0 hin.top (digit_high hin.vdg hin.len hin.less)
  have HT := Lib.hid hT
  have qv : (((dg V (m + 1) : Nat) : Int) == 0) = false := beq_eq_false_iff_ne.2 (by omega)
  have qv2 : ((dg V (m + 1) : Nat) : Int) ≠ 0 := by omega
  have qv3 : (0 : Int) < ((dg V (m + 1) : Nat) : Int) := by omega
  clear hin hT
  go_enter Tryz.func102, Tryz.ntmps102
  go_wp2_with fail
  go_quiet (fail)
  go_wp2_with fail
  go_quiet (fail)
  go_upto_block 0 with fail
  go_cut [7] (fun s wx => ∃ G : Nat, s = .int .u64 (G : Int) ∧ Hid (G < B ∧ (G = win U j m / nat V ∨ G = win U j m / nat V + 1)) ∧ Hid (OnlyG g w wx ∧ Row wx base g 53 N U))
  case first =>
   as_aux_lemma =>
    go_wp2_with fail
    go_loopw [7, 8] (fun a b wr => ∃ G R : Nat, a = .int .u64 (G : Int) ∧ b = .int .u64 (R : Int) ∧ R < B ∧ G ≤ B + 1 ∧ Hid (Guess U V j m G R T) ∧ Hid (OnlyG g w wr ∧ Row wr base g 53 N U)) (fun a _ _ => (intOf a).toNat)
    case atStart => exact ⟨γ, ρ, rfl, by rw [f3], by have := HT.out.2.2.1; have := dg_lt HI.out.vdg (m + 1); omega, HT.out.2.2.2, Guess.start HI.out.dg HI.out.vdg HI.out.len HI.out.top HT.out.1 HT.out.2.1 HT.out.2.2.1, ⟨((OnlyG.refl g w).drewN _).drewN _, row_drewN (row_drewN HI.out.row _) _⟩⟩
    clear f1 f2 f3 f4 f5 u0 u1 k0 k1 qv qv2 qv3
    case round =>
      obtain ⟨G, R, rfl, rfl, hR, hG2, HG, HW⟩ := hrel
      have u2' := HW.out.2.cell (i := j + m) (by have := HI.out.fits; omega)
      have v1' := (HW.out.1.cell (m + 1) HI.out.apart).trans v1
      have v2' := (HW.out.1.cell m HI.out.apart).trans v2
      by_cases hb : B ≤ G
      · have d1 : decide ((4294967296 : Int) ≤ (G : Int)) = true := decide_eq_true (by unfold B at hb; omega)
        obtain ⟨G1, R1, hq, g1, g2, r1⟩ := lower_facts (by unfold B at hb; omega) hG2 hR (dg_lt HI.out.vdg (m + 1))
        have HG1 : Hid (Guess U V j m G1 R1 T) := by
          rw [hq.2]
          exact Guess.lower_big HI.out.len HI.out.top HI.out.less (by have := HG.out; rwa [hq.1] at this) (by omega)
        have HQ := Lib.hid hq
        clear hq
        by_cases hrb : R1 < B
        · have d2 : decide ((4294967296 : Int) ≤ (R1 : Int)) = false := decide_eq_false (by unfold B at hrb; omega)
          have HRB := Lib.hid hrb
          clear hrb
          go_wp2_with fail
          go_quiet (fail)
          go_wp2_with fail
          go_roundw
          case rel => exact ⟨G1, R1, rfl, rfl, HRB.out, by have := HQ.out.1; omega, HG1, ⟨HW.out.1.drewN _, row_drewN HW.out.2 _⟩⟩
          case measure => simp [intOf]; have := HQ.out.1; omega
        · have d2 : decide ((4294967296 : Int) ≤ (R1 : Int)) = true := decide_eq_true (by unfold B at hrb; omega)
          have HRB := Lib.hid hrb
          clear hrb
          go_wp2_with fail
          go_quiet (fail)
          go_wp2_with fail
          go_meet
          case rel => exact ⟨G1, rfl, (HG1.out.broke HI.out.dg HI.out.vdg HI.out.len HI.out.top HT.out.1 (digit_high HI.out.vdg HI.out.len HI.out.less) (by have := HQ.out.1; omega) (by have := HRB.out; omega)), ⟨HW.out.1.drewN _, row_drewN HW.out.2 _⟩⟩
      · have hGB : G < B := by omega
        have d1 : decide ((4294967296 : Int) ≤ (G : Int)) = false := decide_eq_false (by unfold B at hGB; omega)
        obtain ⟨p, s, hp, t1, t2⟩ := test_facts hGB hR (dg_lt HI.out.vdg m) (dg_lt HI.out.dg (j + m))
        have HP := Lib.hid hp
        clear hp hb
        by_cases hx : s < p
        · have x1 : decide (s < p) = true := decide_eq_true hx
          have x2 : decide ((s : Int) < (p : Int)) = true := decide_eq_true (by omega)
          obtain ⟨G1, R1, hq, g1, g2, r1⟩ := lower_facts (by rcases Nat.eq_zero_or_pos G with h | h; (rw [HP.out.1, h, Nat.zero_mul] at hx; omega); exact h) hG2 hR (dg_lt HI.out.vdg (m + 1))
          have HG1 : Hid (Guess U V j m G1 R1 T) := by
            rw [hq.2]
            exact Guess.lower HI.out.dg HI.out.len HI.out.top HT.out.1 (by have := HG.out; rwa [hq.1] at this) (by have := HP.out; have h9 := hx; rw [this.1, this.2, hq.1] at h9; exact h9)
          have HQ := Lib.hid hq
          clear hq hx
          by_cases hrb : R1 < B
          · have d2 : decide ((4294967296 : Int) ≤ (R1 : Int)) = false := decide_eq_false (by unfold B at hrb; omega)
            have HRB := Lib.hid hrb
            clear hrb
            go_wp2_with fail
            go_quiet (fail)
            go_wp2_with fail
            go_roundw
            case rel => exact ⟨G1, R1, rfl, rfl, HRB.out, by have := HQ.out.1; omega, HG1, ⟨HW.out.1.drewN _, row_drewN HW.out.2 _⟩⟩
            case measure => simp [intOf]; have := HQ.out.1; omega
          · have d2 : decide ((4294967296 : Int) ≤ (R1 : Int)) = true := decide_eq_true (by unfold B at hrb; omega)
            have HRB := Lib.hid hrb
            clear hrb
            go_wp2_with fail
            go_quiet (fail)
            go_wp2_with fail
            go_meet
            case rel => exact ⟨G1, rfl, (HG1.out.broke HI.out.dg HI.out.vdg HI.out.len HI.out.top HT.out.1 (digit_high HI.out.vdg HI.out.len HI.out.less) (by have := HQ.out.1; omega) (by have := HRB.out; omega)), ⟨HW.out.1.drewN _, row_drewN HW.out.2 _⟩⟩
        · have x1 : decide (s < p) = false := decide_eq_false hx
          have x2 : decide ((s : Int) < (p : Int)) = false := decide_eq_false (by omega)
          have HX : Hid (G < B ∧ (G = win U j m / nat V ∨ G = win U j m / nat V + 1)) := HG.out.done HI.out.vdg HI.out.len HI.out.top HT.out.1 hGB (by rw [← HP.out.1, ← HP.out.2]; omega)
          clear hx
          go_wp2_with fail
          go_quiet (fail)
          go_wp2_with fail
          go_meet
          case rel => exact ⟨G, rfl, HX, ⟨HW.out.1.drewN _, row_drewN HW.out.2 _⟩⟩
  case rest =>
   as_aux_lemma =>
    obtain ⟨G, rfl, HGG, HW⟩ := hcut
    have HV0 := Lib.hid (nat_pos_of_top HI.out.len HI.out.top)
    clear f1 f2 f3 f4 f5 u0 u1 u2 v1 v2 k0 k1 k2 l1 l2 qv qv2 qv3
    go_wp2_with fail
    go_loopw [83, 9, 10] (fun iv cv bv wr => ∃ k c b : Nat, ∃ X : List Nat, k ≤ m + 2 ∧ c < B ∧ b ≤ 1 ∧ iv = .int .i64 (k : Int) ∧ cv = .int .u64 (c : Int) ∧ bv = .int .u64 (b : Int) ∧ Hid (SubSt U V X j k G c b) ∧ Hid (OnlyG g w wr ∧ Row wr base g 53 N X)) (fun iv _ _ _ => m + 2 - (intOf iv).toNat)
    case atStart => exact ⟨0, 0, 0, U, Nat.zero_le _, B_pos, by omega, rfl, rfl, rfl, SubSt.start j G HI.out.dg, HW⟩
    case round =>
      obtain ⟨k, c, b, X, hk, hc, hb, rfl, rfl, rfl, HS, HW⟩ := hrel
      have hk0 : (0 : Int) ≤ (k : Int) := by omega
      have hk5 : (k : Int) ≤ 60002 := by omega
      have XL : Hid (X.length = N) := HW.out.2.1
      by_cases hkn : k < m + 2
      · have hdec : decide (k < m + 2) = true := decide_eq_true hkn
        have hdec1 : decide ((k : Int) < (m : Int) + 2) = true := decide_eq_true (by omega)
        have x1 : wr.cell? ⟨g, j + k, none⟩ = some (.int .u32 ((dg U (j + k) : Nat) : Int)) := by
          have := HW.out.2.cell (i := j + k) (by have := HI.out.fits; omega)
          rwa [HS.out.same (j + k) (by omega)] at this
        have x2 := HW.out.2.free (j + k)
        have x3 := HW.out.2.lt
        have y1 := (HW.out.1.cell k HI.out.apart).trans (HI.out.cells k hkn)
        have ux := u64w (dg_lt HI.out.dg (j + k))
        have uy := u64w (dg_lt HI.out.vdg k)
        obtain ⟨t, p, c2, pl, hp, p1, p2, p3, p4, p5, c21, pl1⟩ := prod_facts HGG.out.1 (dg_lt HI.out.vdg k) hc
        obtain ⟨e, d, lo, br, hs, e1, e2, e3, e4, e5, e6, br1, lo1⟩ := less_facts (dg_lt HI.out.dg (j + k)) pl1 hb
        have HS2 : Hid (SubSt U V (X.set (j + k) lo) j (k + 1) G c2 br) := by
          rw [hp.2.2] at hs
          rw [hp.2.1]
          exact HS.out.step (by rw [XL.out]; have := HI.out.fits; omega) hp.1 hs lo1
        have HW2 : Hid (OnlyG g w (wr.setCell ⟨g, j + k, none⟩ (.int .u32 (lo : Int))) ∧ Row (wr.setCell ⟨g, j + k, none⟩ (.int .u32 (lo : Int))) base g 53 N (X.set (j + k) lo)) := ⟨HW.out.1.put _ _, HW.out.2.put _ _⟩
        clear hp hs lo1 pl1
        go_wp2_with fail
        go_roundw
        case rel => exact ⟨k + 1, c2, br, X.set (j + k) lo, by omega, c21, br1, by go_num, rfl, rfl, HS2, HW2⟩
        case measure => simp [intOf]; omega
      · have hdec : decide (k < m + 2) = false := decide_eq_false hkn
        have hdec1 : decide ((k : Int) < (m : Int) + 2) = false := decide_eq_false (by omega)
        obtain rfl : k = m + 2 := by omega
        have x1 : wr.cell? ⟨g, j + (m + 2), none⟩ = some (.int .u32 ((dg U (j + (m + 2)) : Nat) : Int)) := by
          have := HW.out.2.cell (i := j + (m + 2)) HI.out.fits
          rwa [HS.out.same (j + (m + 2)) (by omega)] at this
        have x2 := HW.out.2.free (j + (m + 2))
        have x3 := HW.out.2.lt
        have ux := u64w (dg_lt HI.out.dg (j + (m + 2)))
        obtain ⟨e, d, lo, br, hs, e1, e2, e3, e4, e5, e6, br1, lo1⟩ := less_facts (dg_lt HI.out.dg (j + (m + 2))) hc hb
        have HX : Hid (win (X.set (j + (m + 2)) lo) j m = val (X.drop j) (m + 2) + lo * B ^ (m + 2)) := win_set (by rw [XL.out]; exact HI.out.fits)
        have HSM : Hid (win U j m = val (U.drop j) (m + 2) + dg U (j + (m + 2)) * B ^ (m + 2)) := by
          show _ = _
          rw [← dg_drop]
          rfl
        have HVN : Hid (val V (m + 2) = nat V) := val_nat (by have := HI.out.len; omega)
        have HW2 : Hid (OnlyG g w (wr.setCell ⟨g, j + (m + 2), none⟩ (.int .u32 (lo : Int))) ∧ Row (wr.setCell ⟨g, j + (m + 2), none⟩ (.int .u32 (lo : Int))) base g 53 N (X.set (j + (m + 2)) lo)) := ⟨HW.out.1.put _ _, HW.out.2.put _ _⟩
        have HXD : Hid (Dg (X.set (j + (m + 2)) lo) ∧ ∀ i, i < j ∨ j + (m + 2) < i → dg (X.set (j + (m + 2)) lo) i = dg U i) := ⟨HS.out.dgs.set lo1 _, fun i hi => by rw [dg_set_ne (by omega)]; exact HS.out.same i (by omega)⟩
        have gm : (G : Int) % 4294967296 = (G : Int) := by have := HGG.out.1; unfold B at this; omega
        have gw : IntKind.u32.wrap (G : Int) = (G : Int) := IntWalk.u32_in _ (by have := HGG.out.1; unfold B at this; omega)
        have HSS := Lib.hid HS.out.sum
        have HLO := Lib.hid lo1
        generalize X.set (j + (m + 2)) lo = Y at *
        by_cases hbr : br = 0
        · subst hbr
          have HF := Lib.hid (take_no HV0.out HGG.out.2 (W := win Y j m) (by rw [HX.out, HSM.out, ← HVN.out]; exact take_last_no HSS.out (by omega)))
          clear hs hc hb lo1
          go_wp2_with fail
          go_ret
          exact ⟨Y, by rw [← HF.out.1]; rfl, HW2.out.2, HXD.out.1, HXD.out.2, HF.out.2, HW2.out.1⟩
        · obtain rfl : br = 1 := by omega
          have HF1 : Hid (win U j m + B ^ (m + 3) = win Y j m + G * nat V) := by
            show _ = _
            rw [HX.out, HSM.out, ← HVN.out]
            exact take_last_yes HSS.out (by omega)
          clear hs hc hb lo1 hbr
          go_wp2_with fail
          as_aux_lemma =>
          generalize wr.setCell ⟨g, j + (m + 2), none⟩ (.int .u32 (lo : Int)) = wq at *
          go_loopw [135, 9] (fun iv cv wr => ∃ k c : Nat, ∃ Z : List Nat, k ≤ m + 2 ∧ c ≤ 1 ∧ iv = .int .i64 (k : Int) ∧ cv = .int .u64 (c : Int) ∧ Hid (AddSt Y V Z j k c) ∧ Hid (OnlyG g w wr ∧ Row wr base g 53 N Z)) (fun iv _ _ => m + 2 - (intOf iv).toNat)
          case atStart => exact ⟨0, 0, Y, Nat.zero_le _, by omega, rfl, rfl, AddSt.start j HXD.out.1, HW2⟩
          case round =>
            clear x1 x2 x3 ux e1 e2 e3 e4 e5 e6 hk0 hk5 hdec hdec1
            obtain ⟨k, c, Z, hk, hc, rfl, rfl, HS, HW⟩ := hrel
            have hk0 : (0 : Int) ≤ (k : Int) := by omega
            have hk5 : (k : Int) ≤ 60002 := by omega
            have ZL : Hid (Z.length = N) := HW.out.2.1
            by_cases hkn : k < m + 2
            · have hdec : decide (k < m + 2) = true := decide_eq_true hkn
              have hdec1 : decide ((k : Int) < (m : Int) + 2) = true := decide_eq_true (by omega)
              have x1 : wr.cell? ⟨g, j + k, none⟩ = some (.int .u32 ((dg Y (j + k) : Nat) : Int)) := by
                have := HW.out.2.cell (i := j + k) (by have := HI.out.fits; omega)
                rwa [HS.out.same (j + k) (by omega)] at this
              have x2 := HW.out.2.free (j + k)
              have x3 := HW.out.2.lt
              have y1 := (HW.out.1.cell k HI.out.apart).trans (HI.out.cells k hkn)
              have ux := u64w (dg_lt HXD.out.1 (j + k))
              have uy := u64w (dg_lt HI.out.vdg k)
              obtain ⟨t, s, lo2, hi, hs, p1, p2, p3, p4, p5, p6, hi1, lo1⟩ := back_facts (dg_lt HXD.out.1 (j + k)) (dg_lt HI.out.vdg k) hc
              have HS2 : Hid (AddSt Y V (Z.set (j + k) lo2) j (k + 1) hi) := HS.out.step (by rw [ZL.out]; have := HI.out.fits; omega) hs lo1
              have HW3 : Hid (∀ nq, OnlyG g w ((wr.drewN nq).setCell ⟨g, j + k, none⟩ (.int .u32 (lo2 : Int))) ∧ Row ((wr.drewN nq).setCell ⟨g, j + k, none⟩ (.int .u32 (lo2 : Int))) base g 53 N (Z.set (j + k) lo2)) := fun nq => ⟨(HW.out.1.drewN _).put _ _, (row_drewN HW.out.2 _).put _ _⟩
              clear hs lo1
              go_wp2_with fail
              go_quiet (fail)
              go_wp2_with fail
              go_roundw
              case rel => exact ⟨k + 1, hi, Z.set (j + k) lo2, by omega, hi1, by go_num, rfl, HS2, HW3.out _⟩
              case measure => simp [intOf]; omega
            · have hdec : decide (k < m + 2) = false := decide_eq_false hkn
              have hdec1 : decide ((k : Int) < (m : Int) + 2) = false := decide_eq_false (by omega)
              obtain rfl : k = m + 2 := by omega
              have x1 : wr.cell? ⟨g, j + (m + 2), none⟩ = some (.int .u32 ((dg Y (j + (m + 2)) : Nat) : Int)) := by
                have := HW.out.2.cell (i := j + (m + 2)) HI.out.fits
                rwa [HS.out.same (j + (m + 2)) (by omega)] at this
              have x2 := HW.out.2.free (j + (m + 2))
              have x3 := HW.out.2.lt
              obtain ⟨z, c2, hz, z1, z2⟩ := back_last (dg_lt HXD.out.1 (j + (m + 2))) hc
              have HZ : Hid (win (Z.set (j + (m + 2)) z) j m = val (Z.drop j) (m + 2) + z * B ^ (m + 2)) := win_set (by rw [ZL.out]; exact HI.out.fits)
              have HY : Hid (win Y j m = val (Y.drop j) (m + 2) + dg Y (j + (m + 2)) * B ^ (m + 2)) := by
                show _ = _
                rw [← dg_drop]
                rfl
              have HF2 : Hid (win (Z.set (j + (m + 2)) z) j m + c2 * B ^ (m + 3) = win Y j m + nat V) := by
                show _ = _
                have h1 := HS.out.sum
                rw [HZ.out, HY.out, ← HVN.out]
                exact back_end (by omega) h1 hz
              have HW3 : Hid (OnlyG g w (wr.setCell ⟨g, j + (m + 2), none⟩ (.int .u32 (z : Int))) ∧ Row (wr.setCell ⟨g, j + (m + 2), none⟩ (.int .u32 (z : Int))) base g 53 N (Z.set (j + (m + 2)) z)) := ⟨HW.out.1.put _ _, HW.out.2.put _ _⟩
              have HZD : Hid (Dg (Z.set (j + (m + 2)) z) ∧ ∀ i, i < j ∨ j + (m + 2) < i → dg (Z.set (j + (m + 2)) z) i = dg U i) := ⟨HS.out.dgs.set z2 _, fun i hi => by rw [dg_set_ne (by omega), HS.out.same i (by omega)]; exact HXD.out.2 i hi⟩
              have HWB : ∀ L : List Nat, Dg L → win L j m < B ^ (m + 3) := fun L h => val_lt (h.drop j) _
              have HVB : nat V ≤ B ^ (m + 3) := by
                have h1 := nat_lt HI.out.vdg
                rw [HI.out.len] at h1
                have h2 : B ^ (m + 2) ≤ B ^ (m + 3) := Nat.pow_le_pow_right B_pos (by omega)
                omega
              have HF := Lib.hid (take_yes HV0.out HGG.out.2 (HWB _ HXD.out.1) (HWB _ HZD.out.1) HVB HF1.out HF2.out)
              have uc : IntKind.u32.wrap (c : Int) = (c : Int) := IntWalk.u32_in _ (by omega)
              have um : (c : Int) % 4294967296 = (c : Int) := by omega
              obtain ⟨q, hq⟩ : ∃ q, q = win U j m / nat V := ⟨_, rfl⟩
              have HQ := Lib.hid hq
              have g1 : (G : Int) - 1 = (q : Int) := by have := HF.out.1; omega
              have hqB : q < B := by have := HF.out.1; have := HGG.out.1; omega
              have g2 : IntKind.u64.wrap (q : Int) = (q : Int) := u64w hqB
              have g3 : IntKind.u32.wrap (q : Int) = (q : Int) := IntWalk.u32_in _ (by unfold B at hqB; omega)
              have g4 : (q : Int) % 4294967296 = (q : Int) := by unfold B at hqB; omega
              clear hz hq HWB HVB gm gw hqB
              go_wp2_with fail
              go_ret
              exact ⟨Z.set (j + (m + 2)) z, by rw [← HQ.out]; rfl, HW3.out.2, HZD.out.1, HZD.out.2, HF.out.2, HW3.out.1⟩
end Fr
end Go.Proofs.YthehchdonmmpaaaGreatDoor
namespace Go.Proofs.YthehchdonmmpaaaGreatDoor
open Go.ChangeShapes Go.WideShapes Go.ChangeAt Go.RowKit
set_option linter.unusedVariables false
set_option linter.unusedSimpArgs false
namespace Fr
theorem pow32 {r : Nat} (h : r < 32) : 0 < 2 ^ r ∧ 2 ^ r < B := by
  refine ⟨Nat.pow_pos (by decide), ?_⟩
  exact Nat.lt_of_lt_of_le (Nat.pow_lt_pow_right (by decide) h) (by decide)
theorem shl_one {r p : Nat} (h : r < 32) (hp : p = 2 ^ r) : IntKind.u64.wrap ((2 : Int) ^ r) = ((p : Nat) : Int) := by
  have e : ((2 : Int) ^ r) = ((p : Nat) : Int) := by rw [hp]; simp
  have := pow32 h
  rw [← hp] at this
  unfold B at this
  rw [e, IntWalk.u64_in _ (by omega)]
theorem u64_div {x p y : Nat} (h : x < B * B) (hy : y = x / p) : IntKind.u64.wrap ((x : Int) / (p : Int)) = ((y : Nat) : Int) := by
  have e : (x : Int) / (p : Int) = ((y : Nat) : Int) := by rw [hy]; simp
  have : y ≤ x := by rw [hy]; exact Nat.div_le_self _ _
  rw [BB_eq] at h
  rw [e, IntWalk.u64_in _ (by omega)]
theorem bit_of {N i q r : Nat} (hq : q = i / 32) (hr : r = i % 32) (x : Nat) (hx : x = N / B ^ q % B) : x / 2 ^ r % 2 = N / 2 ^ i % 2 := by
  have hi : i = 32 * q + r := by omega
  have hB : B ^ q = 2 ^ (32 * q) := by rw [Nat.pow_mul]; rfl
  have hr32 : r < 32 := by omega
  have hB2 : B = 2 ^ r * (2 * 2 ^ (31 - r)) := by
    rw [← Nat.pow_succ', ← Nat.pow_add]
    have : r + (31 - r + 1) = 32 := by omega
    rw [this]; rfl
  rw [hx, hi, Nat.pow_add, ← Nat.div_div_eq_div_mul, ← hB]
  generalize N / B ^ q = M
  rw [hB2, Nat.mod_mul_right_div_self, Nat.mod_mul_right_mod]
set_option maxHeartbeats 400000 in
theorem bit_any (a : List Nat) (va : Value) (i : Nat) (w : World) (hla : a.length ≤ 50000) (hi : i ≤ 3000000) (hda : Dg a) (ha : NS w va a) : Calls Tryz.prog 78 #[va, .int .i64 (i : Int)] w fun e w' => e = .returned (.int .u64 ((nat a / 2 ^ i % 2 : Nat) : Int)) ∧ Below w.heap.size w w' := by
  obtain ⟨q, hq⟩ : ∃ q, q = i / 32 := ⟨_, rfl⟩
  obtain ⟨r, hr⟩ : ∃ r, r = i % 32 := ⟨_, rfl⟩
  obtain ⟨p, hp⟩ : ∃ p, p = 2 ^ r := ⟨_, rfl⟩
  obtain ⟨y, hy⟩ : ∃ y, y = dg a q / p := ⟨_, rfl⟩
  obtain ⟨z, hz⟩ : ∃ z, z = y % 2 := ⟨_, rfl⟩
  have HZ : Hid (nat a / 2 ^ i % 2 = z) := by
    show _ = _
    rw [hz, hy, hp]
    exact (bit_of hq hr _ (dg_div hda q)).symm
  have CA := Lib.hid (fun n => digit_any a va q (w.drewN n) (by omega) (by omega) hda (Sl.keep ha (drewN_below w n)))
  have e1 : (i : Int) / 32 = ((q : Nat) : Int) := by omega
  have e2 : (i : Int) % 32 = ((r : Nat) : Int) := by omega
  have e3 := shl_one (show r < 32 by omega) hp
  have hpp := (pow32 (show r < 32 by omega)).1
  rw [← hp] at hpp
  have hp0 : (0 : Int) < (p : Int) := by omega
  have hpn : ((p : Int) == 0) = false := beq_eq_false_iff_ne.2 (by omega)
  have e4 := u64_div (p := p) (Nat.lt_of_lt_of_le (dg_lt hda q) (Nat.le_mul_of_pos_left _ B_pos)) hy
  have e5 : (y : Int) % 2 = ((z : Nat) : Int) := by omega
  have E5 := Lib.hid e5
  have e6 : IntKind.u64.wrap ((z : Nat) : Int) = ((z : Nat) : Int) := IntWalk.u64_in _ (by omega)
  have hx0 : (0 : Int) ≤ ((dg a q : Nat) : Int) := by omega
  have hy0 : (0 : Int) ≤ (y : Int) := by omega
  have hr1 : (r : Int) < 32 := by omega
  have hr0 : (0 : Int) ≤ (r : Int) := by omega
  have hi0 : (0 : Int) ≤ (i : Int) := by omega
  have hi1 : (i : Int) ≤ 3000000 := by omega
  obtain ⟨A1, c1, rfl, _, _, _⟩ := ns_cases ha
  clear ha hda hq hr hp hy hz hpp
  go_enter Tryz.func78, Tryz.ntmps78
  go_wp2_with fail
  go_quiet ((go_at_call 81; refine (CA.out _).mono ?_; rintro e w' ⟨rfl, rfl⟩; exact ⟨rfl, _, rfl⟩))
  go_wp2_with fail
  go_ret
  exact ⟨by rw [HZ.out, ← E5.out]; rfl, drewN_below _ _⟩
end Fr
end Go.Proofs.YthehchdonmmpaaaGreatDoor
namespace Go.Proofs.YthehchdonmmpaaaGreatDoor
open Go.ChangeShapes Go.WideShapes Go.ChangeAt Go.RowKit
set_option linter.unusedVariables false
set_option linter.unusedSimpArgs false
namespace Fr
/-- n is the number of binary digits of N -/
def IsLen (N n : Nat) : Prop := N < 2 ^ n ∧ (n = 0 ∨ 2 ^ (n - 1) ≤ N)
def BitsPost (N m : Nat) (w : World) (e : Ending) (w' : World) : Prop := ∃ n : Nat, e = .returned (.int .i64 (n : Int)) ∧ IsLen N n ∧ n ≤ m ∧ Below w.heap.size w w'
theorem lt_two32 {a : List Nat} (h : Dg a) : nat a < 2 ^ (32 * a.length) := by
  rw [Nat.pow_mul]
  exact nat_lt h
theorem bit_zero {N m : Nat} (h : N < 2 ^ (m + 1)) (hb : N / 2 ^ m % 2 = 0) : N < 2 ^ m := by
  have hp : 0 < 2 ^ m := Nat.pow_pos (by decide)
  have h1 : N / 2 ^ m < 2 := Nat.div_lt_of_lt_mul (by rw [Nat.pow_succ] at h; exact h)
  have h2 : N / 2 ^ m = 0 := by
    generalize N / 2 ^ m = y at *
    omega
  rcases Nat.div_eq_zero_iff.1 h2 with h3 | h3
  · exact absurd h3 (Nat.pos_iff_ne_zero.1 hp)
  · exact h3
theorem bit_one {N m : Nat} (hb : N / 2 ^ m % 2 ≠ 0) : 2 ^ m ≤ N := by
  have hp : 0 < 2 ^ m := Nat.pow_pos (by decide)
  rcases Nat.lt_or_ge N (2 ^ m) with h | h
  · rw [Nat.div_eq_of_lt h] at hb
    exact absurd rfl hb
  · exact h
set_option maxHeartbeats 1000000 in
set_option maxRecDepth 100000 in
theorem bits_any (a : List Nat) (va : Value) (w : World) (hla : a.length ≤ 50000) (hda : Dg a) (ha : NS w va a) : Calls Tryz.prog 76 #[va] w (BitsPost (nat a) (32 * a.length) w) := by
  have CA := Lib.hid (fun i (hi : i ≤ 3000000) w' (k : Below w.heap.size w w') => bit_any a va i w' (by omega) hi hda (Sl.keep ha k))
  have HN := Lib.hid (lt_two32 hda)
  obtain ⟨A1, c1, rfl, _, _, _⟩ := ns_cases ha
  clear ha hda
  go_enter Tryz.func76, Tryz.ntmps76
  go_wp2_with fail
  go_loopw [3] (fun v wr => ∃ n : Nat, n ≤ 32 * a.length ∧ v = .int .i64 (n : Int) ∧ Hid (nat a < 2 ^ n) ∧ Hid (Below w.heap.size w wr)) (fun v _ => (intOf v).toNat)
  case atStart => exact ⟨32 * a.length, Nat.le_refl _, by go_num, HN, Below.refl _ _⟩
  case round =>
    obtain ⟨n, hn, rfl, HL, HB⟩ := hrel
    cases n with
    | zero =>
      go_wp2_with fail
      go_ret
      exact ⟨0, rfl, ⟨HL.out, .inl rfl⟩, by omega, HB.out⟩
    | succ m =>
      have hp0 : decide ((0 : Int) < ((m + 1 : Nat) : Int)) = true := by simp
      have hp1 : decide ((0 : Int) < (m : Int) + 1) = true := decide_eq_true (by omega)
      have hm0 : (0 : Int) ≤ (m : Int) := by omega
      have hm1 : (m : Int) ≤ 3000000 := by omega
      by_cases hz : nat a / 2 ^ m % 2 = 0
      · have HL2 := Lib.hid (bit_zero HL.out hz)
        have CZ := Lib.hid (CA.out m (by omega) _ HB.out)
        rw [hz] at CZ
        clear hz
        go_wp2_with fail
        refine CZ.out.mono ?_
        rintro e w1 ⟨rfl, b1⟩
        have B1 := Lib.hid (chain0 HB.out b1)
        clear b1
        go_wp2_with fail
        go_roundw
        case rel => exact ⟨m, by omega, by go_num, HL2, B1⟩
        case measure => simp [intOf]
      · have HG := Lib.hid (bit_one hz)
        have CZ := Lib.hid (CA.out m (by omega) _ HB.out)
        have qz : (((nat a / 2 ^ m % 2 : Nat) : Int) == 0) = false := beq_eq_false_iff_ne.2 (by omega)
        obtain ⟨z, hzz⟩ : ∃ z, z = nat a / 2 ^ m % 2 := ⟨_, rfl⟩
        rw [← hzz] at CZ qz
        clear hz hzz
        go_wp2_with fail
        refine CZ.out.mono ?_
        rintro e w1 ⟨rfl, b1⟩
        have B1 := Lib.hid (chain0 HB.out b1)
        clear b1
        go_wp2_with fail
        go_ret
        exact ⟨m + 1, rfl, ⟨HL.out, .inr HG.out⟩, by omega, B1.out⟩
theorem high_digit {N k t q r : Nat} (hq : q = k / 32) (hr : r = k % 32) {d0 d1 : Nat} (h0 : d0 = N / B ^ (q + t) % B) (h1 : d1 = N / B ^ (q + t + 1) % B) : (d0 + d1 * B) / 2 ^ r % B = N / 2 ^ k / B ^ t % B := by
  have hr32 : r < 32 := by omega
  have hk : k = 32 * q + r := by omega
  have e1 : d0 + d1 * B = N / B ^ (q + t) % (B * B) := by
    rw [Nat.mod_mul, h0, h1, Nat.pow_succ, ← Nat.div_div_eq_div_mul, Nat.mul_comm B]
  have hBB : B * B = 2 ^ r * (B * 2 ^ (32 - r)) := by
    have hB : B = 2 ^ 32 := rfl
    rw [hB, ← Nat.pow_add, ← Nat.pow_add, ← Nat.pow_add]
    congr 1
    omega
  rw [e1, hBB, Nat.mod_mul_right_div_self, Nat.mod_mul_right_mod]
  congr 1
  have hB : (2 : Nat) ^ 32 = B := rfl
  rw [Nat.div_div_eq_div_mul, Nat.div_div_eq_div_mul, hk, Nat.pow_add 2, Nat.pow_mul 2, hB, Nat.pow_add B, Nat.mul_right_comm]
theorem high_step {M t : Nat} {o : List Nat} (hl : o.length = t) (h : nat o = M % B ^ t) {lo : Nat} (hlo : lo = M / B ^ t % B) : nat (o ++ [lo]) = M % B ^ (t + 1) := by
  rw [nat_append, hl, h, hlo, Nat.mod_pow_succ]
  simp [nat]
theorem high_end {a : List Nat} (ha : Dg a) {k q t : Nat} (hq : q = k / 32) (ht : a.length ≤ q + t) : nat a / 2 ^ k % B ^ t = nat a / 2 ^ k := by
  refine Nat.mod_eq_of_lt (Nat.div_lt_of_lt_mul ?_)
  have h1 := nat_lt_len ha ht
  have h2 : B ^ (q + t) ≤ 2 ^ k * B ^ t := by
    rw [Nat.pow_add]
    refine Nat.mul_le_mul_right _ ?_
    have hB : B = 2 ^ 32 := rfl
    rw [hB, ← Nat.pow_mul]
    exact Nat.pow_le_pow_right (by decide) (by omega)
  exact Nat.lt_of_lt_of_le h1 h2
/-- one place of a number shifted right -/
theorem high_facts {x y p : Nat} (hx : x < B) (hy : y < B) : ∃ m s v lo : Nat, (v = (x + y * B) / p ∧ lo = v % B) ∧ IntKind.u64.wrap ((y : Int) * 4294967296) = ((m : Nat) : Int) ∧ IntKind.u64.wrap ((x : Int) + (m : Int)) = ((s : Nat) : Int) ∧ IntKind.u64.wrap ((s : Int) / (p : Int)) = ((v : Nat) : Int) ∧ IntKind.u32.wrap ((v : Int) % 4294967296) = ((lo : Nat) : Int) ∧ lo < B := by
  have h := mul_lt_BB hy (show B - 1 < B by decide) hx
  have hs : x + y * B < B * B := by
    have : y * B + B ≤ B * B := by rw [← Nat.succ_mul]; exact Nat.mul_le_mul_right _ hy
    omega
  have e : (y : Int) * 4294967296 = ((y * B : Nat) : Int) := by unfold B; omega
  have hb := hs
  rw [BB_eq] at hb
  refine ⟨y * B, x + y * B, (x + y * B) / p, _, ⟨rfl, rfl⟩, ?_, u64_sum hs, u64_div hs rfl, parts.2, parts.1⟩
  rw [e, IntWalk.u64_in _ (by omega)]
set_option maxHeartbeats 2000000 in
set_option maxRecDepth 100000 in
theorem high_any (a : List Nat) (va : Value) (k : Nat) (w : World) (hla : a.length ≤ 50000) (hk : k ≤ 3000000) (hda : Dg a) (ha : NS w va a) : Calls Tryz.prog 77 #[va, .int .i64 (k : Int)] w (NatPost (nat a / 2 ^ k) w) := by
  obtain ⟨i0, hi0, hz0, hz1, hz2⟩ := info_parts u32_info
  have CA := Lib.hid (fun i (hi : i ≤ 100000) w' (k : Below w.heap.size w w') => digit_any a va i w' (by omega) hi hda (Sl.keep ha k))
  have HDA := Lib.hid hda
  obtain ⟨q, hq⟩ : ∃ q, q = k / 32 := ⟨_, rfl⟩
  obtain ⟨r, hr⟩ : ∃ r, r = k % 32 := ⟨_, rfl⟩
  obtain ⟨p, hp⟩ : ∃ p, p = 2 ^ r := ⟨_, rfl⟩
  have HQ := Lib.hid hq
  have HR := Lib.hid hr
  have HP := Lib.hid hp
  have e1 : (k : Int) / 32 = ((q : Nat) : Int) := by omega
  have e2 : (k : Int) % 32 = ((r : Nat) : Int) := by omega
  have e3 := shl_one (show r < 32 by omega) hp
  have hpp := (pow32 (show r < 32 by omega)).1
  rw [← hp] at hpp
  have hp0 : (0 : Int) < (p : Int) := by omega
  have hpn : ((p : Int) == 0) = false := beq_eq_false_iff_ne.2 (by omega)
  have hr1 : (r : Int) < 32 := by omega
  have hr0 : (0 : Int) ≤ (r : Int) := by omega
  have hk0 : (0 : Int) ≤ (k : Int) := by omega
  have hk1 : (k : Int) ≤ 3000000 := by omega
  have hq1 : q ≤ 93750 := by omega
  obtain ⟨A1, c1, rfl, _, _, _⟩ := ns_cases ha
  clear ha hda hq hr hp hpp
  go_enter Tryz.func77, Tryz.ntmps77
  go_wp2_with fail
  go_loopw [6, 5] (fun i v wr => ∃ t : Nat, ∃ o : List Nat, t ≤ a.length ∧ (q + t ≤ a.length ∨ t = 0) ∧ i = .int .i64 ((q + t : Nat) : Int) ∧ Hid (o.length = t ∧ Dg o ∧ nat o = nat a / 2 ^ k % B ^ t) ∧ Hid (wr.ownsRow w.heap.size 53 1 v t (u32s o)) ∧ Hid (Below w.heap.size w wr)) (fun i _ _ => a.length - (intOf i).toNat)
  case atStart => exact ⟨0, [], by omega, .inr rfl, by go_num, ⟨rfl, Dg.nil, by simp [nat, Nat.mod_one]⟩, ⟨rfl, .inl ⟨rfl, rfl⟩⟩, Below.refl _ _⟩
  case round =>
    obtain ⟨t, o, ht, hqt, rfl, HI, HO, HB⟩ := hrel
    obtain ⟨A5, c5, rfl⟩ := own_form HO.out
    obtain ⟨i, hi⟩ : ∃ i, i = q + t := ⟨_, rfl⟩
    rw [← hi]
    rw [← hi] at hqt
    have HII := Lib.hid hi
    have hii0 : (0 : Int) ≤ (i : Int) := by omega
    have hi9 : i ≤ 100000 := by omega
    clear hi
    by_cases hlt : i < a.length
    · have hdec : decide (i < a.length) = true := decide_eq_true hlt
      have hdec2 : decide ((i : Int) < (a.length : Int)) = true := decide_eq_true (by omega)
      have hi1 : (i : Int) ≤ 100000 := by omega
      obtain ⟨m, s, v, lo, hv, f1, f2, f3, f4, p1⟩ := high_facts (p := p) (dg_lt HDA.out i) (dg_lt HDA.out (i + 1))
      have HN : Hid (nat (o ++ [lo]) = nat a / 2 ^ k % B ^ (t + 1)) := high_step HI.out.1 HI.out.2.2 (by
        rw [hv.2, hv.1, HP.out]
        exact high_digit HQ.out HR.out (by rw [dg_div HDA.out, HII.out]) (by rw [dg_div HDA.out, HII.out]))
      have P1 := Lib.hid p1
      have hs0 : (0 : Int) ≤ (s : Int) := by omega
      have hv0 : (0 : Int) ≤ (v : Int) := by omega
      clear hv p1
      go_wp2_with fail
      refine (CA.out i (by omega) _ HB.out).mono ?_
      rintro e w1 ⟨rfl, rfl⟩
      go_wp2_with fail
      refine (CA.out (i + 1) (by omega) _ HB.out).mono ?_
      rintro e w1 ⟨rfl, rfl⟩
      go_wp2_with (at_builtin; refine wpList_append_sl _ rfl (.tmp 25) (.tmp 33) _ rfl (w.heap.size) 53 i0 _ 1 4 Tryz.underlying45 hi0 hz0 hz1 hz2 rfl (by decide) (.slice A5 (t) c5) (t) (u32s o) rfl (own_below HO.out (below_new _ _)) (.slice (some ⟨wr.heap.size, 0, none⟩) 1 1) 1 (u32s [lo]) rfl (ns_new1 wr lo 53) (u32s_one _) (by unfold maxLen; omega) (by omega) (by have := HB.out.size; simp; omega) ?_)
      intro v' w1 hown hgr
      obtain ⟨A6, c6, rfl⟩ := own_form hown
      have HO1 := Lib.hid hown
      have HB1 := Lib.hid ((HB.out.alloc HB.out.size (.cells #[.int .u32 ((lo : Nat) : Int)] 53)).grown hgr (by have := HB.out.size; simp; omega) (fun q hq => own_far HO.out q hq))
      clear hown hgr
      go_wp2_with fail
      go_roundw
      case rel => exact ⟨t + 1, o ++ [lo], by have := HII.out; omega, .inl (by have := HII.out; omega), (by have := HII.out; congr 1; omega), ⟨by simp [HI.out.1], HI.out.2.1.append (Dg.cons P1.out Dg.nil), HN.out⟩, (by rw [u32s_append]; exact HO1.out), HB1.out⟩
      case measure => simp [intOf]; omega
    · have hdec : decide (i < a.length) = false := decide_eq_false hlt
      have hdec2 : decide ((i : Int) < (a.length : Int)) = false := decide_eq_false (by omega)
      have HE := Lib.hid (HI.out.2.2.trans (high_end HDA.out HQ.out (t := t) (by have := HII.out; omega)))
      have CT := Lib.hid (trim_any o _ wr (by rw [HI.out.1]; omega) HI.out.2.1 (ns_own HO.out))
      rw [HE.out] at CT
      go_wp2_with fail
      refine CT.out.mono ?_
      rintro e w1 ⟨v1, rfl, hs1, hb1⟩
      have HS1 := Lib.hid hs1
      have HB1 := Lib.hid (chain0 HB.out hb1)
      obtain ⟨A6, c6, rfl, _⟩ := ns_cases hs1
      clear hs1 hb1
      go_wp2_with fail
      go_ret
      exact ⟨_, rfl, HS1.out, HB1.out⟩
end Fr
end Go.Proofs.YthehchdonmmpaaaGreatDoor
