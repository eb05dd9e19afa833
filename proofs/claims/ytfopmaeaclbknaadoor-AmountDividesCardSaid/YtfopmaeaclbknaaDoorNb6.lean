/- natural.DivMod: a dividend below the divisor; a divisor of one digit. Printed by gen_nb6.py. -/
import Derived.Test.YtfopmaeaclbknaaDoorNb2
import Derived.Test.YtfopmaeaclbknaaDoorNb3
import Derived.Test.YtfopmaeaclbknaaDoorNat8
namespace Go.Proofs.YtfopmaeaclbknaaDoor
open Go.ChangeShapes Go.WideShapes Go.ChangeAt Go.RowKit
set_option linter.unusedVariables false
set_option linter.unusedSimpArgs false
namespace Fr
set_option maxHeartbeats 1000000 in
theorem ndiv_less (a b : List Nat) (va vb : Value) (w : World) (hla : a.length ≤ 50000) (hlb : b.length ≤ 50000) (hda : Dg a) (hdb : Dg b) (hb0 : nat b ≠ 0) (ha : NS w va a) (hb : NS w vb b) (hlt : nat a < nat b) : Calls Tryd.prog 102 #[va, vb] w (DivPost (nat a) (nat b) w) := by
  have CA := Lib.hid (ntrim_any a va w (by omega) hda ha)
  have CB := Lib.hid (ntrim_any b vb w (by omega) hdb hb)
  unfold TrimPost at CA CB
  obtain ⟨A1, c1, rfl, _, _, _⟩ := ns_cases ha
  obtain ⟨A2, c2, rfl, _, _, _⟩ := ns_cases hb
  have la := (digs_split hda).2
  have lb := (digs_split hdb).2
  clear ha hb hda hdb
  obtain ⟨x, hx⟩ : ∃ x, x = nat a := ⟨_, rfl⟩
  obtain ⟨y, hy⟩ : ∃ y, y = nat b := ⟨_, rfl⟩
  rw [← hx] at CA la ⊢ hlt
  rw [← hy] at CB lb hb0 ⊢ hlt
  clear hx hy
  have HP := Lib.hid (nat_digs x)
  have HQ := Lib.hid (nat_digs y)
  have DA := Lib.hid (Dg.digs x)
  have DB := Lib.hid (Dg.digs y)
  have HY := Lib.hid hb0
  have HC := Lib.hid (cmp_lt hlt)
  have hq0 : 0 < (digs y).length := by
    rcases Nat.eq_zero_or_pos (digs y).length with h | h
    · exact absurd (digs_zero_of h) hb0
    · exact h
  have HR : Hid (x / y = 0 ∧ x % y = x) := ⟨Nat.div_eq_of_lt hlt, Nat.mod_eq_of_lt hlt⟩
  have q1 : (((digs y).length : Int) == 0) = false := beq_eq_false_iff_ne.2 (by omega)
  clear hb0 hlt
  generalize digs x = p at *
  generalize hqq : digs y = q at *
  clear hqq
  go_enter Tryd.func102, Tryd.ntmps102
  go_wp2_with fail
  refine CA.out.mono ?_
  rintro e w1 ⟨A3, _, h1, rfl, s1, rfl⟩
  injection h1 with h1 _ _
  subst h1
  have S1 := Lib.hid s1
  clear s1
  go_wp2_with fail
  refine CB.out.mono ?_
  rintro e w1 ⟨A4, _, h1, rfl, s2, rfl⟩
  injection h1 with h1 _ _
  subst h1
  have S2 := Lib.hid s2
  clear s2
  have CC := Lib.hid (ncmp_any p q _ _ w (by omega) (by omega) DA.out DB.out S1.out S2.out)
  rw [HP.out, HQ.out, HC.out] at CC
  go_wp2_with fail
  refine CC.out.mono ?_
  rintro e w2 ⟨rfl, b2⟩
  have B2 := Lib.hid b2
  clear b2
  have CD := Lib.hid (nadd_any p [] _ _ w2 (by omega) (by simp) DA.out Dg.nil (S1.out.keep B2.out) (Sl.nil w2 1))
  rw [HP.out, show x + nat [] = x from rfl] at CD
  go_wp2_with fail
  refine CD.out.mono ?_
  rintro e w3 ⟨v3, rfl, s3, b3⟩
  have S3 := Lib.hid s3
  have B3 := Lib.hid (chain0 B2.out b3)
  obtain ⟨A5, c5, rfl, _⟩ := ns_cases s3
  clear s3 b3
  go_wp2_with fail
  go_ret3
  refine ⟨_, _, rfl, ?_, ?_, B3.out⟩
  · rw [HR.out.1]
    exact Sl.nil _ _
  · rw [HR.out.2]
    exact S3.out
set_option maxHeartbeats 1000000 in
theorem ndiv_small (a b : List Nat) (va vb : Value) (w : World) (hla : a.length ≤ 50000) (hlb : b.length ≤ 50000) (hda : Dg a) (hdb : Dg b) (hb0 : nat b ≠ 0) (ha : NS w va a) (hb : NS w vb b) (hle : nat b ≤ nat a) (hsm : nat b < B) : Calls Tryd.prog 102 #[va, vb] w (DivPost (nat a) (nat b) w) := by
  have CA := Lib.hid (ntrim_any a va w (by omega) hda ha)
  have CB := Lib.hid (ntrim_any b vb w (by omega) hdb hb)
  unfold TrimPost at CA CB
  obtain ⟨A1, c1, rfl, _, _, _⟩ := ns_cases ha
  obtain ⟨A2, c2, rfl, _, _, _⟩ := ns_cases hb
  have la := (digs_split hda).2
  have lb := (digs_split hdb).2
  clear ha hb hda hdb
  obtain ⟨x, hx⟩ : ∃ x, x = nat a := ⟨_, rfl⟩
  obtain ⟨y, hy⟩ : ∃ y, y = nat b := ⟨_, rfl⟩
  rw [← hx] at CA la ⊢ hle
  rw [← hy] at CB lb hb0 ⊢ hle hsm
  clear hx hy
  have HP := Lib.hid (nat_digs x)
  have HQ := Lib.hid (nat_digs y)
  have DA := Lib.hid (Dg.digs x)
  have DB := Lib.hid (Dg.digs y)
  have HY := Lib.hid hb0
  have hq0 : (digs y).length = 1 := by
    have h1 : (digs y).length ≤ 1 := digs_len_le (by rw [Nat.pow_one]; exact hsm)
    rcases Nat.eq_zero_or_pos (digs y).length with h | h
    · exact absurd (digs_zero_of h) hb0
    · omega
  have HD1 := Lib.hid (digs_one hq0)
  have HL1 := Lib.hid hq0
  obtain ⟨cv, HC, hcv⟩ : ∃ cv : Int, Hid (cmp x y = cv) ∧ 0 ≤ cv := ⟨_, rfl, cmp_ge hle⟩
  have hcd : decide (cv < 0) = false := decide_eq_false (by omega)
  have hy0 : 0 < y := by omega
  have HSM := Lib.hid hsm
  rw [hq0] at CB
  clear hb0 hle hsm hcv
  generalize digs x = p at *
  have lq : (digs y).length ≤ 50000 := by omega
  generalize hqq : digs y = q at *
  clear hqq hq0
  go_enter Tryd.func102, Tryd.ntmps102
  go_wp2_with fail
  refine CA.out.mono ?_
  rintro e w1 ⟨A3, _, h1, rfl, s1, rfl⟩
  injection h1 with h1 _ _
  subst h1
  have S1 := Lib.hid s1
  clear s1
  go_wp2_with fail
  refine CB.out.mono ?_
  rintro e w1 ⟨A4, _, h1, rfl, s2, rfl⟩
  injection h1 with h1 _ _
  subst h1
  have S2 := Lib.hid s2
  clear s2
  have hl0 : 0 < q.length := by have := HL1.out; omega
  have CC := Lib.hid (ncmp_any p q _ _ w (by omega) lq DA.out DB.out S1.out S2.out)
  rw [HP.out, HQ.out, HC.out] at CC
  go_wp2_with fail
  refine CC.out.mono ?_
  rintro e w2 ⟨rfl, b2⟩
  have B2 := Lib.hid b2
  clear b2
  obtain ⟨g4, o4, e4, hg4, hc4⟩ := ns_cell (S2.out.keep B2.out) hl0
  subst e4
  have c4 : w2.cell? ⟨g4, o4, none⟩ = some (.int .u32 (y : Int)) := by
    have := hc4 0 hl0
    rw [← HD1.out] at this
    exact this
  clear hc4 hl0 lq
  have CD := Lib.hid (nsmall_any p _ y w2 (by omega) DA.out hy0 HSM.out (S1.out.keep B2.out))
  rw [HP.out] at CD
  go_wp2_with fail
  refine CD.out.mono ?_
  rintro e w3 ⟨v3, rfl, s3, b3⟩
  have S3 := Lib.hid s3
  have B3 := Lib.hid (chain0 B2.out b3)
  obtain ⟨A5, c5, rfl, _⟩ := ns_cases s3
  clear s3 b3
  obtain ⟨r, hr⟩ : ∃ r, r = x % y := ⟨_, rfl⟩
  have hrB : r < B := by rw [hr]; exact Nat.lt_trans (Nat.mod_lt _ hy0) HSM.out
  rw [← hr]
  have HRR := Lib.hid hr
  have ur := u64w hrB
  have CE := Lib.hid (nfromUint_any r w3 (Nat.lt_of_lt_of_le hrB (by decide)))
  clear hr hrB
  go_wp2_with fail
  refine CE.out.mono ?_
  rintro e w4 ⟨v4, rfl, s4, b4⟩
  have S4 := Lib.hid s4
  have B4 := Lib.hid (chain0 B3.out b4)
  have S5 := Lib.hid (S3.out.keep b4)
  obtain ⟨A6, c6, rfl, _⟩ := ns_cases s4
  clear s4 b4
  go_wp2_with fail
  go_ret3
  exact ⟨_, _, rfl, S5.out, by rw [← HRR.out]; exact S4.out, B4.out⟩
end Fr
end Go.Proofs.YtfopmaeaclbknaaDoor
