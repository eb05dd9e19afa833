/- The reference's size, New and FromInt. -/
import Derived.Test.YtfopmaeaclbknaaDoorFc1
namespace Go.Proofs.YtfopmaeaclbknaaDoor
open Go.ChangeShapes Go.WideShapes Go.ChangeAt Go.RowKit
set_option linter.unusedVariables false
set_option linter.unusedSimpArgs false
namespace Fr
theorem digs_small {m : Nat} (h : m ≤ 9223372036854775808) : (digs m).length ≤ 2 := digs_len_le (by rw [Nat.pow_succ, Nat.pow_one, BB_eq]; omega)
theorem rsize_pos (m : Nat) (w : World) (hm : m < 9223372036854775808) : Calls Tryd.prog 70 #[.int .i64 (m : Int)] w (NatPost m w) := by
  have C := Lib.hid (fromUint_any m w (by rw [BB_eq]; omega))
  have h1 : decide ((m : Int) < 0) = false := decide_eq_false (by omega)
  have h2 : IntKind.u64.wrap (m : Int) = (m : Int) := IntWalk.u64_in _ (by omega)
  have h0 : (0 : Int) ≤ (m : Int) := by omega
  clear hm
  go_enter Tryd.func70, Tryd.ntmps70
  go_wp2_with fail
  refine C.out.mono ?_
  rintro e w1 ⟨v1, rfl, s1, b1⟩
  have S1 := Lib.hid s1
  have B1 := Lib.hid b1
  obtain ⟨A5, c5, rfl, _⟩ := ns_cases s1
  clear s1 b1
  go_wp2_with fail
  go_ret
  exact ⟨_, rfl, S1.out, B1.out⟩
theorem rsize_neg (m : Nat) (w : World) (hm : m < 9223372036854775808) : Calls Tryd.prog 70 #[.int .i64 (-((m : Int) + 1))] w (NatPost (m + 1) w) := by
  have C := Lib.hid (fromUint_any (m + 1) w (by rw [BB_eq]; omega))
  have h1 : decide (-((m : Int) + 1) < 0) = true := decide_eq_true (by omega)
  have h0 : (0 : Int) ≤ (m : Int) := by omega
  obtain ⟨z, hz⟩ : ∃ z : Int, z = -((m : Int) + 1) := ⟨_, rfl⟩
  rw [← hz] at h1 ⊢
  have e1 : IntKind.i64.wrap (z + 1) = -(m : Int) := by rw [IntWalk.i64_in _ (by omega)]; omega
  have e2 : IntKind.i64.wrap (-(-(m : Int))) = (m : Int) := by rw [IntWalk.i64_in _ (by omega)]; omega
  have e3 : IntKind.u64.wrap (m : Int) = (m : Int) := IntWalk.u64_in _ (by omega)
  have e4 : IntKind.u64.wrap ((m : Int) + 1) = ((m + 1 : Nat) : Int) := by rw [IntWalk.u64_in _ (by omega)]; omega
  have e5 : IntKind.i64.wrap (m : Int) = (m : Int) := IntWalk.i64_in _ (by omega)
  clear hm hz
  go_enter Tryd.func70, Tryd.ntmps70
  go_wp2_with fail
  refine C.out.mono ?_
  rintro e w1 ⟨v1, rfl, s1, b1⟩
  have S1 := Lib.hid s1
  have B1 := Lib.hid b1
  obtain ⟨A5, c5, rfl, _⟩ := ns_cases s1
  clear s1 b1
  go_wp2_with fail
  go_ret
  exact ⟨_, rfl, S1.out, B1.out⟩
theorem rsize_any (z : Int) (w : World) (h1 : -9223372036854775808 ≤ z) (h2 : z < 9223372036854775808) : Calls Tryd.prog 70 #[.int .i64 z] w (NatPost z.natAbs w) := by
  rcases Int.lt_or_le z 0 with h | h
  · obtain ⟨m, rfl⟩ : ∃ m : Nat, z = -((m : Int) + 1) := ⟨(-z - 1).toNat, by omega⟩
    have := rsize_neg m w (by omega)
    have e : (-((m : Int) + 1)).natAbs = m + 1 := by omega
    rwa [e]
  · obtain ⟨m, rfl⟩ := Int.eq_ofNat_of_zero_le h
    exact rsize_pos m w (by omega)
/-- a fraction in memory -/
def FracIs (w : World) (v : Value) (neg : Bool) (n d : Nat) : Prop := ∃ A1 c1 A2 c2, v = .agg #[.bool neg, .slice A1 (digs n).length c1, .slice A2 (digs d).length c2] ∧ NS w (.slice A1 (digs n).length c1) (digs n) ∧ NS w (.slice A2 (digs d).length c2) (digs d)
theorem FracIs.keep {w w' : World} {v : Value} {neg : Bool} {n d : Nat} (h : FracIs w v neg n d) (b : Below w.heap.size w w') : FracIs w' v neg n d := by
  obtain ⟨A1, c1, A2, c2, e, h1, h2⟩ := h
  exact ⟨A1, c1, A2, c2, e, h1.keep b, h2.keep b⟩
/-- what a function that makes a fraction and an error answers -/
def FracPost2 (neg : Bool) (n d : Nat) (w : World) (e : Ending) (w' : World) : Prop := ∃ v, e = .returned (.tuple #[v, .int .i64 0]) ∧ FracIs w' v neg n d ∧ Below w.heap.size w w'
def FracPost (neg : Bool) (n d : Nat) (w : World) (e : Ending) (w' : World) : Prop := ∃ v, e = .returned v ∧ FracIs w' v neg n d ∧ Below w.heap.size w w'
set_option maxHeartbeats 1000000 in
theorem rnew_any (x y : Int) (w : World) (hx1 : -9223372036854775808 ≤ x) (hx2 : x < 9223372036854775808) (hy1 : -9223372036854775808 ≤ y) (hy2 : y < 9223372036854775808) (hy0 : y ≠ 0) :
    Calls Tryd.prog 45 #[.int .i64 x, .int .i64 y] w (FracPost2 ((decide (x < 0) != decide (y < 0)) && decide (x.natAbs ≠ 0)) (x.natAbs / Nat.gcd x.natAbs y.natAbs) (y.natAbs / Nat.gcd x.natAbs y.natAbs) w) := by
  have CX := Lib.hid (fun w => rsize_any x w hx1 hx2)
  have CY := Lib.hid (fun w => rsize_any y w hy1 hy2)
  have hxs : x.natAbs ≤ 9223372036854775808 := by omega
  have hys : y.natAbs ≤ 9223372036854775808 := by omega
  have hy9 : y.natAbs ≠ 0 := by omega
  have HXS := Lib.hid (digs_small hxs)
  have HYS := Lib.hid (digs_small hys)
  have HY0 := Lib.hid hy9
  obtain ⟨sx, hsx⟩ : ∃ sx, sx = decide (x < 0) := ⟨_, rfl⟩
  obtain ⟨sy, hsy⟩ : ∃ sy, sy = decide (y < 0) := ⟨_, rfl⟩
  rw [← hsx, ← hsy]
  have q1 : decide (x < 0) = sx := hsx.symm
  have q2 : decide (y < 0) = sy := hsy.symm
  obtain ⟨sn, hsn⟩ : ∃ sn, sn = (sx != sy) := ⟨_, rfl⟩
  have q3 : (!(sx == sy)) = sn := hsn.symm
  rw [← hsn]
  clear hx1 hx2 hy1 hy2 hy0 hxs hys hy9 hsx hsy hsn
  generalize x.natAbs = n at *
  generalize y.natAbs = d at *
  go_enter Tryd.func45, Tryd.ntmps45
  go_wp2_with fail
  refine (CX.out _).mono ?_
  rintro e w1 ⟨v1, rfl, s1, b1⟩
  have K1 := Lib.hid ((Blk.new w 38 #[.bool false, .slice none 0 0, .slice none 0 0]).below' b1)
  have B1 := Lib.hid (chain1 (Below.refl w.heap.size w) b1)
  have S1 := Lib.hid s1
  obtain ⟨A5, c5, rfl, _⟩ := ns_cases s1
  clear s1 b1
  go_wp2_with fail
  refine (CY.out _).mono ?_
  rintro e w2 ⟨v2, rfl, s2, b2⟩
  have K2 := Lib.hid (K1.out.below' b2)
  have B2 := Lib.hid (chain0 B1.out b2)
  have S2 := Lib.hid (S1.out.keep b2)
  have T2 := Lib.hid s2
  obtain ⟨A6, c6, rfl, _⟩ := ns_cases s2
  clear s2 b2
  have CM := rmake_any sn n d _ _ w2 (by have := HXS.out; omega) (by have := HYS.out; omega) HY0.out S2.out T2.out
  unfold MakePost at CM
  have CM := Lib.hid CM
  go_wp2_with fail
  refine CM.out.mono ?_
  rintro e w3 ⟨v3, v4, rfl, s3, s4, b3⟩
  have K3 := Lib.hid (K2.out.below' b3)
  have B3 := Lib.hid (chain0 B2.out b3)
  have S3 := Lib.hid s3
  have S4 := Lib.hid s4
  obtain ⟨A7, c7, rfl, _⟩ := ns_cases s3
  obtain ⟨A8, c8, rfl, _⟩ := ns_cases s4
  clear s3 s4 b3
  have k3 := K3.out.c3
  have kl := K3.out.lt
  obtain ⟨sg, hsg⟩ : ∃ sg, sg = (sn && decide (n ≠ 0)) := ⟨_, rfl⟩
  have HSG := Lib.hid hsg
  rw [← hsg]
  clear hsg
  go_wp2_with fail
  have KE := ((K3.out.put 0 (.bool sg)).put 1 (.slice A7 (digs (n / Nat.gcd n d)).length c7)).put 2 (.slice A8 (digs (d / Nat.gcd n d)).length c8)
  have OE : OnlyG w.heap.size w3 _ := (((OnlyG.refl w.heap.size w3).put 0 (.bool sg)).put 1 (.slice A7 (digs (n / Nat.gcd n d)).length c7)).put 2 (.slice A8 (digs (d / Nat.gcd n d)).length c8)
  refine bodyPost_ret (v := .tuple #[.agg #[.bool sg, .slice A7 (digs (n / Nat.gcd n d)).length c7, .slice A8 (digs (d / Nat.gcd n d)).length c8], .int .i64 0]) (results_blk_tmp (p := 4) (u := 5) rfl rfl KE Tryd.underlying38 rfl (by kernel_rfl) rfl) rfl ⟨_, rfl, ⟨_, _, _, _, by rw [← HSG.out], ns_other K3.out (frac_free _ _ _ _ _ _ _) S3.out OE, ns_other K3.out (frac_free _ _ _ _ _ _ _) S4.out OE⟩, OE.below B3.out (Nat.le_refl _)⟩
end Fr
end Go.Proofs.YtfopmaeaclbknaaDoor
