/- The reference's GCD, size and Make. The reference's size, New and FromInt. Contract of natural.small. natural.DivMod: a dividend below the divisor; a divisor of one digit. Printed by gen_nb6.py. -/
import Derived.Test.YthehchdonmmpaaaGreatDoorPs05
import Derived.Test.YthehchdonmmpaaaGreatDoorPs01
import Derived.Deep.LoopGhost
import Derived.Test.YthehchdonmmpaaaGreatDoorPs02
namespace Go.Proofs.YthehchdonmmpaaaGreatDoor
open Go.ChangeShapes Go.WideShapes Go.ChangeAt Go.RowKit
set_option linter.unusedVariables false
set_option linter.unusedSimpArgs false
namespace Fr
theorem gcd_step (a n : Nat) : Nat.gcd n (a % n) = Nat.gcd a n := by rw [Nat.gcd_comm a n, Nat.gcd_rec n a, Nat.gcd_comm]
set_option maxHeartbeats 2000000 in
theorem rgcd_any (a : List Nat) (n : Nat) (va vb : Value) (w : World) (hla : a.length ≤ 10000) (hlb : (digs n).length ≤ 10000) (hda : Dg a) (ha : NS w va a) (hb : NS w vb (digs n)) : Calls Tryz.prog 45 #[va, vb] w (NatPost (Nat.gcd (nat a) n) w) := by
  have HA := Lib.hid ha
  have HB := Lib.hid hb
  have HDA := Lib.hid hda
  have HLB := Lib.hid hlb
  obtain ⟨A1, c1, rfl, _, _, _⟩ := ns_cases ha
  obtain ⟨A2, c2, rfl, _, _, _⟩ := ns_cases hb
  clear ha hb hda hlb
  go_enter Tryz.func45, Tryz.ntmps45
  go_wp2_with fail
  go_loopg [0, 1] n (fun g s0 s1 wr => ∃ x : List Nat, x.length ≤ 10000 ∧ Hid (NS wr s0 x ∧ NS wr s1 (digs g)) ∧ Hid ((digs g).length ≤ 10000 ∧ Dg x ∧ Nat.gcd (nat x) g = Nat.gcd (nat a) n) ∧ Hid (Below w.heap.size w wr))
  case atStart => exact ⟨a, hla, ⟨HA.out, HB.out⟩, ⟨HLB.out, HDA.out, rfl⟩, Below.refl _ _⟩
  case round =>
    obtain ⟨x, hx, HN, HG, HB2⟩ := hrel
    obtain ⟨A3, c3, rfl, _⟩ := ns_cases HN.out.1
    obtain ⟨A4, c4, rfl, _⟩ := ns_cases HN.out.2
    by_cases h0 : gk = 0
    · subst h0
      have CT := trim_any x _ wr (by omega) HG.out.2.1 HN.out.1
      have HE : Hid (nat x = Nat.gcd (nat a) n) := by have := HG.out.2.2; rwa [Nat.gcd_zero_right] at this
      rw [HE.out] at CT
      have CT := Lib.hid CT
      have hl : (digs 0).length = 0 := rfl
      have hd : decide ((0 : Int) < ((digs 0).length : Int)) = false := by decide
      go_wp2_with fail
      refine CT.out.mono ?_
      rintro e w1 ⟨v1, rfl, s1, b1⟩
      have S1 := Lib.hid s1
      have B1 := Lib.hid (chain0 HB2.out b1)
      obtain ⟨A5, c5, rfl, _⟩ := ns_cases s1
      clear s1 b1
      go_wp2_with fail
      go_ret
      exact ⟨_, rfl, S1.out, B1.out⟩
    · have hl : 0 < (digs gk).length := by
        rcases Nat.eq_zero_or_pos (digs gk).length with h | h
        · exact absurd (digs_nil_iff.1 (List.eq_nil_of_length_eq_zero h)) h0
        · exact h
      have hd : decide ((0 : Int) < ((digs gk).length : Int)) = true := decide_eq_true (by omega)
      have CD := rdiv_any x (digs gk) _ _ wr hx HG.out.1 HG.out.2.1 (Dg.digs _) (by rw [nat_digs]; exact h0) HN.out.1 HN.out.2
      unfold DivPost at CD
      rw [nat_digs] at CD
      have CD := Lib.hid CD
      have HLT : Hid (nat x % gk < gk) := Nat.mod_lt _ (by omega)
      have HL2 : Hid ((digs gk).length ≤ 10000 ∧ (digs (nat x % gk)).length ≤ 10000) := ⟨HG.out.1, Nat.le_trans (digs_len_mono (Nat.le_of_lt HLT.out)) HG.out.1⟩
      have HG2 : Hid (Nat.gcd (nat (digs gk)) (nat x % gk) = Nat.gcd (nat a) n) := by show _ = _; rw [nat_digs, gcd_step]; exact HG.out.2.2
      clear h0
      go_wp2_with fail
      refine CD.out.mono ?_
      rintro e w1 ⟨vq, vr, rfl, s1, s2, b1⟩
      have S1 := Lib.hid s2
      have S2 := Lib.hid (HN.out.2.keep b1)
      have B1 := Lib.hid (chain0 HB2.out b1)
      obtain ⟨A5, c5, rfl, _⟩ := ns_cases s1
      obtain ⟨A6, c6, rfl, _⟩ := ns_cases s2
      clear s1 s2 b1
      go_wp2_with fail
      go_roundg (nat x % gk)
      case measure => exact HLT.out
      case rel => exact ⟨digs gk, HL2.out.1, ⟨S2.out, S1.out⟩, ⟨HL2.out.2, Dg.digs _, HG2.out⟩, B1⟩
/-- a number lies apart from a block that holds no digits -/
theorem ns_other {w w' : World} {g : Nat} {t : TypeId} {cs : Array Value} {v : Value} {l : List Nat} (hb : Blk w g t cs) (hc : ∀ (i : Nat) (d : Int), cs[i]? ≠ some (.int .u32 d)) (h : NS w v l) (o : OnlyG g w w') : NS w' v l := by
  obtain ⟨A, c, rfl, h1, h2, h3⟩ := ns_cases h
  obtain ⟨h0, _⟩ := h
  rcases Nat.eq_zero_or_pos l.length with hl | hl
  · exact ⟨h0, A, c, rfl, h1, h2, fun h => by omega⟩
  · obtain ⟨b, o', rfl, h5, h6⟩ := h3 hl
    have hne : b ≠ g := by
      rintro rfl
      have := h6 0 hl
      rw [hb.cell] at this
      exact hc _ _ this
    exact ns_mk (by rw [o.size]; exact h5) h1 h2 fun i hi => by rw [o.cell _ hne]; exact h6 i hi
theorem frac_free (b : Bool) (A1 A2 : Option Addr) (n1 c1 n2 c2 : Nat) : ∀ (i : Nat) (d : Int), (#[Value.bool b, .slice A1 n1 c1, .slice A2 n2 c2] : Array Value)[i]? ≠ some (.int .u32 d) := by
  intro i d
  match i with
  | 0 => simp
  | 1 => simp
  | 2 => simp
  | i + 3 => simp
/-- what Make answers -/
def MakePost (neg : Bool) (n d : Nat) (w : World) (e : Ending) (w' : World) : Prop := ∃ v1 v2, e = .returned (.tuple #[.agg #[.bool (neg && decide (n ≠ 0)), v1, v2], .int .i64 0]) ∧ NS w' v1 (digs (n / Nat.gcd n d)) ∧ NS w' v2 (digs (d / Nat.gcd n d)) ∧ Below w.heap.size w w'
set_option maxHeartbeats 2000000 in
theorem rmake_any (neg : Bool) (n d : Nat) (vn vd : Value) (w : World) (hln : (digs n).length ≤ 10000) (hld : (digs d).length ≤ 10000) (hd0 : d ≠ 0) (hn : NS w vn (digs n)) (hd : NS w vd (digs d)) : Calls Tryz.prog 74 #[.bool neg, vn, vd] w (MakePost neg n d w) := by
  have HN := Lib.hid hn
  have HD := Lib.hid hd
  have HLN := Lib.hid hln
  have HLD := Lib.hid hld
  have HD0 := Lib.hid hd0
  have HG0 : Hid (Nat.gcd n d ≠ 0 ∧ (digs (Nat.gcd n d)).length ≤ 10000) := by
    have h1 : 0 < Nat.gcd n d := Nat.gcd_pos_of_pos_right _ (by omega)
    exact ⟨by omega, Nat.le_trans (digs_len_mono (Nat.le_of_dvd (by omega) (Nat.gcd_dvd_right n d))) hld⟩
  have hl : 0 < (digs d).length := by
    rcases Nat.eq_zero_or_pos (digs d).length with h | h
    · exact absurd (digs_nil_iff.1 (List.eq_nil_of_length_eq_zero h)) hd0
    · exact h
  have q1 : (((digs d).length : Int) == 0) = false := beq_eq_false_iff_ne.2 (by omega)
  obtain ⟨ps, hps⟩ : ∃ ps : Bool, ps = decide (n ≠ 0) := ⟨_, rfl⟩
  have q2 : decide ((0 : Int) < ((digs n).length : Int)) = ps := by
    rw [hps, decide_eq_decide]
    constructor
    · rintro h rfl
      simp [digs_zero] at h
    · intro h
      rcases Nat.eq_zero_or_pos (digs n).length with h1 | h1
      · exact absurd (digs_nil_iff.1 (List.eq_nil_of_length_eq_zero h1)) h
      · omega
  have q3 : decide (0 < (digs n).length) = ps := by rw [← q2, decide_eq_decide]; omega
  unfold MakePost
  rw [← hps]
  have CG := fun w' (b : Below w.heap.size w w') => rgcd_any (digs n) d _ _ w' HLN.out HLD.out (Dg.digs _) (HN.out.keep b) (HD.out.keep b)
  rw [nat_digs] at CG
  have CG := Lib.hid CG
  obtain ⟨A1, c1, rfl, _, _, _⟩ := ns_cases hn
  obtain ⟨A2, c2, rfl, _, _, _⟩ := ns_cases hd
  clear hn hd hln hld hd0 hps
  go_enter Tryz.func74, Tryz.ntmps74
  go_wp2_with fail
  refine (CG.out _ (below_new w _)).mono ?_
  rintro e w1 ⟨vg, rfl, sg, b1⟩
  have K1 := Lib.hid ((Blk.new w 47 #[.bool false, .slice none 0 0, .slice none 0 0]).below' b1)
  have B1 := Lib.hid (chain1 (Below.refl w.heap.size w) b1)
  have G1 := Lib.hid sg
  have DN := rdiv_any (digs n) (digs (Nat.gcd n d)) _ _ w1 HLN.out HG0.out.2 (Dg.digs _) (Dg.digs _) (by rw [nat_digs]; exact HG0.out.1) (HN.out.keep B1.out) sg
  unfold DivPost at DN
  rw [nat_digs, nat_digs] at DN
  have DN := Lib.hid DN
  obtain ⟨A3, c3, rfl, _⟩ := ns_cases sg
  clear sg b1
  go_wp2_with fail
  refine DN.out.mono ?_
  rintro e w2 ⟨vq, vr, rfl, s1, s2, b2⟩
  have K2 := Lib.hid (K1.out.below' b2)
  have B2 := Lib.hid (chain0 B1.out b2)
  have G2 := Lib.hid (G1.out.keep b2)
  have Q2 := Lib.hid s1
  obtain ⟨A4, c4, rfl, _⟩ := ns_cases s1
  obtain ⟨A5, c5, rfl, _⟩ := ns_cases s2
  have DM := rdiv_any (digs d) (digs (Nat.gcd n d)) _ _ w2 HLD.out HG0.out.2 (Dg.digs _) (Dg.digs _) (by rw [nat_digs]; exact HG0.out.1) (HD.out.keep B2.out) G2.out
  unfold DivPost at DM
  rw [nat_digs, nat_digs] at DM
  have DM := Lib.hid DM
  clear s1 s2 b2
  go_wp2_with fail
  refine DM.out.mono ?_
  rintro e w3 ⟨vq, vr, rfl, s1, s2, b3⟩
  have K3 := Lib.hid (K2.out.below' b3)
  have B3 := Lib.hid (chain0 B2.out b3)
  have Q3 := Lib.hid (Q2.out.keep b3)
  have R3 := Lib.hid s1
  obtain ⟨A6, c6, rfl, _⟩ := ns_cases s1
  obtain ⟨A7, c7, rfl, _⟩ := ns_cases s2
  clear s1 s2 b3
  have k3 := K3.out.c3
  have kl := K3.out.lt
  cases neg
  · go_wp2_with fail
    have KE := ((K3.out.put 0 (.bool false)).put 1 (.slice A4 (digs (n / Nat.gcd n d)).length c4)).put 2 (.slice A6 (digs (d / Nat.gcd n d)).length c6)
    have OE : OnlyG w.heap.size w3 _ := (((OnlyG.refl w.heap.size w3).put 0 (.bool false)).put 1 (.slice A4 (digs (n / Nat.gcd n d)).length c4)).put 2 (.slice A6 (digs (d / Nat.gcd n d)).length c6)
    refine bodyPost_ret (v := .tuple #[.agg #[.bool false, .slice A4 (digs (n / Nat.gcd n d)).length c4, .slice A6 (digs (d / Nat.gcd n d)).length c6], .int .i64 0]) (results_blk_tmp (p := 6) (u := 7) rfl rfl KE Tryz.underlying47 rfl (by kernel_rfl) rfl) rfl ⟨_, _, rfl, ns_other K3.out (frac_free _ _ _ _ _ _ _) Q3.out OE, ns_other K3.out (frac_free _ _ _ _ _ _ _) R3.out OE, OE.below B3.out (Nat.le_refl _)⟩
  · go_wp2_with fail
    have KE := ((K3.out.put 0 (.bool ps)).put 1 (.slice A4 (digs (n / Nat.gcd n d)).length c4)).put 2 (.slice A6 (digs (d / Nat.gcd n d)).length c6)
    have OE : OnlyG w.heap.size w3 _ := (((OnlyG.refl w.heap.size w3).put 0 (.bool ps)).put 1 (.slice A4 (digs (n / Nat.gcd n d)).length c4)).put 2 (.slice A6 (digs (d / Nat.gcd n d)).length c6)
    refine bodyPost_ret (v := .tuple #[.agg #[.bool ps, .slice A4 (digs (n / Nat.gcd n d)).length c4, .slice A6 (digs (d / Nat.gcd n d)).length c6], .int .i64 0]) (results_blk_tmp (p := 6) (u := 7) rfl rfl KE Tryz.underlying47 rfl (by kernel_rfl) rfl) rfl ⟨_, _, rfl, ns_other K3.out (frac_free _ _ _ _ _ _ _) Q3.out OE, ns_other K3.out (frac_free _ _ _ _ _ _ _) R3.out OE, OE.below B3.out (Nat.le_refl _)⟩
end Fr
end Go.Proofs.YthehchdonmmpaaaGreatDoor
namespace Go.Proofs.YthehchdonmmpaaaGreatDoor
open Go.ChangeShapes Go.WideShapes Go.ChangeAt Go.RowKit
set_option linter.unusedVariables false
set_option linter.unusedSimpArgs false
namespace Fr
theorem digs_small {m : Nat} (h : m ≤ 9223372036854775808) : (digs m).length ≤ 2 := digs_len_le (by rw [Nat.pow_succ, Nat.pow_one, BB_eq]; omega)
theorem rsize_pos (m : Nat) (w : World) (hm : m < 9223372036854775808) : Calls Tryz.prog 75 #[.int .i64 (m : Int)] w (NatPost m w) := by
  have C := Lib.hid (fromUint_any m w (by rw [BB_eq]; omega))
  have h1 : decide ((m : Int) < 0) = false := decide_eq_false (by omega)
  have h2 : IntKind.u64.wrap (m : Int) = (m : Int) := IntWalk.u64_in _ (by omega)
  have h0 : (0 : Int) ≤ (m : Int) := by omega
  clear hm
  go_enter Tryz.func75, Tryz.ntmps75
  go_wp2_with fail
  refine C.out.mono ?_
  rintro e w1 ⟨v1, rfl, s1, b1⟩
  have S1 := Lib.hid s1
  have B1 := Lib.hid b1
  obtain ⟨A5, c5, rfl, _⟩ := ns_cases s1
  clear s1 b1
  go_wp2_with fail
  go_ret
  exact ⟨_, rfl, S1.out, B1.out⟩
theorem rsize_neg (m : Nat) (w : World) (hm : m < 9223372036854775808) : Calls Tryz.prog 75 #[.int .i64 (-((m : Int) + 1))] w (NatPost (m + 1) w) := by
  have C := Lib.hid (fromUint_any (m + 1) w (by rw [BB_eq]; omega))
  have h1 : decide (-((m : Int) + 1) < 0) = true := decide_eq_true (by omega)
  have h0 : (0 : Int) ≤ (m : Int) := by omega
  obtain ⟨z, hz⟩ : ∃ z : Int, z = -((m : Int) + 1) := ⟨_, rfl⟩
  rw [← hz] at h1 ⊢
  have e1 : IntKind.i64.wrap (z + 1) = -(m : Int) := by rw [IntWalk.i64_in _ (by omega)]; omega
  have e2 : IntKind.i64.wrap (-(-(m : Int))) = (m : Int) := by rw [IntWalk.i64_in _ (by omega)]; omega
  have e3 : IntKind.u64.wrap (m : Int) = (m : Int) := IntWalk.u64_in _ (by omega)
  have e4 : IntKind.u64.wrap ((m : Int) + 1) = ((m + 1 : Nat) : Int) := by rw [IntWalk.u64_in _ (by omega)]; omega
  have e5 : IntKind.i64.wrap (m : Int) = (m : Int) := IntWalk.i64_in _ (by omega)
  clear hm hz
  go_enter Tryz.func75, Tryz.ntmps75
  go_wp2_with fail
  refine C.out.mono ?_
  rintro e w1 ⟨v1, rfl, s1, b1⟩
  have S1 := Lib.hid s1
  have B1 := Lib.hid b1
  obtain ⟨A5, c5, rfl, _⟩ := ns_cases s1
  clear s1 b1
  go_wp2_with fail
  go_ret
  exact ⟨_, rfl, S1.out, B1.out⟩
theorem rsize_any (z : Int) (w : World) (h1 : -9223372036854775808 ≤ z) (h2 : z < 9223372036854775808) : Calls Tryz.prog 75 #[.int .i64 z] w (NatPost z.natAbs w) := by
  rcases Int.lt_or_le z 0 with h | h
  · obtain ⟨m, rfl⟩ : ∃ m : Nat, z = -((m : Int) + 1) := ⟨(-z - 1).toNat, by omega⟩
    have := rsize_neg m w (by omega)
    have e : (-((m : Int) + 1)).natAbs = m + 1 := by omega
    rwa [e]
  · obtain ⟨m, rfl⟩ := Int.eq_ofNat_of_zero_le h
    exact rsize_pos m w (by omega)
/-- a fraction in memory -/
def FracIs (w : World) (v : Value) (neg : Bool) (n d : Nat) : Prop := ∃ A1 c1 A2 c2, v = .agg #[.bool neg, .slice A1 (digs n).length c1, .slice A2 (digs d).length c2] ∧ NS w (.slice A1 (digs n).length c1) (digs n) ∧ NS w (.slice A2 (digs d).length c2) (digs d)
theorem FracIs.keep {w w' : World} {v : Value} {neg : Bool} {n d : Nat} (h : FracIs w v neg n d) (b : Below w.heap.size w w') : FracIs w' v neg n d := by
  obtain ⟨A1, c1, A2, c2, e, h1, h2⟩ := h
  exact ⟨A1, c1, A2, c2, e, h1.keep b, h2.keep b⟩
/-- what a function that makes a fraction and an error answers -/
def FracPost2 (neg : Bool) (n d : Nat) (w : World) (e : Ending) (w' : World) : Prop := ∃ v, e = .returned (.tuple #[v, .int .i64 0]) ∧ FracIs w' v neg n d ∧ Below w.heap.size w w'
def FracPost (neg : Bool) (n d : Nat) (w : World) (e : Ending) (w' : World) : Prop := ∃ v, e = .returned v ∧ FracIs w' v neg n d ∧ Below w.heap.size w w'
set_option maxHeartbeats 1000000 in
theorem rnew_any (x y : Int) (w : World) (hx1 : -9223372036854775808 ≤ x) (hx2 : x < 9223372036854775808) (hy1 : -9223372036854775808 ≤ y) (hy2 : y < 9223372036854775808) (hy0 : y ≠ 0) :
    Calls Tryz.prog 47 #[.int .i64 x, .int .i64 y] w (FracPost2 ((decide (x < 0) != decide (y < 0)) && decide (x.natAbs ≠ 0)) (x.natAbs / Nat.gcd x.natAbs y.natAbs) (y.natAbs / Nat.gcd x.natAbs y.natAbs) w) := by
  have CX := Lib.hid (fun w => rsize_any x w hx1 hx2)
  have CY := Lib.hid (fun w => rsize_any y w hy1 hy2)
  have hxs : x.natAbs ≤ 9223372036854775808 := by omega
  have hys : y.natAbs ≤ 9223372036854775808 := by omega
  have hy9 : y.natAbs ≠ 0 := by omega
  have HXS := Lib.hid (digs_small hxs)
  have HYS := Lib.hid (digs_small hys)
  have HY0 := Lib.hid hy9
  obtain ⟨sx, hsx⟩ : ∃ sx, sx = decide (x < 0) := ⟨_, rfl⟩
  obtain ⟨sy, hsy⟩ : ∃ sy, sy = decide (y < 0) := ⟨_, rfl⟩
  rw [← hsx, ← hsy]
  have q1 : decide (x < 0) = sx := hsx.symm
  have q2 : decide (y < 0) = sy := hsy.symm
  obtain ⟨sn, hsn⟩ : ∃ sn, sn = (sx != sy) := ⟨_, rfl⟩
  have q3 : (!(sx == sy)) = sn := hsn.symm
  rw [← hsn]
  clear hx1 hx2 hy1 hy2 hy0 hxs hys hy9 hsx hsy hsn
  generalize x.natAbs = n at *
  generalize y.natAbs = d at *
  go_enter Tryz.func47, Tryz.ntmps47
  go_wp2_with fail
  refine (CX.out _).mono ?_
  rintro e w1 ⟨v1, rfl, s1, b1⟩
  have K1 := Lib.hid ((Blk.new w 47 #[.bool false, .slice none 0 0, .slice none 0 0]).below' b1)
  have B1 := Lib.hid (chain1 (Below.refl w.heap.size w) b1)
  have S1 := Lib.hid s1
  obtain ⟨A5, c5, rfl, _⟩ := ns_cases s1
  clear s1 b1
  go_wp2_with fail
  refine (CY.out _).mono ?_
  rintro e w2 ⟨v2, rfl, s2, b2⟩
  have K2 := Lib.hid (K1.out.below' b2)
  have B2 := Lib.hid (chain0 B1.out b2)
  have S2 := Lib.hid (S1.out.keep b2)
  have T2 := Lib.hid s2
  obtain ⟨A6, c6, rfl, _⟩ := ns_cases s2
  clear s2 b2
  have CM := rmake_any sn n d _ _ w2 (by have := HXS.out; omega) (by have := HYS.out; omega) HY0.out S2.out T2.out
  unfold MakePost at CM
  have CM := Lib.hid CM
  go_wp2_with fail
  refine CM.out.mono ?_
  rintro e w3 ⟨v3, v4, rfl, s3, s4, b3⟩
  have K3 := Lib.hid (K2.out.below' b3)
  have B3 := Lib.hid (chain0 B2.out b3)
  have S3 := Lib.hid s3
  have S4 := Lib.hid s4
  obtain ⟨A7, c7, rfl, _⟩ := ns_cases s3
  obtain ⟨A8, c8, rfl, _⟩ := ns_cases s4
  clear s3 s4 b3
  have k3 := K3.out.c3
  have kl := K3.out.lt
  obtain ⟨sg, hsg⟩ : ∃ sg, sg = (sn && decide (n ≠ 0)) := ⟨_, rfl⟩
  have HSG := Lib.hid hsg
  rw [← hsg]
  clear hsg
  go_wp2_with fail
  have KE := ((K3.out.put 0 (.bool sg)).put 1 (.slice A7 (digs (n / Nat.gcd n d)).length c7)).put 2 (.slice A8 (digs (d / Nat.gcd n d)).length c8)
  have OE : OnlyG w.heap.size w3 _ := (((OnlyG.refl w.heap.size w3).put 0 (.bool sg)).put 1 (.slice A7 (digs (n / Nat.gcd n d)).length c7)).put 2 (.slice A8 (digs (d / Nat.gcd n d)).length c8)
  refine bodyPost_ret (v := .tuple #[.agg #[.bool sg, .slice A7 (digs (n / Nat.gcd n d)).length c7, .slice A8 (digs (d / Nat.gcd n d)).length c8], .int .i64 0]) (results_blk_tmp (p := 4) (u := 5) rfl rfl KE Tryz.underlying47 rfl (by kernel_rfl) rfl) rfl ⟨_, rfl, ⟨_, _, _, _, by rw [← HSG.out], ns_other K3.out (frac_free _ _ _ _ _ _ _) S3.out OE, ns_other K3.out (frac_free _ _ _ _ _ _ _) S4.out OE⟩, OE.below B3.out (Nat.le_refl _)⟩
end Fr
end Go.Proofs.YthehchdonmmpaaaGreatDoor
namespace Go.Proofs.YthehchdonmmpaaaGreatDoor
open Go.ChangeShapes Go.WideShapes Go.ChangeAt Go.RowKit
set_option linter.unusedVariables false
set_option linter.unusedSimpArgs false
namespace Fr
theorem drop_dg {l : List Nat} {k : Nat} (hk : k < l.length) : l.drop k = dg l k :: l.drop (k + 1) := by rw [List.drop_eq_getElem_cons hk, dg_in hk]
/-- one place of a quotient by a digit -/
theorem small_facts {x d r : Nat} (hx : x < B) (hd : d < B) (hr : r < d) : ∃ t q r2 : Nat, (t = x + B * r ∧ q * d + r2 = t) ∧ bits BinOp.or IntKind.u64 (IntKind.u64.wrap ((r : Int) * 4294967296)) (x : Int) = ((t : Nat) : Int) ∧ (t : Int) / (d : Int) = ((q : Nat) : Int) ∧ (t : Int) % (d : Int) = ((r2 : Nat) : Int) ∧ IntKind.u64.wrap ((q : Nat) : Int) = ((q : Nat) : Int) ∧ IntKind.u64.wrap ((r2 : Nat) : Int) = ((r2 : Nat) : Int) ∧ IntKind.u32.wrap ((q : Nat) : Int) = ((q : Nat) : Int) ∧ ((q : Nat) : Int) % 4294967296 = ((q : Nat) : Int) ∧ r2 < d ∧ q < B := by
  have h1 : (x + B * r) / d < B := Nat.div_lt_of_lt_mul (by
    have : B * r + B ≤ B * d := by rw [← Nat.mul_succ]; exact Nat.mul_le_mul_left _ hr
    rw [Nat.mul_comm d B]
    omega)
  have h2 : (x + B * r) % d < d := Nat.mod_lt _ (by omega)
  refine ⟨_, (x + B * r) / d, (x + B * r) % d, ⟨rfl, ?_⟩, or_hi hx (by omega), by simp, by simp, ?_, ?_, ?_, ?_, h2, h1⟩
  · rw [Nat.mul_comm]; exact Nat.div_add_mod _ _
  · exact u64w h1
  · exact u64w (by omega)
  · generalize (x + B * r) / d = q at *
    exact IntWalk.u32_in _ (by unfold B at h1; omega)
  · generalize (x + B * r) / d = q at *
    unfold B at h1
    omega
theorem small_step {x d r t q r2 H A : Nat} (h : H * d + r = A) (ht : t = x + B * r) (hq : q * d + r2 = t) : (q + B * H) * d + r2 = x + B * A := by
  subst h
  grind
/-- what small answers -/
def SmallPost (n d : Nat) (w : World) (e : Ending) (w' : World) : Prop := ∃ v, e = .returned (.tuple #[v, .int .u32 ((n % d : Nat) : Int)]) ∧ NS w' v (digs (n / d)) ∧ Below w.heap.size w w'
set_option maxHeartbeats 1000000 in
set_option maxRecDepth 100000 in
theorem nsmall_any (a : List Nat) (va : Value) (d : Nat) (w : World) (hla : a.length ≤ 50000) (hda : Dg a) (hd0 : 0 < d) (hd : d < B) (ha : NS w va a) : Calls Tryz.prog 100 #[va, .int .u32 (d : Int)] w (SmallPost (nat a) d w) := by
  obtain ⟨i0, hi0, hz0, hz1, hz2⟩ := info_parts u32_info
  have HDA := Lib.hid hda
  have HA := Lib.hid ha
  have HD := Lib.hid hd
  have ud := u64w hd
  have qd : ((d : Int) == 0) = false := beq_eq_false_iff_ne.2 (by omega)
  have qd2 : (d : Int) ≠ 0 := by omega
  have hdi : (0 : Int) < (d : Int) := by omega
  obtain ⟨A1, c1, rfl, _, _, _⟩ := ns_cases ha
  clear ha hda hd
  go_enter Tryz.func100, Tryz.ntmps100
  go_wp2_with (at_make; refine wpList_make_full _ rfl _ _ 45 rfl w.heap.size 53 i0 (.int .u32 0) 1 Tryz.underlying45 hi0 hz0 hz1 .i64 .i64 _ _ a.length rfl rfl (by omega) (by omega) (by rw [hz2]; omega) (by unfold maxLen; omega) (Nat.le_refl _) ?_)
  intro wm hown hgr
  have HR : Hid (Row wm w.heap.size w.heap.size 53 a.length (List.replicate a.length 0)) := Row.made' hown
  have BM : Hid (Below w.heap.size w wm) := (Below.refl _ _).grown hgr (Nat.le_refl _) (fun q hq => by simp at hq)
  obtain ⟨g, hg⟩ : ∃ g, g = w.heap.size := ⟨_, rfl⟩
  have HG := Lib.hid hg
  rw [← hg] at HR ⊢
  clear hown hgr hg
  go_wp2_with fail
  go_loopw [16, 7] (fun iv rv wr => ∃ i r : Nat, ∃ o : List Nat, i ≤ a.length ∧ r < d ∧ iv = .int .i64 (i : Int) ∧ rv = .int .u64 (r : Int) ∧ Hid (o.length = i ∧ Dg o ∧ nat o * d + r = nat (a.drop (a.length - i))) ∧ Hid (Row wr g g 53 a.length (List.replicate (a.length - i) 0 ++ o)) ∧ Hid (Below w.heap.size w wr)) (fun iv _ _ => a.length - (intOf iv).toNat)
  case atStart => exact ⟨0, 0, [], Nat.zero_le _, hd0, rfl, rfl, ⟨rfl, Dg.nil, by simp [nat]⟩, (by show Row _ _ _ _ _ _; simpa using HR.out), BM⟩
  case round =>
    obtain ⟨i, r, o, hi, hr, rfl, rfl, HI, HW, HB2⟩ := hrel
    have hi0' : (0 : Int) ≤ (i : Int) := by omega
    have hi5 : (i : Int) ≤ 50000 := by omega
    by_cases hik : i < a.length
    · have hdec : decide (i < a.length) = true := decide_eq_true hik
      have hdec1 : decide ((i : Int) < (a.length : Int)) = true := decide_eq_true (by omega)
      obtain ⟨k, hk⟩ : ∃ k, k = a.length - 1 - i := ⟨_, rfl⟩
      have hk1 : (a.length : Int) - 1 - (i : Int) = ((k : Nat) : Int) := by omega
      have hk0 : (0 : Int) ≤ (k : Int) := by omega
      have hk2 : (k : Int) < (a.length : Int) := by omega
      have HK : Hid (a.length - i = k + 1 ∧ a.length - (i + 1) = k ∧ k < a.length) := ⟨by omega, by omega, by omega⟩
      obtain ⟨b1, o1, e1, hb1, hc1⟩ := ns_cell (HA.out.keep HB2.out) (by omega)
      subst e1
      have d1 := hc1 k (by omega)
      have gl := HW.out.lt
      have gf := HW.out.free k
      have gc := HW.out.cell (i := k) (by omega)
      obtain ⟨t, q, r2, hq, f1, f2, f3, f4, f5, f6, f7, hr2, hq2⟩ := small_facts (dg_lt HDA.out k) HD.out hr
      have HN : Hid (nat (q :: o) * d + r2 = nat (a.drop (a.length - (i + 1)))) := by
        have h1 := HI.out.2.2
        rw [HK.out.1] at h1
        show (q + B * nat o) * d + r2 = _
        rw [HK.out.2.1, drop_dg HK.out.2.2]
        exact small_step h1 hq.1 hq.2
      have HR2 : Hid (Row (wr.setCell ⟨g, k, none⟩ (.int .u32 (q : Int))) g g 53 a.length (List.replicate (a.length - (i + 1)) 0 ++ (q :: o))) := by
        have := HW.out.put k q
        rw [HK.out.1, set_top] at this
        rw [HK.out.2.1]
        exact this
      have HB3 : Hid (Below w.heap.size w (wr.setCell ⟨g, k, none⟩ (.int .u32 (q : Int)))) := HW.out.below HB2.out (by have := HG.out; omega) _ _
      have HL := Lib.hid hq2
      have ua := u64w (dg_lt HDA.out k)
      have ht0 : (0 : Int) ≤ (t : Int) := by omega
      clear hc1 hq hq2 hk
      go_wp2_with fail
      go_region
      all_goals go_wp2_with fail
      go_roundw
      case rel => exact ⟨i + 1, r2, q :: o, by omega, hr2, by go_num, by rw [f3], ⟨by simp [HI.out.1], Dg.cons HL.out HI.out.2.1, HN.out⟩, HR2.out.drew, chain0 HB3.out (drewN_below _ 1)⟩
      case measure => simp [intOf]; omega
    · have hdec : decide (i < a.length) = false := decide_eq_false hik
      have hdec1 : decide ((i : Int) < (a.length : Int)) = false := decide_eq_false (by omega)
      obtain rfl : i = a.length := by omega
      have HE : Hid (nat o = nat a / d ∧ r = nat a % d) := by
        have h1 := HI.out.2.2
        rw [Nat.sub_self, List.drop_zero] at h1
        constructor
        · rw [← h1, Nat.mul_comm, Nat.mul_add_div hd0, Nat.div_eq_of_lt hr, Nat.add_zero]
        · rw [← h1, Nat.mul_comm, Nat.mul_add_mod, Nat.mod_eq_of_lt hr]
      have HR2 : Hid (Row wr g g 53 a.length o) := by
        have := HW.out
        rw [Nat.sub_self] at this
        exact this
      have CT := ntrim_any o _ wr (by rw [HI.out.1]; omega) HI.out.2.1 (by have := HR2.out.ns; have e9 := HI.out.1; rwa [← e9] at this)
      unfold TrimPost at CT
      rw [HE.out.1, HI.out.1] at CT
      have CT := Lib.hid CT
      have HRR : Hid (((r : Nat) : Int) = ((nat a % d : Nat) : Int)) := by show _ = _; rw [← HE.out.2]
      have hrB : (r : Int) < 4294967296 := by have := HD.out; unfold B at this; omega
      have hr0 : (0 : Int) ≤ (r : Int) := by omega
      go_wp2_with fail
      refine CT.out.mono ?_
      rintro e w1 ⟨_, _, _, rfl, s1, rfl⟩
      have S1 := Lib.hid s1
      clear s1
      go_wp2_with fail
      go_ret2
      exact ⟨_, by rw [← HRR.out]; rfl, S1.out, HB2.out⟩
end Fr
end Go.Proofs.YthehchdonmmpaaaGreatDoor
namespace Go.Proofs.YthehchdonmmpaaaGreatDoor
open Go.ChangeShapes Go.WideShapes Go.ChangeAt Go.RowKit
set_option linter.unusedVariables false
set_option linter.unusedSimpArgs false
namespace Fr
set_option maxHeartbeats 1000000 in
theorem ndiv_less (a b : List Nat) (va vb : Value) (w : World) (hla : a.length ≤ 50000) (hlb : b.length ≤ 50000) (hda : Dg a) (hdb : Dg b) (hb0 : nat b ≠ 0) (ha : NS w va a) (hb : NS w vb b) (hlt : nat a < nat b) : Calls Tryz.prog 89 #[va, vb] w (DivPost (nat a) (nat b) w) := by
  have CA := Lib.hid (ntrim_any a va w (by omega) hda ha)
  have CB := Lib.hid (ntrim_any b vb w (by omega) hdb hb)
  unfold TrimPost at CA CB
  obtain ⟨A1, c1, rfl, _, _, _⟩ := ns_cases ha
  obtain ⟨A2, c2, rfl, _, _, _⟩ := ns_cases hb
  have la := (digs_split hda).2
  have lb := (digs_split hdb).2
  clear ha hb hda hdb
  obtain ⟨x, hx⟩ : ∃ x, x = nat a := ⟨_, rfl⟩
  obtain ⟨y, hy⟩ : ∃ y, y = nat b := ⟨_, rfl⟩
  rw [← hx] at CA la ⊢ hlt
  rw [← hy] at CB lb hb0 ⊢ hlt
  clear hx hy
  have HP := Lib.hid (nat_digs x)
  have HQ := Lib.hid (nat_digs y)
  have DA := Lib.hid (Dg.digs x)
  have DB := Lib.hid (Dg.digs y)
  have HY := Lib.hid hb0
  have HC := Lib.hid (cmp_lt hlt)
  have hq0 : 0 < (digs y).length := by
    rcases Nat.eq_zero_or_pos (digs y).length with h | h
    · exact absurd (digs_zero_of h) hb0
    · exact h
  have HR : Hid (x / y = 0 ∧ x % y = x) := ⟨Nat.div_eq_of_lt hlt, Nat.mod_eq_of_lt hlt⟩
  have q1 : (((digs y).length : Int) == 0) = false := beq_eq_false_iff_ne.2 (by omega)
  clear hb0 hlt
  generalize digs x = p at *
  generalize hqq : digs y = q at *
  clear hqq
  go_enter Tryz.func89, Tryz.ntmps89
  go_wp2_with fail
  refine CA.out.mono ?_
  rintro e w1 ⟨A3, _, h1, rfl, s1, rfl⟩
  injection h1 with h1 _ _
  subst h1
  have S1 := Lib.hid s1
  clear s1
  go_wp2_with fail
  refine CB.out.mono ?_
  rintro e w1 ⟨A4, _, h1, rfl, s2, rfl⟩
  injection h1 with h1 _ _
  subst h1
  have S2 := Lib.hid s2
  clear s2
  have CC := Lib.hid (ncmp_any p q _ _ w (by omega) (by omega) DA.out DB.out S1.out S2.out)
  rw [HP.out, HQ.out, HC.out] at CC
  go_wp2_with fail
  refine CC.out.mono ?_
  rintro e w2 ⟨rfl, b2⟩
  have B2 := Lib.hid b2
  clear b2
  have CD := Lib.hid (nadd_any p [] _ _ w2 (by omega) (by simp) DA.out Dg.nil (S1.out.keep B2.out) (Sl.nil w2 1))
  rw [HP.out, show x + nat [] = x from rfl] at CD
  go_wp2_with fail
  refine CD.out.mono ?_
  rintro e w3 ⟨v3, rfl, s3, b3⟩
  have S3 := Lib.hid s3
  have B3 := Lib.hid (chain0 B2.out b3)
  obtain ⟨A5, c5, rfl, _⟩ := ns_cases s3
  clear s3 b3
  go_wp2_with fail
  go_ret3
  refine ⟨_, _, rfl, ?_, ?_, B3.out⟩
  · rw [HR.out.1]
    exact Sl.nil _ _
  · rw [HR.out.2]
    exact S3.out
set_option maxHeartbeats 1000000 in
theorem ndiv_small (a b : List Nat) (va vb : Value) (w : World) (hla : a.length ≤ 50000) (hlb : b.length ≤ 50000) (hda : Dg a) (hdb : Dg b) (hb0 : nat b ≠ 0) (ha : NS w va a) (hb : NS w vb b) (hle : nat b ≤ nat a) (hsm : nat b < B) : Calls Tryz.prog 89 #[va, vb] w (DivPost (nat a) (nat b) w) := by
  have CA := Lib.hid (ntrim_any a va w (by omega) hda ha)
  have CB := Lib.hid (ntrim_any b vb w (by omega) hdb hb)
  unfold TrimPost at CA CB
  obtain ⟨A1, c1, rfl, _, _, _⟩ := ns_cases ha
  obtain ⟨A2, c2, rfl, _, _, _⟩ := ns_cases hb
  have la := (digs_split hda).2
  have lb := (digs_split hdb).2
  clear ha hb hda hdb
  obtain ⟨x, hx⟩ : ∃ x, x = nat a := ⟨_, rfl⟩
  obtain ⟨y, hy⟩ : ∃ y, y = nat b := ⟨_, rfl⟩
  rw [← hx] at CA la ⊢ hle
  rw [← hy] at CB lb hb0 ⊢ hle hsm
  clear hx hy
  have HP := Lib.hid (nat_digs x)
  have HQ := Lib.hid (nat_digs y)
  have DA := Lib.hid (Dg.digs x)
  have DB := Lib.hid (Dg.digs y)
  have HY := Lib.hid hb0
  have hq0 : (digs y).length = 1 := by
    have h1 : (digs y).length ≤ 1 := digs_len_le (by rw [Nat.pow_one]; exact hsm)
    rcases Nat.eq_zero_or_pos (digs y).length with h | h
    · exact absurd (digs_zero_of h) hb0
    · omega
  have HD1 := Lib.hid (digs_one hq0)
  have HL1 := Lib.hid hq0
  obtain ⟨cv, HC, hcv⟩ : ∃ cv : Int, Hid (cmp x y = cv) ∧ 0 ≤ cv := ⟨_, rfl, cmp_ge hle⟩
  have hcd : decide (cv < 0) = false := decide_eq_false (by omega)
  have hy0 : 0 < y := by omega
  have HSM := Lib.hid hsm
  rw [hq0] at CB
  clear hb0 hle hsm hcv
  generalize digs x = p at *
  have lq : (digs y).length ≤ 50000 := by omega
  generalize hqq : digs y = q at *
  clear hqq hq0
  go_enter Tryz.func89, Tryz.ntmps89
  go_wp2_with fail
  refine CA.out.mono ?_
  rintro e w1 ⟨A3, _, h1, rfl, s1, rfl⟩
  injection h1 with h1 _ _
  subst h1
  have S1 := Lib.hid s1
  clear s1
  go_wp2_with fail
  refine CB.out.mono ?_
  rintro e w1 ⟨A4, _, h1, rfl, s2, rfl⟩
  injection h1 with h1 _ _
  subst h1
  have S2 := Lib.hid s2
  clear s2
  have hl0 : 0 < q.length := by have := HL1.out; omega
  have CC := Lib.hid (ncmp_any p q _ _ w (by omega) lq DA.out DB.out S1.out S2.out)
  rw [HP.out, HQ.out, HC.out] at CC
  go_wp2_with fail
  refine CC.out.mono ?_
  rintro e w2 ⟨rfl, b2⟩
  have B2 := Lib.hid b2
  clear b2
  obtain ⟨g4, o4, e4, hg4, hc4⟩ := ns_cell (S2.out.keep B2.out) hl0
  subst e4
  have c4 : w2.cell? ⟨g4, o4, none⟩ = some (.int .u32 (y : Int)) := by
    have := hc4 0 hl0
    rw [← HD1.out] at this
    exact this
  clear hc4 hl0 lq
  have CD := Lib.hid (nsmall_any p _ y w2 (by omega) DA.out hy0 HSM.out (S1.out.keep B2.out))
  rw [HP.out] at CD
  go_wp2_with fail
  refine CD.out.mono ?_
  rintro e w3 ⟨v3, rfl, s3, b3⟩
  have S3 := Lib.hid s3
  have B3 := Lib.hid (chain0 B2.out b3)
  obtain ⟨A5, c5, rfl, _⟩ := ns_cases s3
  clear s3 b3
  obtain ⟨r, hr⟩ : ∃ r, r = x % y := ⟨_, rfl⟩
  have hrB : r < B := by rw [hr]; exact Nat.lt_trans (Nat.mod_lt _ hy0) HSM.out
  rw [← hr]
  have HRR := Lib.hid hr
  have ur := u64w hrB
  have CE := Lib.hid (nfromUint_any r w3 (Nat.lt_of_lt_of_le hrB (by decide)))
  clear hr hrB
  go_wp2_with fail
  refine CE.out.mono ?_
  rintro e w4 ⟨v4, rfl, s4, b4⟩
  have S4 := Lib.hid s4
  have B4 := Lib.hid (chain0 B3.out b4)
  have S5 := Lib.hid (S3.out.keep b4)
  obtain ⟨A6, c6, rfl, _⟩ := ns_cases s4
  clear s4 b4
  go_wp2_with fail
  go_ret3
  exact ⟨_, _, rfl, S5.out, by rw [← HRR.out]; exact S4.out, B4.out⟩
end Fr
end Go.Proofs.YthehchdonmmpaaaGreatDoor
