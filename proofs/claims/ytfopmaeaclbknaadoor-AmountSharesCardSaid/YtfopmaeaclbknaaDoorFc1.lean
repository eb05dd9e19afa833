/- The reference's GCD, size and Make. -/
import Derived.Test.YtfopmaeaclbknaaDoorNat8
import Derived.Test.YtfopmaeaclbknaaDoorNatM
import Derived.Deep.LoopGhost
namespace Go.Proofs.YtfopmaeaclbknaaDoor
open Go.ChangeShapes Go.WideShapes Go.ChangeAt Go.RowKit
set_option linter.unusedVariables false
set_option linter.unusedSimpArgs false
namespace Fr
theorem gcd_step (a n : Nat) : Nat.gcd n (a % n) = Nat.gcd a n := by rw [Nat.gcd_comm a n, Nat.gcd_rec n a, Nat.gcd_comm]
set_option maxHeartbeats 2000000 in
theorem rgcd_any (a : List Nat) (n : Nat) (va vb : Value) (w : World) (hla : a.length ≤ 10000) (hlb : (digs n).length ≤ 10000) (hda : Dg a) (ha : NS w va a) (hb : NS w vb (digs n)) : Calls Tryd.prog 53 #[va, vb] w (NatPost (Nat.gcd (nat a) n) w) := by
  have HA := Lib.hid ha
  have HB := Lib.hid hb
  have HDA := Lib.hid hda
  have HLB := Lib.hid hlb
  obtain ⟨A1, c1, rfl, _, _, _⟩ := ns_cases ha
  obtain ⟨A2, c2, rfl, _, _, _⟩ := ns_cases hb
  clear ha hb hda hlb
  go_enter Tryd.func53, Tryd.ntmps53
  go_wp2_with fail
  go_loopg [0, 1] n (fun g s0 s1 wr => ∃ x : List Nat, x.length ≤ 10000 ∧ Hid (NS wr s0 x ∧ NS wr s1 (digs g)) ∧ Hid ((digs g).length ≤ 10000 ∧ Dg x ∧ Nat.gcd (nat x) g = Nat.gcd (nat a) n) ∧ Hid (Below w.heap.size w wr))
  case atStart => exact ⟨a, hla, ⟨HA.out, HB.out⟩, ⟨HLB.out, HDA.out, rfl⟩, Below.refl _ _⟩
  case round =>
    obtain ⟨x, hx, HN, HG, HB2⟩ := hrel
    obtain ⟨A3, c3, rfl, _⟩ := ns_cases HN.out.1
    obtain ⟨A4, c4, rfl, _⟩ := ns_cases HN.out.2
    by_cases h0 : gk = 0
    · subst h0
      have CT := trim_any x _ wr (by omega) HG.out.2.1 HN.out.1
      have HE : Hid (nat x = Nat.gcd (nat a) n) := by have := HG.out.2.2; rwa [Nat.gcd_zero_right] at this
      rw [HE.out] at CT
      have CT := Lib.hid CT
      have hl : (digs 0).length = 0 := rfl
      have hd : decide ((0 : Int) < ((digs 0).length : Int)) = false := by decide
      go_wp2_with fail
      refine CT.out.mono ?_
      rintro e w1 ⟨v1, rfl, s1, b1⟩
      have S1 := Lib.hid s1
      have B1 := Lib.hid (chain0 HB2.out b1)
      obtain ⟨A5, c5, rfl, _⟩ := ns_cases s1
      clear s1 b1
      go_wp2_with fail
      go_ret
      exact ⟨_, rfl, S1.out, B1.out⟩
    · have hl : 0 < (digs gk).length := by
        rcases Nat.eq_zero_or_pos (digs gk).length with h | h
        · exact absurd (digs_nil_iff.1 (List.eq_nil_of_length_eq_zero h)) h0
        · exact h
      have hd : decide ((0 : Int) < ((digs gk).length : Int)) = true := decide_eq_true (by omega)
      have CD := rdiv_any x (digs gk) _ _ wr hx HG.out.1 HG.out.2.1 (Dg.digs _) (by rw [nat_digs]; exact h0) HN.out.1 HN.out.2
      unfold DivPost at CD
      rw [nat_digs] at CD
      have CD := Lib.hid CD
      have HLT : Hid (nat x % gk < gk) := Nat.mod_lt _ (by omega)
      have HL2 : Hid ((digs gk).length ≤ 10000 ∧ (digs (nat x % gk)).length ≤ 10000) := ⟨HG.out.1, Nat.le_trans (digs_len_mono (Nat.le_of_lt HLT.out)) HG.out.1⟩
      have HG2 : Hid (Nat.gcd (nat (digs gk)) (nat x % gk) = Nat.gcd (nat a) n) := by show _ = _; rw [nat_digs, gcd_step]; exact HG.out.2.2
      clear h0
      go_wp2_with fail
      refine CD.out.mono ?_
      rintro e w1 ⟨vq, vr, rfl, s1, s2, b1⟩
      have S1 := Lib.hid s2
      have S2 := Lib.hid (HN.out.2.keep b1)
      have B1 := Lib.hid (chain0 HB2.out b1)
      obtain ⟨A5, c5, rfl, _⟩ := ns_cases s1
      obtain ⟨A6, c6, rfl, _⟩ := ns_cases s2
      clear s1 s2 b1
      go_wp2_with fail
      go_roundg (nat x % gk)
      case measure => exact HLT.out
      case rel => exact ⟨digs gk, HL2.out.1, ⟨S2.out, S1.out⟩, ⟨HL2.out.2, Dg.digs _, HG2.out⟩, B1⟩
/-- a number lies apart from a block that holds no digits -/
theorem ns_other {w w' : World} {g : Nat} {t : TypeId} {cs : Array Value} {v : Value} {l : List Nat} (hb : Blk w g t cs) (hc : ∀ (i : Nat) (d : Int), cs[i]? ≠ some (.int .u32 d)) (h : NS w v l) (o : OnlyG g w w') : NS w' v l := by
  obtain ⟨A, c, rfl, h1, h2, h3⟩ := ns_cases h
  obtain ⟨h0, _⟩ := h
  rcases Nat.eq_zero_or_pos l.length with hl | hl
  · exact ⟨h0, A, c, rfl, h1, h2, fun h => by omega⟩
  · obtain ⟨b, o', rfl, h5, h6⟩ := h3 hl
    have hne : b ≠ g := by
      rintro rfl
      have := h6 0 hl
      rw [hb.cell] at this
      exact hc _ _ this
    exact ns_mk (by rw [o.size]; exact h5) h1 h2 fun i hi => by rw [o.cell _ hne]; exact h6 i hi
theorem frac_free (b : Bool) (A1 A2 : Option Addr) (n1 c1 n2 c2 : Nat) : ∀ (i : Nat) (d : Int), (#[Value.bool b, .slice A1 n1 c1, .slice A2 n2 c2] : Array Value)[i]? ≠ some (.int .u32 d) := by
  intro i d
  match i with
  | 0 => simp
  | 1 => simp
  | 2 => simp
  | i + 3 => simp
/-- what Make answers -/
def MakePost (neg : Bool) (n d : Nat) (w : World) (e : Ending) (w' : World) : Prop := ∃ v1 v2, e = .returned (.tuple #[.agg #[.bool (neg && decide (n ≠ 0)), v1, v2], .int .i64 0]) ∧ NS w' v1 (digs (n / Nat.gcd n d)) ∧ NS w' v2 (digs (d / Nat.gcd n d)) ∧ Below w.heap.size w w'
set_option maxHeartbeats 2000000 in
theorem rmake_any (neg : Bool) (n d : Nat) (vn vd : Value) (w : World) (hln : (digs n).length ≤ 10000) (hld : (digs d).length ≤ 10000) (hd0 : d ≠ 0) (hn : NS w vn (digs n)) (hd : NS w vd (digs d)) : Calls Tryd.prog 69 #[.bool neg, vn, vd] w (MakePost neg n d w) := by
  have HN := Lib.hid hn
  have HD := Lib.hid hd
  have HLN := Lib.hid hln
  have HLD := Lib.hid hld
  have HD0 := Lib.hid hd0
  have HG0 : Hid (Nat.gcd n d ≠ 0 ∧ (digs (Nat.gcd n d)).length ≤ 10000) := by
    have h1 : 0 < Nat.gcd n d := Nat.gcd_pos_of_pos_right _ (by omega)
    exact ⟨by omega, Nat.le_trans (digs_len_mono (Nat.le_of_dvd (by omega) (Nat.gcd_dvd_right n d))) hld⟩
  have hl : 0 < (digs d).length := by
    rcases Nat.eq_zero_or_pos (digs d).length with h | h
    · exact absurd (digs_nil_iff.1 (List.eq_nil_of_length_eq_zero h)) hd0
    · exact h
  have q1 : (((digs d).length : Int) == 0) = false := beq_eq_false_iff_ne.2 (by omega)
  obtain ⟨ps, hps⟩ : ∃ ps : Bool, ps = decide (n ≠ 0) := ⟨_, rfl⟩
  have q2 : decide ((0 : Int) < ((digs n).length : Int)) = ps := by
    rw [hps, decide_eq_decide]
    constructor
    · rintro h rfl
      simp [digs_zero] at h
    · intro h
      rcases Nat.eq_zero_or_pos (digs n).length with h1 | h1
      · exact absurd (digs_nil_iff.1 (List.eq_nil_of_length_eq_zero h1)) h
      · omega
  have q3 : decide (0 < (digs n).length) = ps := by rw [← q2, decide_eq_decide]; omega
  unfold MakePost
  rw [← hps]
  have CG := fun w' (b : Below w.heap.size w w') => rgcd_any (digs n) d _ _ w' HLN.out HLD.out (Dg.digs _) (HN.out.keep b) (HD.out.keep b)
  rw [nat_digs] at CG
  have CG := Lib.hid CG
  obtain ⟨A1, c1, rfl, _, _, _⟩ := ns_cases hn
  obtain ⟨A2, c2, rfl, _, _, _⟩ := ns_cases hd
  clear hn hd hln hld hd0 hps
  go_enter Tryd.func69, Tryd.ntmps69
  go_wp2_with fail
  refine (CG.out _ (below_new w _)).mono ?_
  rintro e w1 ⟨vg, rfl, sg, b1⟩
  have K1 := Lib.hid ((Blk.new w 38 #[.bool false, .slice none 0 0, .slice none 0 0]).below' b1)
  have B1 := Lib.hid (chain1 (Below.refl w.heap.size w) b1)
  have G1 := Lib.hid sg
  have DN := rdiv_any (digs n) (digs (Nat.gcd n d)) _ _ w1 HLN.out HG0.out.2 (Dg.digs _) (Dg.digs _) (by rw [nat_digs]; exact HG0.out.1) (HN.out.keep B1.out) sg
  unfold DivPost at DN
  rw [nat_digs, nat_digs] at DN
  have DN := Lib.hid DN
  obtain ⟨A3, c3, rfl, _⟩ := ns_cases sg
  clear sg b1
  go_wp2_with fail
  refine DN.out.mono ?_
  rintro e w2 ⟨vq, vr, rfl, s1, s2, b2⟩
  have K2 := Lib.hid (K1.out.below' b2)
  have B2 := Lib.hid (chain0 B1.out b2)
  have G2 := Lib.hid (G1.out.keep b2)
  have Q2 := Lib.hid s1
  obtain ⟨A4, c4, rfl, _⟩ := ns_cases s1
  obtain ⟨A5, c5, rfl, _⟩ := ns_cases s2
  have DM := rdiv_any (digs d) (digs (Nat.gcd n d)) _ _ w2 HLD.out HG0.out.2 (Dg.digs _) (Dg.digs _) (by rw [nat_digs]; exact HG0.out.1) (HD.out.keep B2.out) G2.out
  unfold DivPost at DM
  rw [nat_digs, nat_digs] at DM
  have DM := Lib.hid DM
  clear s1 s2 b2
  go_wp2_with fail
  refine DM.out.mono ?_
  rintro e w3 ⟨vq, vr, rfl, s1, s2, b3⟩
  have K3 := Lib.hid (K2.out.below' b3)
  have B3 := Lib.hid (chain0 B2.out b3)
  have Q3 := Lib.hid (Q2.out.keep b3)
  have R3 := Lib.hid s1
  obtain ⟨A6, c6, rfl, _⟩ := ns_cases s1
  obtain ⟨A7, c7, rfl, _⟩ := ns_cases s2
  clear s1 s2 b3
  have k3 := K3.out.c3
  have kl := K3.out.lt
  cases neg
  · go_wp2_with fail
    have KE := ((K3.out.put 0 (.bool false)).put 1 (.slice A4 (digs (n / Nat.gcd n d)).length c4)).put 2 (.slice A6 (digs (d / Nat.gcd n d)).length c6)
    have OE : OnlyG w.heap.size w3 _ := (((OnlyG.refl w.heap.size w3).put 0 (.bool false)).put 1 (.slice A4 (digs (n / Nat.gcd n d)).length c4)).put 2 (.slice A6 (digs (d / Nat.gcd n d)).length c6)
    refine bodyPost_ret (v := .tuple #[.agg #[.bool false, .slice A4 (digs (n / Nat.gcd n d)).length c4, .slice A6 (digs (d / Nat.gcd n d)).length c6], .int .i64 0]) (results_blk_tmp (p := 6) (u := 7) rfl rfl KE Tryd.underlying38 rfl (by kernel_rfl) rfl) rfl ⟨_, _, rfl, ns_other K3.out (frac_free _ _ _ _ _ _ _) Q3.out OE, ns_other K3.out (frac_free _ _ _ _ _ _ _) R3.out OE, OE.below B3.out (Nat.le_refl _)⟩
  · go_wp2_with fail
    have KE := ((K3.out.put 0 (.bool ps)).put 1 (.slice A4 (digs (n / Nat.gcd n d)).length c4)).put 2 (.slice A6 (digs (d / Nat.gcd n d)).length c6)
    have OE : OnlyG w.heap.size w3 _ := (((OnlyG.refl w.heap.size w3).put 0 (.bool ps)).put 1 (.slice A4 (digs (n / Nat.gcd n d)).length c4)).put 2 (.slice A6 (digs (d / Nat.gcd n d)).length c6)
    refine bodyPost_ret (v := .tuple #[.agg #[.bool ps, .slice A4 (digs (n / Nat.gcd n d)).length c4, .slice A6 (digs (d / Nat.gcd n d)).length c6], .int .i64 0]) (results_blk_tmp (p := 6) (u := 7) rfl rfl KE Tryd.underlying38 rfl (by kernel_rfl) rfl) rfl ⟨_, _, rfl, ns_other K3.out (frac_free _ _ _ _ _ _ _) Q3.out OE, ns_other K3.out (frac_free _ _ _ _ _ _ _) R3.out OE, OE.below B3.out (Nat.le_refl _)⟩
end Fr
end Go.Proofs.YtfopmaeaclbknaaDoor
