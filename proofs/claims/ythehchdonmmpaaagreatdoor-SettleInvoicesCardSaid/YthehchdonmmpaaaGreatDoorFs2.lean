/- The program's GCD and Valid of numbers. Printed by gen_fs1.py. -/
import Derived.Test.YthehchdonmmpaaaGreatDoorFs0
import Derived.Test.YthehchdonmmpaaaGreatDoorPs08
namespace Go.Proofs.YthehchdonmmpaaaGreatDoor
open Go.ChangeShapes Go.WideShapes Go.ChangeAt Go.RowKit
set_option linter.unusedVariables false
set_option linter.unusedSimpArgs false
namespace Fr
theorem nnvalid (l : List Nat) (v : Value) (w : World) (b : Bool) (hl : l.length ≤ 1000) (hd : Dg l) (h : NS w v l) (hb : b = decide (l = digs (nat l))) : Calls Tryz.prog 60 #[v] w fun e w' => e = .returned (.bool b) ∧ w = w' := by
  have CT := Lib.hid (ntrim_any l v w (by omega) hd h)
  unfold TrimPost at CT
  obtain ⟨A, c, rfl, _, _, _⟩ := ns_cases h
  have q : (((digs (nat l)).length : Int) == (l.length : Int)) = b := by
    rw [hb]
    by_cases e : l = digs (nat l)
    · rw [decide_eq_true e, beq_iff_eq, ← e]
    · rw [decide_eq_false e, beq_eq_false_iff_ne]
      intro e2
      exact e (trim_full hd (by omega))
  clear h hb hd
  go_enter Tryz.func60, Tryz.ntmps60
  go_wp2_with fail
  refine CT.out.mono ?_
  rintro e w1 ⟨A3, c3, e1, rfl, s1, rfl⟩
  generalize (digs (nat l)).length = m at *
  go_wp2_with fail
  go_ret
  exact ⟨rfl, rfl⟩
set_option maxHeartbeats 2000000 in
theorem ngcd_any (a b : List Nat) (va vb : Value) (w : World) (hla : a.length ≤ 10000) (hlb : b.length ≤ 10000) (hda : Dg a) (hdb : Dg b) (ha : NS w va a) (hb : NS w vb b) : Calls Tryz.prog 63 #[va, vb] w (NatPost (Nat.gcd (nat a) (nat b)) w) := by
  have C1 := Lib.hid (nadd_any a [] va (.slice none 0 0) w (by omega) (by simp) hda (fun _ h => by cases h) ha (Sl.nil w 1))
  have C2 := Lib.hid (fun w' (b' : Below w.heap.size w w') => nadd_any b [] vb (.slice none 0 0) w' (by omega) (by simp) hdb (fun _ h => by cases h) (hb.keep b') (Sl.nil w' 1))
  have LA := Lib.hid (digs_len_le (nat_lt hda))
  have LB := Lib.hid (digs_len_le (nat_lt hdb))
  have HLA := Lib.hid hla
  have HLB := Lib.hid hlb
  rw [show nat ([] : List Nat) = 0 from rfl, Nat.add_zero] at C1 C2
  obtain ⟨A1, c1, rfl, _, _, _⟩ := ns_cases ha
  obtain ⟨A2, c2, rfl, _, _, _⟩ := ns_cases hb
  obtain ⟨n, hn⟩ : ∃ n, n = nat b := ⟨_, rfl⟩
  obtain ⟨m, hm⟩ : ∃ m, m = nat a := ⟨_, rfl⟩
  rw [← hm] at C1 LA
  rw [← hn] at C2 LB
  rw [← hm, ← hn]
  have LM : Hid ((digs m).length ≤ 10000) := Nat.le_trans LA.out hla
  have LN : Hid ((digs n).length ≤ 10000) := Nat.le_trans LB.out hlb
  clear ha hb hda hdb hn hm hla hlb LA LB HLA HLB
  go_enter Tryz.func63, Tryz.ntmps63
  go_wp2_with fail
  refine C1.out.mono ?_
  rintro e w1 ⟨v1, rfl, s1, b1⟩
  have B1 := Lib.hid b1
  obtain ⟨A3, c3, rfl, _⟩ := ns_cases s1
  have S1 := Lib.hid s1
  clear s1 b1
  go_wp2_with fail
  refine (C2.out w1 B1.out).mono ?_
  rintro e w2 ⟨v2, rfl, s2, b2⟩
  have B2 := Lib.hid (chain0 B1.out b2)
  replace S1 := Lib.hid (S1.out.keep b2)
  obtain ⟨A4, c4, rfl, _⟩ := ns_cases s2
  have S2 := Lib.hid s2
  clear s2 b2
  go_wp2_with fail
  go_loopg [0, 1] n (fun g s0 s1 wr => ∃ x : Nat, Hid (NS wr s0 (digs x) ∧ NS wr s1 (digs g)) ∧ Hid ((digs x).length ≤ 10000 ∧ (digs g).length ≤ 10000 ∧ Nat.gcd x g = Nat.gcd m n) ∧ Hid (Below w.heap.size w wr))
  case atStart => exact ⟨m, ⟨S1.out, S2.out⟩, ⟨LM.out, LN.out, rfl⟩, B2.out⟩
  case round =>
    obtain ⟨x, HN, HG, HB2⟩ := hrel
    obtain ⟨A5, c5, rfl, _⟩ := ns_cases HN.out.1
    obtain ⟨A6, c6, rfl, _⟩ := ns_cases HN.out.2
    by_cases h0 : gk = 0
    · subst h0
      have HE : Hid (x = Nat.gcd m n) := by have := HG.out.2.2; rwa [Nat.gcd_zero_right] at this
      have hl : (digs 0).length = 0 := rfl
      have hd : decide ((0 : Int) < ((digs 0).length : Int)) = false := by decide
      have HN1 := Lib.hid HN.out.1
      go_wp2_with fail
      go_ret
      exact ⟨_, rfl, by rw [← HE.out]; exact HN1.out, HB2.out⟩
    · have hl : 0 < (digs gk).length := by
        rcases Nat.eq_zero_or_pos (digs gk).length with h | h
        · exact absurd (digs_nil_iff.1 (List.eq_nil_of_length_eq_zero h)) h0
        · exact h
      have hd : decide ((0 : Int) < ((digs gk).length : Int)) = true := decide_eq_true (by omega)
      have CD := ndiv_any (digs x) (digs gk) _ _ wr (by have := HG.out.1; omega) (by have := HG.out.2.1; omega) (Dg.digs _) (Dg.digs _) (by rw [nat_digs]; exact h0) HN.out.1 HN.out.2
      unfold DivPost at CD
      rw [nat_digs, nat_digs] at CD
      have CD := Lib.hid CD
      have HLT : Hid (x % gk < gk) := Nat.mod_lt _ (by omega)
      have HL2 : Hid ((digs gk).length ≤ 10000 ∧ (digs (x % gk)).length ≤ 10000) := ⟨HG.out.2.1, Nat.le_trans (digs_len_mono (Nat.le_of_lt HLT.out)) HG.out.2.1⟩
      have HG2 : Hid (Nat.gcd gk (x % gk) = Nat.gcd m n) := by show _ = _; rw [gcd_step]; exact HG.out.2.2
      clear h0
      go_wp2_with fail
      refine CD.out.mono ?_
      rintro e w5 ⟨vq, vr, rfl, s1, s2, b1⟩
      have S3 := Lib.hid s2
      have S4 := Lib.hid (HN.out.2.keep b1)
      have B5 := Lib.hid (chain0 HB2.out b1)
      obtain ⟨A7, c7, rfl, _⟩ := ns_cases s1
      obtain ⟨A8, c8, rfl, _⟩ := ns_cases s2
      clear s1 s2 b1
      go_wp2_with fail
      go_roundg (x % gk)
      case measure => exact HLT.out
      case rel => exact ⟨gk, ⟨S4.out, S3.out⟩, ⟨HL2.out.1, HL2.out.2, HG2.out⟩, B5⟩
end Fr
end Go.Proofs.YthehchdonmmpaaaGreatDoor
