/- The program's fraction.round, Ceil, Sign and amount.Up. Printed by gen_fp1.py. -/
import Derived.Test.YtfopmaeaclbknaaDoorFc2
import Derived.Test.YtfopmaeaclbknaaDoorNb6
import Derived.Test.YtfopmaeaclbknaaDoorNb7
import Derived.Test.YtfopmaeaclbknaaDoorSh2
import Derived.Deep.CutBlock
namespace Go.Proofs.YtfopmaeaclbknaaDoor
open Go.ChangeShapes Go.WideShapes Go.ChangeAt Go.RowKit
set_option linter.unusedVariables false
set_option linter.unusedSimpArgs false
namespace Fr
theorem ndiv_any (a b : List Nat) (va vb : Value) (w : World) (hla : a.length ≤ 50000) (hlb : b.length ≤ 50000) (hda : Dg a) (hdb : Dg b) (hb0 : nat b ≠ 0) (ha : NS w va a) (hb : NS w vb b) : Calls Tryd.prog 102 #[va, vb] w (DivPost (nat a) (nat b) w) := by
  by_cases h1 : nat a < nat b
  · exact ndiv_less a b va vb w hla hlb hda hdb hb0 ha hb h1
  · by_cases h2 : nat b < B
    · exact ndiv_small a b va vb w hla hlb hda hdb hb0 ha hb (by omega) h2
    · exact ndiv_long a b va vb w hla hlb hda hdb hb0 ha hb (by omega) (by omega)
/-- a quotient, rounded up -/
def ceilN (n d : Nat) : Nat := n / d + if n % d = 0 then 0 else 1
/-- what a function that makes a number and says whether answers -/
def IntPost (v : Int) (b : Bool) (w : World) (e : Ending) (w' : World) : Prop := e = .returned (.tuple #[.int .i64 v, .bool b]) ∧ Below w.heap.size w w'
def CeilPost (n d : Nat) (w : World) (e : Ending) (w' : World) : Prop := ∃ v b, IntPost v b w e w' ∧ (ceilN n d < 9223372036854775808 → v = ((ceilN n d : Nat) : Int) ∧ b = true) ∧ (9223372036854775808 ≤ ceilN n d → v = 0 ∧ b = false)
def SomePost (w : World) (e : Ending) (w' : World) : Prop := ∃ v b, IntPost v b w e w'
theorem nuint_any (n : Nat) (v : Value) (w : World) (hl : (digs n).length ≤ 100000) (h : NS w v (digs n)) : ∃ (u : Nat) (b : Bool), (u < B * B ∧ (n < B * B → u = n ∧ b = true) ∧ (B * B ≤ n → b = false)) ∧ Calls Tryd.prog 105 #[v] w fun e w' => e = .returned (.tuple #[.int .u64 (u : Int), .bool b]) ∧ Below w.heap.size w w' := by
  by_cases hn : n < B * B
  · refine ⟨n, true, ⟨hn, fun _ => ⟨rfl, rfl⟩, fun h => by omega⟩, ?_⟩
    have := nuint_yes (digs n) v w hl (Dg.digs n) h (by rw [nat_digs]; exact hn)
    rwa [nat_digs] at this
  · refine ⟨0, false, ⟨by decide, fun h => absurd h hn, fun _ => rfl⟩, ?_⟩
    have := nuint_no (digs n) v w hl (Dg.digs n) h (by rw [nat_digs]; omega)
    exact this.mono fun _ _ ⟨he, hw⟩ => ⟨he, by subst hw; exact Below.refl _ _⟩
theorem digs_pos_len {n : Nat} (h : n ≠ 0) : 0 < (digs n).length := by
  rcases Nat.eq_zero_or_pos (digs n).length with h1 | h1
  · exact absurd (digs_zero_of h1) h
  · exact h1
set_option maxHeartbeats 2000000 in
set_option maxRecDepth 100000 in
theorem nround_pos (A1 A2 : Option Addr) (c1 c2 n d : Nat) (w : World) (hln : (digs n).length ≤ 40000) (hld : (digs d).length ≤ 40000) (hd0 : d ≠ 0) (hn : NS w (.slice A1 (digs n).length c1) (digs n)) (hd : NS w (.slice A2 (digs d).length c2) (digs d)) : Calls Tryd.prog 75 #[.agg #[.bool false, .slice A1 (digs n).length c1, .slice A2 (digs d).length c2], .bool true] w (CeilPost n d w) := by
  have hd1 := digs_pos_len hd0
  have HD := Lib.hid hd
  have HN := Lib.hid hn
  have HD0 := Lib.hid hd0
  have HLN := Lib.hid hln
  have HLD := Lib.hid hld
  have K0 : Hid (Blk (w.alloc (.cells #[.bool false, .slice A1 (digs n).length c1, .slice A2 (digs d).length c2] 38)) w.heap.size 38 #[.bool false, .slice A1 (digs n).length c1, .slice A2 (digs d).length c2]) := Blk.new w _ _
  have B0 : Hid (Below w.heap.size w (w.alloc (.cells #[.bool false, .slice A1 (digs n).length c1, .slice A2 (digs d).length c2] 38))) := below_new w _
  clear hn hd hd0 hln hld
  go_enter Tryd.func75, Tryd.ntmps75
  go_upto_region 1 with fail
  generalize w.alloc (.cells #[.bool false, .slice A1 (digs n).length c1, .slice A2 (digs d).length c2] 38) = w1 at *
  have k1 := K0.out.c3
  have CD := ndiv_any (digs n) (digs d) _ _ w1 (by have := HLN.out; omega) (by have := HLD.out; omega) (Dg.digs _) (Dg.digs _) (by rw [nat_digs]; exact HD0.out) (HN.out.keep B0.out) (HD.out.keep B0.out)
  unfold DivPost at CD
  rw [nat_digs, nat_digs] at CD
  have CD := Lib.hid CD
  go_wp2_with fail
  refine CD.out.mono ?_
  rintro e w2 ⟨vq, vr, rfl, s1, s2, b2⟩
  have B2 := Lib.hid (chain0 B0.out b2)
  have K2 := Lib.hid (K0.out.below' b2)
  have Q2 := Lib.hid s1
  obtain ⟨A4, c4, rfl, _⟩ := ns_cases s1
  obtain ⟨A5, c5, rfl, _⟩ := ns_cases s2
  have HQL : Hid ((digs (n / d)).length ≤ 40000) := Nat.le_trans (digs_len_mono (Nat.div_le_self n d)) HLN.out
  clear s1 s2 b2 k1
  have k2 := K2.out.c3
  by_cases hr : n % d = 0
  · have hce : ceilN n d = n / d := by unfold ceilN; rw [if_pos hr, Nat.add_zero]
    have HCE := Lib.hid hce
    have hl0 : (digs (n % d)).length = 0 := by rw [hr]; rfl
    have g1 : decide ((0 : Int) < ((digs (n % d)).length : Int)) = false := decide_eq_false (by omega)
    have g2 : decide (0 < (digs (n % d)).length) = false := decide_eq_false (by omega)
    obtain ⟨u, b, hu, CU⟩ := nuint_any (n / d) _ w2 (by have := HQL.out; omega) Q2.out
    have CU := Lib.hid CU
    clear hr hce hl0
    generalize n / d = q at *
    by_cases hb : q < B * B
    · obtain ⟨rfl, rfl⟩ := hu.2.1 hb
      by_cases hlt : u < 9223372036854775808
      · have HLT := Lib.hid hlt
        have t1 : decide ((u : Int) < 9223372036854775808) = true := decide_eq_true (by omega)
        have t2 : IntKind.i64.wrap (u : Int) = (u : Int) := IntWalk.i64_in _ (by omega)
        clear hu hb hlt
        go_wp2_with fail
        refine CU.out.mono ?_
        rintro e w5 ⟨rfl, b5⟩
        have B5 := Lib.hid (chain0 B2.out b5)
        have k5 := (K2.out.below' b5).c3
        clear b5
        go_wp2_with fail
        go_ret2
        exact ⟨_, _, ⟨rfl, B5.out⟩, fun _ => ⟨by rw [HCE.out], rfl⟩, fun h => absurd HLT.out (by rw [HCE.out] at h; omega)⟩
      · have HLT := Lib.hid hlt
        have t1 : decide ((u : Int) < 9223372036854775808) = false := decide_eq_false (by omega)
        clear hu hb hlt
        go_wp2_with fail
        refine CU.out.mono ?_
        rintro e w5 ⟨rfl, b5⟩
        have B5 := Lib.hid (chain0 B2.out b5)
        have k5 := (K2.out.below' b5).c3
        clear b5
        go_wp2_with fail
        go_ret2
        exact ⟨_, _, ⟨rfl, B5.out⟩, fun h => absurd (by rw [HCE.out] at h; exact h) HLT.out, fun _ => ⟨rfl, rfl⟩⟩
    · obtain rfl := hu.2.2 (by omega)
      have HLT : Hid (9223372036854775808 ≤ q) := by show _ ≤ _; rw [BB_eq] at hb; omega
      clear hu hb
      go_wp2_with fail
      refine CU.out.mono ?_
      rintro e w5 ⟨rfl, b5⟩
      have B5 := Lib.hid (chain0 B2.out b5)
      clear b5
      go_wp2_with fail
      go_ret2
      exact ⟨_, _, ⟨rfl, B5.out⟩, fun h => absurd HLT.out (by rw [HCE.out] at h; omega), fun _ => ⟨rfl, rfl⟩⟩
  · have hce : ceilN n d = n / d + 1 := by unfold ceilN; rw [if_neg hr]
    have HCE := Lib.hid hce
    have hl0 := digs_pos_len hr
    have g1 : decide ((0 : Int) < ((digs (n % d)).length : Int)) = true := decide_eq_true (by omega)
    have g2 : decide (0 < (digs (n % d)).length) = true := decide_eq_true (by omega)
    have C1 := Lib.hid (nfromUint_any 1 w2 (by decide))
    clear hr hce hl0
    generalize n / d = q at *
    go_wp2_with fail
    refine C1.out.mono ?_
    rintro e w3 ⟨v3, rfl, s3, b3⟩
    have B3 := Lib.hid (chain0 B2.out b3)
    have K3 := Lib.hid (K2.out.below' b3)
    have CA := nadd_any (digs q) (digs 1) _ _ w3 (by have := HQL.out; omega) (by decide) (Dg.digs _) (Dg.digs _) (Q2.out.keep b3) s3
    rw [nat_digs, nat_digs] at CA
    have CA := Lib.hid CA
    obtain ⟨A6, c6, rfl, _⟩ := ns_cases s3
    clear s3 b3 k2
    go_wp2_with fail
    refine CA.out.mono ?_
    rintro e w4 ⟨v4, rfl, s4, b4⟩
    have B4 := Lib.hid (chain0 B3.out b4)
    have K4 := Lib.hid (K3.out.below' b4)
    have HL4 : Hid ((digs (q + 1)).length ≤ 40001) := digs_add_len HQL.out (by decide)
    obtain ⟨u, b, hu, CU⟩ := nuint_any (q + 1) _ w4 (by have := HL4.out; omega) s4
    have CU := Lib.hid CU
    obtain ⟨A7, c7, rfl, _⟩ := ns_cases s4
    clear s4 b4
    have k2 := K4.out.c3
    generalize q + 1 = q at *
    by_cases hb : q < B * B
    · obtain ⟨rfl, rfl⟩ := hu.2.1 hb
      by_cases hlt : u < 9223372036854775808
      · have HLT := Lib.hid hlt
        have t1 : decide ((u : Int) < 9223372036854775808) = true := decide_eq_true (by omega)
        have t2 : IntKind.i64.wrap (u : Int) = (u : Int) := IntWalk.i64_in _ (by omega)
        clear hu hb hlt
        go_wp2_with fail
        refine CU.out.mono ?_
        rintro e w5 ⟨rfl, b5⟩
        have B5 := Lib.hid (chain0 B4.out b5)
        have k5 := (K4.out.below' b5).c3
        clear b5
        go_wp2_with fail
        go_ret2
        exact ⟨_, _, ⟨rfl, B5.out⟩, fun _ => ⟨by rw [HCE.out], rfl⟩, fun h => absurd HLT.out (by rw [HCE.out] at h; omega)⟩
      · have HLT := Lib.hid hlt
        have t1 : decide ((u : Int) < 9223372036854775808) = false := decide_eq_false (by omega)
        clear hu hb hlt
        go_wp2_with fail
        refine CU.out.mono ?_
        rintro e w5 ⟨rfl, b5⟩
        have B5 := Lib.hid (chain0 B4.out b5)
        have k5 := (K4.out.below' b5).c3
        clear b5
        go_wp2_with fail
        go_ret2
        exact ⟨_, _, ⟨rfl, B5.out⟩, fun h => absurd (by rw [HCE.out] at h; exact h) HLT.out, fun _ => ⟨rfl, rfl⟩⟩
    · obtain rfl := hu.2.2 (by omega)
      have HLT : Hid (9223372036854775808 ≤ q) := by show _ ≤ _; rw [BB_eq] at hb; omega
      clear hu hb
      go_wp2_with fail
      refine CU.out.mono ?_
      rintro e w5 ⟨rfl, b5⟩
      have B5 := Lib.hid (chain0 B4.out b5)
      clear b5
      go_wp2_with fail
      go_ret2
      exact ⟨_, _, ⟨rfl, B5.out⟩, fun h => absurd HLT.out (by rw [HCE.out] at h; omega), fun _ => ⟨rfl, rfl⟩⟩
set_option maxHeartbeats 2000000 in
set_option maxRecDepth 100000 in
theorem nround_neg (A1 A2 : Option Addr) (c1 c2 n d : Nat) (w : World) (hln : (digs n).length ≤ 40000) (hld : (digs d).length ≤ 40000) (hd0 : d ≠ 0) (hn : NS w (.slice A1 (digs n).length c1) (digs n)) (hd : NS w (.slice A2 (digs d).length c2) (digs d)) : Calls Tryd.prog 75 #[.agg #[.bool true, .slice A1 (digs n).length c1, .slice A2 (digs d).length c2], .bool true] w (SomePost w) := by
  have hd1 := digs_pos_len hd0
  have HD := Lib.hid hd
  have HN := Lib.hid hn
  have HD0 := Lib.hid hd0
  have HLN := Lib.hid hln
  have HLD := Lib.hid hld
  have K0 : Hid (Blk (w.alloc (.cells #[.bool true, .slice A1 (digs n).length c1, .slice A2 (digs d).length c2] 38)) w.heap.size 38 #[.bool true, .slice A1 (digs n).length c1, .slice A2 (digs d).length c2]) := Blk.new w _ _
  have B0 : Hid (Below w.heap.size w (w.alloc (.cells #[.bool true, .slice A1 (digs n).length c1, .slice A2 (digs d).length c2] 38))) := below_new w _
  clear hn hd hd0 hln hld
  go_enter Tryd.func75, Tryd.ntmps75
  go_upto_region 1 with fail
  generalize w.alloc (.cells #[.bool true, .slice A1 (digs n).length c1, .slice A2 (digs d).length c2] 38) = w1 at *
  have k1 := K0.out.c3
  have CD := ndiv_any (digs n) (digs d) _ _ w1 (by have := HLN.out; omega) (by have := HLD.out; omega) (Dg.digs _) (Dg.digs _) (by rw [nat_digs]; exact HD0.out) (HN.out.keep B0.out) (HD.out.keep B0.out)
  unfold DivPost at CD
  rw [nat_digs, nat_digs] at CD
  have CD := Lib.hid CD
  go_wp2_with fail
  refine CD.out.mono ?_
  rintro e w2 ⟨vq, vr, rfl, s1, s2, b2⟩
  have B2 := Lib.hid (chain0 B0.out b2)
  have K2 := Lib.hid (K0.out.below' b2)
  have Q2 := Lib.hid s1
  obtain ⟨A4, c4, rfl, _⟩ := ns_cases s1
  obtain ⟨A5, c5, rfl, _⟩ := ns_cases s2
  have HQL : Hid ((digs (n / d)).length ≤ 40000) := Nat.le_trans (digs_len_mono (Nat.div_le_self n d)) HLN.out
  clear s1 s2 b2 k1
  have k2 := K2.out.c3
  obtain ⟨rb, hrb⟩ : ∃ rb, rb = decide ((0 : Int) < ((digs (n % d)).length : Int)) := ⟨_, rfl⟩
  have g1 : decide ((0 : Int) < ((digs (n % d)).length : Int)) = rb := hrb.symm
  have g2 : decide (0 < (digs (n % d)).length) = rb := by rw [hrb, decide_eq_decide]; omega
  obtain ⟨u, b, hu, CU⟩ := nuint_any (n / d) _ w2 (by have := HQL.out; omega) Q2.out
  have CU := Lib.hid CU
  have hu2 := hu.1
  rw [BB_eq] at hu2
  have HU := Lib.hid hu2
  clear hrb hu hu2
  generalize n / d = q at *
  cases b
  all_goals cases rb
  all_goals
    go_wp2_with fail
    refine CU.out.mono ?_
    rintro e w5 ⟨rfl, b5⟩
    have B5 := Lib.hid (chain0 B2.out b5)
    have k5 := (K2.out.below' b5).c3
    clear b5
    by_cases hlt : u ≤ 9223372036854775808
    · have t1 : decide ((u : Int) ≤ 9223372036854775808) = true := decide_eq_true (by omega)
      clear hlt
      go_wp2_with fail
      go_ret2
      exact ⟨_, _, rfl, B5.out⟩
    · have t1 : decide ((u : Int) ≤ 9223372036854775808) = false := decide_eq_false (by omega)
      clear hlt
      go_wp2_with fail
      go_ret2
      exact ⟨_, _, rfl, B5.out⟩
end Fr
end Go.Proofs.YtfopmaeaclbknaaDoor
