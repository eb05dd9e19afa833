/- The reference's Valid, Floor and Ceil of fractions; the reference's Up. Printed by gen_fv2.py. The reference's Ceil of fractions; the reference's Up. Printed by gen_fv3.py. The reference's FromInt, Neg and Add of fractions. Printed by gen_fv4.py. Contracts of the reference's scale, shift and Mul. Printed by gen_nat5.py. -/
import Derived.Test.YthehchdonmmpaaaGreatDoorPs14
import Derived.Deep.RegionHeld3
import Derived.Test.YthehchdonmmpaaaGreatDoorPs01
import Derived.Test.YthehchdonmmpaaaGreatDoorPs04
namespace Go.Proofs.YthehchdonmmpaaaGreatDoor
open Go.ChangeShapes Go.WideShapes Go.ChangeAt Go.RowKit
set_option linter.unusedVariables false
set_option linter.unusedSimpArgs false
namespace Fr
/-- what a function that rounds a number answers -/
def ValPost (q : Nat) (w : World) (e : Ending) (w' : World) : Prop := ∃ v b, IntPost v b w e w' ∧ (q < 9223372036854775808 → v = (q : Int) ∧ b = true) ∧ (9223372036854775808 ≤ q → v = 0 ∧ b = false)
/-- what Valid says, where it says yes -/
def Good (neg : Bool) (l1 l2 : List Nat) : Prop := l1 = digs (nat l1) ∧ l2 = digs (nat l2) ∧ nat l2 ≠ 0 ∧ (neg = true → nat l1 ≠ 0)
def BPost (P : Prop) (w : World) (e : Ending) (w' : World) : Prop := ∃ b, e = .returned (.bool b) ∧ (b = true → P) ∧ Below w.heap.size w w'
set_option maxHeartbeats 2000000 in
theorem rfvalid (neg : Bool) (A1 A2 : Option Addr) (c1 c2 : Nat) (l1 l2 : List Nat) (w : World) (hl1 : l1.length ≤ 1000) (hl2 : l2.length ≤ 1000) (hd1 : Dg l1) (hd2 : Dg l2) (hn : NS w (.slice A1 l1.length c1) l1) (hd : NS w (.slice A2 l2.length c2) l2) :
    Calls Tryz.prog 20 #[.agg #[.bool neg, .slice A1 l1.length c1, .slice A2 l2.length c2]] w (BPost (Good neg l1 l2) w) := by
  obtain ⟨x1, hx1⟩ : ∃ x1, x1 = decide (l1.getLastD 1 ≠ 0) := ⟨_, rfl⟩
  obtain ⟨x2, hx2⟩ : ∃ x2, x2 = decide (l2.getLastD 1 ≠ 0) := ⟨_, rfl⟩
  have C1 := Lib.hid (fun w' (b : Below w.heap.size w w') => rnvalid l1 _ w' x1 hl1 hd1 (hn.keep b) hx1)
  have C2 := Lib.hid (fun w' (b : Below w.heap.size w w') => rnvalid l2 _ w' x2 hl2 hd2 (hd.keep b) hx2)
  have HG : Hid (x1 = true → x2 = true → l2.length ≠ 0 → (neg = true → l1.length ≠ 0) → Good neg l1 l2) := by
    intro e1 e2 e3 e4
    have y1 := (digs_of hd1 (by rw [hx1] at e1; exact of_decide_eq_true e1)).symm
    have y2 := (digs_of hd2 (by rw [hx2] at e2; exact of_decide_eq_true e2)).symm
    refine ⟨y1, y2, fun h => e3 (by rw [y2, h]; rfl), fun h0 h => e4 h0 (by rw [y1, h]; rfl)⟩
  have HF : Hid (∀ w', Below w.heap.size w w' → BPost (Good neg l1 l2) w (.returned (.bool false)) w') := fun w' b => ⟨false, rfl, (fun h => by cases h), b⟩
  have HY : Hid (∀ (p : Bool) w', Good neg l1 l2 → Below w.heap.size w w' → BPost (Good neg l1 l2) w (.returned (.bool p)) w') := fun p w' g b => ⟨p, rfl, (fun _ => g), b⟩
  have CG : Hid (l2 = digs (nat l2) → ∀ w', Below w.heap.size w w' → Calls Tryz.prog 45 #[.slice A1 l1.length c1, .slice A2 l2.length c2] w' (NatPost (Nat.gcd (nat l1) (nat l2)) w')) := fun e w' b => by
    have := rgcd_any l1 (nat l2) (.slice A1 l1.length c1) (.slice A2 l2.length c2) w' (by omega) (by rw [← e]; omega) hd1 (hn.keep b) (by rw [← e]; exact hd.keep b)
    exact this
  have HA2 : Hid (∀ w', Below w.heap.size w w' → 0 < l2.length → ∃ b o, A2 = some ⟨b, o, none⟩ ∧ b < w'.heap.size ∧ ∀ i, i < l2.length → w'.cell? ⟨b, o + i, none⟩ = some (.int .u32 ((dg l2 i : Nat) : Int))) := by
    intro w' b
    obtain ⟨A, c, e, _, _, ha⟩ := ns_cases (hd.keep b)
    injection e with e1 _ e2
    subst e1 e2
    exact ha
  have HDL : Hid (Dg l2) := hd2
  have K0 : Hid (Blk (w.alloc (.cells #[.bool neg, .slice A1 l1.length c1, .slice A2 l2.length c2] 47)) w.heap.size 47 #[.bool neg, .slice A1 l1.length c1, .slice A2 l2.length c2]) := Blk.new w _ _
  have B0 : Hid (Below w.heap.size w (w.alloc (.cells #[.bool neg, .slice A1 l1.length c1, .slice A2 l2.length c2] 47))) := below_new w _
  clear hn hd hd1 hd2 hx1 hx2
  go_enter Tryz.func20, Tryz.ntmps20
  go_upto_region 1 with fail
  generalize w.alloc (.cells #[.bool neg, .slice A1 l1.length c1, .slice A2 l2.length c2] 47) = w1 at *
  have k1 := K0.out.c3
  cases x1
  · go_wp2_with fail
    refine (C1.out _ B0.out).mono ?_
    rintro e w2 ⟨rfl, rfl⟩
    go_wp2_with fail
    go_ret
    exact HF.out _ B0.out
  cases x2
  · go_wp2_with fail
    refine (C1.out _ B0.out).mono ?_
    rintro e w2 ⟨rfl, rfl⟩
    go_wp2_with fail
    refine (C2.out _ B0.out).mono ?_
    rintro e w2 ⟨rfl, rfl⟩
    go_wp2_with fail
    go_ret
    exact HF.out _ B0.out
  by_cases h2 : l2.length = 0
  · have q1 : ((l2.length : Int) == 0) = true := by rw [h2]; rfl
    clear h2
    go_wp2_with fail
    refine (C1.out _ B0.out).mono ?_
    rintro e w2 ⟨rfl, rfl⟩
    go_wp2_with fail
    refine (C2.out _ B0.out).mono ?_
    rintro e w2 ⟨rfl, rfl⟩
    go_wp2_with fail
    go_ret
    exact HF.out _ B0.out
  have q1 : ((l2.length : Int) == 0) = false := beq_eq_false_iff_ne.2 (by omega)
  by_cases h1 : l1.length = 0
  · have q2 : ((l1.length : Int) == 0) = true := by rw [h1]; rfl
    cases neg
    · have G := Lib.hid (HG.out rfl rfl h2 (fun h => by cases h))
      by_cases hg : l2.length = 1
      · obtain ⟨b, o, rfl, _, hc⟩ := HA2.out _ B0.out (by omega)
        have hc := hc 0 (by omega)
        rw [Nat.add_zero] at hc
        have q3 : ((l2.length : Int) == 1) = true := by rw [hg]; rfl
        have hk2 : (0 : Int) < (l2.length : Int) := by omega
        have ww := dg_lt HDL.out 0
        unfold B at ww
        clear h1 h2 hg
        generalize l2.length = m at *
        generalize dg l2 0 = x at *
        go_wp2_with fail
        refine (C1.out _ B0.out).mono ?_
        rintro e w2 ⟨rfl, rfl⟩
        go_wp2_with fail
        refine (C2.out _ B0.out).mono ?_
        rintro e w2 ⟨rfl, rfl⟩
        go_wp2_with fail
        go_ret
        exact HY.out _ _ G.out B0.out
      · have q3 : ((l2.length : Int) == 1) = false := beq_eq_false_iff_ne.2 (by omega)
        clear h1 h2 hg
        go_wp2_with fail
        refine (C1.out _ B0.out).mono ?_
        rintro e w2 ⟨rfl, rfl⟩
        go_wp2_with fail
        refine (C2.out _ B0.out).mono ?_
        rintro e w2 ⟨rfl, rfl⟩
        go_wp2_with fail
        go_ret
        exact HF.out _ B0.out
    · clear h1 h2
      go_wp2_with fail
      refine (C1.out _ B0.out).mono ?_
      rintro e w2 ⟨rfl, rfl⟩
      go_wp2_with fail
      refine (C2.out _ B0.out).mono ?_
      rintro e w2 ⟨rfl, rfl⟩
      go_wp2_with fail
      go_ret
      exact HF.out _ B0.out
  · have q2 : ((l1.length : Int) == 0) = false := beq_eq_false_iff_ne.2 (by omega)
    have G := Lib.hid (HG.out rfl rfl h2 (fun _ => h1))
    clear h1 h2
    go_wp2_with fail
    refine (C1.out _ B0.out).mono ?_
    rintro e w2 ⟨rfl, rfl⟩
    go_wp2_with fail
    refine (C2.out _ B0.out).mono ?_
    rintro e w2 ⟨rfl, rfl⟩
    go_wp2_with fail
    refine (CG.out G.out.2.1 _ B0.out).mono ?_
    rintro e w3 ⟨v, rfl, s1, b3⟩
    have B3 := Lib.hid (chain0 B0.out b3)
    obtain ⟨A3, c3, rfl, _, _, ha⟩ := ns_cases s1
    generalize Nat.gcd (nat l1) (nat l2) = g at *
    by_cases hg : (digs g).length = 1
    · obtain ⟨b, o, rfl, _, hc⟩ := ha (by omega)
      have hc := hc 0 (by omega)
      rw [Nat.add_zero] at hc
      have ww := dg_lt (Dg.digs g) 0
      unfold B at ww
      have q3 : (((digs g).length : Int) == 1) = true := by rw [hg]; rfl
      have hk2 : (0 : Int) < ((digs g).length : Int) := by omega
      clear s1 ha hg
      generalize (digs g).length = m at *
      generalize dg (digs g) 0 = x at *
      go_wp2_with fail
      go_ret
      exact HY.out _ _ G.out B3.out
    · have q3 : (((digs g).length : Int) == 1) = false := beq_eq_false_iff_ne.2 (by omega)
      clear s1 ha hg
      go_wp2_with fail
      go_ret
      exact HF.out _ B3.out
set_option maxHeartbeats 2000000 in
theorem rfloor_pos (A1 A2 : Option Addr) (c1 c2 n d : Nat) (w : World) (hln : (digs n).length ≤ 5000) (hld : (digs d).length ≤ 5000) (hd0 : d ≠ 0) (hn : NS w (.slice A1 (digs n).length c1) (digs n)) (hd : NS w (.slice A2 (digs d).length c2) (digs d)) : Calls Tryz.prog 24 #[.agg #[.bool false, .slice A1 (digs n).length c1, .slice A2 (digs d).length c2]] w (ValPost (n / d) w) := by
  have CD := Lib.hid (fun w' (b : Below w.heap.size w w') => rdiv_any (digs n) (digs d) _ _ w' (by omega) (by omega) (Dg.digs _) (Dg.digs _) (by rw [nat_digs]; exact hd0) (hn.keep b) (hd.keep b))
  have CD : Hid (∀ w', Below w.heap.size w w' → Calls Tryz.prog 48 #[.slice A1 (digs n).length c1, .slice A2 (digs d).length c2] w' (DivPost n d w')) := fun w' b => by
    have := CD.out w' b
    rw [nat_digs, nat_digs] at this
    exact this
  unfold DivPost at CD
  have HLQ : Hid ((digs (n / d)).length ≤ 5000) := Nat.le_trans (digs_len_mono (Nat.div_le_self n d)) hln
  have K0 : Hid (Blk (w.alloc (.cells #[.bool false, .slice A1 (digs n).length c1, .slice A2 (digs d).length c2] 47)) w.heap.size 47 #[.bool false, .slice A1 (digs n).length c1, .slice A2 (digs d).length c2]) := Blk.new w _ _
  have B0 : Hid (Below w.heap.size w (w.alloc (.cells #[.bool false, .slice A1 (digs n).length c1, .slice A2 (digs d).length c2] 47))) := below_new w _
  clear hn hd hln hld hd0
  go_enter Tryz.func24, Tryz.ntmps24
  go_upto_region 1 with fail
  generalize w.alloc (.cells #[.bool false, .slice A1 (digs n).length c1, .slice A2 (digs d).length c2] 47) = w1 at *
  have k1 := K0.out.c3
  go_wp2_with fail
  refine (CD.out _ B0.out).mono ?_
  rintro e w2 ⟨vq, vr, rfl, s1, s2, b2⟩
  have B2 := Lib.hid (chain0 B0.out b2)
  have K2 := Lib.hid (K0.out.below' b2)
  have k2 := K2.out.c3
  have Q2 := Lib.hid s1
  obtain ⟨A4, c4, rfl, _⟩ := ns_cases s1
  obtain ⟨A5, c5, rfl, _⟩ := ns_cases s2
  clear s1 s2 b2 k1
  obtain ⟨u, b, hu, CU⟩ := ruint_any (n / d) _ w2 (by have := HLQ.out; omega) Q2.out
  have CU := Lib.hid CU
  generalize n / d = q at *
  by_cases hb : q < B * B
  · obtain ⟨rfl, rfl⟩ := hu.2.1 hb
    by_cases hlt : u < 9223372036854775808
    · have HLT := Lib.hid hlt
      have t1 : decide ((9223372036854775807 : Int) < (u : Int)) = false := decide_eq_false (by omega)
      have t2 : IntKind.i64.wrap (u : Int) = (u : Int) := IntWalk.i64_in _ (by omega)
      clear hu hb hlt
      go_wp2_with fail
      refine CU.out.mono ?_
      rintro e w5 ⟨rfl, rfl⟩
      go_wp2_with fail
      go_ret2
      exact ⟨_, _, ⟨rfl, B2.out⟩, fun _ => ⟨rfl, rfl⟩, fun h => absurd HLT.out (by omega)⟩
    · have HLT := Lib.hid hlt
      have t1 : decide ((9223372036854775807 : Int) < (u : Int)) = true := decide_eq_true (by omega)
      clear hu hb hlt
      go_wp2_with fail
      refine CU.out.mono ?_
      rintro e w5 ⟨rfl, rfl⟩
      go_wp2_with fail
      go_ret2
      exact ⟨_, _, ⟨rfl, B2.out⟩, fun h => absurd h HLT.out, fun _ => ⟨rfl, rfl⟩⟩
  · obtain rfl := hu.2.2 (by omega)
    have HLT : Hid (9223372036854775808 ≤ q) := by show _ ≤ _; rw [BB_eq] at hb; omega
    clear hu hb
    go_wp2_with fail
    refine CU.out.mono ?_
    rintro e w5 ⟨rfl, rfl⟩
    go_wp2_with fail
    go_ret2
    exact ⟨_, _, ⟨rfl, B2.out⟩, fun h => absurd h (by have := HLT.out; omega), fun _ => ⟨rfl, rfl⟩⟩
set_option maxHeartbeats 2000000 in
theorem rfloor_neg (A1 A2 : Option Addr) (c1 c2 n d : Nat) (w : World) (hln : (digs n).length ≤ 5000) (hld : (digs d).length ≤ 5000) (hd0 : d ≠ 0) (hn : NS w (.slice A1 (digs n).length c1) (digs n)) (hd : NS w (.slice A2 (digs d).length c2) (digs d)) : Calls Tryz.prog 24 #[.agg #[.bool true, .slice A1 (digs n).length c1, .slice A2 (digs d).length c2]] w (SomePost w) := by
  have CD := Lib.hid (fun w' (b : Below w.heap.size w w') => rdiv_any (digs n) (digs d) _ _ w' (by omega) (by omega) (Dg.digs _) (Dg.digs _) (by rw [nat_digs]; exact hd0) (hn.keep b) (hd.keep b))
  have CD : Hid (∀ w', Below w.heap.size w w' → Calls Tryz.prog 48 #[.slice A1 (digs n).length c1, .slice A2 (digs d).length c2] w' (DivPost n d w')) := fun w' b => by
    have := CD.out w' b
    rw [nat_digs, nat_digs] at this
    exact this
  unfold DivPost at CD
  have HLQ : Hid ((digs (n / d)).length ≤ 5000) := Nat.le_trans (digs_len_mono (Nat.div_le_self n d)) hln
  have K0 : Hid (Blk (w.alloc (.cells #[.bool true, .slice A1 (digs n).length c1, .slice A2 (digs d).length c2] 47)) w.heap.size 47 #[.bool true, .slice A1 (digs n).length c1, .slice A2 (digs d).length c2]) := Blk.new w _ _
  have B0 : Hid (Below w.heap.size w (w.alloc (.cells #[.bool true, .slice A1 (digs n).length c1, .slice A2 (digs d).length c2] 47))) := below_new w _
  clear hn hd hln hld hd0
  go_enter Tryz.func24, Tryz.ntmps24
  go_upto_region 1 with fail
  generalize w.alloc (.cells #[.bool true, .slice A1 (digs n).length c1, .slice A2 (digs d).length c2] 47) = w1 at *
  have k1 := K0.out.c3
  go_wp2_with fail
  refine (CD.out _ B0.out).mono ?_
  rintro e w2 ⟨vq, vr, rfl, s1, s2, b2⟩
  have B2 := Lib.hid (chain0 B0.out b2)
  have K2 := Lib.hid (K0.out.below' b2)
  have k2 := K2.out.c3
  have Q2 := Lib.hid s1
  obtain ⟨A4, c4, rfl, _⟩ := ns_cases s1
  obtain ⟨A5, c5, rfl, _⟩ := ns_cases s2
  clear s1 s2 b2 k1
  by_cases hr : n % d = 0
  · have hl0 : (digs (n % d)).length = 0 := by rw [hr]; rfl
    have g1 : decide ((0 : Int) < ((digs (n % d)).length : Int)) = false := decide_eq_false (by omega)
    have g2 : decide (0 < (digs (n % d)).length) = false := decide_eq_false (by omega)
    clear hr hl0
    obtain ⟨u, b, hu, CU⟩ := ruint_any (n / d) _ w2 (by have := HLQ.out; omega) Q2.out
    have CU := Lib.hid CU
    cases b
    · clear hu
      go_wp2_with fail
      refine CU.out.mono ?_
      rintro e w5 ⟨rfl, rfl⟩
      go_wp2_with fail
      go_ret2
      exact ⟨_, _, rfl, B2.out⟩
    by_cases h3 : 9223372036854775808 < u
    · have t1 : decide ((9223372036854775808 : Int) < (u : Int)) = true := decide_eq_true (by omega)
      clear hu h3
      go_wp2_with fail
      refine CU.out.mono ?_
      rintro e w5 ⟨rfl, rfl⟩
      go_wp2_with fail
      go_ret2
      exact ⟨_, _, rfl, B2.out⟩
    have t1 : decide ((9223372036854775808 : Int) < (u : Int)) = false := decide_eq_false (by omega)
    by_cases h4 : u = 0
    · have t2 : ((u : Int) == 0) = true := by rw [h4]; rfl
      clear hu h3
      go_wp2_with fail
      refine CU.out.mono ?_
      rintro e w5 ⟨rfl, rfl⟩
      go_wp2_with fail
      go_ret2
      exact ⟨_, _, rfl, B2.out⟩
    have t2 : ((u : Int) == 0) = false := beq_eq_false_iff_ne.2 (by omega)
    obtain ⟨x, hx⟩ : ∃ x : Nat, u = x + 1 := ⟨u - 1, by omega⟩
    have t3 : IntKind.u64.wrap ((u : Int) - 1) = (x : Int) := by rw [IntWalk.u64_in _ (by omega)]; omega
    have t4 : IntKind.i64.wrap (x : Int) = (x : Int) := IntWalk.i64_in _ (by omega)
    obtain ⟨y, hy⟩ : ∃ y : Int, y = -(x : Int) := ⟨_, rfl⟩
    have t5 : IntKind.i64.wrap (-(x : Int)) = y := by rw [IntWalk.i64_in _ (by omega)]; omega
    obtain ⟨z, hz⟩ : ∃ z : Int, z = y - 1 := ⟨_, rfl⟩
    have t6 : IntKind.i64.wrap (y - 1) = z := by rw [IntWalk.i64_in _ (by omega)]; omega
    clear hu h3 h4 hx hy hz
    go_wp2_with fail
    refine CU.out.mono ?_
    rintro e w5 ⟨rfl, rfl⟩
    go_wp2_with fail
    go_ret2
    exact ⟨_, _, rfl, B2.out⟩
  · have hl0 := digs_pos_len hr
    have g1 : decide ((0 : Int) < ((digs (n % d)).length : Int)) = true := decide_eq_true (by omega)
    have g2 : decide (0 < (digs (n % d)).length) = true := decide_eq_true (by omega)
    clear hr hl0
    have CF := Lib.hid (fun w => fromUint_any 1 w (by decide))
    go_wp2_with fail
    refine (CF.out _).mono ?_
    rintro e w3 ⟨v3, rfl, s3, b3⟩
    have B3 := Lib.hid (chain0 B2.out b3)
    have K3 := Lib.hid (K2.out.below' b3)
    have CA := radd_any (digs (n / d)) (digs 1) _ _ w3 (by have := HLQ.out; omega) (by decide) (Dg.digs _) (Dg.digs _) (Q2.out.keep b3) s3
    rw [nat_digs, nat_digs] at CA
    have CA := Lib.hid CA
    obtain ⟨A6, c6, rfl, _⟩ := ns_cases s3
    clear s3 b3 k2
    go_wp2_with fail
    refine CA.out.mono ?_
    rintro e w4 ⟨v4, rfl, s4, b4⟩
    have B4 := Lib.hid (chain0 B3.out b4)
    have k4 := (K3.out.below' b4).c3
    have HL4 := digs_add_len (x := n / d) (y := 1) (m := 5000) HLQ.out (by decide)
    have Q4 := Lib.hid s4
    obtain ⟨A7, c7, rfl, _⟩ := ns_cases s4
    clear s4 b4
    obtain ⟨u, b, hu, CU⟩ := ruint_any (n / d + 1) _ w4 (by omega) Q4.out
    have CU := Lib.hid CU
    cases b
    · clear hu
      go_wp2_with fail
      refine CU.out.mono ?_
      rintro e w5 ⟨rfl, rfl⟩
      go_wp2_with fail
      go_ret2
      exact ⟨_, _, rfl, B4.out⟩
    by_cases h3 : 9223372036854775808 < u
    · have t1 : decide ((9223372036854775808 : Int) < (u : Int)) = true := decide_eq_true (by omega)
      clear hu h3
      go_wp2_with fail
      refine CU.out.mono ?_
      rintro e w5 ⟨rfl, rfl⟩
      go_wp2_with fail
      go_ret2
      exact ⟨_, _, rfl, B4.out⟩
    have t1 : decide ((9223372036854775808 : Int) < (u : Int)) = false := decide_eq_false (by omega)
    by_cases h4 : u = 0
    · have t2 : ((u : Int) == 0) = true := by rw [h4]; rfl
      clear hu h3
      go_wp2_with fail
      refine CU.out.mono ?_
      rintro e w5 ⟨rfl, rfl⟩
      go_wp2_with fail
      go_ret2
      exact ⟨_, _, rfl, B4.out⟩
    have t2 : ((u : Int) == 0) = false := beq_eq_false_iff_ne.2 (by omega)
    obtain ⟨x, hx⟩ : ∃ x : Nat, u = x + 1 := ⟨u - 1, by omega⟩
    have t3 : IntKind.u64.wrap ((u : Int) - 1) = (x : Int) := by rw [IntWalk.u64_in _ (by omega)]; omega
    have t4 : IntKind.i64.wrap (x : Int) = (x : Int) := IntWalk.i64_in _ (by omega)
    obtain ⟨y, hy⟩ : ∃ y : Int, y = -(x : Int) := ⟨_, rfl⟩
    have t5 : IntKind.i64.wrap (-(x : Int)) = y := by rw [IntWalk.i64_in _ (by omega)]; omega
    obtain ⟨z, hz⟩ : ∃ z : Int, z = y - 1 := ⟨_, rfl⟩
    have t6 : IntKind.i64.wrap (y - 1) = z := by rw [IntWalk.i64_in _ (by omega)]; omega
    clear hu h3 h4 hx hy hz
    go_wp2_with fail
    refine CU.out.mono ?_
    rintro e w5 ⟨rfl, rfl⟩
    go_wp2_with fail
    go_ret2
    exact ⟨_, _, rfl, B4.out⟩
end Fr
end Go.Proofs.YthehchdonmmpaaaGreatDoor
namespace Go.Proofs.YthehchdonmmpaaaGreatDoor
open Go.ChangeShapes Go.WideShapes Go.ChangeAt Go.RowKit
set_option linter.unusedVariables false
set_option linter.unusedSimpArgs false
namespace Fr
theorem ValPost.some {q : Nat} {w w' : World} {e : Ending} (h : ValPost q w e w') : SomePost w e w' := by
  obtain ⟨v, b, h, _⟩ := h
  exact ⟨v, b, h⟩
theorem SomePost.chain {w a w' : World} {e : Ending} (h : SomePost a e w') (b : Below w.heap.size w a) : SomePost w e w' := by
  obtain ⟨v, x, h1, h2⟩ := h
  exact ⟨v, x, h1, chain0 b h2⟩
theorem sign_ge (n : Nat) : 0 ≤ signI false n := by
  unfold signI
  rw [if_neg (by simp)]
  split <;> decide
theorem rfloor_some (b : Bool) (A1 A2 : Option Addr) (c1 c2 n d : Nat) (w : World) (hln : (digs n).length ≤ 5000) (hld : (digs d).length ≤ 5000) (hd0 : d ≠ 0) (hn : NS w (.slice A1 (digs n).length c1) (digs n)) (hd : NS w (.slice A2 (digs d).length c2) (digs d)) : Calls Tryz.prog 24 #[.agg #[.bool b, .slice A1 (digs n).length c1, .slice A2 (digs d).length c2]] w (SomePost w) := by
  cases b
  · exact (rfloor_pos A1 A2 c1 c2 n d w hln hld hd0 hn hd).mono fun _ _ h => h.some
  · exact rfloor_neg A1 A2 c1 c2 n d w hln hld hd0 hn hd
end Fr
end Go.Proofs.YthehchdonmmpaaaGreatDoor
namespace Go.Proofs.YthehchdonmmpaaaGreatDoor
open Go.ChangeShapes Go.WideShapes Go.ChangeAt Go.RowKit
set_option linter.unusedVariables false
set_option linter.unusedSimpArgs false
namespace Fr
theorem frac_put {w w2 : World} {g : Nat} {b0 sg : Bool} {B1 B2 A1 A2 : Option Addr} {m1 k1 m2 k2 c1 c2 n d : Nat} (K : Blk w2 g 47 #[.bool b0, .slice B1 m1 k1, .slice B2 m2 k2]) (hg : w.heap.size ≤ g) (S1 : NS w2 (.slice A1 (digs n).length c1) (digs n)) (S2 : NS w2 (.slice A2 (digs d).length c2) (digs d)) (B : Below w.heap.size w w2) :
    Blk (((w2.setCell ⟨g, 0, none⟩ (.bool sg)).setCell ⟨g, 1, none⟩ (.slice A1 (digs n).length c1)).setCell ⟨g, 2, none⟩ (.slice A2 (digs d).length c2)) g 47 #[.bool sg, .slice A1 (digs n).length c1, .slice A2 (digs d).length c2] ∧
    FracIs (((w2.setCell ⟨g, 0, none⟩ (.bool sg)).setCell ⟨g, 1, none⟩ (.slice A1 (digs n).length c1)).setCell ⟨g, 2, none⟩ (.slice A2 (digs d).length c2)) (.agg #[.bool sg, .slice A1 (digs n).length c1, .slice A2 (digs d).length c2]) sg n d ∧
    Below w.heap.size w (((w2.setCell ⟨g, 0, none⟩ (.bool sg)).setCell ⟨g, 1, none⟩ (.slice A1 (digs n).length c1)).setCell ⟨g, 2, none⟩ (.slice A2 (digs d).length c2)) := by
  have OE : OnlyG g w2 _ := (((OnlyG.refl g w2).put 0 (.bool sg)).put 1 (.slice A1 (digs n).length c1)).put 2 (.slice A2 (digs d).length c2)
  exact ⟨((K.put 0 (.bool sg)).put 1 (.slice A1 (digs n).length c1)).put 2 (.slice A2 (digs d).length c2), ⟨_, _, _, _, rfl, ns_other K (frac_free _ _ _ _ _ _ _) S1 OE, ns_other K (frac_free _ _ _ _ _ _ _) S2 OE⟩, OE.below B hg⟩
theorem fromInt_is (x : Int) : ((decide (x < 0) != decide ((1 : Int) < 0)) && decide (x.natAbs ≠ 0)) = decide (x < 0) ∧ x.natAbs / Nat.gcd x.natAbs (1 : Int).natAbs = x.natAbs ∧ (1 : Int).natAbs / Nat.gcd x.natAbs (1 : Int).natAbs = 1 := by
  have h1 : Nat.gcd x.natAbs (1 : Int).natAbs = 1 := Nat.gcd_one_right _
  rw [h1, Nat.div_one]
  refine ⟨?_, rfl, rfl⟩
  by_cases h : x < 0
  · have h2 : x.natAbs ≠ 0 := by omega
    simp [h, h2]
  · simp [h]
set_option maxHeartbeats 1000000 in
theorem fromInt_any (x : Int) (w : World) (hx1 : -9223372036854775808 ≤ x) (hx2 : x < 9223372036854775808) : Calls Tryz.prog 22 #[.int .i64 x] w (FracPost (decide (x < 0)) x.natAbs 1 w) := by
  have CN := fun w => rnew_any x 1 w hx1 hx2 (by decide) (by decide) (by decide)
  obtain ⟨e1, e2, e3⟩ := fromInt_is x
  rw [e1, e2, e3] at CN
  have CN := Lib.hid CN
  generalize decide (x < 0) = sg at *
  generalize x.natAbs = n at *
  clear e1 e2 e3 hx1 hx2
  have K0 : Hid (Blk (w.alloc (.cells #[.bool false, .slice none 0 0, .slice none 0 0] 47)) w.heap.size 47 #[.bool false, .slice none 0 0, .slice none 0 0]) := Blk.new w _ _
  have B0 : Hid (Below w.heap.size w (w.alloc (.cells #[.bool false, .slice none 0 0, .slice none 0 0] 47))) := below_new w _
  go_enter Tryz.func22, Tryz.ntmps22
  go_wp2_with fail
  generalize w.alloc (.cells #[.bool false, .slice none 0 0, .slice none 0 0] 47) = w1 at *
  refine (CN.out _).mono ?_
  rintro e w2 ⟨v, rfl, ⟨A1, c1, A2, c2, rfl, s1, s2⟩, b2⟩
  have B2 := Lib.hid (chain0 B0.out b2)
  have K2 := Lib.hid (K0.out.below' b2)
  have S1 := Lib.hid s1
  have S2 := Lib.hid s2
  have k2 := K2.out.c3
  have kl := K2.out.lt
  clear s1 s2 b2
  go_wp2_with fail
  obtain ⟨KE, FE, BE⟩ := frac_put (sg := sg) K2.out (Nat.le_refl _) S1.out S2.out B2.out
  exact bodyPost_ret (v := .agg #[.bool sg, .slice A1 (digs n).length c1, .slice A2 (digs 1).length c2]) (results_blk rfl rfl (KE.alloc _) Tryz.underlying47 rfl (by kernel_rfl)) rfl ⟨_, rfl, FE.keep (below_new _ _), BE.alloc BE.size _⟩
theorem two_new (w : World) (a b : Array Value) (t1 t2 : TypeId) : Blk ((w.alloc (.cells a t1)).alloc (.cells b t2)) w.heap.size t1 a ∧ Blk ((w.alloc (.cells a t1)).alloc (.cells b t2)) (w.heap.size + 1) t2 b ∧ Below w.heap.size w ((w.alloc (.cells a t1)).alloc (.cells b t2)) := by
  have e1 : (w.alloc (.cells a t1)).heap.size = w.heap.size + 1 := by simp
  refine ⟨(Blk.new w t1 a).alloc _, ?_, ?_⟩
  · have := Blk.new (w.alloc (.cells a t1)) t2 b
    rwa [e1] at this
  · exact ((Below.refl _ _).alloc (Nat.le_refl _) _).alloc (by omega) _
set_option maxHeartbeats 1000000 in
theorem rneg_any (s : Bool) (A1 A2 : Option Addr) (c1 c2 n d : Nat) (w : World) (hn : NS w (.slice A1 (digs n).length c1) (digs n)) (hd : NS w (.slice A2 (digs d).length c2) (digs d)) : Calls Tryz.prog 73 #[.agg #[.bool s, .slice A1 (digs n).length c1, .slice A2 (digs d).length c2]] w (FracPost (!s && decide (n ≠ 0)) n d w) := by
  obtain ⟨g, hg⟩ : ∃ g : Bool, g = decide (n ≠ 0) := ⟨_, rfl⟩
  have q2 : decide ((0 : Int) < ((digs n).length : Int)) = g := by
    rw [hg, decide_eq_decide]
    constructor
    · rintro h rfl
      simp [digs_zero] at h
    · intro h
      have := digs_pos_len h
      omega
  have q3 : decide (0 < (digs n).length) = g := by rw [← q2, decide_eq_decide]; omega
  rw [← hg]
  have hP : Hid (Blk ((w.alloc (.cells #[.bool s, .slice A1 (digs n).length c1, .slice A2 (digs d).length c2] 47)).alloc (.cells #[.bool false, .slice none 0 0, .slice none 0 0] 47)) w.heap.size 47 #[.bool s, .slice A1 (digs n).length c1, .slice A2 (digs d).length c2] ∧ Blk ((w.alloc (.cells #[.bool s, .slice A1 (digs n).length c1, .slice A2 (digs d).length c2] 47)).alloc (.cells #[.bool false, .slice none 0 0, .slice none 0 0] 47)) (w.heap.size + 1) 47 #[.bool false, .slice none 0 0, .slice none 0 0] ∧ Below w.heap.size w ((w.alloc (.cells #[.bool s, .slice A1 (digs n).length c1, .slice A2 (digs d).length c2] 47)).alloc (.cells #[.bool false, .slice none 0 0, .slice none 0 0] 47))) := two_new w _ _ _ _
  have S1 := Lib.hid (hn.keep hP.out.2.2)
  have S2 := Lib.hid (hd.keep hP.out.2.2)
  clear hn hd hg
  go_enter Tryz.func73, Tryz.ntmps73
  go_upto_region 1 with fail
  generalize ((w.alloc (.cells #[.bool s, .slice A1 (digs n).length c1, .slice A2 (digs d).length c2] 47)).alloc (.cells #[.bool false, .slice none 0 0, .slice none 0 0] 47)) = w1 at *
  have k0 := hP.out.1.c3
  have k1 := hP.out.2.1.c3
  cases s
  · go_wp2_with fail
    obtain ⟨KE, FE, BE⟩ := frac_put (sg := g) hP.out.2.1 (Nat.le_succ _) S1.out S2.out hP.out.2.2
    exact bodyPost_ret (v := .agg #[.bool g, .slice A1 (digs n).length c1, .slice A2 (digs d).length c2]) (results_blk rfl rfl KE Tryz.underlying47 rfl (by kernel_rfl)) rfl ⟨_, rfl, FE, BE⟩
  · go_wp2_with fail
    obtain ⟨KE, FE, BE⟩ := frac_put (sg := false) hP.out.2.1 (Nat.le_succ _) S1.out S2.out hP.out.2.2
    exact bodyPost_ret (v := .agg #[.bool false, .slice A1 (digs n).length c1, .slice A2 (digs d).length c2]) (results_blk rfl rfl KE Tryz.underlying47 rfl (by kernel_rfl)) rfl ⟨_, rfl, FE, BE⟩
end Fr
end Go.Proofs.YthehchdonmmpaaaGreatDoor
namespace Go.Proofs.YthehchdonmmpaaaGreatDoor
open Go.ChangeShapes Go.WideShapes Go.ChangeAt Go.RowKit
set_option linter.unusedVariables false
set_option linter.unusedSimpArgs false
namespace Fr
set_option maxHeartbeats 2000000 in
set_option maxRecDepth 100000 in
theorem scale_any (a : List Nat) (va : Value) (d : Nat) (w : World) (hla : a.length ≤ 50000) (hd : d < B) (hda : Dg a) (ha : NS w va a) : Calls Tryz.prog 107 #[va, .int .u64 (d : Int)] w (NatPost (nat a * d) w) := by
  obtain ⟨i0, hi0, hz0, hz1, hz2⟩ := info_parts u32_info
  have CA := Lib.hid (fun i (hi : i ≤ 100000) w' (k : Below w.heap.size w w') => digit_any a va i w' (by omega) hi hda (Sl.keep ha k))
  have HDA := Lib.hid hda
  have HD := Lib.hid hd
  obtain ⟨A1, c1, rfl, _, _, _⟩ := ns_cases ha
  clear ha hda hd
  go_enter Tryz.func107, Tryz.ntmps107
  go_wp2_with fail
  go_loopw [7, 5, 6] (fun i v cv wr => ∃ k c : Nat, ∃ o : List Nat, k ≤ a.length + 1 ∧ i = .int .i64 (k : Int) ∧ cv = .int .u64 (c : Int) ∧ Hid (c < B) ∧ Hid (o.length = k ∧ Dg o ∧ nat o + c * B ^ k = val a k * d) ∧ Hid (wr.ownsRow w.heap.size 53 1 v k (u32s o)) ∧ Hid (Below w.heap.size w wr)) (fun i _ _ _ => a.length + 1 - (intOf i).toNat)
  case atStart => exact ⟨0, 0, [], by omega, rfl, rfl, B_pos, ⟨rfl, Dg.nil, by simp [nat, val]⟩, ⟨rfl, .inl ⟨rfl, rfl⟩⟩, Below.refl _ _⟩
  case round =>
    obtain ⟨k, c, o, hk, rfl, rfl, HC, HI, HO, HB⟩ := hrel
    obtain ⟨A5, c5, rfl⟩ := own_form HO.out
    have hk0 : (0 : Int) ≤ (k : Int) := by omega
    by_cases hlt : k ≤ a.length
    · have hdec : decide (k ≤ a.length) = true := decide_eq_true hlt
      have hk1 : (k : Int) ≤ 100000 := by omega
      obtain ⟨t, s, lo, hi, hq, f1, f2, p2, p4, hi1, p1⟩ := mul_facts (dg_lt HDA.out k) HD.out HC.out
      have HN := Lib.hid (scale_step (k := k) HI.out.1 HI.out.2.2 hq.1)
      rw [← hq.2.1, ← hq.2.2] at HN
      have P1 := Lib.hid p1
      have P2 := Lib.hid hi1
      have hs0 : (0 : Int) ≤ (s : Int) := by omega
      clear hq p1 hi1
      go_wp2_with fail
      refine (CA.out k (by omega) _ HB.out).mono ?_
      rintro e w1 ⟨rfl, rfl⟩
      go_wp2_with (at_builtin; refine wpList_append_sl _ rfl (.tmp 22) (.tmp 26) _ rfl (w.heap.size) 53 i0 _ 1 4 Tryz.underlying45 hi0 hz0 hz1 hz2 rfl (by decide) (.slice A5 (k) c5) (k) (u32s o) rfl (own_below HO.out (below_new _ _)) (.slice (some ⟨wr.heap.size, 0, none⟩) 1 1) 1 (u32s [lo]) rfl (ns_new1 wr lo 53) (u32s_one _) (by unfold maxLen; omega) (by omega) (by have := HB.out.size; simp; omega) ?_)
      intro v' w1 hown hgr
      obtain ⟨A6, c6, rfl⟩ := own_form hown
      have HO1 := Lib.hid hown
      have HB1 := Lib.hid ((HB.out.alloc HB.out.size (.cells #[.int .u32 ((lo : Nat) : Int)] 53)).grown hgr (by have := HB.out.size; simp; omega) (fun q hq => own_far HO.out q hq))
      clear hown hgr
      go_wp2_with fail
      go_roundw
      case rel => exact ⟨k + 1, hi, o ++ [lo], by omega, by go_num, rfl, P2, ⟨by simp [HI.out.1], HI.out.2.1.append (Dg.cons P1.out Dg.nil), HN.out⟩, (by rw [u32s_append]; exact HO1.out), HB1.out⟩
      case measure => simp [intOf]; omega
    · have hdec : decide (k ≤ a.length) = false := decide_eq_false hlt
      obtain rfl : k = a.length + 1 := by omega
      have HE := Lib.hid (scale_end HDA.out HD.out rfl HI.out.2.2)
      have CT := Lib.hid (trim_any o _ wr (by rw [HI.out.1]; omega) HI.out.2.1 (ns_own HO.out))
      rw [HE.out] at CT
      go_wp2_with fail
      refine CT.out.mono ?_
      rintro e w1 ⟨v1, rfl, hs1, hb1⟩
      have HS1 := Lib.hid hs1
      have HB1 := Lib.hid (chain0 HB.out hb1)
      obtain ⟨A6, c6, rfl, _⟩ := ns_cases hs1
      clear hs1 hb1
      go_wp2_with fail
      go_ret
      exact ⟨_, rfl, HS1.out, HB1.out⟩
theorem rep_dg (k : Nat) : Dg (List.replicate k 0) := fun d h => by
  rw [(List.mem_replicate.1 h).2]
  exact B_pos
theorem shift_nat (k : Nat) (a : List Nat) : nat (List.replicate k 0 ++ a) = B ^ k * nat a := by
  rw [nat_append, nat_zeros, List.length_replicate, Nat.zero_add]
set_option maxHeartbeats 2000000 in
set_option maxRecDepth 100000 in
theorem shift_any (a : List Nat) (va : Value) (n : Nat) (w : World) (hla : a.length ≤ 50000) (hn : n ≤ 50000) (hda : Dg a) (ha : NS w va a) : Calls Tryz.prog 106 #[va, .int .i64 (n : Int)] w (NatPost (B ^ n * nat a) w) := by
  obtain ⟨i0, hi0, hz0, hz1, hz2⟩ := info_parts u32_info
  have HDA := Lib.hid hda
  have HA := Lib.hid ha
  obtain ⟨A1, c1, rfl, _, _, _⟩ := ns_cases ha
  clear ha hda
  go_enter Tryz.func106, Tryz.ntmps106
  go_wp2_with fail
  go_loopw [6, 5] (fun i v wr => ∃ k : Nat, k ≤ n ∧ i = .int .i64 (k : Int) ∧ Hid (wr.ownsRow w.heap.size 53 1 v k (u32s (List.replicate k 0))) ∧ Hid (Below w.heap.size w wr)) (fun i _ _ => n - (intOf i).toNat)
  case atStart => exact ⟨0, by omega, rfl, ⟨rfl, .inl ⟨rfl, rfl⟩⟩, Below.refl _ _⟩
  case round =>
    obtain ⟨k, hk, rfl, HO, HB⟩ := hrel
    obtain ⟨A5, c5, rfl⟩ := own_form HO.out
    have hk0 : (0 : Int) ≤ (k : Int) := by omega
    by_cases hlt : k < n
    · have hdec : decide (k < n) = true := decide_eq_true hlt
      have hk1 : (k : Int) ≤ 100000 := by omega
      have HR : Hid (List.replicate (k + 1) 0 = List.replicate k 0 ++ [0]) := List.replicate_succ'
      generalize List.replicate k 0 = o at *
      go_wp2_with (at_builtin; refine wpList_append_sl _ rfl (.tmp 12) (.tmp 13) _ rfl (w.heap.size) 53 i0 _ 1 4 Tryz.underlying45 hi0 hz0 hz1 hz2 rfl (by decide) (.slice A5 (k) c5) (k) (u32s o) rfl (own_below HO.out (below_new _ _)) (.slice (some ⟨wr.heap.size, 0, none⟩) 1 1) 1 (u32s [0]) rfl (ns_new1 wr 0 53) (u32s_one _) (by unfold maxLen; omega) (by omega) (by have := HB.out.size; simp; omega) ?_)
      intro v' w1 hown hgr
      obtain ⟨A6, c6, rfl⟩ := own_form hown
      have HO1 := Lib.hid hown
      have HB1 := Lib.hid ((HB.out.alloc HB.out.size (.cells #[.int .u32 ((0 : Nat) : Int)] 53)).grown hgr (by have := HB.out.size; simp; omega) (fun q hq => own_far HO.out q hq))
      clear hown hgr
      go_wp2_with fail
      go_roundw
      case rel => exact ⟨k + 1, by omega, by go_num, (by show World.ownsRow _ _ _ _ _ _ _; rw [HR.out, u32s_append]; exact HO1.out), HB1.out⟩
      case measure => simp [intOf]; omega
    · have hdec : decide (k < n) = false := decide_eq_false hlt
      obtain rfl : k = n := by omega
      have HRD := Lib.hid (rep_dg k)
      have HSN := Lib.hid (shift_nat k a)
      have HRL : Hid ((List.replicate k 0).length = k) := List.length_replicate
      have HA2 := Lib.hid (Sl.keep HA.out HB.out)
      generalize List.replicate k 0 = o at *
      go_wp2_with (at_builtin; refine wpList_append_sl _ rfl (.tmp 15) (.tmp 16) _ rfl w.heap.size 53 i0 _ 1 4 Tryz.underlying45 hi0 hz0 hz1 hz2 rfl (by decide) (.slice A5 k c5) k (u32s o) rfl HO.out (.slice A1 a.length c1) a.length (u32s a) rfl HA2.out (u32s_one _) (by unfold maxLen; omega) (by omega) HB.out.size ?_)
      intro v' w2 hown hgr
      obtain ⟨A7, c7, rfl⟩ := own_form hown
      rw [← u32s_append] at hown
      have CT := Lib.hid (trim_any (o ++ a) _ w2 (by rw [List.length_append, HRL.out]; omega) (HRD.out.append HDA.out) (ns_own hown))
      rw [HSN.out] at CT
      have HB3 := Lib.hid (HB.out.grown hgr HB.out.size (fun q hq => own_far HO.out q hq))
      clear hown hgr
      go_wp2_with fail
      refine CT.out.mono ?_
      rintro e w1 ⟨v1, rfl, hs1, hb1⟩
      have HS1 := Lib.hid hs1
      have HB1 := Lib.hid (chain0 HB3.out hb1)
      obtain ⟨A6, c6, rfl, _⟩ := ns_cases hs1
      clear hs1 hb1
      go_wp2_with fail
      go_ret
      exact ⟨_, rfl, HS1.out, HB1.out⟩
set_option maxHeartbeats 2000000 in
set_option maxRecDepth 100000 in
theorem rmul_any (a b : List Nat) (va vb : Value) (w : World) (hla : a.length ≤ 20000) (hlb : b.length ≤ 20000) (hda : Dg a) (hdb : Dg b) (ha : NS w va a) (hb : NS w vb b) : Calls Tryz.prog 93 #[va, vb] w (NatPost (nat a * nat b) w) := by
  have CS := Lib.hid (fun d (hd : d < B) w' (k : Below w.heap.size w w') => scale_any a va d w' (by omega) hd hda (Sl.keep ha k))
  have HDB := Lib.hid hdb
  have HLA := Lib.hid (nat_lt hda)
  have HBB := Lib.hid (fun w' (k : Below w.heap.size w w') => Sl.keep hb k)
  obtain ⟨A1, c1, rfl, _, _, _⟩ := ns_cases ha
  obtain ⟨A2, c2, rfl, _, _, _⟩ := ns_cases hb
  have HBB2 : Hid (∀ w', Below w.heap.size w w' → NS w' (.slice A2 b.length c2) b) := HBB.out
  clear ha hb hda hdb HBB
  go_enter Tryz.func93, Tryz.ntmps93
  go_wp2_with fail
  go_loopw [6, 5] (fun i v wr => ∃ k : Nat, k ≤ b.length ∧ i = .int .i64 (k : Int) ∧ Hid (NS wr v (digs (nat a * val b k))) ∧ Hid (Below w.heap.size w wr)) (fun i _ _ => b.length - (intOf i).toNat)
  case atStart => exact ⟨0, by omega, rfl, Sl.nil _ _, Below.refl _ _⟩
  case round =>
    obtain ⟨k, hk, rfl, HO, HB⟩ := hrel
    obtain ⟨A5, c5, rfl, _⟩ := ns_cases HO.out
    have hk0 : (0 : Int) ≤ (k : Int) := by omega
    by_cases hlt : k < b.length
    · have hdec : decide (k < b.length) = true := decide_eq_true hlt
      have hdec2 : decide ((k : Int) < (b.length : Int)) = true := decide_eq_true (by omega)
      have hk1 : (k : Int) ≤ 100000 := by omega
      have hk2 : (k : Int) < (b.length : Int) := by omega
      obtain ⟨A3, c3, e3, _, _, hcc⟩ := ns_cases (HBB2.out _ HB.out)
      injection e3 with e3 _ e4
      subst e3 e4
      obtain ⟨b2, o2, rfl, hb2, hcell⟩ := hcc (by omega)
      have hcell := hcell k hlt
      clear hcc
      have hdg := dg_lt HDB.out k
      have ww := u64w hdg
      have HDG := Lib.hid hdg
      have HL1 : Hid ((digs (nat a * dg b k)).length ≤ a.length + 1) := digs_mul_len HLA.out (k := 1) (by rw [Nat.pow_one]; exact hdg)
      have HL2 : Hid ((digs (B ^ k * (nat a * dg b k))).length ≤ k + (a.length + 1)) := digs_len_le (by
        rw [Nat.pow_add]
        exact Nat.mul_lt_mul_of_pos_left (mul_lt_pow HLA.out (k := 1) (by rw [Nat.pow_one]; exact hdg)) (Nat.pow_pos B_pos))
      have HL3 : Hid ((digs (nat a * val b k)).length ≤ a.length + k) := digs_mul_len HLA.out (val_lt HDB.out k)
      have HV : Hid (nat a * val b k + B ^ k * (nat a * dg b k) = nat a * val b (k + 1)) := by
        show nat a * val b k + B ^ k * (nat a * dg b k) = nat a * (val b k + dg b k * B ^ k)
        rw [Nat.mul_add, Nat.mul_left_comm, Nat.mul_comm (B ^ k)]
      clear hdg
      go_wp2_with fail
      refine (CS.out (dg b k) HDG.out _ HB.out).mono ?_
      rintro e x1 ⟨v1, rfl, s1, b1⟩
      have S1 := Lib.hid s1
      have B1 := Lib.hid (chain0 HB.out b1)
      have O1 := Lib.hid (Sl.keep HO.out b1)
      obtain ⟨A6, c6, rfl, _⟩ := ns_cases s1
      clear s1 b1
      go_wp2_with fail
      refine (shift_any _ _ k x1 (by have := HL1.out; omega) (by omega) (Dg.digs _) S1.out).mono ?_
      rintro e x2 ⟨v2, rfl, s2, b2⟩
      rw [nat_digs] at s2
      have S2 := Lib.hid s2
      have B2 := Lib.hid (chain0 B1.out b2)
      have O2 := Lib.hid (Sl.keep O1.out b2)
      obtain ⟨A7, c7, rfl, _⟩ := ns_cases s2
      clear s2 b2
      go_wp2_with fail
      refine (radd_any _ _ _ _ x2 (by have := HL3.out; omega) (by have := HL2.out; omega) (Dg.digs _) (Dg.digs _) O2.out S2.out).mono ?_
      rintro e x3 ⟨v3, rfl, s3, b3⟩
      rw [nat_digs, nat_digs, HV.out] at s3
      have S3 := Lib.hid s3
      have B3 := Lib.hid (chain0 B2.out b3)
      obtain ⟨A8, c8, rfl, _⟩ := ns_cases s3
      clear s3 b3
      go_wp2_with fail
      go_roundw
      case rel => exact ⟨k + 1, by omega, by go_num, S3, B3⟩
      case measure => simp [intOf]; omega
    · have hdec : decide (k < b.length) = false := decide_eq_false hlt
      have hdec2 : decide ((k : Int) < (b.length : Int)) = false := decide_eq_false (by omega)
      obtain rfl : k = b.length := by omega
      have HE : Hid (val b b.length = nat b) := val_nat (Nat.le_refl _)
      go_wp2_with fail
      go_ret
      refine ⟨.slice A5 (digs (nat a * val b b.length)).length c5, rfl, ?_, HB.out⟩
      rw [← HE.out]
      exact HO.out
end Fr
end Go.Proofs.YthehchdonmmpaaaGreatDoor
