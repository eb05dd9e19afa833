/- The reference's Valid of fractions, exactly. Printed by gen_fs1.py. -/
import Derived.Test.YthehchdonmmpaaaGreatDoorFs0
namespace Go.Proofs.YthehchdonmmpaaaGreatDoor
open Go.ChangeShapes Go.WideShapes Go.ChangeAt Go.RowKit
set_option linter.unusedVariables false
set_option linter.unusedSimpArgs false
namespace Fr
set_option maxHeartbeats 2000000 in
theorem rfvalid_any (neg : Bool) (A1 A2 : Option Addr) (c1 c2 : Nat) (l1 l2 : List Nat) (w : World) (hl1 : l1.length ≤ 1000) (hl2 : l2.length ≤ 1000) (hd1 : Dg l1) (hd2 : Dg l2) (hn : NS w (.slice A1 l1.length c1) l1) (hd : NS w (.slice A2 l2.length c2) l2) :
    Calls Tryz.prog 20 #[.agg #[.bool neg, .slice A1 l1.length c1, .slice A2 l2.length c2]] w fun e w' => e = .returned (.bool (validF neg l1 l2)) ∧ Below w.heap.size w w' := by
  obtain ⟨x1, hx1⟩ : ∃ x1, x1 = decide (l1.getLastD 1 ≠ 0) := ⟨_, rfl⟩
  obtain ⟨x2, hx2⟩ : ∃ x2, x2 = decide (l2.getLastD 1 ≠ 0) := ⟨_, rfl⟩
  have C1 := Lib.hid (fun w' (b : Below w.heap.size w w') => rnvalid l1 _ w' x1 hl1 hd1 (hn.keep b) hx1)
  have C2 := Lib.hid (fun w' (b : Below w.heap.size w w') => rnvalid l2 _ w' x2 hl2 hd2 (hd.keep b) hx2)
  rw [getLast_iff hd1] at hx1
  rw [getLast_iff hd2] at hx2
  have V1 := Lib.hid (fun (h : x1 = false) => vf1 (neg := neg) (l1 := l1) (l2 := l2) (hx1.symm.trans h))
  have V2 := Lib.hid (fun (h : x2 = false) => vf2 (neg := neg) (l1 := l1) (l2 := l2) (hx2.symm.trans h))
  have V3 := Lib.hid (fun h => vf3 (neg := neg) (l1 := l1) (l2 := l2) h)
  have V4 : Hid (neg = true ∧ l1.length = 0 → validF neg l1 l2 = false) := fun ⟨e, h⟩ => by rw [e]; exact vf4 h
  have V5 := Lib.hid (fun (h1 : x1 = true) (h2 : x2 = true) => vf5 (neg := neg) (l1 := l1) (l2 := l2) (hx1.symm.trans h1) (hx2.symm.trans h2))
  have HE2 : Hid (x2 = true → l2 = digs (nat l2)) := fun h => of_decide_eq_true (hx2.symm.trans h)
  have HE1 : Hid (x1 = true → l1 = digs (nat l1)) := fun h => of_decide_eq_true (hx1.symm.trans h)
  have CG : Hid (l2 = digs (nat l2) → ∀ w', Below w.heap.size w w' → Calls Tryz.prog 45 #[.slice A1 l1.length c1, .slice A2 l2.length c2] w' (NatPost (Nat.gcd (nat l1) (nat l2)) w')) := fun e w' b => by
    have := rgcd_any l1 (nat l2) (.slice A1 l1.length c1) (.slice A2 l2.length c2) w' (by omega) (by rw [← e]; omega) hd1 (hn.keep b) (by rw [← e]; exact hd.keep b)
    exact this
  have HA2 : Hid (∀ w', Below w.heap.size w w' → 0 < l2.length → ∃ b o, A2 = some ⟨b, o, none⟩ ∧ b < w'.heap.size ∧ ∀ i, i < l2.length → w'.cell? ⟨b, o + i, none⟩ = some (.int .u32 ((dg l2 i : Nat) : Int))) := by
    intro w' b
    obtain ⟨A, c, e, _, _, ha⟩ := ns_cases (hd.keep b)
    injection e with e1 _ e2
    subst e1 e2
    exact ha
  have HDL : Hid (Dg l2) := hd2
  have K0 : Hid (Blk (w.alloc (.cells #[.bool neg, .slice A1 l1.length c1, .slice A2 l2.length c2] 47)) w.heap.size 47 #[.bool neg, .slice A1 l1.length c1, .slice A2 l2.length c2]) := Blk.new w _ _
  have B0 : Hid (Below w.heap.size w (w.alloc (.cells #[.bool neg, .slice A1 l1.length c1, .slice A2 l2.length c2] 47))) := below_new w _
  clear hn hd hd1 hd2 hx1 hx2
  generalize validF neg l1 l2 = R at *
  go_enter Tryz.func20, Tryz.ntmps20
  go_upto_region 1 with fail
  generalize w.alloc (.cells #[.bool neg, .slice A1 l1.length c1, .slice A2 l2.length c2] 47) = w1 at *
  have k1 := K0.out.c3
  cases x1
  · have HV := Lib.hid (V1.out rfl)
    go_wp2_with fail
    refine (C1.out _ B0.out).mono ?_
    rintro e w2 ⟨rfl, rfl⟩
    go_wp2_with fail
    go_ret
    exact ⟨by rw [HV.out]; rfl, B0.out⟩
  cases x2
  · have HV := Lib.hid (V2.out rfl)
    go_wp2_with fail
    refine (C1.out _ B0.out).mono ?_
    rintro e w2 ⟨rfl, rfl⟩
    go_wp2_with fail
    refine (C2.out _ B0.out).mono ?_
    rintro e w2 ⟨rfl, rfl⟩
    go_wp2_with fail
    go_ret
    exact ⟨by rw [HV.out]; rfl, B0.out⟩
  by_cases h2 : l2.length = 0
  · have q1 : ((l2.length : Int) == 0) = true := by rw [h2]; rfl
    have HV := Lib.hid (V3.out h2)
    clear h2
    go_wp2_with fail
    refine (C1.out _ B0.out).mono ?_
    rintro e w2 ⟨rfl, rfl⟩
    go_wp2_with fail
    refine (C2.out _ B0.out).mono ?_
    rintro e w2 ⟨rfl, rfl⟩
    go_wp2_with fail
    go_ret
    exact ⟨by rw [HV.out]; rfl, B0.out⟩
  have q1 : ((l2.length : Int) == 0) = false := beq_eq_false_iff_ne.2 (by omega)
  by_cases h1 : l1.length = 0
  · have q2 : ((l1.length : Int) == 0) = true := by rw [h1]; rfl
    cases neg
    · have HV := Lib.hid (V5.out rfl rfl h2 rfl)
      have e0 : nat l1 = 0 := by
        have := List.eq_nil_of_length_eq_zero h1
        rw [this]; rfl
      have e1 := HE2.out rfl
      rw [e0, Nat.gcd_zero_left] at HV
      by_cases hg : l2.length = 1
      · obtain ⟨b, o, rfl, _, hc⟩ := HA2.out _ B0.out (by omega)
        have hc := hc 0 (by omega)
        rw [Nat.add_zero] at hc
        have HL : Hid ((((dg l2 0 : Nat) : Int) == 1) = (nat l2 == 1)) := by
          have := len_one (n := nat l2) (by rw [← e1]; exact hg)
          rw [← e1] at this
          exact this
        rw [← HL.out] at HV
        have q3 : ((l2.length : Int) == 1) = true := by rw [hg]; rfl
        have hk2 : (0 : Int) < (l2.length : Int) := by omega
        have ww := dg_lt HDL.out 0
        unfold B at ww
        clear h1 h2 hg HL e0 e1
        generalize l2.length = m at *
        generalize dg l2 0 = x at *
        go_wp2_with fail
        refine (C1.out _ B0.out).mono ?_
        rintro e w2 ⟨rfl, rfl⟩
        go_wp2_with fail
        refine (C2.out _ B0.out).mono ?_
        rintro e w2 ⟨rfl, rfl⟩
        go_wp2_with fail
        go_ret
        exact ⟨by rw [HV.out]; rfl, B0.out⟩
      · have q3 : ((l2.length : Int) == 1) = false := beq_eq_false_iff_ne.2 (by omega)
        have HL := Lib.hid (HV.out.trans (len_not (n := nat l2) (by rw [← e1]; exact hg)))
        clear h1 h2 hg e0 e1
        go_wp2_with fail
        refine (C1.out _ B0.out).mono ?_
        rintro e w2 ⟨rfl, rfl⟩
        go_wp2_with fail
        refine (C2.out _ B0.out).mono ?_
        rintro e w2 ⟨rfl, rfl⟩
        go_wp2_with fail
        go_ret
        exact ⟨by rw [HL.out]; rfl, B0.out⟩
    · have HV := Lib.hid (V4.out ⟨rfl, h1⟩)
      clear h1 h2
      go_wp2_with fail
      refine (C1.out _ B0.out).mono ?_
      rintro e w2 ⟨rfl, rfl⟩
      go_wp2_with fail
      refine (C2.out _ B0.out).mono ?_
      rintro e w2 ⟨rfl, rfl⟩
      go_wp2_with fail
      go_ret
      exact ⟨by rw [HV.out]; rfl, B0.out⟩
  · have q2 : ((l1.length : Int) == 0) = false := beq_eq_false_iff_ne.2 (by omega)
    have HV := Lib.hid (V5.out rfl rfl h2 (by rw [decide_eq_false h1]; exact Bool.and_false _))
    have CG2 := CG.out (HE2.out rfl)
    obtain ⟨g, hg9⟩ : ∃ g, g = Nat.gcd (nat l1) (nat l2) := ⟨_, rfl⟩
    rw [← hg9] at HV CG2
    have CGG := Lib.hid CG2
    clear h1 h2 hg9 CG2
    go_wp2_with fail
    refine (C1.out _ B0.out).mono ?_
    rintro e w2 ⟨rfl, rfl⟩
    go_wp2_with fail
    refine (C2.out _ B0.out).mono ?_
    rintro e w2 ⟨rfl, rfl⟩
    go_wp2_with fail
    refine (CGG.out _ B0.out).mono ?_
    rintro e w3 ⟨v, rfl, s1, b3⟩
    have B3 := Lib.hid (chain0 B0.out b3)
    obtain ⟨A3, c3, rfl, _, _, ha⟩ := ns_cases s1
    by_cases hg : (digs g).length = 1
    · obtain ⟨b, o, rfl, _, hc⟩ := ha (by omega)
      have hc := hc 0 (by omega)
      rw [Nat.add_zero] at hc
      have ww := dg_lt (Dg.digs g) 0
      unfold B at ww
      have q3 : (((digs g).length : Int) == 1) = true := by rw [hg]; rfl
      have hk2 : (0 : Int) < ((digs g).length : Int) := by omega
      have HL := Lib.hid (HV.out.trans (len_one hg).symm)
      clear s1 ha hg
      generalize (digs g).length = m at *
      generalize dg (digs g) 0 = x at *
      go_wp2_with fail
      go_ret
      exact ⟨by rw [HL.out]; rfl, B3.out⟩
    · have q3 : (((digs g).length : Int) == 1) = false := beq_eq_false_iff_ne.2 (by omega)
      have HL := Lib.hid (HV.out.trans (len_not hg))
      clear s1 ha hg
      go_wp2_with fail
      go_ret
      exact ⟨by rw [HL.out]; rfl, B3.out⟩
end Fr
end Go.Proofs.YthehchdonmmpaaaGreatDoor
