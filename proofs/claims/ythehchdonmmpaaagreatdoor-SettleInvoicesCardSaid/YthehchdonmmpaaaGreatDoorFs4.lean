/- The program's Valid of fractions, exactly. -/
import Derived.Test.YthehchdonmmpaaaGreatDoorFs2
import Derived.Test.YthehchdonmmpaaaGreatDoorFs3
import Derived.Test.YthehchdonmmpaaaGreatDoorPs02
namespace Go.Proofs.YthehchdonmmpaaaGreatDoor
open Go.ChangeShapes Go.WideShapes Go.ChangeAt Go.RowKit
set_option linter.unusedVariables false
set_option linter.unusedSimpArgs false
namespace Fr
theorem kind_any (s : Bool) (A1 : Option Addr) (c1 n' : Nat) (v2 : Value) (w : World) : Calls Tryz.prog 61 #[.agg #[.bool s, .slice A1 n' c1, v2]] w fun e w' => e = .returned (.agg #[.bool s, .bool (decide (n' = 0))]) ∧ Below w.heap.size w w' := by
  have q : ((n' : Int) == 0) = decide (n' = 0) := by
    by_cases h : n' = 0
    · rw [decide_eq_true h, beq_iff_eq]; omega
    · rw [decide_eq_false h, beq_eq_false_iff_ne]; omega
  have e1 : (w.alloc (.cells #[.bool s, .slice A1 n' c1, v2] 47)).heap.size = w.heap.size + 1 := World.size_alloc _ _
  go_enter Tryz.func61, Tryz.ntmps61
  go_wp2_with fail
  refine bodyPost_ret (v := .agg #[.bool s, .bool (decide (n' = 0))]) (by simp [results, Tryz.results61, go_sem, q]) rfl ⟨rfl, ?_⟩
  have := Below.refl w.heap.size w
  go_grown
set_option maxHeartbeats 2000000 in
theorem nfvalid_any (neg : Bool) (A1 A2 : Option Addr) (c1 c2 : Nat) (l1 l2 : List Nat) (w : World) (hl1 : l1.length ≤ 1000) (hl2 : l2.length ≤ 1000) (hd1 : Dg l1) (hd2 : Dg l2) (hn : NS w (.slice A1 l1.length c1) l1) (hd : NS w (.slice A2 l2.length c2) l2) :
    Calls Tryz.prog 38 #[.agg #[.bool neg, .slice A1 l1.length c1, .slice A2 l2.length c2]] w fun e w' => e = .returned (.bool (validF neg l1 l2)) ∧ Below w.heap.size w w' := by
  obtain ⟨x1, hx1⟩ : ∃ x1, x1 = decide (l1 = digs (nat l1)) := ⟨_, rfl⟩
  obtain ⟨x2, hx2⟩ : ∃ x2, x2 = decide (l2 = digs (nat l2)) := ⟨_, rfl⟩
  have C1 := Lib.hid (fun w' (b : Below w.heap.size w w') => nnvalid l1 _ w' x1 hl1 hd1 (hn.keep b) hx1)
  have C2 := Lib.hid (fun w' (b : Below w.heap.size w w') => nnvalid l2 _ w' x2 hl2 hd2 (hd.keep b) hx2)
  have C3 := Lib.hid (fun w' => kind_any neg A1 c1 l1.length (.slice A2 l2.length c2) w')
  have V1 := Lib.hid (fun (h : x1 = false) => vf1 (neg := neg) (l1 := l1) (l2 := l2) (hx1.symm.trans h))
  have V2 := Lib.hid (fun (h : x2 = false) => vf2 (neg := neg) (l1 := l1) (l2 := l2) (hx2.symm.trans h))
  have V3 := Lib.hid (fun h => vf3 (neg := neg) (l1 := l1) (l2 := l2) h)
  have V4 : Hid (neg = true ∧ l1.length = 0 → validF neg l1 l2 = false) := fun ⟨e, h⟩ => by rw [e]; exact vf4 h
  have V5 := Lib.hid (fun (h1 : x1 = true) (h2 : x2 = true) => vf5 (neg := neg) (l1 := l1) (l2 := l2) (hx1.symm.trans h1) (hx2.symm.trans h2))
  have CG := Lib.hid (fun w' (b : Below w.heap.size w w') => ngcd_any l1 l2 (.slice A1 l1.length c1) (.slice A2 l2.length c2) w' (by omega) (by omega) hd1 hd2 (hn.keep b) (hd.keep b))
  have GL : Hid ((digs (Nat.gcd (nat l1) (nat l2))).length ≤ 50000) := by
    rcases Nat.eq_zero_or_pos (nat l1) with h | h
    · show _ ≤ _
      rw [h, Nat.gcd_zero_left]
      have := digs_len_le (nat_lt hd2)
      omega
    · have h1 := digs_len_mono (Nat.gcd_le_left (nat l2) h)
      have h2 := digs_len_le (nat_lt hd1)
      show _ ≤ _
      omega
  have K0 : Hid (Blk (w.alloc (.cells #[.bool neg, .slice A1 l1.length c1, .slice A2 l2.length c2] 47)) w.heap.size 47 #[.bool neg, .slice A1 l1.length c1, .slice A2 l2.length c2]) := Blk.new w _ _
  have B0 : Hid (Below w.heap.size w (w.alloc (.cells #[.bool neg, .slice A1 l1.length c1, .slice A2 l2.length c2] 47))) := below_new w _
  clear hn hd hd1 hd2 hx1 hx2
  generalize validF neg l1 l2 = R at *
  go_enter Tryz.func38, Tryz.ntmps38
  go_upto_region 1 with fail
  generalize w.alloc (.cells #[.bool neg, .slice A1 l1.length c1, .slice A2 l2.length c2] 47) = w1 at *
  have k1 := K0.out.c3
  cases x1
  · have HV := Lib.hid (V1.out rfl)
    go_wp2_with fail
    refine (C1.out _ B0.out).mono ?_
    rintro e w2 ⟨rfl, rfl⟩
    go_wp2_with fail
    go_ret
    exact ⟨by rw [HV.out]; rfl, B0.out⟩
  cases x2
  · have HV := Lib.hid (V2.out rfl)
    go_wp2_with fail
    refine (C1.out _ B0.out).mono ?_
    rintro e w2 ⟨rfl, rfl⟩
    go_wp2_with fail
    refine (C2.out _ B0.out).mono ?_
    rintro e w2 ⟨rfl, rfl⟩
    go_wp2_with fail
    go_ret
    exact ⟨by rw [HV.out]; rfl, B0.out⟩
  by_cases h2 : l2.length = 0
  · have q1 : ((l2.length : Int) == 0) = true := by rw [h2]; rfl
    have HV := Lib.hid (V3.out h2)
    clear h2
    go_wp2_with fail
    refine (C1.out _ B0.out).mono ?_
    rintro e w2 ⟨rfl, rfl⟩
    go_wp2_with fail
    refine (C2.out _ B0.out).mono ?_
    rintro e w2 ⟨rfl, rfl⟩
    go_wp2_with fail
    go_ret
    exact ⟨by rw [HV.out]; rfl, B0.out⟩
  have q1 : ((l2.length : Int) == 0) = false := beq_eq_false_iff_ne.2 (by omega)
  by_cases h1 : neg = true ∧ l1.length = 0
  · have HV := Lib.hid (V4.out h1)
    obtain ⟨rfl, h1⟩ := h1
    rw [decide_eq_true h1] at C3
    clear h1 h2
    go_wp2_with fail
    refine (C1.out _ B0.out).mono ?_
    rintro e w2 ⟨rfl, rfl⟩
    go_wp2_with fail
    refine (C2.out _ B0.out).mono ?_
    rintro e w2 ⟨rfl, rfl⟩
    go_wp2_with fail
    refine (C3.out _).mono ?_
    rintro e w3 ⟨rfl, d3⟩
    have B3 := Lib.hid (chain0 B0.out d3)
    clear d3
    go_wp2_with fail
    go_ret
    exact ⟨by rw [HV.out]; rfl, B3.out⟩
  · have hb : (neg && decide (l1.length = 0)) = false := by
      cases neg
      · rfl
      · rw [decide_eq_false (fun h => h1 ⟨rfl, h⟩)]; rfl
    have HV := Lib.hid (V5.out rfl rfl h2 hb)
    obtain ⟨z, hz⟩ : ∃ z, z = decide (l1.length = 0) := ⟨_, rfl⟩
    rw [← hz] at C3 hb
    clear h1 h2 hz
    obtain ⟨g, hg⟩ : ∃ g, g = Nat.gcd (nat l1) (nat l2) := ⟨_, rfl⟩
    rw [← hg] at CG GL HV
    clear hg
    have CU := Lib.hid (fun w' => nfromUint_any 1 w' (by decide))
    have CC := Lib.hid (fun w' v1 v2 (h1 : NS w' v1 (digs g)) (h2 : NS w' v2 (digs 1)) => ncmp_any (digs g) (digs 1) v1 v2 w' GL.out (by decide) (Dg.digs _) (Dg.digs _) h1 h2)
    rw [nat_digs, nat_digs] at CC
    have HCM := cmp_one g
    rw [← HV.out] at HCM
    cases neg
    · clear hb
      go_wp2_with fail
      refine (C1.out _ B0.out).mono ?_
      rintro e w2 ⟨rfl, rfl⟩
      go_wp2_with fail
      refine (C2.out _ B0.out).mono ?_
      rintro e w2 ⟨rfl, rfl⟩
      go_wp2_with fail
      refine (C3.out _).mono ?_
      rintro e w3 ⟨rfl, d3⟩
      have B3 := Lib.hid (chain0 B0.out d3)
      have k3 := (K0.out.below' d3).c3
      clear d3 k1
      go_wp2_with fail
      refine (CG.out _ B3.out).mono ?_
      rintro e w4 ⟨v4, rfl, s4, d4⟩
      have B4 := Lib.hid (chain0 B3.out d4)
      obtain ⟨A4, c4, rfl, _⟩ := ns_cases s4
      have S4 := Lib.hid s4
      clear s4 d4
      go_wp2_with fail
      refine (CU.out _).mono ?_
      rintro e w5 ⟨v5, rfl, s5, d5⟩
      have B5 := Lib.hid (chain0 B4.out d5)
      replace S4 := Lib.hid (S4.out.keep d5)
      obtain ⟨A5, c5, rfl, _⟩ := ns_cases s5
      have S5 := Lib.hid s5
      clear s5 d5
      go_wp2_with fail
      refine (CC.out _ _ _ S4.out S5.out).mono ?_
      rintro e w6 ⟨rfl, d6⟩
      have B6 := Lib.hid (chain0 B5.out d6)
      clear d6
      generalize cmp g 1 = cg at *
      go_wp2_with fail
      go_ret
      exact ⟨rfl, B6.out⟩
    · have hz : z = false := by simpa using hb
      rw [hz] at C3
      clear hb hz
      go_wp2_with fail
      refine (C1.out _ B0.out).mono ?_
      rintro e w2 ⟨rfl, rfl⟩
      go_wp2_with fail
      refine (C2.out _ B0.out).mono ?_
      rintro e w2 ⟨rfl, rfl⟩
      go_wp2_with fail
      refine (C3.out _).mono ?_
      rintro e w3 ⟨rfl, d3⟩
      have B3 := Lib.hid (chain0 B0.out d3)
      have k3 := (K0.out.below' d3).c3
      clear d3 k1
      go_wp2_with fail
      refine (CG.out _ B3.out).mono ?_
      rintro e w4 ⟨v4, rfl, s4, d4⟩
      have B4 := Lib.hid (chain0 B3.out d4)
      obtain ⟨A4, c4, rfl, _⟩ := ns_cases s4
      have S4 := Lib.hid s4
      clear s4 d4
      go_wp2_with fail
      refine (CU.out _).mono ?_
      rintro e w5 ⟨v5, rfl, s5, d5⟩
      have B5 := Lib.hid (chain0 B4.out d5)
      replace S4 := Lib.hid (S4.out.keep d5)
      obtain ⟨A5, c5, rfl, _⟩ := ns_cases s5
      have S5 := Lib.hid s5
      clear s5 d5
      go_wp2_with fail
      refine (CC.out _ _ _ S4.out S5.out).mono ?_
      rintro e w6 ⟨rfl, d6⟩
      have B6 := Lib.hid (chain0 B5.out d6)
      clear d6
      generalize cmp g 1 = cg at *
      go_wp2_with fail
      go_ret
      exact ⟨rfl, B6.out⟩
end Fr
end Go.Proofs.YthehchdonmmpaaaGreatDoor
