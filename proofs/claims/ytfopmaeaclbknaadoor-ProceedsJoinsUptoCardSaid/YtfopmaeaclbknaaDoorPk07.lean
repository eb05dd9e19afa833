/- Contract of the reference's Add. Printed by gen_nat3.py. -/
import Derived.Test.YtfopmaeaclbknaaDoorPk01
namespace Go.Proofs.YtfopmaeaclbknaaDoor
open Go.ChangeShapes Go.WideShapes Go.ChangeAt Go.RowKit
set_option linter.unusedVariables false
set_option linter.unusedSimpArgs false
namespace Fr
set_option maxHeartbeats 2000000 in
set_option maxRecDepth 100000 in
theorem radd_any (a b : List Nat) (va vb : Value) (w : World) (hla : a.length ≤ 50000) (hlb : b.length ≤ 50000) (hda : Dg a) (hdb : Dg b) (ha : NS w va a) (hb : NS w vb b) : Calls Tryd.prog 76 #[va, vb] w (NatPost (nat a + nat b) w) := by
  obtain ⟨i0, hi0, hz0, hz1, hz2⟩ := info_parts u32_info
  have CA := Lib.hid (fun i (hi : i ≤ 100000) w' (k : Below w.heap.size w w') => digit_any a va i w' (by omega) hi hda (Sl.keep ha k))
  have CB := Lib.hid (fun i (hi : i ≤ 100000) w' (k : Below w.heap.size w w') => digit_any b vb i w' (by omega) hi hdb (Sl.keep hb k))
  have HDA := Lib.hid hda
  have HDB := Lib.hid hdb
  obtain ⟨A1, c1, rfl, _, _, _⟩ := ns_cases ha
  obtain ⟨A2, c2, rfl, _, _, _⟩ := ns_cases hb
  clear ha hb hda hdb
  by_cases hab : a.length < b.length
  · go_enter Tryd.func76, Tryd.ntmps76
    go_wp2_with fail
    go_loopw [7, 5, 6] (fun i v cv wr => ∃ k c : Nat, ∃ o : List Nat, k ≤ b.length + 1 ∧ c ≤ 1 ∧ i = .int .i64 (k : Int) ∧ cv = .int .u64 (c : Int) ∧ Hid (o.length = k ∧ Dg o ∧ nat o + c * B ^ k = val a k + val b k) ∧ Hid (wr.ownsRow w.heap.size 92 1 v k (u32s o)) ∧ Hid (Below w.heap.size w wr)) (fun i _ _ _ => b.length + 1 - (intOf i).toNat)
    case atStart => exact ⟨0, 0, [], by omega, by omega, rfl, rfl, ⟨rfl, Dg.nil, rfl⟩, ⟨rfl, .inl ⟨rfl, rfl⟩⟩, Below.refl _ _⟩
    case round =>
      obtain ⟨k, c, o, hk, hc, rfl, rfl, HI, HO, HB⟩ := hrel
      obtain ⟨A5, c5, rfl⟩ := own_form HO.out
      have hk0 : (0 : Int) ≤ (k : Int) := by omega
      by_cases hlt : k ≤ b.length
      · have hdec : decide (k ≤ b.length) = true := decide_eq_true hlt
        have hk1 : (k : Int) ≤ 100000 := by omega
        obtain ⟨t, s, lo, hi, hq, f1, f2, p2, p4, hi1, p1⟩ := sum_facts (dg_lt HDA.out k) (dg_lt HDB.out k) hc
        have HN := Lib.hid (add_step (k := k) HI.out.1 HI.out.2.2 hq.1)
        rw [← hq.2.1, ← hq.2.2] at HN
        have P1 := Lib.hid p1
        have hs0 : (0 : Int) ≤ (s : Int) := by omega
        clear hq p1
        go_wp2_with fail
        refine (CA.out k (by omega) _ HB.out).mono ?_
        rintro e w1 ⟨rfl, rfl⟩
        go_wp2_with fail
        refine (CB.out k (by omega) _ HB.out).mono ?_
        rintro e w1 ⟨rfl, rfl⟩
        go_wp2_with (at_builtin; refine wpList_append_sl _ rfl (.tmp 27) (.tmp 31) _ rfl (w.heap.size) 92 i0 _ 1 4 Tryd.underlying36 hi0 hz0 hz1 hz2 rfl (by decide) (.slice A5 (k) c5) (k) (u32s o) rfl (own_below HO.out (below_new _ _)) (.slice (some ⟨wr.heap.size, 0, none⟩) 1 1) 1 (u32s [lo]) rfl (ns_new1 wr lo 92) (u32s_one _) (by unfold maxLen; omega) (by omega) (by have := HB.out.size; simp; omega) ?_)
        intro v' w1 hown hgr
        obtain ⟨A6, c6, rfl⟩ := own_form hown
        have HO1 := Lib.hid hown
        have HB1 := Lib.hid ((HB.out.alloc HB.out.size (.cells #[.int .u32 ((lo : Nat) : Int)] 92)).grown hgr (by have := HB.out.size; simp; omega) (fun q hq => own_far HO.out q hq))
        clear hown hgr
        go_wp2_with fail
        go_roundw
        case rel => exact ⟨k + 1, hi, o ++ [lo], by omega, hi1, by go_num, rfl, ⟨by simp [HI.out.1], HI.out.2.1.append (Dg.cons P1.out Dg.nil), HN.out⟩, (by rw [u32s_append]; exact HO1.out), HB1.out⟩
        case measure => simp [intOf]; omega
      · have hdec : decide (k ≤ b.length) = false := decide_eq_false hlt
        obtain rfl : k = b.length + 1 := by omega
        have HE := Lib.hid (add_end HDA.out HDB.out (by omega) (by omega) HI.out.2.2)
        have CT := Lib.hid (trim_any o _ wr (by rw [HI.out.1]; omega) HI.out.2.1 (ns_own HO.out))
        rw [HE.out] at CT
        go_wp2_with fail
        refine CT.out.mono ?_
        rintro e w1 ⟨v1, rfl, hs1, hb1⟩
        have HS1 := Lib.hid hs1
        have HB1 := Lib.hid (chain0 HB.out hb1)
        obtain ⟨A6, c6, rfl, _⟩ := ns_cases hs1
        clear hs1 hb1
        go_wp2_with fail
        go_ret
        exact ⟨_, rfl, HS1.out, HB1.out⟩
  · go_enter Tryd.func76, Tryd.ntmps76
    go_wp2_with fail
    go_loopw [7, 5, 6] (fun i v cv wr => ∃ k c : Nat, ∃ o : List Nat, k ≤ a.length + 1 ∧ c ≤ 1 ∧ i = .int .i64 (k : Int) ∧ cv = .int .u64 (c : Int) ∧ Hid (o.length = k ∧ Dg o ∧ nat o + c * B ^ k = val a k + val b k) ∧ Hid (wr.ownsRow w.heap.size 92 1 v k (u32s o)) ∧ Hid (Below w.heap.size w wr)) (fun i _ _ _ => a.length + 1 - (intOf i).toNat)
    case atStart => exact ⟨0, 0, [], by omega, by omega, rfl, rfl, ⟨rfl, Dg.nil, rfl⟩, ⟨rfl, .inl ⟨rfl, rfl⟩⟩, Below.refl _ _⟩
    case round =>
      obtain ⟨k, c, o, hk, hc, rfl, rfl, HI, HO, HB⟩ := hrel
      obtain ⟨A5, c5, rfl⟩ := own_form HO.out
      have hk0 : (0 : Int) ≤ (k : Int) := by omega
      by_cases hlt : k ≤ a.length
      · have hdec : decide (k ≤ a.length) = true := decide_eq_true hlt
        have hk1 : (k : Int) ≤ 100000 := by omega
        obtain ⟨t, s, lo, hi, hq, f1, f2, p2, p4, hi1, p1⟩ := sum_facts (dg_lt HDA.out k) (dg_lt HDB.out k) hc
        have HN := Lib.hid (add_step (k := k) HI.out.1 HI.out.2.2 hq.1)
        rw [← hq.2.1, ← hq.2.2] at HN
        have P1 := Lib.hid p1
        have hs0 : (0 : Int) ≤ (s : Int) := by omega
        clear hq p1
        go_wp2_with fail
        refine (CA.out k (by omega) _ HB.out).mono ?_
        rintro e w1 ⟨rfl, rfl⟩
        go_wp2_with fail
        refine (CB.out k (by omega) _ HB.out).mono ?_
        rintro e w1 ⟨rfl, rfl⟩
        go_wp2_with (at_builtin; refine wpList_append_sl _ rfl (.tmp 27) (.tmp 31) _ rfl (w.heap.size) 92 i0 _ 1 4 Tryd.underlying36 hi0 hz0 hz1 hz2 rfl (by decide) (.slice A5 (k) c5) (k) (u32s o) rfl (own_below HO.out (below_new _ _)) (.slice (some ⟨wr.heap.size, 0, none⟩) 1 1) 1 (u32s [lo]) rfl (ns_new1 wr lo 92) (u32s_one _) (by unfold maxLen; omega) (by omega) (by have := HB.out.size; simp; omega) ?_)
        intro v' w1 hown hgr
        obtain ⟨A6, c6, rfl⟩ := own_form hown
        have HO1 := Lib.hid hown
        have HB1 := Lib.hid ((HB.out.alloc HB.out.size (.cells #[.int .u32 ((lo : Nat) : Int)] 92)).grown hgr (by have := HB.out.size; simp; omega) (fun q hq => own_far HO.out q hq))
        clear hown hgr
        go_wp2_with fail
        go_roundw
        case rel => exact ⟨k + 1, hi, o ++ [lo], by omega, hi1, by go_num, rfl, ⟨by simp [HI.out.1], HI.out.2.1.append (Dg.cons P1.out Dg.nil), HN.out⟩, (by rw [u32s_append]; exact HO1.out), HB1.out⟩
        case measure => simp [intOf]; omega
      · have hdec : decide (k ≤ a.length) = false := decide_eq_false hlt
        obtain rfl : k = a.length + 1 := by omega
        have HE := Lib.hid (add_end HDA.out HDB.out (by omega) (by omega) HI.out.2.2)
        have CT := Lib.hid (trim_any o _ wr (by rw [HI.out.1]; omega) HI.out.2.1 (ns_own HO.out))
        rw [HE.out] at CT
        go_wp2_with fail
        refine CT.out.mono ?_
        rintro e w1 ⟨v1, rfl, hs1, hb1⟩
        have HS1 := Lib.hid hs1
        have HB1 := Lib.hid (chain0 HB.out hb1)
        obtain ⟨A6, c6, rfl, _⟩ := ns_cases hs1
        clear hs1 hb1
        go_wp2_with fail
        go_ret
        exact ⟨_, rfl, HS1.out, HB1.out⟩
end Fr
end Go.Proofs.YtfopmaeaclbknaaDoor
