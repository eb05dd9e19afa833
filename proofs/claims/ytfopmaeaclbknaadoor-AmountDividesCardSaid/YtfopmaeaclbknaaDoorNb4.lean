/- Contract of natural.shifted. -/
import Derived.Test.YtfopmaeaclbknaaDoorNb1
namespace Go.Proofs.YtfopmaeaclbknaaDoor
open Go.ChangeShapes Go.WideShapes Go.ChangeAt Go.RowKit
set_option linter.unusedVariables false
set_option linter.unusedSimpArgs false
namespace Fr
/-- what shifted answers: a new row of one digit more -/
def ShiftPost (a : List Nat) (s : Nat) (w : World) (e : Ending) (w' : World) : Prop := ∃ g L, e = .returned (.slice (some ⟨g, 0, none⟩) (a.length + 1) (a.length + 1)) ∧ Row w' w.heap.size g 92 (a.length + 1) L ∧ Dg L ∧ nat L = nat a * 2 ^ s ∧ Below w.heap.size w w'
set_option maxHeartbeats 1000000 in
set_option maxRecDepth 100000 in
theorem nshifted_any (a : List Nat) (va : Value) (s : Nat) (w : World) (hla : a.length ≤ 50000) (hda : Dg a) (hs : s < 32) (ha : NS w va a) : Calls Tryd.prog 132 #[va, .int .u64 (s : Int)] w (ShiftPost a s w) := by
  obtain ⟨i0, hi0, hz0, hz1, hz2⟩ := info_parts u32_info
  have HDA := Lib.hid hda
  have HA := Lib.hid ha
  obtain ⟨A1, c1, rfl, _, _, _⟩ := ns_cases ha
  have hs0 : (0 : Int) ≤ (s : Int) := by omega
  have hs1 : (s : Int) < 32 := by omega
  clear ha hda
  go_enter Tryd.func132, Tryd.ntmps132
  go_wp2_with (at_make; refine wpList_make_full _ rfl _ _ 36 rfl w.heap.size 92 i0 (.int .u32 0) 1 Tryd.underlying36 hi0 hz0 hz1 .i64 .i64 _ _ (a.length + 1) rfl rfl (by omega) (by omega) (by rw [hz2]; omega) (by unfold maxLen; omega) (Nat.le_refl _) ?_)
  intro wm hown hgr
  have HR : Hid (Row wm w.heap.size w.heap.size 92 (a.length + 1) (List.replicate (a.length + 1) 0)) := Row.made' hown
  have BM : Hid (Below w.heap.size w wm) := (Below.refl _ _).grown hgr (Nat.le_refl _) (fun q hq => by simp at hq)
  obtain ⟨g, hg⟩ : ∃ g, g = w.heap.size := ⟨_, rfl⟩
  have HG := Lib.hid hg
  rw [← hg] at HR ⊢
  clear hown hgr hg
  go_wp2_with fail
  go_loopw [14] (fun iv wr => ∃ i c : Nat, ∃ o : List Nat, i ≤ a.length ∧ c < 2 ^ s ∧ iv = .int .i64 (i : Int) ∧ Hid (o.length = i ∧ Dg o ∧ nat o + c * B ^ i = val a i * 2 ^ s) ∧ Hid (Row wr g g 92 (a.length + 1) ((o ++ [c]) ++ List.replicate (a.length - i) 0)) ∧ Hid (Below w.heap.size w wr)) (fun iv _ => a.length - (intOf iv).toNat)
  case atStart => exact ⟨0, 0, [], Nat.zero_le _, Nat.two_pow_pos s, rfl, ⟨rfl, Dg.nil, by simp [nat, val]⟩, (by show Row _ _ _ _ _ _; simpa [List.replicate_succ] using HR.out), BM⟩
  case round =>
    obtain ⟨i, c, o, hi, hc, rfl, HI, HW, HB2⟩ := hrel
    have hi0' : (0 : Int) ≤ (i : Int) := by omega
    have hi5 : (i : Int) ≤ 50000 := by omega
    by_cases hik : i < a.length
    · have hdec : decide (i < a.length) = true := decide_eq_true hik
      have hdec1 : decide ((i : Int) < (a.length : Int)) = true := decide_eq_true (by omega)
      obtain ⟨b1, o1, e1, hb1, hc1⟩ := ns_cell (HA.out.keep HB2.out) (by omega)
      subst e1
      have d1 := hc1 i (by omega)
      have gl := HW.out.lt
      have gf := HW.out.free i
      have gc : wr.cell? ⟨g, i, none⟩ = some (.int .u32 (c : Int)) := by
        have := HW.out.cell (i := i) (by omega)
        rwa [dg_app_lt (by simp [HI.out.1]), dg_app_ge (by rw [HI.out.1]; exact Nat.le_refl _), HI.out.1, Nat.sub_self] at this
      have gf2 := HW.out.free (i + 1)
      have gc2 := HW.out.cell (i := i + 1) (by omega)
      have ua := u64w (dg_lt HDA.out i)
      obtain ⟨t, lo, hi, z, hq, f1, f2, f3, f4, f5, f6, hi1, z1⟩ := shift_facts (dg_lt HDA.out i) hs hc
      have HN : Hid (nat (o ++ [z]) + hi * B ^ (i + 1) = val a (i + 1) * 2 ^ s) := by
        have h1 := HI.out.2.2
        show _ = (val a i + dg a i * B ^ i) * 2 ^ s
        rw [nat_append, HI.out.1, Nat.pow_succ]
        simp only [nat, Nat.mul_zero, Nat.add_zero]
        generalize 2 ^ s = p at *
        generalize B ^ i = P at *
        grind
      have HR2 : Hid (Row ((wr.setCell ⟨g, i, none⟩ (.int .u32 (z : Int))).setCell ⟨g, i + 1, none⟩ (.int .u32 (hi : Int))) g g 92 (a.length + 1) (((o ++ [z]) ++ [hi]) ++ List.replicate (a.length - (i + 1)) 0)) := by
        have h1 := (HW.out.put i z).put (i + 1) hi
        obtain ⟨m, hm⟩ : ∃ m, a.length - i = m + 1 := ⟨a.length - i - 1, by omega⟩
        have hm2 : a.length - (i + 1) = m := by omega
        rw [hm] at h1
        rw [hm2]
        have e1 : ((o ++ [c]) ++ List.replicate (m + 1) 0).set i z = (o ++ [z]) ++ List.replicate (m + 1) 0 := by
          rw [List.append_assoc, List.set_append_right _ _ (by rw [HI.out.1]; exact Nat.le_refl _), HI.out.1, Nat.sub_self]
          simp
        have e2 : ((o ++ [z]) ++ List.replicate (m + 1) 0).set (i + 1) hi = ((o ++ [z]) ++ [hi]) ++ List.replicate m 0 := by
          have := set_fill (o ++ [z]) m hi
          rwa [show (o ++ [z]).length = i + 1 by simp [HI.out.1]] at this
        rw [e1, e2] at h1
        exact h1
      have HB3 : Hid (Below w.heap.size w ((wr.setCell ⟨g, i, none⟩ (.int .u32 (z : Int))).setCell ⟨g, i + 1, none⟩ (.int .u32 (hi : Int)))) := (HW.out.put i z).below (HW.out.below HB2.out (by have := HG.out; omega) _ _) (by have := HG.out; omega) _ _
      have HL := Lib.hid z1
      clear hc1 hq z1
      go_wp2_with fail
      go_roundw
      case rel => exact ⟨i + 1, hi, o ++ [z], by omega, hi1, by go_num, ⟨by simp [HI.out.1], HI.out.2.1.append (Dg.cons HL.out Dg.nil), HN.out⟩, HR2, HB3⟩
      case measure => simp [intOf]; omega
    · have hdec : decide (i < a.length) = false := decide_eq_false hik
      have hdec1 : decide ((i : Int) < (a.length : Int)) = false := decide_eq_false (by omega)
      obtain rfl : i = a.length := by omega
      have HE : Hid (nat (o ++ [c]) = nat a * 2 ^ s) := by
        have h1 := HI.out.2.2
        rw [val_nat (Nat.le_refl _)] at h1
        rw [nat_append, HI.out.1]
        simp only [nat, Nat.mul_zero, Nat.add_zero]
        rw [Nat.mul_comm]
        exact h1
      have HR2 : Hid (Row wr g g 92 (a.length + 1) (o ++ [c])) := by
        have := HW.out
        rw [Nat.sub_self] at this
        show Row _ _ _ _ _ _
        simpa using this
      have hcB : Hid (c < B) := by
        have : 2 ^ s ≤ 2 ^ 31 := Nat.pow_le_pow_right (by decide) (by omega)
        show c < B
        unfold B
        omega
      go_wp2_with fail
      go_ret
      exact ⟨g, o ++ [c], rfl, by have := HR2.out; rw [← HG.out]; exact this, HI.out.2.1.append (Dg.cons hcB.out Dg.nil), HE.out, HB2.out⟩
end Fr
end Go.Proofs.YtfopmaeaclbknaaDoor
