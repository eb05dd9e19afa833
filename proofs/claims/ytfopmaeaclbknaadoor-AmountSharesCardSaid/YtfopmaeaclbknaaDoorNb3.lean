/- Contract of natural.small. -/
import Derived.Test.YtfopmaeaclbknaaDoorNb1
namespace Go.Proofs.YtfopmaeaclbknaaDoor
open Go.ChangeShapes Go.WideShapes Go.ChangeAt Go.RowKit
set_option linter.unusedVariables false
set_option linter.unusedSimpArgs false
namespace Fr
theorem drop_dg {l : List Nat} {k : Nat} (hk : k < l.length) : l.drop k = dg l k :: l.drop (k + 1) := by rw [List.drop_eq_getElem_cons hk, dg_in hk]
/-- one place of a quotient by a digit -/
theorem small_facts {x d r : Nat} (hx : x < B) (hd : d < B) (hr : r < d) : ∃ t q r2 : Nat, (t = x + B * r ∧ q * d + r2 = t) ∧ bits BinOp.or IntKind.u64 (IntKind.u64.wrap ((r : Int) * 4294967296)) (x : Int) = ((t : Nat) : Int) ∧ (t : Int) / (d : Int) = ((q : Nat) : Int) ∧ (t : Int) % (d : Int) = ((r2 : Nat) : Int) ∧ IntKind.u64.wrap ((q : Nat) : Int) = ((q : Nat) : Int) ∧ IntKind.u64.wrap ((r2 : Nat) : Int) = ((r2 : Nat) : Int) ∧ IntKind.u32.wrap ((q : Nat) : Int) = ((q : Nat) : Int) ∧ ((q : Nat) : Int) % 4294967296 = ((q : Nat) : Int) ∧ r2 < d ∧ q < B := by
  have h1 : (x + B * r) / d < B := Nat.div_lt_of_lt_mul (by
    have : B * r + B ≤ B * d := by rw [← Nat.mul_succ]; exact Nat.mul_le_mul_left _ hr
    rw [Nat.mul_comm d B]
    omega)
  have h2 : (x + B * r) % d < d := Nat.mod_lt _ (by omega)
  refine ⟨_, (x + B * r) / d, (x + B * r) % d, ⟨rfl, ?_⟩, or_hi hx (by omega), by simp, by simp, ?_, ?_, ?_, ?_, h2, h1⟩
  · rw [Nat.mul_comm]; exact Nat.div_add_mod _ _
  · exact u64w h1
  · exact u64w (by omega)
  · generalize (x + B * r) / d = q at *
    exact IntWalk.u32_in _ (by unfold B at h1; omega)
  · generalize (x + B * r) / d = q at *
    unfold B at h1
    omega
theorem small_step {x d r t q r2 H A : Nat} (h : H * d + r = A) (ht : t = x + B * r) (hq : q * d + r2 = t) : (q + B * H) * d + r2 = x + B * A := by
  subst h
  grind
/-- what small answers -/
def SmallPost (n d : Nat) (w : World) (e : Ending) (w' : World) : Prop := ∃ v, e = .returned (.tuple #[v, .int .u32 ((n % d : Nat) : Int)]) ∧ NS w' v (digs (n / d)) ∧ Below w.heap.size w w'
set_option maxHeartbeats 1000000 in
set_option maxRecDepth 100000 in
theorem nsmall_any (a : List Nat) (va : Value) (d : Nat) (w : World) (hla : a.length ≤ 50000) (hda : Dg a) (hd0 : 0 < d) (hd : d < B) (ha : NS w va a) : Calls Tryd.prog 131 #[va, .int .u32 (d : Int)] w (SmallPost (nat a) d w) := by
  obtain ⟨i0, hi0, hz0, hz1, hz2⟩ := info_parts u32_info
  have HDA := Lib.hid hda
  have HA := Lib.hid ha
  have HD := Lib.hid hd
  have ud := u64w hd
  have qd : ((d : Int) == 0) = false := beq_eq_false_iff_ne.2 (by omega)
  have qd2 : (d : Int) ≠ 0 := by omega
  have hdi : (0 : Int) < (d : Int) := by omega
  obtain ⟨A1, c1, rfl, _, _, _⟩ := ns_cases ha
  clear ha hda hd
  go_enter Tryd.func131, Tryd.ntmps131
  go_wp2_with (at_make; refine wpList_make_full _ rfl _ _ 36 rfl w.heap.size 92 i0 (.int .u32 0) 1 Tryd.underlying36 hi0 hz0 hz1 .i64 .i64 _ _ a.length rfl rfl (by omega) (by omega) (by rw [hz2]; omega) (by unfold maxLen; omega) (Nat.le_refl _) ?_)
  intro wm hown hgr
  have HR : Hid (Row wm w.heap.size w.heap.size 92 a.length (List.replicate a.length 0)) := Row.made' hown
  have BM : Hid (Below w.heap.size w wm) := (Below.refl _ _).grown hgr (Nat.le_refl _) (fun q hq => by simp at hq)
  obtain ⟨g, hg⟩ : ∃ g, g = w.heap.size := ⟨_, rfl⟩
  have HG := Lib.hid hg
  rw [← hg] at HR ⊢
  clear hown hgr hg
  go_wp2_with fail
  go_loopw [16, 7] (fun iv rv wr => ∃ i r : Nat, ∃ o : List Nat, i ≤ a.length ∧ r < d ∧ iv = .int .i64 (i : Int) ∧ rv = .int .u64 (r : Int) ∧ Hid (o.length = i ∧ Dg o ∧ nat o * d + r = nat (a.drop (a.length - i))) ∧ Hid (Row wr g g 92 a.length (List.replicate (a.length - i) 0 ++ o)) ∧ Hid (Below w.heap.size w wr)) (fun iv _ _ => a.length - (intOf iv).toNat)
  case atStart => exact ⟨0, 0, [], Nat.zero_le _, hd0, rfl, rfl, ⟨rfl, Dg.nil, by simp [nat]⟩, (by show Row _ _ _ _ _ _; simpa using HR.out), BM⟩
  case round =>
    obtain ⟨i, r, o, hi, hr, rfl, rfl, HI, HW, HB2⟩ := hrel
    have hi0' : (0 : Int) ≤ (i : Int) := by omega
    have hi5 : (i : Int) ≤ 50000 := by omega
    by_cases hik : i < a.length
    · have hdec : decide (i < a.length) = true := decide_eq_true hik
      have hdec1 : decide ((i : Int) < (a.length : Int)) = true := decide_eq_true (by omega)
      obtain ⟨k, hk⟩ : ∃ k, k = a.length - 1 - i := ⟨_, rfl⟩
      have hk1 : (a.length : Int) - 1 - (i : Int) = ((k : Nat) : Int) := by omega
      have hk0 : (0 : Int) ≤ (k : Int) := by omega
      have hk2 : (k : Int) < (a.length : Int) := by omega
      have HK : Hid (a.length - i = k + 1 ∧ a.length - (i + 1) = k ∧ k < a.length) := ⟨by omega, by omega, by omega⟩
      obtain ⟨b1, o1, e1, hb1, hc1⟩ := ns_cell (HA.out.keep HB2.out) (by omega)
      subst e1
      have d1 := hc1 k (by omega)
      have gl := HW.out.lt
      have gf := HW.out.free k
      have gc := HW.out.cell (i := k) (by omega)
      obtain ⟨t, q, r2, hq, f1, f2, f3, f4, f5, f6, f7, hr2, hq2⟩ := small_facts (dg_lt HDA.out k) HD.out hr
      have HN : Hid (nat (q :: o) * d + r2 = nat (a.drop (a.length - (i + 1)))) := by
        have h1 := HI.out.2.2
        rw [HK.out.1] at h1
        show (q + B * nat o) * d + r2 = _
        rw [HK.out.2.1, drop_dg HK.out.2.2]
        exact small_step h1 hq.1 hq.2
      have HR2 : Hid (Row (wr.setCell ⟨g, k, none⟩ (.int .u32 (q : Int))) g g 92 a.length (List.replicate (a.length - (i + 1)) 0 ++ (q :: o))) := by
        have := HW.out.put k q
        rw [HK.out.1, set_top] at this
        rw [HK.out.2.1]
        exact this
      have HB3 : Hid (Below w.heap.size w (wr.setCell ⟨g, k, none⟩ (.int .u32 (q : Int)))) := HW.out.below HB2.out (by have := HG.out; omega) _ _
      have HL := Lib.hid hq2
      have ua := u64w (dg_lt HDA.out k)
      have ht0 : (0 : Int) ≤ (t : Int) := by omega
      clear hc1 hq hq2 hk
      go_wp2_with fail
      go_region
      all_goals go_wp2_with fail
      go_roundw
      case rel => exact ⟨i + 1, r2, q :: o, by omega, hr2, by go_num, by rw [f3], ⟨by simp [HI.out.1], Dg.cons HL.out HI.out.2.1, HN.out⟩, HR2.out.drew, chain0 HB3.out (drewN_below _ 1)⟩
      case measure => simp [intOf]; omega
    · have hdec : decide (i < a.length) = false := decide_eq_false hik
      have hdec1 : decide ((i : Int) < (a.length : Int)) = false := decide_eq_false (by omega)
      obtain rfl : i = a.length := by omega
      have HE : Hid (nat o = nat a / d ∧ r = nat a % d) := by
        have h1 := HI.out.2.2
        rw [Nat.sub_self, List.drop_zero] at h1
        constructor
        · rw [← h1, Nat.mul_comm, Nat.mul_add_div hd0, Nat.div_eq_of_lt hr, Nat.add_zero]
        · rw [← h1, Nat.mul_comm, Nat.mul_add_mod, Nat.mod_eq_of_lt hr]
      have HR2 : Hid (Row wr g g 92 a.length o) := by
        have := HW.out
        rw [Nat.sub_self] at this
        exact this
      have CT := ntrim_any o _ wr (by rw [HI.out.1]; omega) HI.out.2.1 (by have := HR2.out.ns; have e9 := HI.out.1; rwa [← e9] at this)
      unfold TrimPost at CT
      rw [HE.out.1, HI.out.1] at CT
      have CT := Lib.hid CT
      have HRR : Hid (((r : Nat) : Int) = ((nat a % d : Nat) : Int)) := by show _ = _; rw [← HE.out.2]
      have hrB : (r : Int) < 4294967296 := by have := HD.out; unfold B at this; omega
      have hr0 : (0 : Int) ≤ (r : Int) := by omega
      go_wp2_with fail
      refine CT.out.mono ?_
      rintro e w1 ⟨_, _, _, rfl, s1, rfl⟩
      have S1 := Lib.hid s1
      clear s1
      go_wp2_with fail
      go_ret2
      exact ⟨_, by rw [← HRR.out]; rfl, S1.out, HB2.out⟩
end Fr
end Go.Proofs.YtfopmaeaclbknaaDoor
