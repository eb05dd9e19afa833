/- Plain: what the loops of a long division compute. Contract of the reference's Sub. Printed by gen_nat4.py. Contract of the reference's Add. Printed by gen_nat3.py. -/
import Derived.Test.YthehchdonmmpaaaGreatDoorPs02
import Derived.Test.YthehchdonmmpaaaGreatDoorPs03
import Derived.Test.YthehchdonmmpaaaGreatDoorPs01
namespace Go.Proofs.YthehchdonmmpaaaGreatDoor
open Go.RowKit
set_option linter.unusedVariables false
namespace Fr
theorem top_ge {q : List Nat} {m : Nat} (hq : Dg q) (hl : q.length = m + 2) : dg q (m + 1) * B ^ (m + 1) ≤ nat q ∧ nat q < (dg q (m + 1) + 1) * B ^ (m + 1) := by
  have h2 : nat q = val q (m + 1) + dg q (m + 1) * B ^ (m + 1) := (show val q (m + 2) = nat q from val_nat (by omega)).symm
  have h3 := val_lt hq (m + 1)
  rw [Nat.succ_mul]
  omega
theorem norm_facts {N x s m : Nat} (h1 : x * B ^ (m + 1) ≤ N) (h2 : N < (x + 1) * B ^ (m + 1)) (hs : s < 32) (h3 : 2147483648 ≤ x * 2 ^ s) (h4 : x * 2 ^ s < B) : N * 2 ^ s < B ^ (m + 2) ∧ 2147483648 * B ^ (m + 1) ≤ N * 2 ^ s := by
  have hb : B = 2 ^ (32 - s) * 2 ^ s := by rw [← Nat.pow_add, show 32 - s + s = 32 by omega]; rfl
  have h5 : x < 2 ^ (32 - s) := by rw [hb] at h4; exact Nat.lt_of_mul_lt_mul_right h4
  have h6 : (x + 1) * 2 ^ s ≤ B := by
    conv => rhs; rw [hb]
    exact Nat.mul_le_mul_right _ h5
  constructor
  · have h7 : N * 2 ^ s < (x + 1) * B ^ (m + 1) * 2 ^ s := Nat.mul_lt_mul_of_pos_right h2 (Nat.two_pow_pos s)
    have h8 : (x + 1) * B ^ (m + 1) * 2 ^ s ≤ B ^ (m + 2) := by
      rw [Nat.pow_succ B (m + 1), Nat.mul_right_comm, Nat.mul_comm (B ^ (m + 1))]
      exact Nat.mul_le_mul_right _ h6
    omega
  · have h7 : 2147483648 * B ^ (m + 1) ≤ x * 2 ^ s * B ^ (m + 1) := Nat.mul_le_mul_right _ h3
    have h8 : x * B ^ (m + 1) * 2 ^ s ≤ N * 2 ^ s := Nat.mul_le_mul_right _ h1
    rw [Nat.mul_right_comm] at h8
    omega
theorem norm_digs {M m : Nat} (h1 : M < B ^ (m + 2)) (h2 : 2147483648 * B ^ (m + 1) ≤ M) : (digs M).length = m + 2 ∧ 2147483648 ≤ dg (digs M) (m + 1) := by
  have hp : 0 < B ^ (m + 1) := Nat.pow_pos B_pos
  have h3 : (digs M).length ≤ m + 2 := digs_len_le h1
  have h4 : m + 1 < (digs M).length := digs_len_ge (by have := Nat.mul_le_mul_right (B ^ (m + 1)) (show 1 ≤ 2147483648 by decide); omega)
  refine ⟨by omega, ?_⟩
  rw [dg_div (Dg.digs M), nat_digs]
  have h5 : 2147483648 ≤ M / B ^ (m + 1) := (Nat.le_div_iff_mul_le hp).2 h2
  have h6 : M / B ^ (m + 1) < B := Nat.div_lt_of_lt_mul (by rw [← Nat.pow_succ]; exact h1)
  rw [Nat.mod_eq_of_lt h6]
  exact h5
theorem val_zeros {l : List Nat} {M : Nat} (h : ∀ i, M ≤ i → dg l i = 0) : nat l = val l M := by
  have h1 : ∀ t, val l (M + t) = val l M := by
    intro t
    induction t with
    | zero => rfl
    | succ t ih =>
      show val l (M + t) + dg l (M + t) * B ^ (M + t) = _
      rw [h (M + t) (by omega), Nat.zero_mul, Nat.add_zero, ih]
  rw [← h1 l.length]
  exact (val_nat (by omega)).symm
theorem nat_split {X : List Nat} {j : Nat} (hj : j ≤ X.length) : nat X = val X j + B ^ j * nat (X.drop j) := by
  have := nat_append (X.take j) (X.drop j)
  rw [List.take_append_drop, List.length_take, Nat.min_eq_left hj] at this
  rw [val_take]
  exact this
/-- the state of a long division: j places are to come -/
structure DivSt (A : Nat) (V X Q : List Nat) (j : Nat) : Prop where
  xd : Dg X
  qd : Dg Q
  sum : A = nat X + B ^ j * (nat Q * nat V)
  less : nat X < B ^ j * nat V
section
variable {A : Nat} {V X X' Q : List Nat} {j m : Nat}
theorem DivSt.win (h : DivSt A V X Q (j + 1)) (hj : j ≤ X.length) (hV : nat V < B ^ (m + 2)) : win X j m = nat (X.drop j) ∧ nat (X.drop j) < nat V * B ∧ nat (X.drop j) < B ^ (m + 3) := by
  have h1 := nat_split hj
  have h2 : B ^ j * nat (X.drop j) < B ^ j * (nat V * B) := by
    have h3 := h.less
    have h4 : B ^ (j + 1) * nat V = B ^ j * (nat V * B) := by rw [Nat.pow_succ, Nat.mul_assoc, Nat.mul_comm B]
    omega
  have h5 : nat (X.drop j) < nat V * B := Nat.lt_of_mul_lt_mul_left h2
  have h6 : nat (X.drop j) < B ^ (m + 3) := by
    have h7 : nat V * B < B ^ (m + 2) * B := Nat.mul_lt_mul_of_pos_right hV B_pos
    have h8 : B ^ (m + 3) = B ^ (m + 2) * B := Nat.pow_succ ..
    omega
  exact ⟨val_of_lt (h.xd.drop j) h6, h5, h6⟩
theorem DivSt.step (h : DivSt A V X Q (j + 1)) (hj : j ≤ X.length) (hV : nat V < B ^ (m + 2)) (hV0 : 0 < nat V) (hl : X'.length = X.length) (hd : Dg X') (hs : ∀ i, i < j ∨ j + (m + 2) < i → dg X' i = dg X i) (hw : Fr.win X' j m = Fr.win X j m % nat V) : Fr.win X j m / nat V < B ∧ DivSt A V X' ((Fr.win X j m / nat V) :: Q) j := by
  obtain ⟨h1, h2, h3⟩ := h.win (m := m) hj hV
  have hq : Fr.win X j m / nat V < B := Nat.div_lt_of_lt_mul (by rw [h1]; exact h2)
  refine ⟨hq, hd, Dg.cons hq h.qd, ?_, ?_⟩
  all_goals
    have e1 : val X' j = val X j := val_same fun i hi => hs i (.inl hi)
    have e2 : nat (X'.drop j) = Fr.win X j m % nat V := by
      rw [← hw]
      refine val_zeros fun i hi => ?_
      rw [dg_drop, hs (j + i) (by omega), ← dg_drop, dg_div (h.xd.drop j)]
      have : nat (X.drop j) < B ^ i := Nat.lt_of_lt_of_le h3 (Nat.pow_le_pow_right B_pos hi)
      rw [Nat.div_eq_of_lt this, Nat.zero_mod]
    have e3 := nat_split (X := X') (j := j) (by omega)
    have e4 := nat_split hj
    have e5 := val_lt h.xd j
    have e6 := Nat.mod_lt (Fr.win X j m) hV0
    have e7 := Nat.div_add_mod (Fr.win X j m) (nat V)
    rw [← h1] at e4
    rw [e1, e2] at e3
    generalize Fr.win X j m / nat V = q at *
    generalize Fr.win X j m % nat V = r at *
  · rw [h.sum, e3, e4, ← e7]
    simp only [nat]
    rw [Nat.pow_succ]
    generalize B ^ j = P at *
    grind
  · rw [e3]
    have : B ^ j * r + B ^ j ≤ B ^ j * nat V := by rw [← Nat.mul_succ]; exact Nat.mul_le_mul_left _ e6
    omega
theorem DivSt.done (h : DivSt A V X Q 0) (hV0 : 0 < nat V) : nat Q = A / nat V ∧ nat X = A % nat V := by
  have h1 := h.sum
  have h2 := h.less
  rw [Nat.pow_zero, Nat.one_mul] at h1 h2
  rw [h1]
  constructor
  · rw [Nat.add_mul_div_right _ _ hV0, Nat.div_eq_of_lt h2, Nat.zero_add]
  · rw [Nat.add_mul_mod_self_right, Nat.mod_eq_of_lt h2]
end
theorem DivSt.start {a b s k m : Nat} {V L : List Nat} (hL : Dg L) (hLn : nat L = a * 2 ^ s) (hVn : nat V = b * 2 ^ s) (ha : a < B ^ (k + (m + 2))) (hb : B ^ (m + 1) ≤ b) : DivSt (a * 2 ^ s) V L [] (k + 1) := by
  refine ⟨hL, Dg.nil, by simp [nat, hLn], ?_⟩
  rw [hLn, hVn, ← Nat.mul_assoc]
  refine Nat.mul_lt_mul_of_pos_right ?_ (Nat.two_pow_pos s)
  have h1 : B ^ (k + 1) * B ^ (m + 1) ≤ B ^ (k + 1) * b := Nat.mul_le_mul_left _ hb
  rw [← Nat.pow_add, show k + 1 + (m + 1) = k + (m + 2) by omega] at h1
  omega
/-- a digit of the remainder, shifted back -/
theorem rem_facts {x y s : Nat} (hx : x < B) (hy : y < B) (hs : s < 32) (hs0 : 0 < s) : ∃ h s2 sh lo : Nat, (lo = (x + y * B) / 2 ^ s % B) ∧ (x : Int) / 2 ^ s = ((h : Nat) : Int) ∧ (32 : Int) - (s : Int) = ((s2 : Nat) : Int) ∧ IntKind.u32.wrap ((y : Int) * 2 ^ s2) = ((sh : Nat) : Int) ∧ bits BinOp.or IntKind.u32 (h : Int) (sh : Int) = ((lo : Nat) : Int) ∧ h < B ∧ lo < B := by
  have hb : B = 2 ^ s * 2 ^ (32 - s) := by rw [← Nat.pow_add, show s + (32 - s) = 32 by omega]; rfl
  have hb2 : B = 2 ^ (32 - s) * 2 ^ s := by rw [Nat.mul_comm]; exact hb
  have h1 : x / 2 ^ s < 2 ^ (32 - s) := Nat.div_lt_of_lt_mul (by rw [← hb]; exact hx)
  have h1' : x / 2 ^ s < B := Nat.lt_of_le_of_lt (Nat.div_le_self _ _) hx
  have h2 : (x + y * B) / 2 ^ s = x / 2 ^ s + y * 2 ^ (32 - s) := by
    have e : y * B = y * 2 ^ (32 - s) * 2 ^ s := by rw [Nat.mul_assoc, ← hb2]
    rw [e, Nat.add_mul_div_right _ _ (Nat.two_pow_pos s)]
  have h3 : y * 2 ^ (32 - s) % B = y % 2 ^ s * 2 ^ (32 - s) := by
    rw [hb]
    exact Nat.mul_mod_mul_right ..
  have h4 : y * 2 ^ (32 - s) % B % 2 ^ (32 - s) = 0 := by rw [h3]; exact Nat.mul_mod_left _ _
  have h5 : y * 2 ^ (32 - s) % B + x / 2 ^ s < B := by
    have h6 : (y % 2 ^ s + 1) * 2 ^ (32 - s) ≤ 2 ^ s * 2 ^ (32 - s) := Nat.mul_le_mul_right _ (Nat.mod_lt _ (Nat.two_pow_pos s))
    rw [h3]
    rw [Nat.succ_mul, ← hb] at h6
    omega
  have h7 : (x + y * B) / 2 ^ s % B = y * 2 ^ (32 - s) % B + x / 2 ^ s := by
    rw [h2, Nat.add_mod, Nat.mod_eq_of_lt h1', Nat.add_comm, Nat.mod_eq_of_lt h5]
  have h8 : y * 2 ^ (32 - s) % B < B := Nat.mod_lt _ B_pos
  have e0 : (y : Int) * 2 ^ (32 - s) = ((y * 2 ^ (32 - s) : Nat) : Int) := by simp
  refine ⟨x / 2 ^ s, 32 - s, y * 2 ^ (32 - s) % B, _, rfl, by simp, by omega, ?_, ?_, h1', by rw [h7]; exact h5⟩
  · rw [e0, IntKind.wrap_u32']
    generalize y * 2 ^ (32 - s) = t
    unfold B; omega
  · rw [h7]
    generalize x / 2 ^ s = u at *
    generalize y * 2 ^ (32 - s) % B = t at *
    rw [u32_or_nat _ _ (by unfold B at h1'; omega) (by unfold B at h8; omega), Nat.or_comm, nat_join (32 - s) _ _ h4 h1]
/-- the remainder's next digit -/
theorem rem_digit {X : List Nat} {R s i : Nat} (hX : Dg X) (hR : nat X = R * 2 ^ s) (hs : s < 32) : (dg X i + dg X (i + 1) * B) / 2 ^ s % B = R / B ^ i % B := by
  have h := high_digit (N := nat X) (k := s) (t := i) (q := 0) (r := s) (by omega) (by omega) (d0 := dg X i) (d1 := dg X (i + 1)) (by rw [Nat.zero_add]; exact dg_div hX i) (by rw [Nat.zero_add]; exact dg_div hX (i + 1))
  rw [h, hR, Nat.mul_div_cancel _ (Nat.two_pow_pos s)]
theorem rem_digit0 {X : List Nat} {R i : Nat} (hX : Dg X) (hR : nat X = R) : dg X i = R / B ^ i % B := by rw [← hR]; exact dg_div hX i
end Fr
end Go.Proofs.YthehchdonmmpaaaGreatDoor
namespace Go.Proofs.YthehchdonmmpaaaGreatDoor
open Go.ChangeShapes Go.WideShapes Go.ChangeAt Go.RowKit
set_option linter.unusedVariables false
set_option linter.unusedSimpArgs false
namespace Fr
/-- what a function that makes a number and says yes answers -/
def NatPost2 (n : Nat) (w : World) (e : Ending) (w' : World) : Prop := ∃ v, e = .returned (.tuple #[v, .bool true]) ∧ NS w' v (digs n) ∧ Below w.heap.size w w'
theorem rsub_no (a b : List Nat) (va vb : Value) (w : World) (hla : a.length ≤ 50000) (hlb : b.length ≤ 50000) (hda : Dg a) (hdb : Dg b) (ha : NS w va a) (hb : NS w vb b) (hlt : nat a < nat b) : Calls Tryz.prog 80 #[va, vb] w fun e w' => e = .returned (.tuple #[.slice none 0 0, .bool false]) ∧ w = w' := by
  have CC := Lib.hid (rcmp_any a b va vb w hla hlb hda hdb ha hb)
  rw [cmp_lt hlt] at CC
  obtain ⟨A1, c1, rfl, _, _, _⟩ := ns_cases ha
  obtain ⟨A2, c2, rfl, _, _, _⟩ := ns_cases hb
  clear ha hb hda hdb hlt
  go_enter Tryz.func80, Tryz.ntmps80
  go_wp2_with fail
  refine CC.out.mono ?_
  rintro e w1 ⟨rfl, rfl⟩
  go_wp2_with fail
  go_ret2
  exact ⟨rfl, rfl⟩
set_option maxHeartbeats 2000000 in
set_option maxRecDepth 100000 in
theorem rsub_yes (a b : List Nat) (va vb : Value) (w : World) (hla : a.length ≤ 50000) (hlb : b.length ≤ 50000) (hda : Dg a) (hdb : Dg b) (ha : NS w va a) (hb : NS w vb b) (hle : nat b ≤ nat a) : Calls Tryz.prog 80 #[va, vb] w (NatPost2 (nat a - nat b) w) := by
  obtain ⟨i0, hi0, hz0, hz1, hz2⟩ := info_parts u32_info
  have CA := Lib.hid (fun i (hi : i ≤ 100000) w' (k : Below w.heap.size w w') => digit_any a va i w' (by omega) hi hda (Sl.keep ha k))
  have CB := Lib.hid (fun i (hi : i ≤ 100000) w' (k : Below w.heap.size w w') => digit_any b vb i w' (by omega) hi hdb (Sl.keep hb k))
  have HDA := Lib.hid hda
  have HDB := Lib.hid hdb
  have HLE := Lib.hid hle
  obtain ⟨cv, CC, hcv⟩ : ∃ cv : Int, Hid (Calls Tryz.prog 79 #[va, vb] w fun e w' => e = .returned (.int .i64 cv) ∧ w = w') ∧ 0 ≤ cv := by
    refine ⟨cmp (nat a) (nat b), rcmp_any a b va vb w hla hlb hda hdb ha hb, ?_⟩
    unfold cmp
    rw [if_neg (by omega)]
    split <;> decide
  have hcd : decide (cv < 0) = false := decide_eq_false (by omega)
  obtain ⟨A1, c1, rfl, _, _, _⟩ := ns_cases ha
  obtain ⟨A2, c2, rfl, _, _, _⟩ := ns_cases hb
  clear ha hb hda hdb hle
  go_enter Tryz.func80, Tryz.ntmps80
  go_wp2_with fail
  refine CC.out.mono ?_
  rintro e w1 ⟨rfl, rfl⟩
  go_wp2_with fail
  go_loopw [8, 6, 7] (fun i v cv wr => ∃ k c : Nat, ∃ o : List Nat, k ≤ a.length ∧ c ≤ 1 ∧ i = .int .i64 (k : Int) ∧ cv = .int .u64 (c : Int) ∧ Hid (o.length = k ∧ Dg o ∧ val a k + c * B ^ k = nat o + val b k) ∧ Hid (wr.ownsRow w.heap.size 53 1 v k (u32s o)) ∧ Hid (Below w.heap.size w wr)) (fun i _ _ _ => a.length - (intOf i).toNat)
  case atStart => exact ⟨0, 0, [], by omega, by omega, rfl, rfl, ⟨rfl, Dg.nil, rfl⟩, ⟨rfl, .inl ⟨rfl, rfl⟩⟩, Below.refl _ _⟩
  case round =>
    obtain ⟨k, c, o, hk, hc, rfl, rfl, HI, HO, HB⟩ := hrel
    obtain ⟨A5, c5, rfl⟩ := own_form HO.out
    have hk0 : (0 : Int) ≤ (k : Int) := by omega
    by_cases hlt : k < a.length
    · have hdec : decide (k < a.length) = true := decide_eq_true hlt
      have hdec2 : decide ((k : Int) < (a.length : Int)) = true := decide_eq_true (by omega)
      have hk1 : (k : Int) ≤ 100000 := by omega
      obtain ⟨t1, t2, s, lo, q, br, hq, f1, f2, f3, p1, p2, p3, hi1, p4⟩ := sub_facts (dg_lt HDA.out k) (dg_lt HDB.out k) hc
      have HN := Lib.hid (sub_step (k := k) HI.out.1 HI.out.2.2 hq)
      have P1 := Lib.hid p4
      have hs0 : (0 : Int) ≤ (s : Int) := by omega
      clear hq p4
      go_wp2_with fail
      refine (CA.out k (by omega) _ HB.out).mono ?_
      rintro e w1 ⟨rfl, rfl⟩
      go_wp2_with fail
      refine (CB.out k (by omega) _ HB.out).mono ?_
      rintro e w1 ⟨rfl, rfl⟩
      go_wp2_with (at_builtin; refine wpList_append_sl _ rfl (.tmp 30) (.tmp 34) _ rfl (w.heap.size) 53 i0 _ 1 4 Tryz.underlying45 hi0 hz0 hz1 hz2 rfl (by decide) (.slice A5 (k) c5) (k) (u32s o) rfl (own_below HO.out (below_new _ _)) (.slice (some ⟨wr.heap.size, 0, none⟩) 1 1) 1 (u32s [lo]) rfl (ns_new1 wr lo 53) (u32s_one _) (by unfold maxLen; omega) (by omega) (by have := HB.out.size; simp; omega) ?_)
      intro v' w1 hown hgr
      obtain ⟨A6, c6, rfl⟩ := own_form hown
      have HO1 := Lib.hid hown
      have HB1 := Lib.hid ((HB.out.alloc HB.out.size (.cells #[.int .u32 ((lo : Nat) : Int)] 53)).grown hgr (by have := HB.out.size; simp; omega) (fun q hq => own_far HO.out q hq))
      clear hown hgr
      go_wp2_with fail
      go_roundw
      case rel => exact ⟨k + 1, br, o ++ [lo], by omega, hi1, by go_num, rfl, ⟨by simp [HI.out.1], HI.out.2.1.append (Dg.cons P1.out Dg.nil), HN.out⟩, (by rw [u32s_append]; exact HO1.out), HB1.out⟩
      case measure => simp [intOf]; omega
    · have hdec : decide (k < a.length) = false := decide_eq_false hlt
      have hdec2 : decide ((k : Int) < (a.length : Int)) = false := decide_eq_false (by omega)
      obtain rfl : k = a.length := by omega
      have HE := Lib.hid (sub_end HDA.out HDB.out HI.out.2.1 HI.out.1 HLE.out HI.out.2.2)
      have CT := Lib.hid (trim_any o _ wr (by rw [HI.out.1]; omega) HI.out.2.1 (ns_own HO.out))
      rw [HE.out] at CT
      go_wp2_with fail
      refine CT.out.mono ?_
      rintro e w1 ⟨v1, rfl, hs1, hb1⟩
      have HS1 := Lib.hid hs1
      have HB1 := Lib.hid (chain0 HB.out hb1)
      obtain ⟨A6, c6, rfl, _⟩ := ns_cases hs1
      clear hs1 hb1
      go_wp2_with fail
      go_ret2
      exact ⟨_, rfl, HS1.out, HB1.out⟩
end Fr
end Go.Proofs.YthehchdonmmpaaaGreatDoor
namespace Go.Proofs.YthehchdonmmpaaaGreatDoor
open Go.ChangeShapes Go.WideShapes Go.ChangeAt Go.RowKit
set_option linter.unusedVariables false
set_option linter.unusedSimpArgs false
namespace Fr
set_option maxHeartbeats 2000000 in
set_option maxRecDepth 100000 in
theorem radd_any (a b : List Nat) (va vb : Value) (w : World) (hla : a.length ≤ 50000) (hlb : b.length ≤ 50000) (hda : Dg a) (hdb : Dg b) (ha : NS w va a) (hb : NS w vb b) : Calls Tryz.prog 49 #[va, vb] w (NatPost (nat a + nat b) w) := by
  obtain ⟨i0, hi0, hz0, hz1, hz2⟩ := info_parts u32_info
  have CA := Lib.hid (fun i (hi : i ≤ 100000) w' (k : Below w.heap.size w w') => digit_any a va i w' (by omega) hi hda (Sl.keep ha k))
  have CB := Lib.hid (fun i (hi : i ≤ 100000) w' (k : Below w.heap.size w w') => digit_any b vb i w' (by omega) hi hdb (Sl.keep hb k))
  have HDA := Lib.hid hda
  have HDB := Lib.hid hdb
  obtain ⟨A1, c1, rfl, _, _, _⟩ := ns_cases ha
  obtain ⟨A2, c2, rfl, _, _, _⟩ := ns_cases hb
  clear ha hb hda hdb
  by_cases hab : a.length < b.length
  · go_enter Tryz.func49, Tryz.ntmps49
    go_wp2_with fail
    go_loopw [7, 5, 6] (fun i v cv wr => ∃ k c : Nat, ∃ o : List Nat, k ≤ b.length + 1 ∧ c ≤ 1 ∧ i = .int .i64 (k : Int) ∧ cv = .int .u64 (c : Int) ∧ Hid (o.length = k ∧ Dg o ∧ nat o + c * B ^ k = val a k + val b k) ∧ Hid (wr.ownsRow w.heap.size 53 1 v k (u32s o)) ∧ Hid (Below w.heap.size w wr)) (fun i _ _ _ => b.length + 1 - (intOf i).toNat)
    case atStart => exact ⟨0, 0, [], by omega, by omega, rfl, rfl, ⟨rfl, Dg.nil, rfl⟩, ⟨rfl, .inl ⟨rfl, rfl⟩⟩, Below.refl _ _⟩
    case round =>
      obtain ⟨k, c, o, hk, hc, rfl, rfl, HI, HO, HB⟩ := hrel
      obtain ⟨A5, c5, rfl⟩ := own_form HO.out
      have hk0 : (0 : Int) ≤ (k : Int) := by omega
      by_cases hlt : k ≤ b.length
      · have hdec : decide (k ≤ b.length) = true := decide_eq_true hlt
        have hk1 : (k : Int) ≤ 100000 := by omega
        obtain ⟨t, s, lo, hi, hq, f1, f2, p2, p4, hi1, p1⟩ := sum_facts (dg_lt HDA.out k) (dg_lt HDB.out k) hc
        have HN := Lib.hid (add_step (k := k) HI.out.1 HI.out.2.2 hq.1)
        rw [← hq.2.1, ← hq.2.2] at HN
        have P1 := Lib.hid p1
        have hs0 : (0 : Int) ≤ (s : Int) := by omega
        clear hq p1
        go_wp2_with fail
        refine (CA.out k (by omega) _ HB.out).mono ?_
        rintro e w1 ⟨rfl, rfl⟩
        go_wp2_with fail
        refine (CB.out k (by omega) _ HB.out).mono ?_
        rintro e w1 ⟨rfl, rfl⟩
        go_wp2_with (at_builtin; refine wpList_append_sl _ rfl (.tmp 27) (.tmp 31) _ rfl (w.heap.size) 53 i0 _ 1 4 Tryz.underlying45 hi0 hz0 hz1 hz2 rfl (by decide) (.slice A5 (k) c5) (k) (u32s o) rfl (own_below HO.out (below_new _ _)) (.slice (some ⟨wr.heap.size, 0, none⟩) 1 1) 1 (u32s [lo]) rfl (ns_new1 wr lo 53) (u32s_one _) (by unfold maxLen; omega) (by omega) (by have := HB.out.size; simp; omega) ?_)
        intro v' w1 hown hgr
        obtain ⟨A6, c6, rfl⟩ := own_form hown
        have HO1 := Lib.hid hown
        have HB1 := Lib.hid ((HB.out.alloc HB.out.size (.cells #[.int .u32 ((lo : Nat) : Int)] 53)).grown hgr (by have := HB.out.size; simp; omega) (fun q hq => own_far HO.out q hq))
        clear hown hgr
        go_wp2_with fail
        go_roundw
        case rel => exact ⟨k + 1, hi, o ++ [lo], by omega, hi1, by go_num, rfl, ⟨by simp [HI.out.1], HI.out.2.1.append (Dg.cons P1.out Dg.nil), HN.out⟩, (by rw [u32s_append]; exact HO1.out), HB1.out⟩
        case measure => simp [intOf]; omega
      · have hdec : decide (k ≤ b.length) = false := decide_eq_false hlt
        obtain rfl : k = b.length + 1 := by omega
        have HE := Lib.hid (add_end HDA.out HDB.out (by omega) (by omega) HI.out.2.2)
        have CT := Lib.hid (trim_any o _ wr (by rw [HI.out.1]; omega) HI.out.2.1 (ns_own HO.out))
        rw [HE.out] at CT
        go_wp2_with fail
        refine CT.out.mono ?_
        rintro e w1 ⟨v1, rfl, hs1, hb1⟩
        have HS1 := Lib.hid hs1
        have HB1 := Lib.hid (chain0 HB.out hb1)
        obtain ⟨A6, c6, rfl, _⟩ := ns_cases hs1
        clear hs1 hb1
        go_wp2_with fail
        go_ret
        exact ⟨_, rfl, HS1.out, HB1.out⟩
  · go_enter Tryz.func49, Tryz.ntmps49
    go_wp2_with fail
    go_loopw [7, 5, 6] (fun i v cv wr => ∃ k c : Nat, ∃ o : List Nat, k ≤ a.length + 1 ∧ c ≤ 1 ∧ i = .int .i64 (k : Int) ∧ cv = .int .u64 (c : Int) ∧ Hid (o.length = k ∧ Dg o ∧ nat o + c * B ^ k = val a k + val b k) ∧ Hid (wr.ownsRow w.heap.size 53 1 v k (u32s o)) ∧ Hid (Below w.heap.size w wr)) (fun i _ _ _ => a.length + 1 - (intOf i).toNat)
    case atStart => exact ⟨0, 0, [], by omega, by omega, rfl, rfl, ⟨rfl, Dg.nil, rfl⟩, ⟨rfl, .inl ⟨rfl, rfl⟩⟩, Below.refl _ _⟩
    case round =>
      obtain ⟨k, c, o, hk, hc, rfl, rfl, HI, HO, HB⟩ := hrel
      obtain ⟨A5, c5, rfl⟩ := own_form HO.out
      have hk0 : (0 : Int) ≤ (k : Int) := by omega
      by_cases hlt : k ≤ a.length
      · have hdec : decide (k ≤ a.length) = true := decide_eq_true hlt
        have hk1 : (k : Int) ≤ 100000 := by omega
        obtain ⟨t, s, lo, hi, hq, f1, f2, p2, p4, hi1, p1⟩ := sum_facts (dg_lt HDA.out k) (dg_lt HDB.out k) hc
        have HN := Lib.hid (add_step (k := k) HI.out.1 HI.out.2.2 hq.1)
        rw [← hq.2.1, ← hq.2.2] at HN
        have P1 := Lib.hid p1
        have hs0 : (0 : Int) ≤ (s : Int) := by omega
        clear hq p1
        go_wp2_with fail
        refine (CA.out k (by omega) _ HB.out).mono ?_
        rintro e w1 ⟨rfl, rfl⟩
        go_wp2_with fail
        refine (CB.out k (by omega) _ HB.out).mono ?_
        rintro e w1 ⟨rfl, rfl⟩
        go_wp2_with (at_builtin; refine wpList_append_sl _ rfl (.tmp 27) (.tmp 31) _ rfl (w.heap.size) 53 i0 _ 1 4 Tryz.underlying45 hi0 hz0 hz1 hz2 rfl (by decide) (.slice A5 (k) c5) (k) (u32s o) rfl (own_below HO.out (below_new _ _)) (.slice (some ⟨wr.heap.size, 0, none⟩) 1 1) 1 (u32s [lo]) rfl (ns_new1 wr lo 53) (u32s_one _) (by unfold maxLen; omega) (by omega) (by have := HB.out.size; simp; omega) ?_)
        intro v' w1 hown hgr
        obtain ⟨A6, c6, rfl⟩ := own_form hown
        have HO1 := Lib.hid hown
        have HB1 := Lib.hid ((HB.out.alloc HB.out.size (.cells #[.int .u32 ((lo : Nat) : Int)] 53)).grown hgr (by have := HB.out.size; simp; omega) (fun q hq => own_far HO.out q hq))
        clear hown hgr
        go_wp2_with fail
        go_roundw
        case rel => exact ⟨k + 1, hi, o ++ [lo], by omega, hi1, by go_num, rfl, ⟨by simp [HI.out.1], HI.out.2.1.append (Dg.cons P1.out Dg.nil), HN.out⟩, (by rw [u32s_append]; exact HO1.out), HB1.out⟩
        case measure => simp [intOf]; omega
      · have hdec : decide (k ≤ a.length) = false := decide_eq_false hlt
        obtain rfl : k = a.length + 1 := by omega
        have HE := Lib.hid (add_end HDA.out HDB.out (by omega) (by omega) HI.out.2.2)
        have CT := Lib.hid (trim_any o _ wr (by rw [HI.out.1]; omega) HI.out.2.1 (ns_own HO.out))
        rw [HE.out] at CT
        go_wp2_with fail
        refine CT.out.mono ?_
        rintro e w1 ⟨v1, rfl, hs1, hb1⟩
        have HS1 := Lib.hid hs1
        have HB1 := Lib.hid (chain0 HB.out hb1)
        obtain ⟨A6, c6, rfl, _⟩ := ns_cases hs1
        clear hs1 hb1
        go_wp2_with fail
        go_ret
        exact ⟨_, rfl, HS1.out, HB1.out⟩
end Fr
end Go.Proofs.YthehchdonmmpaaaGreatDoor
