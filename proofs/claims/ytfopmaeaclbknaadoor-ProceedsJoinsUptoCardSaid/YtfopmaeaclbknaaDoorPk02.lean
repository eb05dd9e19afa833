/- Plain: digits put together by bits. Contracts of natural.trim, FromUint, Uint. Contracts of the reference's Cmp and Add. Printed by gen_nat2.py. -/
import Derived.Test.YtfopmaeaclbknaaDoorPk01
import Derived.Laws.BitsAllLaws
import Derived.Deep.QuietTactic
namespace Go.Proofs.YtfopmaeaclbknaaDoor
open Go.RowKit
set_option linter.unusedVariables false
namespace Fr
/-- two digits put together -/
theorem or_hi {x y : Nat} (hx : x < B) (hy : y < B) : bits BinOp.or IntKind.u64 (IntKind.u64.wrap ((y : Int) * 4294967296)) (x : Int) = ((x + B * y : Nat) : Int) := by
  have hb : B = 2 ^ 32 := rfl
  unfold B at hx hy
  rw [IntWalk.u64_in _ (by omega)]
  have e : (y : Int) * 4294967296 = ((y * 2 ^ 32 : Nat) : Int) := by omega
  rw [e, u64_or_nat _ _ (by omega) (by omega), nat_join 32 _ _ (by omega) (by omega), hb, Nat.add_comm, Nat.mul_comm]
theorem wrap_hi {x : Nat} (hx : x < B) : IntKind.u64.wrap ((x : Int) * 4294967296) = ((B * x : Nat) : Int) := by
  unfold B at *
  rw [IntWalk.u64_in _ (by omega)]
  omega
theorem or_hi' {x y : Nat} (hx : x < B) (hy : y < B) : bits BinOp.or IntKind.u64 ((B * y : Nat) : Int) (x : Int) = ((x + B * y : Nat) : Int) := by
  rw [← wrap_hi hy, or_hi hx hy]
/-- one place of a number shifted left by fewer than 32 bits -/
theorem shift_facts {x c s : Nat} (hx : x < B) (hs : s < 32) (hc : c < 2 ^ s) : ∃ t lo hi z : Nat, (z + hi * B = x * 2 ^ s + c) ∧ IntKind.u64.wrap ((x : Int) * 2 ^ s) = ((t : Nat) : Int) ∧ (t : Int) % 4294967296 = ((lo : Nat) : Int) ∧ bits BinOp.or IntKind.u32 (c : Int) (lo : Int) = ((z : Nat) : Int) ∧ (t : Int) / 4294967296 % 4294967296 = ((hi : Nat) : Int) ∧ (t : Int) / 4294967296 = ((hi : Nat) : Int) ∧ (hi : Int) % 4294967296 = ((hi : Nat) : Int) ∧ hi < 2 ^ s ∧ z < B := by
  have hb : B = 2 ^ (32 - s) * 2 ^ s := by rw [← Nat.pow_add, show 32 - s + s = 32 by omega]; rfl
  have h2 : 2 ^ s < B := by
    have : 2 ^ s ≤ 2 ^ 31 := Nat.pow_le_pow_right (by decide) (by omega)
    unfold B
    omega
  have ht : x * 2 ^ s < B * B := by
    have h3 : x * 2 ^ s ≤ x * B := Nat.mul_le_mul_left _ (by omega)
    have h4 : x * B < B * B := Nat.mul_lt_mul_of_pos_right hx B_pos
    omega
  have h1 : x * 2 ^ s / B < 2 ^ s := Nat.div_lt_of_lt_mul (Nat.mul_lt_mul_of_pos_right hx (Nat.two_pow_pos s))
  have hlo : x * 2 ^ s % B = x % 2 ^ (32 - s) * 2 ^ s := by rw [hb, Nat.mul_mod_mul_right]
  have hm : x * 2 ^ s % B % 2 ^ s = 0 := by rw [hlo]; exact Nat.mul_mod_left _ _
  have hz : x * 2 ^ s % B + c < B := by
    have h5 : x % 2 ^ (32 - s) < 2 ^ (32 - s) := Nat.mod_lt _ (Nat.two_pow_pos _)
    have h6 : (x % 2 ^ (32 - s) + 1) * 2 ^ s ≤ 2 ^ (32 - s) * 2 ^ s := Nat.mul_le_mul_right _ h5
    rw [hlo]
    rw [Nat.succ_mul, ← hb] at h6
    omega
  have hd := Nat.mod_add_div (x * 2 ^ s) B
  have hl : x * 2 ^ s % B < B := Nat.mod_lt _ B_pos
  have e0 : (x : Int) * 2 ^ s = ((x * 2 ^ s : Nat) : Int) := by simp
  generalize hT : x * 2 ^ s = t at *
  clear hlo hb
  refine ⟨t, t % B, t / B, t % B + c, ?_, ?_, ?_, ?_, ?_, ?_, ?_, h1, hz⟩
  · rw [Nat.mul_comm]; omega
  · rw [e0]
    rw [BB_eq] at ht
    exact IntWalk.u64_in _ (by omega)
  · unfold B; omega
  · have hcB : c < B := by omega
    rw [u32_or_nat _ _ (by unfold B at hcB; omega) (by unfold B at hl ⊢; omega), Nat.or_comm, nat_join s _ _ hm hc]
  · generalize 2 ^ s = p at *
    unfold B at *
    omega
  · unfold B; omega
  · generalize 2 ^ s = p at *
    unfold B at *
    omega
end Fr
end Go.Proofs.YtfopmaeaclbknaaDoor
namespace Go.Proofs.YtfopmaeaclbknaaDoor
open Go.ChangeShapes Go.WideShapes Go.ChangeAt Go.RowKit
set_option linter.unusedVariables false
set_option linter.unusedSimpArgs false
namespace Fr
theorem drewN_below (w : World) (n : Nat) : Below w.heap.size w (w.drewN n) := ⟨rfl, rfl, rfl, Nat.le_refl _, fun _ _ => rfl⟩
/-- what trim answers: the front of the slice, without leading zeros -/
def TrimPost (l : List Nat) (v : Value) (w : World) (e : Ending) (w' : World) : Prop := ∃ A c, v = .slice A l.length c ∧ e = .returned (.slice A (digs (nat l)).length (digs (nat l)).length) ∧ NS w (.slice A (digs (nat l)).length (digs (nat l)).length) (digs (nat l)) ∧ w = w'
theorem ns_digs {w : World} {A : Option Addr} {l : List Nat} {c : Nat} (h : NS w (.slice A l.length c) l) (hd : Dg l) : NS w (.slice A (digs (nat l)).length (digs (nat l)).length) (digs (nat l)) := by
  have h1 := (digs_split hd).2
  have h2 := ns_take h h1 (Nat.le_refl _) (by obtain ⟨_, _, c', e, h3, h4, _⟩ := h; omega)
  rwa [digs_take hd] at h2
theorem len_of_take {l : List Nat} {k : Nat} (hk : k ≤ l.length) (h : l.take k = digs (nat l)) : k = (digs (nat l)).length := by rw [← h, List.length_take]; omega
set_option maxHeartbeats 1000000 in
theorem ntrim_any (l : List Nat) (v : Value) (w : World) (hl : l.length ≤ 100000) (hd : Dg l) (h : NS w v l) : Calls Tryd.prog 129 #[v] w (TrimPost l v w) := by
  obtain ⟨A, c, rfl, hlc, hcm, ha⟩ := ns_cases h
  have HR := Lib.hid (ns_digs h hd)
  have HD := Lib.hid hd
  have HC := Lib.hid ha
  clear h hd ha
  unfold maxLen at hcm
  go_enter Tryd.func129, Tryd.ntmps129
  go_wp2_with fail
  go_loop [3] (fun v => ∃ k : Nat, k ≤ l.length ∧ v = .int .i64 (k : Int) ∧ Hid (nat (l.take k) = nat l)) (fun v => (intOf v).toNat)
  case atStart => exact ⟨l.length, Nat.le_refl _, rfl, by show nat _ = _; rw [List.take_length]⟩
  case round =>
    obtain ⟨k, hk, rfl, HN⟩ := hrel
    cases k with
    | zero =>
      have HT : Hid (l.take 0 = digs (nat l)) := take_digs HD.out HN.out (.inl rfl)
      have HL : Hid ((digs (nat l)).length = 0) := (len_of_take hk HT.out).symm
      go_wp2_with fail
      go_ret
      refine ⟨A, c, rfl, ?_, HR.out, rfl⟩
      rw [HL.out]
      first | rfl | simp
    | succ j =>
      obtain ⟨b, o, rfl, hb, hc⟩ := HC.out (by omega)
      have hck := hc j (by omega)
      clear hc
      have hp0 : decide ((0 : Int) < ((j + 1 : Nat) : Int)) = true := by simp
      have hp1 : decide ((0 : Int) < (j : Int) + 1) = true := decide_eq_true (by omega)
      have hj0 : (0 : Int) ≤ (j : Int) := by omega
      by_cases hz : dg l j = 0
      · have HN2 : Hid (nat (l.take j) = nat l) := (nat_take_zero (by omega) hz).symm.trans HN.out
        rw [hz] at hck
        clear hz
        go_wp2_with fail
        go_round
        case rel => exact ⟨j, by omega, by go_num, HN2⟩
        case measure => simp [intOf]
      · have HT : Hid (l.take (j + 1) = digs (nat l)) := take_digs HD.out HN.out (.inr ⟨j, by omega, rfl, hz⟩)
        have HL : Hid ((digs (nat l)).length = j + 1) := (len_of_take hk HT.out).symm
        have qz : (((dg l j : Nat) : Int) == 0) = false := beq_eq_false_iff_ne.2 (by omega)
        clear hz
        go_wp2_with fail
        go_ret
        refine ⟨_, c, rfl, ?_, HR.out, rfl⟩
        rw [HL.out]
        first | rfl | simp
theorem nfromUint_any (x : Nat) (w : World) (hx : x < B * B) : Calls Tryd.prog 104 #[.int .u64 (x : Int)] w (NatPost x w) := by
  obtain ⟨h1, h2⟩ := nat_two x hx
  obtain ⟨lo, hlo⟩ : ∃ lo, lo = x % B := ⟨_, rfl⟩
  obtain ⟨hi, hhi⟩ : ∃ hi, hi = x / B := ⟨_, rfl⟩
  rw [← hlo, ← hhi] at h1 h2
  have CT := Lib.hid (ntrim_any [lo, hi] _ _ (by simp) h2 (ns_new2 w lo hi 92))
  unfold TrimPost at CT
  rw [h1] at CT
  have b1 : lo < B := by rw [hlo]; exact Nat.mod_lt _ B_pos
  have b2 : hi < B := by rw [hhi]; exact Nat.div_lt_of_lt_mul hx
  have e1 : IntKind.u32.wrap ((x : Int)) = ((lo : Nat) : Int) := by rw [hlo]; unfold B; simp [IntKind.wrap, IntKind.signed, IntKind.bits]
  have e2 : IntKind.u64.wrap ((x : Int) / 4294967296) = ((hi : Nat) : Int) := by
    rw [BB_eq] at hx
    rw [IntWalk.u64_in _ (by omega), hhi]; unfold B; omega
  have e4 : (x : Int) / 4294967296 % 4294967296 = ((hi : Nat) : Int) := by
    rw [BB_eq] at hx
    rw [hhi]; unfold B; omega
  have h0 : (0 : Int) ≤ (x : Int) := by omega
  clear h1 h2 hx hlo hhi b1 b2
  go_enter Tryd.func104, Tryd.ntmps104
  go_wp2_with fail
  refine CT.out.mono ?_
  rintro e w1 ⟨A, c, hv, rfl, hs, rfl⟩
  have HS := Lib.hid hs
  clear hs hv
  go_wp2_with fail
  go_ret
  exact ⟨_, rfl, HS.out, below_new _ _⟩
theorem digs_one {n : Nat} (h : (digs n).length = 1) : n = dg (digs n) 0 := by
  have h1 := nat_digs n
  generalize digs n = l at *
  match l, h with
  | [d], _ => simpa [nat, dg] using h1.symm
theorem digs_two {n : Nat} (h : (digs n).length = 2) : n = dg (digs n) 0 + B * dg (digs n) 1 := by
  have h1 := nat_digs n
  generalize digs n = l at *
  match l, h with
  | [d, k], _ => simpa [nat, dg] using h1.symm
theorem digs_zero_of {n : Nat} (h : (digs n).length = 0) : n = 0 := digs_nil_iff.1 (List.eq_nil_of_length_eq_zero h)
theorem ns_cell {w : World} {A : Option Addr} {l : List Nat} {n c : Nat} (h : NS w (.slice A n c) l) (hn : 0 < l.length) : ∃ b o, A = some ⟨b, o, none⟩ ∧ b < w.heap.size ∧ ∀ i, i < l.length → w.cell? ⟨b, o + i, none⟩ = some (.int .u32 ((dg l i : Nat) : Int)) := by
  obtain ⟨A', c', e, _, _, h5⟩ := ns_cases h
  injection e with e1 _ e2
  subst e1
  exact h5 hn
set_option maxHeartbeats 1000000 in
theorem nuint_yes (l : List Nat) (v : Value) (w : World) (hl : l.length ≤ 100000) (hd : Dg l) (h : NS w v l) (hn : nat l < B * B) : Calls Tryd.prog 105 #[v] w fun e w' => e = .returned (.tuple #[.int .u64 ((nat l : Nat) : Int), .bool true]) ∧ Below w.heap.size w w' := by
  have CT := Lib.hid (ntrim_any l v w hl hd h)
  unfold TrimPost at CT
  obtain ⟨A, c, rfl, _, _, _⟩ := ns_cases h
  have hk : (digs (nat l)).length ≤ 2 := digs_len_le (by rw [Nat.pow_succ, Nat.pow_one]; exact hn)
  clear h hn
  obtain ⟨k, hkk⟩ : ∃ k, k = (digs (nat l)).length := ⟨_, rfl⟩
  rw [← hkk] at hk CT
  have DL := Dg.digs (nat l)
  match k, hk with
  | 0, _ =>
    have HN := Lib.hid (digs_zero_of hkk.symm)
    clear hkk
    go_enter Tryd.func105, Tryd.ntmps105
    go_wp2_with fail
    refine CT.out.mono ?_
    rintro e w1 ⟨A, c, hv, rfl, hs, rfl⟩
    injection hv with h1 _ _
    subst h1
    clear hs
    go_wp2_with fail
    go_ret2
    exact ⟨by rw [HN.out]; rfl, Below.refl _ _⟩
  | 1, _ =>
    have HN := Lib.hid (digs_one hkk.symm)
    have hk0 : 0 < (digs (nat l)).length := by omega
    clear hkk
    go_enter Tryd.func105, Tryd.ntmps105
    go_wp2_with fail
    refine CT.out.mono ?_
    rintro e w1 ⟨A, c, hv, rfl, hs, rfl⟩
    injection hv with h1 _ _
    subst h1
    obtain ⟨b, o, rfl, hb, hc⟩ := ns_cell hs hk0
    have c0 : w.cell? ⟨b, o, none⟩ = some (.int .u32 ((dg (digs (nat l)) 0 : Nat) : Int)) := hc 0 hk0
    have uw := u64w (dg_lt DL 0)
    clear hs hc
    go_wp2_with fail
    go_ret2
    exact ⟨by rw [← HN.out]; rfl, Below.refl _ _⟩
  | 2, _ =>
    have HN := Lib.hid (digs_two hkk.symm)
    have hk0 : 0 < (digs (nat l)).length := by omega
    have hk1 : 1 < (digs (nat l)).length := by omega
    clear hkk
    go_enter Tryd.func105, Tryd.ntmps105
    go_wp2_with fail
    refine CT.out.mono ?_
    rintro e w1 ⟨A, c, hv, rfl, hs, rfl⟩
    injection hv with h1 _ _
    subst h1
    obtain ⟨b, o, rfl, hb, hc⟩ := ns_cell hs hk0
    have c0 : w.cell? ⟨b, o, none⟩ = some (.int .u32 ((dg (digs (nat l)) 0 : Nat) : Int)) := hc 0 hk0
    have c1 := hc 1 hk1
    have u0 := u64w (dg_lt DL 0)
    have u1 := u64w (dg_lt DL 1)
    have uo : bits BinOp.or IntKind.u64 (IntKind.u64.wrap (((dg (digs (nat l)) 1 : Nat) : Int) * 4294967296)) ((dg (digs (nat l)) 0 : Nat) : Int) = ((nat l : Nat) : Int) := by rw [or_hi (dg_lt DL 0) (dg_lt DL 1), ← HN.out]
    clear hs hc
    go_wp2_with fail
    go_quiet (fail)
    go_wp2_with fail
    go_ret2
    exact ⟨rfl, drewN_below _ _⟩
theorem nuint_no (l : List Nat) (v : Value) (w : World) (hl : l.length ≤ 100000) (hd : Dg l) (h : NS w v l) (hn : B * B ≤ nat l) : Calls Tryd.prog 105 #[v] w fun e w' => e = .returned (.tuple #[.int .u64 0, .bool false]) ∧ w = w' := by
  have CT := Lib.hid (ntrim_any l v w hl hd h)
  unfold TrimPost at CT
  obtain ⟨A, c, rfl, _, _, _⟩ := ns_cases h
  have hk : 2 < (digs (nat l)).length := digs_len_ge (by rw [Nat.pow_succ, Nat.pow_one]; exact hn)
  have hk2 : (digs (nat l)).length ≤ 100000 := Nat.le_trans (digs_split hd).2 hl
  obtain ⟨k, hkk⟩ : ∃ k, k = (digs (nat l)).length := ⟨_, rfl⟩
  rw [← hkk] at hk hk2 CT
  have q0 : ((k : Int) == 0) = false := beq_eq_false_iff_ne.2 (by omega)
  have q1 : ((k : Int) == 1) = false := beq_eq_false_iff_ne.2 (by omega)
  have q2 : ((k : Int) == 2) = false := beq_eq_false_iff_ne.2 (by omega)
  clear h hn hkk
  go_enter Tryd.func105, Tryd.ntmps105
  go_wp2_with fail
  refine CT.out.mono ?_
  rintro e w1 ⟨A, c, hv, rfl, hs, rfl⟩
  clear hs hv
  go_wp2_with fail
  go_ret2
  exact ⟨rfl, rfl⟩
end Fr
end Go.Proofs.YtfopmaeaclbknaaDoor
namespace Go.Proofs.YtfopmaeaclbknaaDoor
open Go.ChangeShapes Go.WideShapes Go.ChangeAt Go.RowKit
set_option linter.unusedVariables false
set_option linter.unusedSimpArgs false
namespace Fr
theorem cmp_lt {x y : Nat} (h : x < y) : cmp x y = -1 := by unfold cmp; rw [if_pos h]
theorem cmp_gt {x y : Nat} (h : y < x) : cmp x y = 1 := by unfold cmp; rw [if_neg (by omega), if_pos h]
theorem cmp_eq {x y : Nat} (h : x = y) : cmp x y = 0 := by unfold cmp; rw [if_neg (by omega), if_neg (by omega)]
set_option maxHeartbeats 1000000 in
theorem rcmp_any (a b : List Nat) (va vb : Value) (w : World) (hla : a.length ≤ 50000) (hlb : b.length ≤ 50000) (hda : Dg a) (hdb : Dg b) (ha : NS w va a) (hb : NS w vb b) : Calls Tryd.prog 100 #[va, vb] w fun e w' => e = .returned (.int .i64 (cmp (nat a) (nat b))) ∧ w = w' := by
  have CA := Lib.hid (fun i (hi : i ≤ 100000) => digit_any a va i w (by omega) hi hda ha)
  have CB := Lib.hid (fun i (hi : i ≤ 100000) => digit_any b vb i w (by omega) hi hdb hb)
  have HDA := Lib.hid hda
  have HDB := Lib.hid hdb
  obtain ⟨A1, c1, rfl, _, _, _⟩ := ns_cases ha
  obtain ⟨A2, c2, rfl, _, _, _⟩ := ns_cases hb
  clear ha hb hda hdb
  by_cases hab : a.length < b.length
  · go_enter Tryd.func100, Tryd.ntmps100
    go_wp2_with fail
    go_loop [5] (fun v => ∃ m : Nat, m ≤ b.length ∧ v = .int .i64 ((m : Int) - 1) ∧ Hid (∀ j, m ≤ j → j < b.length → dg a j = dg b j)) (fun v => (intOf v + 1).toNat)
    case atStart => exact ⟨b.length, Nat.le_refl _, rfl, fun j h1 h2 => by omega⟩
    case round =>
      obtain ⟨m, hm, rfl, HE⟩ := hrel
      cases m with
      | zero =>
        have HF : Hid (cmp (nat a) (nat b) = 0) := cmp_eq (nat_same (M := b.length) (by omega) (by omega) (fun j h => HE.out j (by omega) h))
        go_wp2_with fail
        go_ret
        exact ⟨by rw [HF.out]; rfl, rfl⟩
      | succ j =>
        rw [show (((j + 1 : Nat) : Int) - 1) = (j : Int) by omega]
        have hj0 : (0 : Int) ≤ (j : Int) := by omega
        have hj1 : (j : Int) ≤ 100000 := by omega
        have hdec : decide ((0 : Int) ≤ (j : Int)) = true := decide_eq_true hj0
        rcases Nat.lt_trichotomy (dg a j) (dg b j) with hx | hx | hx
        · have HF : Hid (cmp (nat a) (nat b) = -1) := cmp_lt (nat_less HDA.out (M := b.length) (by omega) (by omega) (by omega) (fun i h1 h2 => HE.out i (by omega) h2) hx)
          have q1 : decide (dg a j < dg b j) = true := decide_eq_true hx
          clear hx
          go_wp2_with fail
          refine (CA.out j (by omega)).mono ?_
          rintro e w1 ⟨rfl, rfl⟩
          go_wp2_with fail
          refine (CB.out j (by omega)).mono ?_
          rintro e w1' ⟨rfl, rfl⟩
          go_wp2_with fail
          go_ret
          exact ⟨by rw [HF.out]; rfl, rfl⟩
        · have HE2 : Hid (∀ i, j ≤ i → i < b.length → dg a i = dg b i) := fun i h1 h2 => by
            by_cases e : i = j
            · rw [e]; exact hx
            · exact HE.out i (by omega) h2
          have q1 : decide (dg a j < dg b j) = false := decide_eq_false (by omega)
          have q2 : decide (dg b j < dg a j) = false := decide_eq_false (by omega)
          clear hx
          go_wp2_with fail
          refine (CA.out j (by omega)).mono ?_
          rintro e w1 ⟨rfl, rfl⟩
          go_wp2_with fail
          refine (CB.out j (by omega)).mono ?_
          rintro e w1' ⟨rfl, rfl⟩
          go_wp2_with fail
          refine (CA.out j (by omega)).mono ?_
          rintro e w2 ⟨rfl, rfl⟩
          go_wp2_with fail
          refine (CB.out j (by omega)).mono ?_
          rintro e w2' ⟨rfl, rfl⟩
          go_wp2_with fail
          go_round
          case rel => exact ⟨j, by omega, by go_num, HE2⟩
          case measure => simp [intOf]
        · have HF : Hid (cmp (nat a) (nat b) = 1) := cmp_gt (nat_less HDB.out (M := b.length) (by omega) (by omega) (by omega) (fun i h1 h2 => (HE.out i (by omega) h2).symm) hx)
          have q1 : decide (dg a j < dg b j) = false := decide_eq_false (by omega)
          have q2 : decide (dg b j < dg a j) = true := decide_eq_true hx
          clear hx
          go_wp2_with fail
          refine (CA.out j (by omega)).mono ?_
          rintro e w1 ⟨rfl, rfl⟩
          go_wp2_with fail
          refine (CB.out j (by omega)).mono ?_
          rintro e w1' ⟨rfl, rfl⟩
          go_wp2_with fail
          refine (CA.out j (by omega)).mono ?_
          rintro e w2 ⟨rfl, rfl⟩
          go_wp2_with fail
          refine (CB.out j (by omega)).mono ?_
          rintro e w2' ⟨rfl, rfl⟩
          go_wp2_with fail
          go_ret
          exact ⟨by rw [HF.out]; rfl, rfl⟩
  · go_enter Tryd.func100, Tryd.ntmps100
    go_wp2_with fail
    go_loop [5] (fun v => ∃ m : Nat, m ≤ a.length ∧ v = .int .i64 ((m : Int) - 1) ∧ Hid (∀ j, m ≤ j → j < a.length → dg a j = dg b j)) (fun v => (intOf v + 1).toNat)
    case atStart => exact ⟨a.length, Nat.le_refl _, rfl, fun j h1 h2 => by omega⟩
    case round =>
      obtain ⟨m, hm, rfl, HE⟩ := hrel
      cases m with
      | zero =>
        have HF : Hid (cmp (nat a) (nat b) = 0) := cmp_eq (nat_same (M := a.length) (by omega) (by omega) (fun j h => HE.out j (by omega) h))
        go_wp2_with fail
        go_ret
        exact ⟨by rw [HF.out]; rfl, rfl⟩
      | succ j =>
        rw [show (((j + 1 : Nat) : Int) - 1) = (j : Int) by omega]
        have hj0 : (0 : Int) ≤ (j : Int) := by omega
        have hj1 : (j : Int) ≤ 100000 := by omega
        have hdec : decide ((0 : Int) ≤ (j : Int)) = true := decide_eq_true hj0
        rcases Nat.lt_trichotomy (dg a j) (dg b j) with hx | hx | hx
        · have HF : Hid (cmp (nat a) (nat b) = -1) := cmp_lt (nat_less HDA.out (M := a.length) (by omega) (by omega) (by omega) (fun i h1 h2 => HE.out i (by omega) h2) hx)
          have q1 : decide (dg a j < dg b j) = true := decide_eq_true hx
          clear hx
          go_wp2_with fail
          refine (CA.out j (by omega)).mono ?_
          rintro e w1 ⟨rfl, rfl⟩
          go_wp2_with fail
          refine (CB.out j (by omega)).mono ?_
          rintro e w1' ⟨rfl, rfl⟩
          go_wp2_with fail
          go_ret
          exact ⟨by rw [HF.out]; rfl, rfl⟩
        · have HE2 : Hid (∀ i, j ≤ i → i < a.length → dg a i = dg b i) := fun i h1 h2 => by
            by_cases e : i = j
            · rw [e]; exact hx
            · exact HE.out i (by omega) h2
          have q1 : decide (dg a j < dg b j) = false := decide_eq_false (by omega)
          have q2 : decide (dg b j < dg a j) = false := decide_eq_false (by omega)
          clear hx
          go_wp2_with fail
          refine (CA.out j (by omega)).mono ?_
          rintro e w1 ⟨rfl, rfl⟩
          go_wp2_with fail
          refine (CB.out j (by omega)).mono ?_
          rintro e w1' ⟨rfl, rfl⟩
          go_wp2_with fail
          refine (CA.out j (by omega)).mono ?_
          rintro e w2 ⟨rfl, rfl⟩
          go_wp2_with fail
          refine (CB.out j (by omega)).mono ?_
          rintro e w2' ⟨rfl, rfl⟩
          go_wp2_with fail
          go_round
          case rel => exact ⟨j, by omega, by go_num, HE2⟩
          case measure => simp [intOf]
        · have HF : Hid (cmp (nat a) (nat b) = 1) := cmp_gt (nat_less HDB.out (M := a.length) (by omega) (by omega) (by omega) (fun i h1 h2 => (HE.out i (by omega) h2).symm) hx)
          have q1 : decide (dg a j < dg b j) = false := decide_eq_false (by omega)
          have q2 : decide (dg b j < dg a j) = true := decide_eq_true hx
          clear hx
          go_wp2_with fail
          refine (CA.out j (by omega)).mono ?_
          rintro e w1 ⟨rfl, rfl⟩
          go_wp2_with fail
          refine (CB.out j (by omega)).mono ?_
          rintro e w1' ⟨rfl, rfl⟩
          go_wp2_with fail
          refine (CA.out j (by omega)).mono ?_
          rintro e w2 ⟨rfl, rfl⟩
          go_wp2_with fail
          refine (CB.out j (by omega)).mono ?_
          rintro e w2' ⟨rfl, rfl⟩
          go_wp2_with fail
          go_ret
          exact ⟨by rw [HF.out]; rfl, rfl⟩
end Fr
end Go.Proofs.YtfopmaeaclbknaaDoor
