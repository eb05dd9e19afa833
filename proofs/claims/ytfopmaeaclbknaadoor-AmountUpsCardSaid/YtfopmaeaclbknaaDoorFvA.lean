/- The reference's Uint and Valid of naturals, Valid and Sign of fractions. The reference's Valid, Floor and Ceil of fractions; the reference's Up. Printed by gen_fv2.py. The reference's Ceil of fractions; the reference's Up. Printed by gen_fv3.py. The reference's FromInt, Neg and Add of fractions. Printed by gen_fv4.py. -/
import Derived.Test.YtfopmaeaclbknaaDoorFp2
import Derived.Deep.RegionHeld3
namespace Go.Proofs.YtfopmaeaclbknaaDoor
open Go.ChangeShapes Go.WideShapes Go.ChangeAt Go.RowKit
set_option linter.unusedVariables false
set_option linter.unusedSimpArgs false
namespace Fr
theorem drop_step {l : List Nat} {j : Nat} (h : j < l.length) : nat (l.drop j) = dg l j + B * nat (l.drop (j + 1)) := by
  rw [List.drop_eq_getElem_cons h, dg_in h]
  rfl
set_option maxHeartbeats 1000000 in
theorem ruint_yes (l : List Nat) (v : Value) (w : World) (hl : l.length ≤ 2) (hd : Dg l) (h : NS w v l) : Calls Tryd.prog 107 #[v] w fun e w' => e = .returned (.tuple #[.int .u64 ((nat l : Nat) : Int), .bool true]) ∧ w = w' := by
  obtain ⟨A, c, rfl, _, _, ha⟩ := ns_cases h
  have q0 : decide ((2 : Int) < (l.length : Int)) = false := decide_eq_false (by omega)
  have q00 : decide (2 < l.length) = false := decide_eq_false (by omega)
  have HD := Lib.hid hd
  have HA := Lib.hid ha
  have HL := Lib.hid hl
  have hl1 : l.length ≤ 100000 := by omega
  clear h hd ha hl
  go_enter Tryd.func107, Tryd.ntmps107
  go_wp2_with fail
  go_loop [4, 5] (fun xv iv => ∃ m : Nat, m ≤ l.length ∧ xv = .int .u64 ((nat (l.drop m) : Nat) : Int) ∧ iv = .int .i64 ((m : Int) - 1)) (fun _ iv => (intOf iv + 1).toNat)
  case atStart => exact ⟨l.length, Nat.le_refl _, by simp [nat], rfl⟩
  case round =>
    obtain ⟨m, hm, rfl, rfl⟩ := hrel
    cases m with
    | zero =>
      have HF : Hid (nat (l.drop 0) = nat l) := rfl
      go_wp2_with fail
      go_ret2
      exact ⟨rfl, rfl⟩
    | succ j =>
      rw [show (((j + 1 : Nat) : Int) - 1) = (j : Int) by omega]
      have hj0 : (0 : Int) ≤ (j : Int) := by omega
      have hj1 : (j : Int) < (l.length : Int) := by omega
      have hdec : decide ((0 : Int) ≤ (j : Int)) = true := decide_eq_true hj0
      obtain ⟨b, o, rfl, _, hc⟩ := HA.out (by omega)
      have hc := hc j (by omega)
      have ww := u64w (dg_lt HD.out j)
      have hb0 : dg l j < B := dg_lt HD.out j
      have hbs := hb0
      unfold B at hbs
      obtain ⟨x, hx⟩ : ∃ x, x = nat (l.drop (j + 1)) := ⟨_, rfl⟩
      have hxb : x < 4294967296 := by
        have h1 := nat_lt (HD.out.drop (j + 1))
        rw [← hx] at h1
        refine Nat.lt_of_lt_of_le h1 (Nat.le_trans (Nat.pow_le_pow_right B_pos (show (l.drop (j + 1)).length ≤ 1 by simp; have := HL.out; omega)) ?_)
        simp [B]
      have hs0 := drop_step (l := l) (j := j) (by omega)
      rw [← hx] at hs0 ⊢
      obtain ⟨t, ht⟩ : ∃ t, t = x * 4294967296 := ⟨_, rfl⟩
      obtain ⟨d, hd⟩ : ∃ d, d = dg l j := ⟨_, rfl⟩
      obtain ⟨s, hs⟩ : ∃ s, s = t + d := ⟨_, rfl⟩
      rw [← hd] at hc ww hbs hs0
      have t1 : IntKind.u64.wrap ((x : Int) * 4294967296) = (t : Int) := by
        rw [IntWalk.u64_in _ (by omega)]; omega
      have t2 : IntKind.u64.wrap ((t : Int) + (d : Int)) = (s : Int) := by
        rw [IntWalk.u64_in _ (by omega)]; omega
      have HR : Hid (nat (l.drop j) = s) := by
        show _ = _
        rw [hs0, hs, ht]; unfold B; omega
      clear hb0 hbs hx hxb hs0 ht hd hs
      go_wp2_with fail
      go_round
      case rel => exact ⟨j, by omega, by rw [HR.out], by go_num⟩
      case measure => simp [intOf]
set_option maxHeartbeats 1000000 in
theorem ruint_no (l : List Nat) (v : Value) (w : World) (hl : 2 < l.length) (hl1 : l.length ≤ 100000) (h : NS w v l) : Calls Tryd.prog 107 #[v] w fun e w' => e = .returned (.tuple #[.int .u64 0, .bool false]) ∧ w = w' := by
  obtain ⟨A, c, rfl, _, _, ha⟩ := ns_cases h
  have q0 : decide ((2 : Int) < (l.length : Int)) = true := decide_eq_true (by omega)
  have q00 : decide (2 < l.length) = true := decide_eq_true (by omega)
  clear h ha hl
  go_enter Tryd.func107, Tryd.ntmps107
  go_wp2_with fail
  go_ret2
  exact ⟨rfl, rfl⟩
theorem ruint_any (n : Nat) (v : Value) (w : World) (hl : (digs n).length ≤ 100000) (h : NS w v (digs n)) : ∃ (u : Nat) (b : Bool), (u < B * B ∧ (n < B * B → u = n ∧ b = true) ∧ (B * B ≤ n → b = false)) ∧ Calls Tryd.prog 107 #[v] w fun e w' => e = .returned (.tuple #[.int .u64 (u : Int), .bool b]) ∧ w = w' := by
  by_cases hn : (digs n).length ≤ 2
  · have h1 : n < B * B := by
      have := lt_digs_len n
      exact Nat.lt_of_lt_of_le this (by rw [← Nat.pow_two]; exact Nat.pow_le_pow_right B_pos hn)
    refine ⟨n, true, ⟨h1, fun _ => ⟨rfl, rfl⟩, fun h => absurd h1 (by omega)⟩, ?_⟩
    have := ruint_yes (digs n) v w hn (Dg.digs n) h
    rw [nat_digs] at this
    exact this
  · refine ⟨0, false, ⟨by decide, fun h2 => ?_, fun _ => rfl⟩, ruint_no (digs n) v w (by omega) hl h⟩
    exact absurd (digs_len_le (n := n) (m := 2) (by rw [Nat.pow_two]; exact h2)) (by omega)
theorem last_dg {l : List Nat} {k : Nat} (h : l.length = k + 1) : l.getLastD 1 = dg l k := by
  rcases List.eq_nil_or_concat l with rfl | ⟨l', b, rfl⟩
  · simp at h
  · have : l'.length = k := by simpa using h
    subst this
    simp [dg]
theorem rnvalid (l : List Nat) (v : Value) (w : World) (b : Bool) (hl : l.length ≤ 1000) (hd : Dg l) (h : NS w v l) (hb : b = decide (l.getLastD 1 ≠ 0)) : Calls Tryd.prog 52 #[v] w fun e w' => e = .returned (.bool b) ∧ w = w' := by
  obtain ⟨A, c, rfl, _, _, ha⟩ := ns_cases h
  rcases Nat.eq_zero_or_pos l.length with h0 | h0
  · obtain rfl : l = [] := List.eq_nil_of_length_eq_zero h0
    obtain rfl : b = true := by rw [hb]; rfl
    clear hb ha h hd
    rw [show ([] : List Nat).length = 0 from rfl]
    go_enter Tryd.func52, Tryd.ntmps52
    go_wp2_with fail
    go_ret
    exact ⟨rfl, rfl⟩
  · obtain ⟨k, hk⟩ : ∃ k, l.length = k + 1 := ⟨l.length - 1, by omega⟩
    rw [last_dg hk] at hb
    obtain ⟨b', o, rfl, _, hc⟩ := ha h0
    have hc := hc k (by omega)
    have ww := dg_lt hd k
    unfold B at ww
    rw [hk] at hl ⊢
    have q1 : (((k + 1 : Nat) : Int) == 0) = false := beq_eq_false_iff_ne.2 (by omega)
    have q2 : (((k : Nat) : Int) + 1 == 0) = false := beq_eq_false_iff_ne.2 (by omega)
    have q3 : (!(((dg l k : Nat) : Int) == 0)) = b := by
      rw [hb]
      by_cases e : dg l k = 0
      · rw [e]; rfl
      · rw [beq_eq_false_iff_ne.2 (show ((dg l k : Nat) : Int) ≠ 0 by omega), decide_eq_true e]; rfl
    have hk1 : (0 : Int) ≤ (k : Int) := by omega
    have hk2 : (k : Int) < ((k + 1 : Nat) : Int) := by omega
    clear hb ha h hd h0 hk ww
    generalize dg l k = d at *
    go_enter Tryd.func52, Tryd.ntmps52
    go_wp2_with fail
    go_ret
    exact ⟨congrArg (fun b => Ending.returned (.bool b)) q3, rfl⟩
def signI (b : Bool) (n : Nat) : Int := if b then -1 else if n = 0 then 0 else 1
theorem rsign_any (b : Bool) (A1 : Option Addr) (c1 n' : Nat) (v2 : Value) (w : World) : Calls Tryd.prog 57 #[.agg #[.bool b, .slice A1 n' c1, v2]] w fun e w' => e = .returned (.int .i64 (signI b n')) ∧ Below w.heap.size w w' := by
  have B1 : Hid (Below w.heap.size w (w.alloc (.cells #[.bool b, .slice A1 n' c1, v2] 38))) := below_new w _
  cases b
  · by_cases h : n' = 0
    · subst h
      go_enter Tryd.func57, Tryd.ntmps57
      go_wp2_with fail
      go_ret
      exact ⟨rfl, B1.out⟩
    · have q : ((n' : Int) == 0) = false := beq_eq_false_iff_ne.2 (by omega)
      have HS : Hid (signI false n' = 1) := by show _ = _; unfold signI; rw [if_neg (by simp), if_neg h]
      rw [HS.out]
      clear h
      go_enter Tryd.func57, Tryd.ntmps57
      go_wp2_with fail
      go_ret
      exact ⟨rfl, B1.out⟩
  · rw [show signI true n' = -1 from rfl]
    go_enter Tryd.func57, Tryd.ntmps57
    go_wp2_with fail
    go_ret
    exact ⟨rfl, B1.out⟩
end Fr
end Go.Proofs.YtfopmaeaclbknaaDoor
namespace Go.Proofs.YtfopmaeaclbknaaDoor
open Go.ChangeShapes Go.WideShapes Go.ChangeAt Go.RowKit
set_option linter.unusedVariables false
set_option linter.unusedSimpArgs false
namespace Fr
/-- what a function that rounds a number answers -/
def ValPost (q : Nat) (w : World) (e : Ending) (w' : World) : Prop := ∃ v b, IntPost v b w e w' ∧ (q < 9223372036854775808 → v = (q : Int) ∧ b = true) ∧ (9223372036854775808 ≤ q → v = 0 ∧ b = false)
/-- what Valid says, where it says yes -/
def Good (neg : Bool) (l1 l2 : List Nat) : Prop := l1 = digs (nat l1) ∧ l2 = digs (nat l2) ∧ nat l2 ≠ 0 ∧ (neg = true → nat l1 ≠ 0)
def BPost (P : Prop) (w : World) (e : Ending) (w' : World) : Prop := ∃ b, e = .returned (.bool b) ∧ (b = true → P) ∧ Below w.heap.size w w'
set_option maxHeartbeats 2000000 in
theorem rfvalid (neg : Bool) (A1 A2 : Option Addr) (c1 c2 : Nat) (l1 l2 : List Nat) (w : World) (hl1 : l1.length ≤ 1000) (hl2 : l2.length ≤ 1000) (hd1 : Dg l1) (hd2 : Dg l2) (hn : NS w (.slice A1 l1.length c1) l1) (hd : NS w (.slice A2 l2.length c2) l2) :
    Calls Tryd.prog 24 #[.agg #[.bool neg, .slice A1 l1.length c1, .slice A2 l2.length c2]] w (BPost (Good neg l1 l2) w) := by
  obtain ⟨x1, hx1⟩ : ∃ x1, x1 = decide (l1.getLastD 1 ≠ 0) := ⟨_, rfl⟩
  obtain ⟨x2, hx2⟩ : ∃ x2, x2 = decide (l2.getLastD 1 ≠ 0) := ⟨_, rfl⟩
  have C1 := Lib.hid (fun w' (b : Below w.heap.size w w') => rnvalid l1 _ w' x1 hl1 hd1 (hn.keep b) hx1)
  have C2 := Lib.hid (fun w' (b : Below w.heap.size w w') => rnvalid l2 _ w' x2 hl2 hd2 (hd.keep b) hx2)
  have HG : Hid (x1 = true → x2 = true → l2.length ≠ 0 → (neg = true → l1.length ≠ 0) → Good neg l1 l2) := by
    intro e1 e2 e3 e4
    have y1 := (digs_of hd1 (by rw [hx1] at e1; exact of_decide_eq_true e1)).symm
    have y2 := (digs_of hd2 (by rw [hx2] at e2; exact of_decide_eq_true e2)).symm
    refine ⟨y1, y2, fun h => e3 (by rw [y2, h]; rfl), fun h0 h => e4 h0 (by rw [y1, h]; rfl)⟩
  have HF : Hid (∀ w', Below w.heap.size w w' → BPost (Good neg l1 l2) w (.returned (.bool false)) w') := fun w' b => ⟨false, rfl, (fun h => by cases h), b⟩
  have HY : Hid (∀ (p : Bool) w', Good neg l1 l2 → Below w.heap.size w w' → BPost (Good neg l1 l2) w (.returned (.bool p)) w') := fun p w' g b => ⟨p, rfl, (fun _ => g), b⟩
  have CG : Hid (l2 = digs (nat l2) → ∀ w', Below w.heap.size w w' → Calls Tryd.prog 53 #[.slice A1 l1.length c1, .slice A2 l2.length c2] w' (NatPost (Nat.gcd (nat l1) (nat l2)) w')) := fun e w' b => by
    have := rgcd_any l1 (nat l2) (.slice A1 l1.length c1) (.slice A2 l2.length c2) w' (by omega) (by rw [← e]; omega) hd1 (hn.keep b) (by rw [← e]; exact hd.keep b)
    exact this
  have HA2 : Hid (∀ w', Below w.heap.size w w' → 0 < l2.length → ∃ b o, A2 = some ⟨b, o, none⟩ ∧ b < w'.heap.size ∧ ∀ i, i < l2.length → w'.cell? ⟨b, o + i, none⟩ = some (.int .u32 ((dg l2 i : Nat) : Int))) := by
    intro w' b
    obtain ⟨A, c, e, _, _, ha⟩ := ns_cases (hd.keep b)
    injection e with e1 _ e2
    subst e1 e2
    exact ha
  have HDL : Hid (Dg l2) := hd2
  have K0 : Hid (Blk (w.alloc (.cells #[.bool neg, .slice A1 l1.length c1, .slice A2 l2.length c2] 38)) w.heap.size 38 #[.bool neg, .slice A1 l1.length c1, .slice A2 l2.length c2]) := Blk.new w _ _
  have B0 : Hid (Below w.heap.size w (w.alloc (.cells #[.bool neg, .slice A1 l1.length c1, .slice A2 l2.length c2] 38))) := below_new w _
  clear hn hd hd1 hd2 hx1 hx2
  go_enter Tryd.func24, Tryd.ntmps24
  go_upto_region 1 with fail
  generalize w.alloc (.cells #[.bool neg, .slice A1 l1.length c1, .slice A2 l2.length c2] 38) = w1 at *
  have k1 := K0.out.c3
  cases x1
  · go_wp2_with fail
    refine (C1.out _ B0.out).mono ?_
    rintro e w2 ⟨rfl, rfl⟩
    go_wp2_with fail
    go_ret
    exact HF.out _ B0.out
  cases x2
  · go_wp2_with fail
    refine (C1.out _ B0.out).mono ?_
    rintro e w2 ⟨rfl, rfl⟩
    go_wp2_with fail
    refine (C2.out _ B0.out).mono ?_
    rintro e w2 ⟨rfl, rfl⟩
    go_wp2_with fail
    go_ret
    exact HF.out _ B0.out
  by_cases h2 : l2.length = 0
  · have q1 : ((l2.length : Int) == 0) = true := by rw [h2]; rfl
    clear h2
    go_wp2_with fail
    refine (C1.out _ B0.out).mono ?_
    rintro e w2 ⟨rfl, rfl⟩
    go_wp2_with fail
    refine (C2.out _ B0.out).mono ?_
    rintro e w2 ⟨rfl, rfl⟩
    go_wp2_with fail
    go_ret
    exact HF.out _ B0.out
  have q1 : ((l2.length : Int) == 0) = false := beq_eq_false_iff_ne.2 (by omega)
  by_cases h1 : l1.length = 0
  · have q2 : ((l1.length : Int) == 0) = true := by rw [h1]; rfl
    cases neg
    · have G := Lib.hid (HG.out rfl rfl h2 (fun h => by cases h))
      by_cases hg : l2.length = 1
      · obtain ⟨b, o, rfl, _, hc⟩ := HA2.out _ B0.out (by omega)
        have hc := hc 0 (by omega)
        rw [Nat.add_zero] at hc
        have q3 : ((l2.length : Int) == 1) = true := by rw [hg]; rfl
        have hk2 : (0 : Int) < (l2.length : Int) := by omega
        have ww := dg_lt HDL.out 0
        unfold B at ww
        clear h1 h2 hg
        generalize l2.length = m at *
        generalize dg l2 0 = x at *
        go_wp2_with fail
        refine (C1.out _ B0.out).mono ?_
        rintro e w2 ⟨rfl, rfl⟩
        go_wp2_with fail
        refine (C2.out _ B0.out).mono ?_
        rintro e w2 ⟨rfl, rfl⟩
        go_wp2_with fail
        go_ret
        exact HY.out _ _ G.out B0.out
      · have q3 : ((l2.length : Int) == 1) = false := beq_eq_false_iff_ne.2 (by omega)
        clear h1 h2 hg
        go_wp2_with fail
        refine (C1.out _ B0.out).mono ?_
        rintro e w2 ⟨rfl, rfl⟩
        go_wp2_with fail
        refine (C2.out _ B0.out).mono ?_
        rintro e w2 ⟨rfl, rfl⟩
        go_wp2_with fail
        go_ret
        exact HF.out _ B0.out
    · clear h1 h2
      go_wp2_with fail
      refine (C1.out _ B0.out).mono ?_
      rintro e w2 ⟨rfl, rfl⟩
      go_wp2_with fail
      refine (C2.out _ B0.out).mono ?_
      rintro e w2 ⟨rfl, rfl⟩
      go_wp2_with fail
      go_ret
      exact HF.out _ B0.out
  · have q2 : ((l1.length : Int) == 0) = false := beq_eq_false_iff_ne.2 (by omega)
    have G := Lib.hid (HG.out rfl rfl h2 (fun _ => h1))
    clear h1 h2
    go_wp2_with fail
    refine (C1.out _ B0.out).mono ?_
    rintro e w2 ⟨rfl, rfl⟩
    go_wp2_with fail
    refine (C2.out _ B0.out).mono ?_
    rintro e w2 ⟨rfl, rfl⟩
    go_wp2_with fail
    refine (CG.out G.out.2.1 _ B0.out).mono ?_
    rintro e w3 ⟨v, rfl, s1, b3⟩
    have B3 := Lib.hid (chain0 B0.out b3)
    obtain ⟨A3, c3, rfl, _, _, ha⟩ := ns_cases s1
    generalize Nat.gcd (nat l1) (nat l2) = g at *
    by_cases hg : (digs g).length = 1
    · obtain ⟨b, o, rfl, _, hc⟩ := ha (by omega)
      have hc := hc 0 (by omega)
      rw [Nat.add_zero] at hc
      have ww := dg_lt (Dg.digs g) 0
      unfold B at ww
      have q3 : (((digs g).length : Int) == 1) = true := by rw [hg]; rfl
      have hk2 : (0 : Int) < ((digs g).length : Int) := by omega
      clear s1 ha hg
      generalize (digs g).length = m at *
      generalize dg (digs g) 0 = x at *
      go_wp2_with fail
      go_ret
      exact HY.out _ _ G.out B3.out
    · have q3 : (((digs g).length : Int) == 1) = false := beq_eq_false_iff_ne.2 (by omega)
      clear s1 ha hg
      go_wp2_with fail
      go_ret
      exact HF.out _ B3.out
set_option maxHeartbeats 2000000 in
theorem rfloor_pos (A1 A2 : Option Addr) (c1 c2 n d : Nat) (w : World) (hln : (digs n).length ≤ 5000) (hld : (digs d).length ≤ 5000) (hd0 : d ≠ 0) (hn : NS w (.slice A1 (digs n).length c1) (digs n)) (hd : NS w (.slice A2 (digs d).length c2) (digs d)) : Calls Tryd.prog 78 #[.agg #[.bool false, .slice A1 (digs n).length c1, .slice A2 (digs d).length c2]] w (ValPost (n / d) w) := by
  have CD := Lib.hid (fun w' (b : Below w.heap.size w w') => rdiv_any (digs n) (digs d) _ _ w' (by omega) (by omega) (Dg.digs _) (Dg.digs _) (by rw [nat_digs]; exact hd0) (hn.keep b) (hd.keep b))
  have CD : Hid (∀ w', Below w.heap.size w w' → Calls Tryd.prog 73 #[.slice A1 (digs n).length c1, .slice A2 (digs d).length c2] w' (DivPost n d w')) := fun w' b => by
    have := CD.out w' b
    rw [nat_digs, nat_digs] at this
    exact this
  unfold DivPost at CD
  have HLQ : Hid ((digs (n / d)).length ≤ 5000) := Nat.le_trans (digs_len_mono (Nat.div_le_self n d)) hln
  have K0 : Hid (Blk (w.alloc (.cells #[.bool false, .slice A1 (digs n).length c1, .slice A2 (digs d).length c2] 38)) w.heap.size 38 #[.bool false, .slice A1 (digs n).length c1, .slice A2 (digs d).length c2]) := Blk.new w _ _
  have B0 : Hid (Below w.heap.size w (w.alloc (.cells #[.bool false, .slice A1 (digs n).length c1, .slice A2 (digs d).length c2] 38))) := below_new w _
  clear hn hd hln hld hd0
  go_enter Tryd.func78, Tryd.ntmps78
  go_upto_region 1 with fail
  generalize w.alloc (.cells #[.bool false, .slice A1 (digs n).length c1, .slice A2 (digs d).length c2] 38) = w1 at *
  have k1 := K0.out.c3
  go_wp2_with fail
  refine (CD.out _ B0.out).mono ?_
  rintro e w2 ⟨vq, vr, rfl, s1, s2, b2⟩
  have B2 := Lib.hid (chain0 B0.out b2)
  have K2 := Lib.hid (K0.out.below' b2)
  have k2 := K2.out.c3
  have Q2 := Lib.hid s1
  obtain ⟨A4, c4, rfl, _⟩ := ns_cases s1
  obtain ⟨A5, c5, rfl, _⟩ := ns_cases s2
  clear s1 s2 b2 k1
  obtain ⟨u, b, hu, CU⟩ := ruint_any (n / d) _ w2 (by have := HLQ.out; omega) Q2.out
  have CU := Lib.hid CU
  generalize n / d = q at *
  by_cases hb : q < B * B
  · obtain ⟨rfl, rfl⟩ := hu.2.1 hb
    by_cases hlt : u < 9223372036854775808
    · have HLT := Lib.hid hlt
      have t1 : decide ((9223372036854775807 : Int) < (u : Int)) = false := decide_eq_false (by omega)
      have t2 : IntKind.i64.wrap (u : Int) = (u : Int) := IntWalk.i64_in _ (by omega)
      clear hu hb hlt
      go_wp2_with fail
      refine CU.out.mono ?_
      rintro e w5 ⟨rfl, rfl⟩
      go_wp2_with fail
      go_ret2
      exact ⟨_, _, ⟨rfl, B2.out⟩, fun _ => ⟨rfl, rfl⟩, fun h => absurd HLT.out (by omega)⟩
    · have HLT := Lib.hid hlt
      have t1 : decide ((9223372036854775807 : Int) < (u : Int)) = true := decide_eq_true (by omega)
      clear hu hb hlt
      go_wp2_with fail
      refine CU.out.mono ?_
      rintro e w5 ⟨rfl, rfl⟩
      go_wp2_with fail
      go_ret2
      exact ⟨_, _, ⟨rfl, B2.out⟩, fun h => absurd h HLT.out, fun _ => ⟨rfl, rfl⟩⟩
  · obtain rfl := hu.2.2 (by omega)
    have HLT : Hid (9223372036854775808 ≤ q) := by show _ ≤ _; rw [BB_eq] at hb; omega
    clear hu hb
    go_wp2_with fail
    refine CU.out.mono ?_
    rintro e w5 ⟨rfl, rfl⟩
    go_wp2_with fail
    go_ret2
    exact ⟨_, _, ⟨rfl, B2.out⟩, fun h => absurd h (by have := HLT.out; omega), fun _ => ⟨rfl, rfl⟩⟩
set_option maxHeartbeats 2000000 in
theorem rfloor_neg (A1 A2 : Option Addr) (c1 c2 n d : Nat) (w : World) (hln : (digs n).length ≤ 5000) (hld : (digs d).length ≤ 5000) (hd0 : d ≠ 0) (hn : NS w (.slice A1 (digs n).length c1) (digs n)) (hd : NS w (.slice A2 (digs d).length c2) (digs d)) : Calls Tryd.prog 78 #[.agg #[.bool true, .slice A1 (digs n).length c1, .slice A2 (digs d).length c2]] w (SomePost w) := by
  have CD := Lib.hid (fun w' (b : Below w.heap.size w w') => rdiv_any (digs n) (digs d) _ _ w' (by omega) (by omega) (Dg.digs _) (Dg.digs _) (by rw [nat_digs]; exact hd0) (hn.keep b) (hd.keep b))
  have CD : Hid (∀ w', Below w.heap.size w w' → Calls Tryd.prog 73 #[.slice A1 (digs n).length c1, .slice A2 (digs d).length c2] w' (DivPost n d w')) := fun w' b => by
    have := CD.out w' b
    rw [nat_digs, nat_digs] at this
    exact this
  unfold DivPost at CD
  have HLQ : Hid ((digs (n / d)).length ≤ 5000) := Nat.le_trans (digs_len_mono (Nat.div_le_self n d)) hln
  have K0 : Hid (Blk (w.alloc (.cells #[.bool true, .slice A1 (digs n).length c1, .slice A2 (digs d).length c2] 38)) w.heap.size 38 #[.bool true, .slice A1 (digs n).length c1, .slice A2 (digs d).length c2]) := Blk.new w _ _
  have B0 : Hid (Below w.heap.size w (w.alloc (.cells #[.bool true, .slice A1 (digs n).length c1, .slice A2 (digs d).length c2] 38))) := below_new w _
  clear hn hd hln hld hd0
  go_enter Tryd.func78, Tryd.ntmps78
  go_upto_region 1 with fail
  generalize w.alloc (.cells #[.bool true, .slice A1 (digs n).length c1, .slice A2 (digs d).length c2] 38) = w1 at *
  have k1 := K0.out.c3
  go_wp2_with fail
  refine (CD.out _ B0.out).mono ?_
  rintro e w2 ⟨vq, vr, rfl, s1, s2, b2⟩
  have B2 := Lib.hid (chain0 B0.out b2)
  have K2 := Lib.hid (K0.out.below' b2)
  have k2 := K2.out.c3
  have Q2 := Lib.hid s1
  obtain ⟨A4, c4, rfl, _⟩ := ns_cases s1
  obtain ⟨A5, c5, rfl, _⟩ := ns_cases s2
  clear s1 s2 b2 k1
  by_cases hr : n % d = 0
  · have hl0 : (digs (n % d)).length = 0 := by rw [hr]; rfl
    have g1 : decide ((0 : Int) < ((digs (n % d)).length : Int)) = false := decide_eq_false (by omega)
    have g2 : decide (0 < (digs (n % d)).length) = false := decide_eq_false (by omega)
    clear hr hl0
    obtain ⟨u, b, hu, CU⟩ := ruint_any (n / d) _ w2 (by have := HLQ.out; omega) Q2.out
    have CU := Lib.hid CU
    cases b
    · clear hu
      go_wp2_with fail
      refine CU.out.mono ?_
      rintro e w5 ⟨rfl, rfl⟩
      go_wp2_with fail
      go_ret2
      exact ⟨_, _, rfl, B2.out⟩
    by_cases h3 : 9223372036854775808 < u
    · have t1 : decide ((9223372036854775808 : Int) < (u : Int)) = true := decide_eq_true (by omega)
      clear hu h3
      go_wp2_with fail
      refine CU.out.mono ?_
      rintro e w5 ⟨rfl, rfl⟩
      go_wp2_with fail
      go_ret2
      exact ⟨_, _, rfl, B2.out⟩
    have t1 : decide ((9223372036854775808 : Int) < (u : Int)) = false := decide_eq_false (by omega)
    by_cases h4 : u = 0
    · have t2 : ((u : Int) == 0) = true := by rw [h4]; rfl
      clear hu h3
      go_wp2_with fail
      refine CU.out.mono ?_
      rintro e w5 ⟨rfl, rfl⟩
      go_wp2_with fail
      go_ret2
      exact ⟨_, _, rfl, B2.out⟩
    have t2 : ((u : Int) == 0) = false := beq_eq_false_iff_ne.2 (by omega)
    obtain ⟨x, hx⟩ : ∃ x : Nat, u = x + 1 := ⟨u - 1, by omega⟩
    have t3 : IntKind.u64.wrap ((u : Int) - 1) = (x : Int) := by rw [IntWalk.u64_in _ (by omega)]; omega
    have t4 : IntKind.i64.wrap (x : Int) = (x : Int) := IntWalk.i64_in _ (by omega)
    obtain ⟨y, hy⟩ : ∃ y : Int, y = -(x : Int) := ⟨_, rfl⟩
    have t5 : IntKind.i64.wrap (-(x : Int)) = y := by rw [IntWalk.i64_in _ (by omega)]; omega
    obtain ⟨z, hz⟩ : ∃ z : Int, z = y - 1 := ⟨_, rfl⟩
    have t6 : IntKind.i64.wrap (y - 1) = z := by rw [IntWalk.i64_in _ (by omega)]; omega
    clear hu h3 h4 hx hy hz
    go_wp2_with fail
    refine CU.out.mono ?_
    rintro e w5 ⟨rfl, rfl⟩
    go_wp2_with fail
    go_ret2
    exact ⟨_, _, rfl, B2.out⟩
  · have hl0 := digs_pos_len hr
    have g1 : decide ((0 : Int) < ((digs (n % d)).length : Int)) = true := decide_eq_true (by omega)
    have g2 : decide (0 < (digs (n % d)).length) = true := decide_eq_true (by omega)
    clear hr hl0
    have CF := Lib.hid (fun w => fromUint_any 1 w (by decide))
    go_wp2_with fail
    refine (CF.out _).mono ?_
    rintro e w3 ⟨v3, rfl, s3, b3⟩
    have B3 := Lib.hid (chain0 B2.out b3)
    have K3 := Lib.hid (K2.out.below' b3)
    have CA := radd_any (digs (n / d)) (digs 1) _ _ w3 (by have := HLQ.out; omega) (by decide) (Dg.digs _) (Dg.digs _) (Q2.out.keep b3) s3
    rw [nat_digs, nat_digs] at CA
    have CA := Lib.hid CA
    obtain ⟨A6, c6, rfl, _⟩ := ns_cases s3
    clear s3 b3 k2
    go_wp2_with fail
    refine CA.out.mono ?_
    rintro e w4 ⟨v4, rfl, s4, b4⟩
    have B4 := Lib.hid (chain0 B3.out b4)
    have k4 := (K3.out.below' b4).c3
    have HL4 := digs_add_len (x := n / d) (y := 1) (m := 5000) HLQ.out (by decide)
    have Q4 := Lib.hid s4
    obtain ⟨A7, c7, rfl, _⟩ := ns_cases s4
    clear s4 b4
    obtain ⟨u, b, hu, CU⟩ := ruint_any (n / d + 1) _ w4 (by omega) Q4.out
    have CU := Lib.hid CU
    cases b
    · clear hu
      go_wp2_with fail
      refine CU.out.mono ?_
      rintro e w5 ⟨rfl, rfl⟩
      go_wp2_with fail
      go_ret2
      exact ⟨_, _, rfl, B4.out⟩
    by_cases h3 : 9223372036854775808 < u
    · have t1 : decide ((9223372036854775808 : Int) < (u : Int)) = true := decide_eq_true (by omega)
      clear hu h3
      go_wp2_with fail
      refine CU.out.mono ?_
      rintro e w5 ⟨rfl, rfl⟩
      go_wp2_with fail
      go_ret2
      exact ⟨_, _, rfl, B4.out⟩
    have t1 : decide ((9223372036854775808 : Int) < (u : Int)) = false := decide_eq_false (by omega)
    by_cases h4 : u = 0
    · have t2 : ((u : Int) == 0) = true := by rw [h4]; rfl
      clear hu h3
      go_wp2_with fail
      refine CU.out.mono ?_
      rintro e w5 ⟨rfl, rfl⟩
      go_wp2_with fail
      go_ret2
      exact ⟨_, _, rfl, B4.out⟩
    have t2 : ((u : Int) == 0) = false := beq_eq_false_iff_ne.2 (by omega)
    obtain ⟨x, hx⟩ : ∃ x : Nat, u = x + 1 := ⟨u - 1, by omega⟩
    have t3 : IntKind.u64.wrap ((u : Int) - 1) = (x : Int) := by rw [IntWalk.u64_in _ (by omega)]; omega
    have t4 : IntKind.i64.wrap (x : Int) = (x : Int) := IntWalk.i64_in _ (by omega)
    obtain ⟨y, hy⟩ : ∃ y : Int, y = -(x : Int) := ⟨_, rfl⟩
    have t5 : IntKind.i64.wrap (-(x : Int)) = y := by rw [IntWalk.i64_in _ (by omega)]; omega
    obtain ⟨z, hz⟩ : ∃ z : Int, z = y - 1 := ⟨_, rfl⟩
    have t6 : IntKind.i64.wrap (y - 1) = z := by rw [IntWalk.i64_in _ (by omega)]; omega
    clear hu h3 h4 hx hy hz
    go_wp2_with fail
    refine CU.out.mono ?_
    rintro e w5 ⟨rfl, rfl⟩
    go_wp2_with fail
    go_ret2
    exact ⟨_, _, rfl, B4.out⟩
end Fr
end Go.Proofs.YtfopmaeaclbknaaDoor
namespace Go.Proofs.YtfopmaeaclbknaaDoor
open Go.ChangeShapes Go.WideShapes Go.ChangeAt Go.RowKit
set_option linter.unusedVariables false
set_option linter.unusedSimpArgs false
namespace Fr
theorem ValPost.some {q : Nat} {w w' : World} {e : Ending} (h : ValPost q w e w') : SomePost w e w' := by
  obtain ⟨v, b, h, _⟩ := h
  exact ⟨v, b, h⟩
theorem SomePost.chain {w a w' : World} {e : Ending} (h : SomePost a e w') (b : Below w.heap.size w a) : SomePost w e w' := by
  obtain ⟨v, x, h1, h2⟩ := h
  exact ⟨v, x, h1, chain0 b h2⟩
theorem sign_ge (n : Nat) : 0 ≤ signI false n := by
  unfold signI
  rw [if_neg (by simp)]
  split <;> decide
theorem rfloor_some (b : Bool) (A1 A2 : Option Addr) (c1 c2 n d : Nat) (w : World) (hln : (digs n).length ≤ 5000) (hld : (digs d).length ≤ 5000) (hd0 : d ≠ 0) (hn : NS w (.slice A1 (digs n).length c1) (digs n)) (hd : NS w (.slice A2 (digs d).length c2) (digs d)) : Calls Tryd.prog 78 #[.agg #[.bool b, .slice A1 (digs n).length c1, .slice A2 (digs d).length c2]] w (SomePost w) := by
  cases b
  · exact (rfloor_pos A1 A2 c1 c2 n d w hln hld hd0 hn hd).mono fun _ _ h => h.some
  · exact rfloor_neg A1 A2 c1 c2 n d w hln hld hd0 hn hd
set_option maxHeartbeats 2000000 in
theorem rceil_pos (A1 A2 : Option Addr) (c1 c2 n d : Nat) (w : World) (hln : (digs n).length ≤ 4000) (hld : (digs d).length ≤ 4000) (hd0 : d ≠ 0) (hn : NS w (.slice A1 (digs n).length c1) (digs n)) (hd : NS w (.slice A2 (digs d).length c2) (digs d)) : Calls Tryd.prog 56 #[.agg #[.bool false, .slice A1 (digs n).length c1, .slice A2 (digs d).length c2]] w (CeilPost n d w) := by
  have CD := Lib.hid (fun w' (b : Below w.heap.size w w') => rdiv_any (digs n) (digs d) _ _ w' (by omega) (by omega) (Dg.digs _) (Dg.digs _) (by rw [nat_digs]; exact hd0) (hn.keep b) (hd.keep b))
  have CD : Hid (∀ w', Below w.heap.size w w' → Calls Tryd.prog 73 #[.slice A1 (digs n).length c1, .slice A2 (digs d).length c2] w' (DivPost n d w')) := fun w' b => by
    have := CD.out w' b
    rw [nat_digs, nat_digs] at this
    exact this
  unfold DivPost at CD
  have HLQ : Hid ((digs (n / d)).length ≤ 4000) := Nat.le_trans (digs_len_mono (Nat.div_le_self n d)) hln
  have CF := Lib.hid (fun w => fromUint_any 1 w (by decide))
  have K0 : Hid (Blk (w.alloc (.cells #[.bool false, .slice A1 (digs n).length c1, .slice A2 (digs d).length c2] 38)) w.heap.size 38 #[.bool false, .slice A1 (digs n).length c1, .slice A2 (digs d).length c2]) := Blk.new w _ _
  have B0 : Hid (Below w.heap.size w (w.alloc (.cells #[.bool false, .slice A1 (digs n).length c1, .slice A2 (digs d).length c2] 38))) := below_new w _
  clear hn hd hln hld hd0
  go_enter Tryd.func56, Tryd.ntmps56
  go_upto_region 1 with fail
  generalize w.alloc (.cells #[.bool false, .slice A1 (digs n).length c1, .slice A2 (digs d).length c2] 38) = w1 at *
  have k1 := K0.out.c3
  go_wp2_with fail
  refine (CD.out _ B0.out).mono ?_
  rintro e w2 ⟨vq, vr, rfl, s1, s2, b2⟩
  have B2 := Lib.hid (chain0 B0.out b2)
  have K2 := Lib.hid (K0.out.below' b2)
  have k2 := K2.out.c3
  have Q2 := Lib.hid s1
  obtain ⟨A4, c4, rfl, _⟩ := ns_cases s1
  obtain ⟨A5, c5, rfl, _⟩ := ns_cases s2
  clear s1 s2 b2 k1
  by_cases hr : n % d = 0
  · have HCE : Hid (ceilN n d = n / d) := by show _ = _; unfold ceilN; rw [if_pos hr, Nat.add_zero]
    have hl0 : (digs (n % d)).length = 0 := by rw [hr]; rfl
    have g1 : decide ((0 : Int) < ((digs (n % d)).length : Int)) = false := decide_eq_false (by omega)
    have g2 : decide (0 < (digs (n % d)).length) = false := decide_eq_false (by omega)
    clear hr hl0
    go_wp2_with fail
    refine (CF.out _).mono ?_
    rintro e w8 ⟨v8, rfl, s8, b8⟩
    have B8 := Lib.hid (chain0 B2.out b8)
    have Q8 := Lib.hid (Q2.out.keep b8)
    have S8 := Lib.hid s8
    obtain ⟨A9, c9, rfl, _⟩ := ns_cases s8
    clear s8 b8
    have FL := Lib.hid (rfloor_pos A4 A9 c4 c9 (n / d) 1 w8 (by have := HLQ.out; omega) (by decide) (by decide) Q8.out S8.out)
    go_wp2_with fail
    refine FL.out.mono ?_
    rintro e w9 ⟨v, b, ⟨rfl, b9⟩, h1, h2⟩
    have HV := Lib.hid (And.intro h1 h2)
    have B9 := Lib.hid (chain0 B8.out b9)
    clear h1 h2 b9
    go_wp2_with fail
    go_ret2
    have hv := HV.out
    rw [Nat.div_one, ← HCE.out] at hv
    exact ⟨_, _, ⟨rfl, B9.out⟩, hv⟩
  · have HCE : Hid (ceilN n d = n / d + 1) := by show _ = _; unfold ceilN; rw [if_neg hr]
    have hl0 := digs_pos_len hr
    have g1 : decide ((0 : Int) < ((digs (n % d)).length : Int)) = true := decide_eq_true (by omega)
    have g2 : decide (0 < (digs (n % d)).length) = true := decide_eq_true (by omega)
    clear hr hl0
    go_wp2_with fail
    refine (CF.out _).mono ?_
    rintro e w3 ⟨v3, rfl, s3, b3⟩
    have B3 := Lib.hid (chain0 B2.out b3)
    have K3 := Lib.hid (K2.out.below' b3)
    have CA := radd_any (digs (n / d)) (digs 1) _ _ w3 (by have := HLQ.out; omega) (by decide) (Dg.digs _) (Dg.digs _) (Q2.out.keep b3) s3
    rw [nat_digs, nat_digs] at CA
    have CA := Lib.hid CA
    obtain ⟨A6, c6, rfl, _⟩ := ns_cases s3
    clear s3 b3 k2
    go_wp2_with fail
    refine CA.out.mono ?_
    rintro e w4 ⟨v4, rfl, s4, b4⟩
    have B4 := Lib.hid (chain0 B3.out b4)
    have k4 := (K3.out.below' b4).c3
    have HL4 := Lib.hid (digs_add_len (x := n / d) (y := 1) (m := 4000) HLQ.out (by decide))
    have Q4 := Lib.hid s4
    obtain ⟨A7, c7, rfl, _⟩ := ns_cases s4
    clear s4 b4
    go_wp2_with fail
    refine (CF.out _).mono ?_
    rintro e w8 ⟨v8, rfl, s8, b8⟩
    have B8 := Lib.hid (chain0 B4.out b8)
    have Q8 := Lib.hid (Q4.out.keep b8)
    have S8 := Lib.hid s8
    obtain ⟨A9, c9, rfl, _⟩ := ns_cases s8
    clear s8 b8
    have FL := Lib.hid (rfloor_pos A7 A9 c7 c9 (n / d + 1) 1 w8 (by have := HL4.out; omega) (by decide) (by decide) Q8.out S8.out)
    go_wp2_with fail
    refine FL.out.mono ?_
    rintro e w9 ⟨v, b, ⟨rfl, b9⟩, h1, h2⟩
    have HV := Lib.hid (And.intro h1 h2)
    have B9 := Lib.hid (chain0 B8.out b9)
    clear h1 h2 b9
    go_wp2_with fail
    go_ret2
    have hv := HV.out
    rw [Nat.div_one, ← HCE.out] at hv
    exact ⟨_, _, ⟨rfl, B9.out⟩, hv⟩
set_option maxHeartbeats 2000000 in
theorem rceil_neg (A1 A2 : Option Addr) (c1 c2 n d : Nat) (w : World) (hln : (digs n).length ≤ 4000) (hld : (digs d).length ≤ 4000) (hd0 : d ≠ 0) (hn : NS w (.slice A1 (digs n).length c1) (digs n)) (hd : NS w (.slice A2 (digs d).length c2) (digs d)) : Calls Tryd.prog 56 #[.agg #[.bool true, .slice A1 (digs n).length c1, .slice A2 (digs d).length c2]] w (SomePost w) := by
  have CD := Lib.hid (fun w' (b : Below w.heap.size w w') => rdiv_any (digs n) (digs d) _ _ w' (by omega) (by omega) (Dg.digs _) (Dg.digs _) (by rw [nat_digs]; exact hd0) (hn.keep b) (hd.keep b))
  have CD : Hid (∀ w', Below w.heap.size w w' → Calls Tryd.prog 73 #[.slice A1 (digs n).length c1, .slice A2 (digs d).length c2] w' (DivPost n d w')) := fun w' b => by
    have := CD.out w' b
    rw [nat_digs, nat_digs] at this
    exact this
  unfold DivPost at CD
  have HLQ : Hid ((digs (n / d)).length ≤ 4000) := Nat.le_trans (digs_len_mono (Nat.div_le_self n d)) hln
  have CF := Lib.hid (fun w => fromUint_any 1 w (by decide))
  have K0 : Hid (Blk (w.alloc (.cells #[.bool true, .slice A1 (digs n).length c1, .slice A2 (digs d).length c2] 38)) w.heap.size 38 #[.bool true, .slice A1 (digs n).length c1, .slice A2 (digs d).length c2]) := Blk.new w _ _
  have B0 : Hid (Below w.heap.size w (w.alloc (.cells #[.bool true, .slice A1 (digs n).length c1, .slice A2 (digs d).length c2] 38))) := below_new w _
  clear hn hd hln hld hd0
  go_enter Tryd.func56, Tryd.ntmps56
  go_upto_region 1 with fail
  generalize w.alloc (.cells #[.bool true, .slice A1 (digs n).length c1, .slice A2 (digs d).length c2] 38) = w1 at *
  have k1 := K0.out.c3
  go_wp2_with fail
  refine (CD.out _ B0.out).mono ?_
  rintro e w2 ⟨vq, vr, rfl, s1, s2, b2⟩
  have B2 := Lib.hid (chain0 B0.out b2)
  have K2 := Lib.hid (K0.out.below' b2)
  have k2 := K2.out.c3
  have Q2 := Lib.hid s1
  obtain ⟨A4, c4, rfl, _⟩ := ns_cases s1
  obtain ⟨A5, c5, rfl, _⟩ := ns_cases s2
  clear s1 s2 b2 k1
  obtain ⟨g, hg⟩ : ∃ g : Bool, g = decide ((0 : Int) < ((digs (n / d)).length : Int)) := ⟨_, rfl⟩
  have g1 : decide ((0 : Int) < ((digs (n / d)).length : Int)) = g := hg.symm
  have g2 : decide (0 < (digs (n / d)).length) = g := by rw [hg, decide_eq_decide]; omega
  clear hg
  go_wp2_with fail
  refine (CF.out _).mono ?_
  rintro e w8 ⟨v8, rfl, s8, b8⟩
  have B8 := Lib.hid (chain0 B2.out b8)
  have Q8 := Lib.hid (Q2.out.keep b8)
  have S8 := Lib.hid s8
  obtain ⟨A9, c9, rfl, _⟩ := ns_cases s8
  clear s8 b8
  have FL := Lib.hid (rfloor_some g A4 A9 c4 c9 (n / d) 1 w8 (by have := HLQ.out; omega) (by decide) (by decide) Q8.out S8.out)
  go_wp2_with fail
  refine FL.out.mono ?_
  rintro e w9 ⟨v, b, rfl, b9⟩
  have B9 := Lib.hid (chain0 B8.out b9)
  clear b9
  go_wp2_with fail
  go_ret2
  exact ⟨_, _, rfl, B9.out⟩
set_option maxHeartbeats 1000000 in
theorem rup_pos (A1 A2 : Option Addr) (c1 c2 n d : Nat) (w : World) (hln : (digs n).length ≤ 4000) (hld : (digs d).length ≤ 4000) (hd0 : d ≠ 0) (hn : NS w (.slice A1 (digs n).length c1) (digs n)) (hd : NS w (.slice A2 (digs d).length c2) (digs d)) : Calls Tryd.prog 26 #[.agg #[.bool false, .slice A1 (digs n).length c1, .slice A2 (digs d).length c2]] w (UpPost false n d w) := by
  have CC := Lib.hid (fun w' (b : Below w.heap.size w w') => rceil_pos A1 A2 c1 c2 n d w' hln hld hd0 (hn.keep b) (hd.keep b))
  have CS := Lib.hid (fun w' => rsign_any false A1 c1 (digs n).length (.slice A2 (digs d).length c2) w')
  have K0 : Hid (Blk (w.alloc (.cells #[.bool false, .slice A1 (digs n).length c1, .slice A2 (digs d).length c2] 38)) w.heap.size 38 #[.bool false, .slice A1 (digs n).length c1, .slice A2 (digs d).length c2]) := Blk.new w _ _
  have B0 : Hid (Below w.heap.size w (w.alloc (.cells #[.bool false, .slice A1 (digs n).length c1, .slice A2 (digs d).length c2] 38))) := below_new w _
  clear hn hd hd0 hln hld
  go_enter Tryd.func26, Tryd.ntmps26
  go_upto_region 1 with fail
  generalize w.alloc (.cells #[.bool false, .slice A1 (digs n).length c1, .slice A2 (digs d).length c2] 38) = w1 at *
  have k1 := K0.out.c3
  go_wp2_with fail
  refine (CC.out _ B0.out).mono ?_
  rintro e w2 ⟨v, b, ⟨rfl, b2⟩, h1, h2⟩
  have B2 := Lib.hid (chain0 B0.out b2)
  have k2 := (K0.out.below' b2).c3
  clear b2 k1
  by_cases hbig : 9223372036854775808 ≤ ceilN n d
  · obtain ⟨rfl, rfl⟩ := h2 hbig
    have HE : Hid (∀ w', Below w.heap.size w w' → UpPost false n d w (.returned (.tuple #[.int .i64 0, .int .i64 4])) w') := fun w' b => ⟨by rw [if_neg (by omega)], b⟩
    clear h1 h2 hbig
    go_wp2_with fail
    refine (CS.out _).mono ?_
    rintro e w3 ⟨rfl, b3⟩
    have B3 := Lib.hid (chain0 B2.out b3)
    have hd1 : decide (signI false (digs n).length < 0) = false := decide_eq_false (by have := sign_ge (digs n).length; omega)
    clear b3
    generalize signI false (digs n).length = sg at *
    go_wp2_with fail
    go_ret2
    exact HE.out _ B3.out
  · obtain ⟨rfl, rfl⟩ := h1 (by omega)
    by_cases hok : ceilN n d ≤ 1000000
    · have HE : Hid (∀ w', Below w.heap.size w w' → UpPost false n d w (.returned (.tuple #[.int .i64 ((ceilN n d : Nat) : Int), .int .i64 0])) w') := fun w' b => ⟨by rw [if_pos ⟨rfl, hok⟩], b⟩
      have t1 : decide ((1000000 : Int) < ((ceilN n d : Nat) : Int)) = false := decide_eq_false (by omega)
      clear h1 h2 hbig hok
      generalize ceilN n d = c at *
      go_wp2_with fail
      refine (CS.out _).mono ?_
      rintro e w3 ⟨rfl, b3⟩
      have B3 := Lib.hid (chain0 B2.out b3)
      have hd1 : decide (signI false (digs n).length < 0) = false := decide_eq_false (by have := sign_ge (digs n).length; omega)
      clear b3
      generalize signI false (digs n).length = sg at *
      go_wp2_with fail
      go_ret2
      exact HE.out _ B3.out
    · have HE : Hid (∀ w', Below w.heap.size w w' → UpPost false n d w (.returned (.tuple #[.int .i64 0, .int .i64 4])) w') := fun w' b => ⟨by rw [if_neg (by omega)], b⟩
      have t1 : decide ((1000000 : Int) < ((ceilN n d : Nat) : Int)) = true := decide_eq_true (by omega)
      clear h1 h2 hbig hok
      generalize ceilN n d = c at *
      go_wp2_with fail
      refine (CS.out _).mono ?_
      rintro e w3 ⟨rfl, b3⟩
      have B3 := Lib.hid (chain0 B2.out b3)
      have hd1 : decide (signI false (digs n).length < 0) = false := decide_eq_false (by have := sign_ge (digs n).length; omega)
      clear b3
      generalize signI false (digs n).length = sg at *
      go_wp2_with fail
      go_ret2
      exact HE.out _ B3.out
set_option maxHeartbeats 1000000 in
theorem rup_neg (A1 A2 : Option Addr) (c1 c2 n d : Nat) (w : World) (hln : (digs n).length ≤ 4000) (hld : (digs d).length ≤ 4000) (hd0 : d ≠ 0) (hn0 : n ≠ 0) (hn : NS w (.slice A1 (digs n).length c1) (digs n)) (hd : NS w (.slice A2 (digs d).length c2) (digs d)) : Calls Tryd.prog 26 #[.agg #[.bool true, .slice A1 (digs n).length c1, .slice A2 (digs d).length c2]] w (UpPost true n d w) := by
  have CC := Lib.hid (fun w' (b : Below w.heap.size w w') => rceil_neg A1 A2 c1 c2 n d w' hln hld hd0 (hn.keep b) (hd.keep b))
  have CS := Lib.hid (fun w' => rsign_any true A1 c1 (digs n).length (.slice A2 (digs d).length c2) w')
  have K0 : Hid (Blk (w.alloc (.cells #[.bool true, .slice A1 (digs n).length c1, .slice A2 (digs d).length c2] 38)) w.heap.size 38 #[.bool true, .slice A1 (digs n).length c1, .slice A2 (digs d).length c2]) := Blk.new w _ _
  have B0 : Hid (Below w.heap.size w (w.alloc (.cells #[.bool true, .slice A1 (digs n).length c1, .slice A2 (digs d).length c2] 38))) := below_new w _
  have HE : Hid (∀ w', Below w.heap.size w w' → UpPost true n d w (.returned (.tuple #[.int .i64 0, .int .i64 4])) w') := fun w' b => ⟨by rw [if_neg (by simp)], b⟩
  clear hn hd hd0 hln hld hn0
  go_enter Tryd.func26, Tryd.ntmps26
  go_upto_region 1 with fail
  generalize w.alloc (.cells #[.bool true, .slice A1 (digs n).length c1, .slice A2 (digs d).length c2] 38) = w1 at *
  have k1 := K0.out.c3
  go_wp2_with fail
  refine (CC.out _ B0.out).mono ?_
  rintro e w2 ⟨v, b, rfl, b2⟩
  have B2 := Lib.hid (chain0 B0.out b2)
  have k2 := (K0.out.below' b2).c3
  clear b2 k1
  go_wp2_with fail
  refine (CS.out _).mono ?_
  rintro e w3 ⟨rfl, b3⟩
  have B3 := Lib.hid (chain0 B2.out b3)
  have hd1 : decide (signI true (digs n).length < 0) = true := decide_eq_true (by unfold signI; simp)
  clear b3
  generalize signI true (digs n).length = sg at *
  go_wp2_with fail
  go_ret2
  exact HE.out _ B3.out
end Fr
end Go.Proofs.YtfopmaeaclbknaaDoor
namespace Go.Proofs.YtfopmaeaclbknaaDoor
open Go.ChangeShapes Go.WideShapes Go.ChangeAt Go.RowKit
set_option linter.unusedVariables false
set_option linter.unusedSimpArgs false
namespace Fr
theorem frac_put {w w2 : World} {g : Nat} {b0 sg : Bool} {B1 B2 A1 A2 : Option Addr} {m1 k1 m2 k2 c1 c2 n d : Nat} (K : Blk w2 g 38 #[.bool b0, .slice B1 m1 k1, .slice B2 m2 k2]) (hg : w.heap.size ≤ g) (S1 : NS w2 (.slice A1 (digs n).length c1) (digs n)) (S2 : NS w2 (.slice A2 (digs d).length c2) (digs d)) (B : Below w.heap.size w w2) :
    Blk (((w2.setCell ⟨g, 0, none⟩ (.bool sg)).setCell ⟨g, 1, none⟩ (.slice A1 (digs n).length c1)).setCell ⟨g, 2, none⟩ (.slice A2 (digs d).length c2)) g 38 #[.bool sg, .slice A1 (digs n).length c1, .slice A2 (digs d).length c2] ∧
    FracIs (((w2.setCell ⟨g, 0, none⟩ (.bool sg)).setCell ⟨g, 1, none⟩ (.slice A1 (digs n).length c1)).setCell ⟨g, 2, none⟩ (.slice A2 (digs d).length c2)) (.agg #[.bool sg, .slice A1 (digs n).length c1, .slice A2 (digs d).length c2]) sg n d ∧
    Below w.heap.size w (((w2.setCell ⟨g, 0, none⟩ (.bool sg)).setCell ⟨g, 1, none⟩ (.slice A1 (digs n).length c1)).setCell ⟨g, 2, none⟩ (.slice A2 (digs d).length c2)) := by
  have OE : OnlyG g w2 _ := (((OnlyG.refl g w2).put 0 (.bool sg)).put 1 (.slice A1 (digs n).length c1)).put 2 (.slice A2 (digs d).length c2)
  exact ⟨((K.put 0 (.bool sg)).put 1 (.slice A1 (digs n).length c1)).put 2 (.slice A2 (digs d).length c2), ⟨_, _, _, _, rfl, ns_other K (frac_free _ _ _ _ _ _ _) S1 OE, ns_other K (frac_free _ _ _ _ _ _ _) S2 OE⟩, OE.below B hg⟩
theorem fromInt_is (x : Int) : ((decide (x < 0) != decide ((1 : Int) < 0)) && decide (x.natAbs ≠ 0)) = decide (x < 0) ∧ x.natAbs / Nat.gcd x.natAbs (1 : Int).natAbs = x.natAbs ∧ (1 : Int).natAbs / Nat.gcd x.natAbs (1 : Int).natAbs = 1 := by
  have h1 : Nat.gcd x.natAbs (1 : Int).natAbs = 1 := Nat.gcd_one_right _
  rw [h1, Nat.div_one]
  refine ⟨?_, rfl, rfl⟩
  by_cases h : x < 0
  · have h2 : x.natAbs ≠ 0 := by omega
    simp [h, h2]
  · simp [h]
set_option maxHeartbeats 1000000 in
theorem fromInt_any (x : Int) (w : World) (hx1 : -9223372036854775808 ≤ x) (hx2 : x < 9223372036854775808) : Calls Tryd.prog 28 #[.int .i64 x] w (FracPost (decide (x < 0)) x.natAbs 1 w) := by
  have CN := fun w => rnew_any x 1 w hx1 hx2 (by decide) (by decide) (by decide)
  obtain ⟨e1, e2, e3⟩ := fromInt_is x
  rw [e1, e2, e3] at CN
  have CN := Lib.hid CN
  generalize decide (x < 0) = sg at *
  generalize x.natAbs = n at *
  clear e1 e2 e3 hx1 hx2
  have K0 : Hid (Blk (w.alloc (.cells #[.bool false, .slice none 0 0, .slice none 0 0] 38)) w.heap.size 38 #[.bool false, .slice none 0 0, .slice none 0 0]) := Blk.new w _ _
  have B0 : Hid (Below w.heap.size w (w.alloc (.cells #[.bool false, .slice none 0 0, .slice none 0 0] 38))) := below_new w _
  go_enter Tryd.func28, Tryd.ntmps28
  go_wp2_with fail
  generalize w.alloc (.cells #[.bool false, .slice none 0 0, .slice none 0 0] 38) = w1 at *
  refine (CN.out _).mono ?_
  rintro e w2 ⟨v, rfl, ⟨A1, c1, A2, c2, rfl, s1, s2⟩, b2⟩
  have B2 := Lib.hid (chain0 B0.out b2)
  have K2 := Lib.hid (K0.out.below' b2)
  have S1 := Lib.hid s1
  have S2 := Lib.hid s2
  have k2 := K2.out.c3
  have kl := K2.out.lt
  clear s1 s2 b2
  go_wp2_with fail
  obtain ⟨KE, FE, BE⟩ := frac_put (sg := sg) K2.out (Nat.le_refl _) S1.out S2.out B2.out
  exact bodyPost_ret (v := .agg #[.bool sg, .slice A1 (digs n).length c1, .slice A2 (digs 1).length c2]) (results_blk rfl rfl (KE.alloc _) Tryd.underlying38 rfl (by kernel_rfl)) rfl ⟨_, rfl, FE.keep (below_new _ _), BE.alloc BE.size _⟩
theorem two_new (w : World) (a b : Array Value) (t1 t2 : TypeId) : Blk ((w.alloc (.cells a t1)).alloc (.cells b t2)) w.heap.size t1 a ∧ Blk ((w.alloc (.cells a t1)).alloc (.cells b t2)) (w.heap.size + 1) t2 b ∧ Below w.heap.size w ((w.alloc (.cells a t1)).alloc (.cells b t2)) := by
  have e1 : (w.alloc (.cells a t1)).heap.size = w.heap.size + 1 := by simp
  refine ⟨(Blk.new w t1 a).alloc _, ?_, ?_⟩
  · have := Blk.new (w.alloc (.cells a t1)) t2 b
    rwa [e1] at this
  · exact ((Below.refl _ _).alloc (Nat.le_refl _) _).alloc (by omega) _
set_option maxHeartbeats 1000000 in
theorem rneg_any (s : Bool) (A1 A2 : Option Addr) (c1 c2 n d : Nat) (w : World) (hn : NS w (.slice A1 (digs n).length c1) (digs n)) (hd : NS w (.slice A2 (digs d).length c2) (digs d)) : Calls Tryd.prog 80 #[.agg #[.bool s, .slice A1 (digs n).length c1, .slice A2 (digs d).length c2]] w (FracPost (!s && decide (n ≠ 0)) n d w) := by
  obtain ⟨g, hg⟩ : ∃ g : Bool, g = decide (n ≠ 0) := ⟨_, rfl⟩
  have q2 : decide ((0 : Int) < ((digs n).length : Int)) = g := by
    rw [hg, decide_eq_decide]
    constructor
    · rintro h rfl
      simp [digs_zero] at h
    · intro h
      have := digs_pos_len h
      omega
  have q3 : decide (0 < (digs n).length) = g := by rw [← q2, decide_eq_decide]; omega
  rw [← hg]
  have hP : Hid (Blk ((w.alloc (.cells #[.bool s, .slice A1 (digs n).length c1, .slice A2 (digs d).length c2] 38)).alloc (.cells #[.bool false, .slice none 0 0, .slice none 0 0] 38)) w.heap.size 38 #[.bool s, .slice A1 (digs n).length c1, .slice A2 (digs d).length c2] ∧ Blk ((w.alloc (.cells #[.bool s, .slice A1 (digs n).length c1, .slice A2 (digs d).length c2] 38)).alloc (.cells #[.bool false, .slice none 0 0, .slice none 0 0] 38)) (w.heap.size + 1) 38 #[.bool false, .slice none 0 0, .slice none 0 0] ∧ Below w.heap.size w ((w.alloc (.cells #[.bool s, .slice A1 (digs n).length c1, .slice A2 (digs d).length c2] 38)).alloc (.cells #[.bool false, .slice none 0 0, .slice none 0 0] 38))) := two_new w _ _ _ _
  have S1 := Lib.hid (hn.keep hP.out.2.2)
  have S2 := Lib.hid (hd.keep hP.out.2.2)
  clear hn hd hg
  go_enter Tryd.func80, Tryd.ntmps80
  go_upto_region 1 with fail
  generalize ((w.alloc (.cells #[.bool s, .slice A1 (digs n).length c1, .slice A2 (digs d).length c2] 38)).alloc (.cells #[.bool false, .slice none 0 0, .slice none 0 0] 38)) = w1 at *
  have k0 := hP.out.1.c3
  have k1 := hP.out.2.1.c3
  cases s
  · go_wp2_with fail
    obtain ⟨KE, FE, BE⟩ := frac_put (sg := g) hP.out.2.1 (Nat.le_succ _) S1.out S2.out hP.out.2.2
    exact bodyPost_ret (v := .agg #[.bool g, .slice A1 (digs n).length c1, .slice A2 (digs d).length c2]) (results_blk rfl rfl KE Tryd.underlying38 rfl (by kernel_rfl)) rfl ⟨_, rfl, FE, BE⟩
  · go_wp2_with fail
    obtain ⟨KE, FE, BE⟩ := frac_put (sg := false) hP.out.2.1 (Nat.le_succ _) S1.out S2.out hP.out.2.2
    exact bodyPost_ret (v := .agg #[.bool false, .slice A1 (digs n).length c1, .slice A2 (digs d).length c2]) (results_blk rfl rfl KE Tryd.underlying38 rfl (by kernel_rfl)) rfl ⟨_, rfl, FE, BE⟩
end Fr
end Go.Proofs.YtfopmaeaclbknaaDoor
