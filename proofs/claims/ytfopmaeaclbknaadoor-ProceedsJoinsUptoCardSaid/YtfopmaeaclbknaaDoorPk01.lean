/- Numbers in memory; contracts of the reference's digit, trim and FromUint. Printed by gen_nat1.py. Plain: sums of digits by places; what the digit loops compute. Rows of digits that a call makes, plain and in memory. Plain: products by digits. Rows of digits of the call's own that are filled place by place. -/
import Derived.Test.YtfopmaeaclbknaaDoorPk00
import Derived.Test.YtfopmaeaclbknaaDoorProg
import Derived.IntWalk
namespace Go.Proofs.YtfopmaeaclbknaaDoor
open Go.ChangeShapes Go.WideShapes Go.ChangeAt Go.RowKit
namespace Fr
def u32s (l : List Nat) : List Value := l.map fun (d : Nat) => Value.int .u32 (d : Int)
theorem u32s_len (l : List Nat) : (u32s l).length = l.length := by simp [u32s]
theorem u32s_append (l k : List Nat) : u32s (l ++ k) = u32s l ++ u32s k := by simp [u32s]
theorem u32s_one (l : List Nat) : ∀ u ∈ u32s l, u.oneCell' = true := by
  intro u hu
  simp only [u32s, List.mem_map] at hu
  obtain ⟨d, _, rfl⟩ := hu
  rfl
/-- a digit, 0 behind the last -/
def dg (l : List Nat) (i : Nat) : Nat := l.getD i 0
theorem dg_in {l : List Nat} {i : Nat} (h : i < l.length) : dg l i = l[i] := by simp [dg, List.getD, h]
theorem dg_out {l : List Nat} {i : Nat} (h : l.length ≤ i) : dg l i = 0 := by simp [dg, List.getD, h]
theorem dg_lt {l : List Nat} (h : Dg l) (i : Nat) : dg l i < B := by
  by_cases hi : i < l.length
  · rw [dg_in hi]
    exact h.at_ i hi
  · rw [dg_out (by omega)]
    exact B_pos
theorem take_dg {l : List Nat} {k : Nat} (hk : k < l.length) : l.take (k + 1) = l.take k ++ [dg l k] := by rw [List.take_succ_eq_append_getElem hk, dg_in hk]
theorem u32_bd {x : Nat} (h : x < B) : (0 : Int) ≤ (x : Int) ∧ (x : Int) < 4294967296 := by unfold B at h; omega
theorem u64w {x : Nat} (h : x < B) : IntKind.u64.wrap ((x : Nat) : Int) = ((x : Nat) : Int) := IntWalk.u64_in _ (by unfold B at h; omega)
/-- a number in memory: a slice that reads as its digits -/
abbrev NS (w : World) (v : Value) (l : List Nat) : Prop := Sl w 1 v l.length (u32s l)
theorem ns_cases {w : World} {v : Value} {l : List Nat} (h : NS w v l) : ∃ A c, v = .slice A l.length c ∧ l.length ≤ c ∧ c ≤ maxLen ∧ (0 < l.length → ∃ b o, A = some ⟨b, o, none⟩ ∧ b < w.heap.size ∧ ∀ i, i < l.length → w.cell? ⟨b, o + i, none⟩ = some (.int .u32 ((dg l i : Nat) : Int))) := by
  obtain ⟨_, A, c, h1, h2, h3, h4⟩ := h
  refine ⟨A, c, h1, h2, h3, fun hn => ?_⟩
  obtain ⟨b, o, e1, e2, e3⟩ := h4 hn
  exact ⟨b, o, e1, e2, fun i hi => e3 i _ (by simp [u32s, hi, dg_in])⟩
theorem ns_mk {w : World} {l : List Nat} {b o c : Nat} (hb : b < w.heap.size) (h1 : l.length ≤ c) (h2 : c ≤ maxLen) (h : ∀ i, i < l.length → w.cell? ⟨b, o + i, none⟩ = some (.int .u32 ((dg l i : Nat) : Int))) : NS w (.slice (some ⟨b, o, none⟩) l.length c) l := by
  refine ⟨by simp [u32s_len], _, _, rfl, h1, h2, fun _ => ⟨b, o, rfl, hb, fun j u hu => ?_⟩⟩
  obtain ⟨hj, rfl⟩ := List.getElem?_eq_some_iff.1 hu
  have hj' : j < l.length := by simpa [u32s_len] using hj
  rw [h j hj', dg_in hj']
  simp [u32s]
/-- the front of a number -/
theorem ns_take {w : World} {A : Option Addr} {l : List Nat} {n c : Nat} (h : NS w (.slice A l.length c) l) (hn : n ≤ l.length) {c' : Nat} (h1 : n ≤ c') (h2 : c' ≤ maxLen) : Sl w 1 (.slice A n c') n (u32s (l.take n)) := by
  obtain ⟨_, A', c0, e, h3, h4, h5⟩ := h
  injection e with e1 _ e2
  subst e1 e2
  have hl : (l.take n).length = n := by simp; omega
  refine ⟨by rw [u32s_len, Nat.mul_one, hl], A, c', rfl, h1, h2, fun hp => ?_⟩
  obtain ⟨b, o, e1, e2, e3⟩ := h5 (by omega)
  refine ⟨b, o, e1, e2, fun j u hu => e3 j u ?_⟩
  have : u32s l = u32s (l.take n) ++ u32s (l.drop n) := by rw [← u32s_append, List.take_append_drop]
  rw [this, List.getElem?_append_left (List.getElem?_eq_some_iff.1 hu).1]
  exact hu
/-- what a function that makes a number answers -/
def NatPost (n : Nat) (w : World) (e : Ending) (w' : World) : Prop := ∃ v, e = .returned v ∧ NS w' v (digs n) ∧ Below w.heap.size w w'
theorem digit_any (l : List Nat) (v : Value) (i : Nat) (w : World) (hl : l.length ≤ 100000) (hi0 : i ≤ 100000) (hd : Dg l) (h : NS w v l) : Calls Tryd.prog 106 #[v, .int .i64 (i : Int)] w fun e w' => e = .returned (.int .u64 ((dg l i : Nat) : Int)) ∧ w = w' := by
  obtain ⟨A, c, rfl, _, _, ha⟩ := ns_cases h
  by_cases hi : i < l.length
  · have hdec : decide ((i : Int) < (l.length : Int)) = true := by simp; omega
    obtain ⟨b, o, rfl, _, hc⟩ := ha (by omega)
    have hc := hc i hi
    have ww := u64w (dg_lt hd i)
    have hi1 : (0 : Int) ≤ (i : Int) := by omega
    have hi2 : (i : Int) < (l.length : Int) := by omega
    clear ha h hd
    go_enter Tryd.func106, Tryd.ntmps106
    go_wp2_with fail
    go_ret
    exact ⟨rfl, rfl⟩
  · have hdec : decide ((i : Int) < (l.length : Int)) = false := by simp; omega
    have E := Lib.hid (dg_out (show l.length ≤ i by omega))
    clear ha h hd
    go_enter Tryd.func106, Tryd.ntmps106
    go_wp2_with fail
    go_ret
    exact ⟨by rw [E.out]; rfl, rfl⟩
theorem u32_info : (Tryd.prog.info? 92).map (fun i => (i.zero, i.size, i.bytes)) = some (some (.int .u32 0), 1, 4) := by kernel_rfl
theorem own_form {w : World} {base : Nat} {e : TypeId} {size n : Nat} {v : Value} {xs : List Value} (h : w.ownsRow base e size v n xs) : ∃ A c, v = .slice A n c := by
  rcases h.2 with ⟨rfl, rfl⟩ | ⟨g, cap, cur, rfl, _⟩
  · exact ⟨none, 0, rfl⟩
  · exact ⟨_, cap, rfl⟩
theorem grown_below {w w' : World} {B : Nat} {row : Option Nat} (hb : w.grownBy w' row) (hr : ∀ g, row = some g → B ≤ g) (hB : B ≤ w.heap.size) : Below B w w' :=
  ⟨hb.os, hb.tape, hb.output, hb.size, fun k hk => hb.block k (by omega) (fun e => by have := hr k e.symm; omega)⟩
/-- a slice without its last, a zero -/
theorem nat_take_zero {l : List Nat} {k : Nat} (hk : k < l.length) (h0 : dg l k = 0) : nat (l.take (k + 1)) = nat (l.take k) := by
  rw [take_dg hk, nat_append, h0]
  simp [nat]
theorem take_digs {l : List Nat} {k : Nat} (hd : Dg l) (h : nat (l.take k) = nat l) (hl : k = 0 ∨ ∃ j, j < l.length ∧ k = j + 1 ∧ dg l j ≠ 0) : l.take k = digs (nat l) := by
  rw [← h]
  refine (digs_of (hd.take k) ?_).symm
  rcases hl with rfl | ⟨j, hj, rfl, hn⟩
  · simp
  · rw [take_dg hj, List.getLastD_concat]
    exact hn
set_option maxHeartbeats 1000000 in
theorem trim_any (l : List Nat) (v : Value) (w : World) (hl : l.length ≤ 100000) (hd : Dg l) (h : NS w v l) : Calls Tryd.prog 74 #[v] w (NatPost (nat l) w) := by
  obtain ⟨i0, hi0, hz0, hz1, hz2⟩ := info_parts u32_info
  obtain ⟨A, c, rfl, hlc, hcm, ha⟩ := ns_cases h
  have HS := Lib.hid h
  have HD := Lib.hid hd
  have HC := Lib.hid ha
  have HM := Lib.hid hcm
  clear h hd ha
  unfold maxLen at hcm
  go_enter Tryd.func74, Tryd.ntmps74
  go_wp2_with fail
  go_loop [0] (fun v => ∃ k : Nat, k ≤ l.length ∧ v = .slice A k c ∧ Hid (nat (l.take k) = nat l)) (fun v => match v with | .slice _ n _ => n | _ => 0)
  case atStart => exact ⟨l.length, Nat.le_refl _, rfl, by show nat _ = _; rw [List.take_length]⟩
  case round =>
    obtain ⟨k, hk, rfl, HN⟩ := hrel
    cases k with
    | zero =>
      have HT : Hid (l.take 0 = digs (nat l)) := take_digs HD.out HN.out (.inl rfl)
      have HT1 := Lib.hid (ns_take HS.out hk (c' := c) (by omega) HM.out)
      have hlk : (l.take (0)).length = 0 := by rw [List.length_take]; omega
      go_wp2_with (at_builtin; refine wpList_append_sl _ rfl (.tmp 20) (.tmp 21) _ rfl w.heap.size 92 i0 _ 1 4 Tryd.underlying36 hi0 hz0 hz1 hz2 rfl (by decide) (.slice (some ⟨w.heap.size, 0, none⟩) 0 0) 0 [] rfl (World.ownsRow_made w #[] 0 (Nat.le_refl _) (by unfold maxLen; omega) rfl) _ (0) (u32s (l.take (0))) rfl (HT1.out.keep (below_new _ _)) (u32s_one _) (by unfold maxLen; omega) (by omega) (by simp) ?_)
      intro v' w1 hown hgr
      obtain ⟨A5, c5, rfl⟩ := own_form hown
      have HO := Lib.hid (Sl.of_own hown)
      have HB := Lib.hid ((below_new w (.cells #[] 92)).grown hgr (by simp) (fun q hq => by simp [Value.ownBlock] at hq; omega))
      clear hown hgr
      go_wp2_with fail
      go_ret
      refine ⟨_, rfl, ?_, HB.out⟩
      have := HO.out
      try simp only [Nat.zero_add, List.nil_append] at this
      rw [← HT.out]
      show Sl _ _ _ (l.take (0)).length _
      rw [hlk]
      exact this
    | succ j =>
      obtain ⟨b, o, rfl, hb, hc⟩ := HC.out (by omega)
      have hck := hc j (by omega)
      clear hc
      have hp0 : decide ((0 : Int) < ((j + 1 : Nat) : Int)) = true := by simp
      have hp1 : decide ((0 : Int) < (j : Int) + 1) = true := decide_eq_true (by omega)
      have hj0 : (0 : Int) ≤ (j : Int) := by omega
      by_cases hz : dg l j = 0
      · have HN2 : Hid (nat (l.take j) = nat l) := (nat_take_zero (by omega) hz).symm.trans HN.out
        rw [hz] at hck
        clear hz
        go_wp2_with fail
        go_round
        case rel => exact ⟨j, by omega, rfl, HN2⟩
        case measure => simp
      · have HT : Hid (l.take (j + 1) = digs (nat l)) := take_digs HD.out HN.out (.inr ⟨j, by omega, rfl, hz⟩)
        have qz : (((dg l j : Nat) : Int) == 0) = false := beq_eq_false_iff_ne.2 (by omega)
        clear hz
        have HT1 := Lib.hid (ns_take HS.out hk (c' := c) (by omega) HM.out)
        have hlk : (l.take (j + 1)).length = j + 1 := by rw [List.length_take]; omega
        go_wp2_with (at_builtin; refine wpList_append_sl _ rfl (.tmp 20) (.tmp 21) _ rfl w.heap.size 92 i0 _ 1 4 Tryd.underlying36 hi0 hz0 hz1 hz2 rfl (by decide) (.slice (some ⟨w.heap.size, 0, none⟩) 0 0) 0 [] rfl (World.ownsRow_made w #[] 0 (Nat.le_refl _) (by unfold maxLen; omega) rfl) _ (j + 1) (u32s (l.take (j + 1))) rfl (HT1.out.keep (below_new _ _)) (u32s_one _) (by unfold maxLen; omega) (by omega) (by simp) ?_)
        intro v' w1 hown hgr
        obtain ⟨A5, c5, rfl⟩ := own_form hown
        have HO := Lib.hid (Sl.of_own hown)
        have HB := Lib.hid ((below_new w (.cells #[] 92)).grown hgr (by simp) (fun q hq => by simp [Value.ownBlock] at hq; omega))
        clear hown hgr
        go_wp2_with fail
        go_ret
        refine ⟨_, rfl, ?_, HB.out⟩
        have := HO.out
        try simp only [Nat.zero_add, List.nil_append] at this
        rw [← HT.out]
        show Sl _ _ _ (l.take (j + 1)).length _
        rw [hlk]
        exact this
/-- two digits -/
theorem nat_two (x : Nat) (hx : x < B * B) : nat [x % B, x / B] = x ∧ Dg [x % B, x / B] := by
  refine ⟨?_, Dg.cons (Nat.mod_lt _ B_pos) (Dg.cons (Nat.div_lt_of_lt_mul hx) Dg.nil)⟩
  simp only [nat, Nat.mul_zero, Nat.add_zero]
  exact Nat.mod_add_div x B
theorem ns_new2 (w : World) (a b : Nat) (t : TypeId) : NS (w.alloc (.cells #[.int .u32 (a : Int), .int .u32 (b : Int)] t)) (.slice (some ⟨w.heap.size, 0, none⟩) 2 2) [a, b] := by
  refine ns_mk (by simp) (Nat.le_refl _) (by unfold maxLen; simp) fun i hi => ?_
  obtain rfl | rfl : i = 0 ∨ i = 1 := by simp at hi; omega
  · exact (Blk.new w t _).cell 0
  · exact (Blk.new w t _).cell 1
theorem BB_eq : B * B = 18446744073709551616 := by decide
set_option maxHeartbeats 1000000 in
theorem fromUint_any (x : Nat) (w : World) (hx : x < B * B) : Calls Tryd.prog 77 #[.int .u64 (x : Int)] w (NatPost x w) := by
  obtain ⟨h1, h2⟩ := nat_two x hx
  obtain ⟨lo, hlo⟩ : ∃ lo, lo = x % B := ⟨_, rfl⟩
  obtain ⟨hi, hhi⟩ : ∃ hi, hi = x / B := ⟨_, rfl⟩
  rw [← hlo, ← hhi] at h1 h2
  have CT := Lib.hid (trim_any [lo, hi] _ _ (by simp) h2 (ns_new2 w lo hi 92))
  rw [h1] at CT
  have b1 : lo < B := by rw [hlo]; exact Nat.mod_lt _ B_pos
  have b2 : hi < B := by rw [hhi]; exact Nat.div_lt_of_lt_mul hx
  have e1 : IntKind.u32.wrap ((x : Int) % 4294967296) = ((lo : Nat) : Int) := by rw [IntWalk.u32_in _ (by omega), hlo]; unfold B; omega
  have e2 : IntKind.u64.wrap ((x : Int) / 4294967296) = ((hi : Nat) : Int) := by
    rw [BB_eq] at hx
    rw [IntWalk.u64_in _ (by omega), hhi]; unfold B; omega
  have e3 : IntKind.u32.wrap ((hi : Nat) : Int) = ((hi : Nat) : Int) := IntWalk.u32_in _ (by unfold B at b2; omega)
  have e4 : ((hi : Nat) : Int) % 4294967296 = ((hi : Nat) : Int) := by unfold B at b2; omega
  have h0 : (0 : Int) ≤ (x : Int) := by omega
  clear h1 h2 hx hlo hhi b1 b2
  go_enter Tryd.func77, Tryd.ntmps77
  go_wp2_with fail
  refine CT.out.mono ?_
  rintro e w1 ⟨v1, rfl, hs, hb⟩
  have HS := Lib.hid hs
  have HB := Lib.hid (chain1 (Below.refl _ _) hb)
  obtain ⟨A, c, rfl, _⟩ := ns_cases hs
  clear hs hb
  go_wp2_with fail
  go_ret
  exact ⟨_, rfl, HS.out, HB.out⟩
end Fr
end Go.Proofs.YtfopmaeaclbknaaDoor
namespace Go.Proofs.YtfopmaeaclbknaaDoor
namespace Fr
/-- the number of the first m digits -/
def val (l : List Nat) : Nat → Nat
  | 0 => 0
  | m + 1 => val l m + dg l m * B ^ m
theorem val_take (l : List Nat) : ∀ m, val l m = nat (l.take m)
  | 0 => by simp [val, nat]
  | m + 1 => by
    unfold val
    rw [val_take l m]
    by_cases h : m < l.length
    · rw [take_dg h, nat_append]
      simp only [nat, Nat.mul_zero, Nat.add_zero, List.length_take, Nat.min_eq_left (Nat.le_of_lt h)]
      rw [Nat.mul_comm]
    · rw [dg_out (by omega), List.take_of_length_le (by omega), List.take_of_length_le (by omega)]
      simp
theorem val_nat {l : List Nat} {m : Nat} (h : l.length ≤ m) : val l m = nat l := by rw [val_take, List.take_of_length_le h]
theorem val_lt {l : List Nat} (hd : Dg l) (m : Nat) : val l m < B ^ m := by
  induction m with
  | zero => simp [val]
  | succ m ih =>
    unfold val
    have h := dg_lt hd m
    have h2 : dg l m * B ^ m + B ^ m ≤ B * B ^ m := by
      rw [← Nat.succ_mul]
      exact Nat.mul_le_mul_right _ h
    rw [Nat.pow_succ, Nat.mul_comm (B ^ m) B]
    omega
theorem val_mod {l : List Nat} (hd : Dg l) (m : Nat) : nat l % B ^ m = val l m := by
  have h : nat l = val l m + B ^ m * nat (l.drop m) := by
    by_cases hm : m ≤ l.length
    · have := nat_append (l.take m) (l.drop m)
      rw [List.take_append_drop, List.length_take, Nat.min_eq_left hm] at this
      rw [val_take]
      exact this
    · rw [val_nat (by omega), List.drop_eq_nil_of_le (by omega)]
      simp [nat]
  rw [h, Nat.add_mul_mod_self_left]
  exact Nat.mod_eq_of_lt (val_lt hd m)
theorem val_of_lt {l : List Nat} (hd : Dg l) {m : Nat} (h : nat l < B ^ m) : val l m = nat l := by
  rw [← val_mod hd m]
  exact Nat.mod_eq_of_lt h
theorem nat_lt_len {l : List Nat} (hd : Dg l) {m : Nat} (h : l.length ≤ m) : nat l < B ^ m :=
  Nat.lt_of_lt_of_le (nat_lt hd) (Nat.pow_le_pow_right B_pos h)
/-- a digit by its place -/
theorem dg_div {l : List Nat} (hd : Dg l) (i : Nat) : dg l i = nat l / B ^ i % B := by
  have h1 := val_mod hd (i + 1)
  unfold val at h1
  have h2 : nat l / B ^ i % B = nat l % B ^ (i + 1) / B ^ i := by
    rw [Nat.pow_succ, Nat.mod_mul_right_div_self]
  rw [h2, h1, Nat.add_mul_div_right _ _ (Nat.pow_pos B_pos), Nat.div_eq_of_lt (val_lt hd i), Nat.zero_add]
/-- the first difference from the top decides -/
theorem val_up {a b : List Nat} {i : Nat} : ∀ {M : Nat}, i < M → (∀ j, i < j → j < M → dg a j = dg b j) → val a (i + 1) < val b (i + 1) → val a M < val b M
  | 0, h, _, _ => by omega
  | M + 1, h, he, hl => by
    by_cases e : i = M
    · subst e; exact hl
    · have := val_up (M := M) (by omega) (fun j h1 h2 => he j h1 (by omega)) hl
      unfold val
      rw [he M (by omega) (by omega)]
      omega
theorem val_same {a b : List Nat} : ∀ {M : Nat}, (∀ j, j < M → dg a j = dg b j) → val a M = val b M
  | 0, _ => rfl
  | M + 1, he => by
    unfold val
    rw [val_same (M := M) (fun j h => he j (by omega)), he M (by omega)]
theorem val_step {a b : List Nat} (ha : Dg a) {i : Nat} (h : dg a i < dg b i) : val a (i + 1) < val b (i + 1) := by
  unfold val
  have h1 := val_lt ha i
  have h2 : dg a i * B ^ i + B ^ i ≤ dg b i * B ^ i := by
    rw [← Nat.succ_mul]
    exact Nat.mul_le_mul_right _ h
  omega
theorem nat_less {a b : List Nat} (ha : Dg a) {i M : Nat} (h1 : a.length ≤ M) (h2 : b.length ≤ M) (hi : i < M) (he : ∀ j, i < j → j < M → dg a j = dg b j) (h : dg a i < dg b i) : nat a < nat b := by
  have := val_up hi he (val_step ha h)
  rwa [val_nat h1, val_nat h2] at this
theorem nat_same {a b : List Nat} {M : Nat} (h1 : a.length ≤ M) (h2 : b.length ≤ M) (he : ∀ j, j < M → dg a j = dg b j) : nat a = nat b := by
  have := val_same he
  rwa [val_nat h1, val_nat h2] at this
/-- one number against another -/
def cmp (x y : Nat) : Int := if x < y then -1 else if y < x then 1 else 0
/-- the sum's digits and carry -/
theorem add_step {o : List Nat} {a b c k s : Nat} {A Bv : Nat} (hk : o.length = k) (h : nat o + c * B ^ k = A + Bv) (hs : s = a + b + c) : nat (o ++ [s % B]) + s / B * B ^ (k + 1) = (A + a * B ^ k) + (Bv + b * B ^ k) := by
  rw [nat_append, hk]
  simp only [nat, Nat.mul_zero, Nat.add_zero]
  have e : s % B + s / B * B = s := by rw [Nat.mul_comm]; exact Nat.mod_add_div s B
  have e2 : B ^ k * (s % B) + s / B * B ^ (k + 1) = s * B ^ k := by
    rw [Nat.pow_succ, Nat.mul_comm (B ^ k) (s % B), ← Nat.mul_assoc, Nat.mul_right_comm, ← Nat.add_mul, e]
  rw [Nat.add_assoc, e2, hs, Nat.add_mul, Nat.add_mul]
  omega
end Fr
end Go.Proofs.YtfopmaeaclbknaaDoor
namespace Go.Proofs.YtfopmaeaclbknaaDoor
open Go.ChangeShapes Go.WideShapes Go.ChangeAt Go.RowKit
set_option linter.unusedVariables false
namespace Fr
theorem own_far {w : World} {base : Nat} {e : TypeId} {size n : Nat} {v : Value} {xs : List Value} (h : w.ownsRow base e size v n xs) : ∀ g, v.ownBlock = some g → base ≤ g := by
  rcases h.2 with ⟨rfl, _⟩ | ⟨g', cap, cur, rfl, hb, hh, _⟩
  · intro g hg
    simp [Value.ownBlock] at hg
  · intro g hg
    have : g' = g := by simpa [Value.ownBlock] using hg
    subst this
    exact hb
theorem ns_new1 (w : World) (a : Nat) (t : TypeId) : NS (w.alloc (.cells #[.int .u32 (a : Int)] t)) (.slice (some ⟨w.heap.size, 0, none⟩) 1 1) [a] := by
  refine ns_mk (by simp) (Nat.le_refl _) (by unfold maxLen; simp) fun i hi => ?_
  obtain rfl : i = 0 := by simp at hi; omega
  exact (Blk.new w t _).cell 0
theorem ns_own {w : World} {base : Nat} {e : TypeId} {v : Value} {n : Nat} {o : List Nat} (h : w.ownsRow base e 1 v n (u32s o)) : NS w v o := by
  have := Sl.of_own h
  have hl := this.1
  rw [u32s_len, Nat.mul_one] at hl
  rw [← hl] at this
  exact this
/-- the two parts of a sum below B * B -/
theorem parts {s : Nat} : s % B < B ∧ IntKind.u32.wrap ((s : Int) % 4294967296) = ((s % B : Nat) : Int) := by
  refine ⟨Nat.mod_lt _ B_pos, ?_⟩
  rw [IntWalk.u32_in _ (by omega)]
  unfold B
  omega
theorem part_hi {s : Nat} (h : s < B * B) : s / B < B ∧ IntKind.u64.wrap ((s : Int) / 4294967296) = ((s / B : Nat) : Int) := by
  refine ⟨Nat.div_lt_of_lt_mul h, ?_⟩
  rw [BB_eq] at h
  rw [IntWalk.u64_in _ (by omega)]
  unfold B
  omega
theorem u64_sum {x y : Nat} (h : x + y < B * B) : IntKind.u64.wrap ((x : Int) + (y : Int)) = ((x + y : Nat) : Int) := by
  rw [BB_eq] at h
  rw [IntWalk.u64_in _ (by omega)]
  omega
theorem lt_BB {s : Nat} (h : s < 4 * B) : s < B * B := by
  have : 4 * B ≤ B * B := Nat.mul_le_mul_right _ (by decide)
  omega
/-- one place of a sum -/
theorem sum_facts {x y c : Nat} (hx : x < B) (hy : y < B) (hc : c ≤ 1) : ∃ t s lo hi : Nat, (s = x + y + c ∧ lo = s % B ∧ hi = s / B) ∧ IntKind.u64.wrap ((x : Int) + (y : Int)) = ((t : Nat) : Int) ∧ IntKind.u64.wrap ((t : Int) + (c : Int)) = ((s : Nat) : Int) ∧ IntKind.u32.wrap ((s : Int) % 4294967296) = ((lo : Nat) : Int) ∧ IntKind.u64.wrap ((s : Int) / 4294967296) = ((hi : Nat) : Int) ∧ hi ≤ 1 ∧ lo < B := by
  have hs4 : x + y + c < 4 * B := by have := B_two; omega
  have h2 : (x + y + c) / B < 2 := Nat.div_lt_of_lt_mul (by have := B_two; omega)
  exact ⟨x + y, x + y + c, _, _, ⟨rfl, rfl, rfl⟩, u64_sum (by have := lt_BB hs4; omega), u64_sum (lt_BB hs4), parts.2, (part_hi (lt_BB hs4)).2, by omega, parts.1⟩
/-- the sum's last carry is none -/
theorem add_end {a b o : List Nat} {c M : Nat} (ha : Dg a) (hb : Dg b) (h1 : a.length ≤ M) (h2 : b.length ≤ M) (h : nat o + c * B ^ (M + 1) = val a (M + 1) + val b (M + 1)) : nat o = nat a + nat b := by
  rw [val_nat (by omega), val_nat (by omega)] at h
  have e1 := nat_lt_len ha h1
  have e2 := nat_lt_len hb h2
  have e3 : 2 * B ^ M ≤ B ^ (M + 1) := by
    rw [Nat.pow_succ, Nat.mul_comm]
    exact Nat.mul_le_mul_left _ (by decide)
  cases c with
  | zero => omega
  | succ c =>
    rw [Nat.succ_mul] at h
    omega
/-- one place of a difference -/
theorem sub_facts {x y c : Nat} (hx : x < B) (hy : y < B) (hc : c ≤ 1) : ∃ t1 t2 s lo q br : Nat, (lo + y + c = x + br * B) ∧ IntKind.u64.wrap (4294967296 + (x : Int)) = ((t1 : Nat) : Int) ∧ IntKind.u64.wrap ((t1 : Int) - (y : Int)) = ((t2 : Nat) : Int) ∧ IntKind.u64.wrap ((t2 : Int) - (c : Int)) = ((s : Nat) : Int) ∧ IntKind.u32.wrap ((s : Int) % 4294967296) = ((lo : Nat) : Int) ∧ IntKind.u64.wrap ((s : Int) / 4294967296) = ((q : Nat) : Int) ∧ IntKind.u64.wrap (1 - (q : Int)) = ((br : Nat) : Int) ∧ br ≤ 1 ∧ lo < B := by
  have hbx := hx
  have hby := hy
  unfold B at hbx hby
  have hs : B + x - y - c < 2 * B := by unfold B; omega
  have hq : (B + x - y - c) / B < 2 := Nat.div_lt_of_lt_mul (by omega)
  have hm := Nat.mod_add_div (B + x - y - c) B
  have hsB : B + x - y - c < B * B := lt_BB (by omega)
  refine ⟨B + x, B + x - y, B + x - y - c, _, (B + x - y - c) / B, 1 - (B + x - y - c) / B, ?_, ?_, ?_, ?_, parts.2, (part_hi hsB).2, ?_, Nat.sub_le _ _, parts.1⟩
  · generalize (B + x - y - c) / B = q at *
    generalize (B + x - y - c) % B = r at *
    rcases (show q = 0 ∨ q = 1 by omega) with rfl | rfl
    · unfold B at *; omega
    · unfold B at *; omega
  · rw [IntWalk.u64_in _ (by omega)]; unfold B; omega
  · rw [IntWalk.u64_in _ (by unfold B; omega)]; unfold B; omega
  · rw [IntWalk.u64_in _ (by unfold B; omega)]; unfold B; omega
  · generalize (B + x - y - c) / B = q at *
    rw [IntWalk.u64_in _ (by omega)]; omega
theorem sub_step {o : List Nat} {x y c k lo br A Bv : Nat} (hk : o.length = k) (h : A + c * B ^ k = nat o + Bv) (hs : lo + y + c = x + br * B) : (A + x * B ^ k) + br * B ^ (k + 1) = nat (o ++ [lo]) + (Bv + y * B ^ k) := by
  rw [nat_append, hk]
  simp only [nat, Nat.mul_zero, Nat.add_zero]
  have e : (lo + y + c) * B ^ k = (x + br * B) * B ^ k := by rw [hs]
  simp only [Nat.add_mul] at e
  rw [Nat.pow_succ, Nat.mul_comm (B ^ k) B, ← Nat.mul_assoc, Nat.mul_comm (B ^ k) lo]
  omega
theorem sub_end {a b o : List Nat} {c : Nat} (ha : Dg a) (hb : Dg b) (ho : Dg o) (hl : o.length = a.length) (hle : nat b ≤ nat a) (h : val a a.length + c * B ^ a.length = nat o + val b a.length) : nat o = nat a - nat b := by
  have e1 := nat_lt ha
  have e2 := nat_lt ho
  rw [hl] at e2
  rw [val_nat (Nat.le_refl _), val_of_lt hb (by omega)] at h
  cases c with
  | zero => omega
  | succ c =>
    rw [Nat.succ_mul] at h
    omega
end Fr
end Go.Proofs.YtfopmaeaclbknaaDoor
namespace Go.Proofs.YtfopmaeaclbknaaDoor
open Go.ChangeShapes Go.WideShapes Go.ChangeAt Go.RowKit
set_option linter.unusedVariables false
namespace Fr
theorem mul_lt_BB {x d c : Nat} (hx : x < B) (hd : d < B) (hc : c < B) : x * d + c < B * B := by
  have h1 : x * d ≤ (B - 1) * (B - 1) := Nat.mul_le_mul (by omega) (by omega)
  have h2 : (B - 1) * (B - 1) + (B - 1) < B * B := by decide
  omega
theorem u64_mul {x d : Nat} (h : x * d < B * B) : IntKind.u64.wrap ((x : Int) * (d : Int)) = ((x * d : Nat) : Int) := by
  rw [BB_eq] at h
  have e : (x : Int) * (d : Int) = ((x * d : Nat) : Int) := by simp
  rw [e, IntWalk.u64_in _ (by omega)]
/-- one place of a product with a digit -/
theorem mul_facts {x d c : Nat} (hx : x < B) (hd : d < B) (hc : c < B) : ∃ t s lo hi : Nat, (s = x * d + c ∧ lo = s % B ∧ hi = s / B) ∧ IntKind.u64.wrap ((x : Int) * (d : Int)) = ((t : Nat) : Int) ∧ IntKind.u64.wrap ((t : Int) + (c : Int)) = ((s : Nat) : Int) ∧ IntKind.u32.wrap ((s : Int) % 4294967296) = ((lo : Nat) : Int) ∧ IntKind.u64.wrap ((s : Int) / 4294967296) = ((hi : Nat) : Int) ∧ hi < B ∧ lo < B := by
  have h := mul_lt_BB hx hd hc
  exact ⟨x * d, x * d + c, _, _, ⟨rfl, rfl, rfl⟩, u64_mul (by omega), u64_sum h, parts.2, (part_hi h).2, (part_hi h).1, parts.1⟩
theorem scale_step {o : List Nat} {x d c k s A : Nat} (hk : o.length = k) (h : nat o + c * B ^ k = A * d) (hs : s = x * d + c) : nat (o ++ [s % B]) + s / B * B ^ (k + 1) = (A + x * B ^ k) * d := by
  rw [nat_append, hk]
  simp only [nat, Nat.mul_zero, Nat.add_zero]
  have e : s % B + s / B * B = s := by rw [Nat.mul_comm]; exact Nat.mod_add_div s B
  have e2 : B ^ k * (s % B) + s / B * B ^ (k + 1) = s * B ^ k := by
    rw [Nat.pow_succ, Nat.mul_comm (B ^ k) (s % B), ← Nat.mul_assoc, Nat.mul_right_comm, ← Nat.add_mul, e]
  rw [Nat.add_assoc, e2, hs, Nat.add_mul, Nat.add_mul, Nat.mul_right_comm x (B ^ k) d]
  omega
theorem mul_lt_pow {x y m k : Nat} (hx : x < B ^ m) (hy : y < B ^ k) : x * y < B ^ (m + k) := by
  rw [Nat.pow_add]
  rcases Nat.eq_zero_or_pos y with rfl | h
  · rw [Nat.mul_zero]
    exact Nat.mul_pos (Nat.pow_pos B_pos) (Nat.pow_pos B_pos)
  · exact Nat.lt_of_lt_of_le (Nat.mul_lt_mul_of_pos_right hx h) (Nat.mul_le_mul_left _ (by omega))
theorem scale_end {a o : List Nat} {c d M : Nat} (ha : Dg a) (hd : d < B) (h1 : a.length = M) (h : nat o + c * B ^ (M + 1) = val a (M + 1) * d) : nat o = nat a * d := by
  rw [val_nat (by omega)] at h
  have e1 := nat_lt_len ha (Nat.le_of_eq h1)
  have e2 : nat a * d < B ^ (M + 1) := mul_lt_pow e1 (k := 1) (by rw [Nat.pow_one]; exact hd)
  cases c with
  | zero => omega
  | succ c =>
    rw [Nat.succ_mul] at h
    omega
theorem digs_mul_len {x y m k : Nat} (hx : x < B ^ m) (hy : y < B ^ k) : (digs (x * y)).length ≤ m + k := digs_len_le (mul_lt_pow hx hy)
end Fr
end Go.Proofs.YtfopmaeaclbknaaDoor
namespace Go.Proofs.YtfopmaeaclbknaaDoor
open Go.ChangeShapes Go.WideShapes Go.ChangeAt Go.RowKit
set_option linter.unusedVariables false
namespace Fr
/-- a row of the call's own, in block g, that reads as the digits l -/
def Row (w : World) (base g : Nat) (e : TypeId) (n : Nat) (l : List Nat) : Prop := l.length = n ∧ w.ownsRow base e 1 (.slice (some ⟨g, 0, none⟩) n n) n (u32s l)
section
variable {w w' : World} {base g n : Nat} {e : TypeId} {l : List Nat}
theorem u32s_get (l : List Nat) (i : Nat) (h : i < l.length) : (u32s l)[i]? = some (.int .u32 ((dg l i : Nat) : Int)) := by simp [u32s, h, dg_in]
theorem u32s_set (l : List Nat) (i d : Nat) : (u32s l).set i (.int .u32 (d : Int)) = u32s (l.set i d) := by simp [u32s, List.map_set]
theorem Row.cell (h : Row w base g e n l) {i : Nat} (hi : i < n) : w.cell? ⟨g, i, none⟩ = some (.int .u32 ((dg l i : Nat) : Int)) :=
  (h.2.cellAt i (by omega)).trans (u32s_get l i (by have := h.1; omega))
theorem Row.drew (h : Row w base g e n l) : Row w.drew base g e n l := ⟨h.1, h.2.drew⟩
theorem Row.free (h : Row w base g e n l) (i : Nat) : w.frozen? ⟨g, i, none⟩ = false := h.2.frozenAt i
theorem Row.put (h : Row w base g e n l) (i d : Nat) : Row (w.setCell ⟨g, i, none⟩ (.int .u32 (d : Int))) base g e n (l.set i d) := by
  refine ⟨by simpa using h.1, ?_⟩
  have := (h.2.stored i (.int .u32 (d : Int))).1
  rwa [u32s_set] at this
theorem Row.far (h : Row w base g e n l) : base ≤ g := own_far h.2 g (by simp [Value.ownBlock])
theorem Row.lt (h : Row w base g e n l) : g < w.heap.size := by
  rcases h.2.2 with ⟨hv, _⟩ | ⟨g', cap, cur, hv, _, hh, _⟩
  · cases hv
  · injection hv with hv
    injection hv with hv
    injection hv with hv
    subst hv
    exact (Array.getElem?_eq_some_iff.1 hh).1
theorem Row.rebase {base' : Nat} (h : Row w base g e n l) (hb : base' ≤ base) : Row w base' g e n l := by
  refine ⟨h.1, h.2.1, ?_⟩
  rcases h.2.2 with hv | ⟨g', cap, cur, hv, h1, h2⟩
  · exact .inl hv
  · exact .inr ⟨g', cap, cur, hv, Nat.le_trans hb h1, h2⟩
theorem Row.ns (h : Row w base g e n l) : NS w (.slice (some ⟨g, 0, none⟩) n n) l := ns_own h.2
theorem Row.keep (h : Row w base g e n l) (b : Below w.heap.size w w') : Row w' base g e n l := ⟨h.1, own_below h.2 b⟩
theorem Row.made (h : w.ownsRow base e 1 (.slice (some ⟨g, 0, none⟩) n n) n (madeCells (Value.int .u32 0).cells (n * 1)).toList) : Row w base g e n (List.replicate n 0) := by
  refine ⟨by simp, ?_⟩
  have e1 : (madeCells (Value.int .u32 0).cells (n * 1)).toList = u32s (List.replicate n 0) := by
    refine List.ext_getElem (by simp [madeCells, u32s]) fun i h1 h2 => ?_
    simp [madeCells, u32s, Value.cells, Nat.mod_one]
  rwa [e1] at h
theorem Row.made' (h : w.ownsRow base e 1 (.slice (some ⟨g, 0, none⟩) n n) n (madeCells #[Value.int .u32 0] n).toList) : Row w base g e n (List.replicate n 0) := by
  refine Row.made ?_
  rw [Nat.mul_one]
  exact h
/-- below the base a store into the row changes nothing -/
theorem Row.below {B : Nat} {w0 : World} (h : Row w base g e n l) (hb : Below B w0 w) (hB : B ≤ base) (i : Nat) (u : Value) : Below B w0 (w.setCell ⟨g, i, none⟩ u) :=
  hb.setCell (by have := h.far; show B ≤ g; omega) u
end
/-- w' is w but for block g -/
structure OnlyG (g : Nat) (w w' : World) : Prop where
  os : w'.os = w.os
  tape : w'.tape = w.tape
  output : w'.output = w.output
  size : w'.heap.size = w.heap.size
  block : ∀ k, k ≠ g → w'.heap[k]? = w.heap[k]?
section
variable {g : Nat} {w w1 w2 : World}
theorem OnlyG.refl (g : Nat) (w : World) : OnlyG g w w := ⟨rfl, rfl, rfl, rfl, fun _ _ => rfl⟩
theorem OnlyG.put (h : OnlyG g w w1) (o : Nat) (u : Value) : OnlyG g w (w1.setCell ⟨g, o, none⟩ u) :=
  ⟨h.os, h.tape, h.output, by have := h.size; simpa [World.setCell] using this, fun k hne => (Below.heap_setCell _ _ _ _ hne).trans (h.block k hne)⟩
theorem OnlyG.drewN (h : OnlyG g w w1) (n : Nat) : OnlyG g w (w1.drewN n) := ⟨h.os, h.tape, h.output, h.size, h.block⟩
theorem OnlyG.drew (h : OnlyG g w w1) : OnlyG g w w1.drew := ⟨h.os, h.tape, h.output, h.size, h.block⟩
theorem OnlyG.below {B : Nat} {w0 : World} (h : OnlyG g w w1) (b : Below B w0 w) (hB : B ≤ g) : Below B w0 w1 :=
  ⟨h.os.trans b.os, h.tape.trans b.tape, h.output.trans b.output, by rw [h.size]; exact b.size, fun k hk => (h.block k (by omega)).trans (b.block k hk)⟩
theorem OnlyG.cell (h : OnlyG g w w1) {b : Nat} (o : Nat) (hb : b ≠ g) : w1.cell? ⟨b, o, none⟩ = w.cell? ⟨b, o, none⟩ := by
  simp only [World.cell?, h.block b hb]
theorem Row.only {base g2 n : Nat} {e : TypeId} {l : List Nat} (h : Row w base g2 e n l) (o : OnlyG g w w1) (hg : g2 ≠ g) : Row w1 base g2 e n l := by
  refine ⟨h.1, h.2.kept (row := some g) ⟨o.os, o.tape, o.output, by rw [o.size]; exact Nat.le_refl _, fun k _ hk => o.block k (fun e => hk (by rw [e]))⟩ ?_⟩
  simpa [Value.ownBlock] using hg
end
theorem dg_drop (l : List Nat) (j i : Nat) : dg (l.drop j) i = dg l (j + i) := by simp [dg, List.getD]
theorem dg_app_lt {o k : List Nat} {i : Nat} (h : i < o.length) : dg (o ++ k) i = dg o i := by simp [dg, List.getD, List.getElem?_append_left h]
theorem dg_app_ge {o k : List Nat} {i : Nat} (h : o.length ≤ i) : dg (o ++ k) i = dg k (i - o.length) := by simp [dg, List.getD, List.getElem?_append_right h]
theorem dg_zeros (m i : Nat) : dg (List.replicate m 0) i = 0 := by
  by_cases h : i < m
  · simp [dg, List.getD, h]
  · exact dg_out (by simp; omega)
theorem set_fill (o : List Nat) (m d : Nat) : (o ++ List.replicate (m + 1) 0).set o.length d = (o ++ [d]) ++ List.replicate m 0 := by
  rw [List.set_append_right _ _ (Nat.le_refl _), Nat.sub_self, List.replicate_succ, List.set_cons_zero]
  simp
theorem set_top (k d : Nat) (o : List Nat) : (List.replicate (k + 1) 0 ++ o).set k d = List.replicate k 0 ++ (d :: o) := by
  rw [List.replicate_succ', List.append_assoc, List.set_append_right _ _ (by simp)]
  simp
theorem set_fill' {o : List Nat} {n k : Nat} (hk : k < n) (ho : o.length = k) (d : Nat) : (o ++ List.replicate (n - k) 0).set k d = (o ++ [d]) ++ List.replicate (n - (k + 1)) 0 := by
  obtain ⟨m, hm⟩ : ∃ m, n - k = m + 1 := ⟨n - k - 1, by omega⟩
  have : n - (k + 1) = m := by omega
  rw [hm, this, ← ho]
  exact set_fill o m d
theorem nat_fill (o : List Nat) (m : Nat) : nat (o ++ List.replicate m 0) = nat o := by rw [nat_append, nat_zeros, Nat.mul_zero, Nat.add_zero]
theorem nat_top (k : Nat) (o : List Nat) : nat (List.replicate k 0 ++ o) = B ^ k * nat o := by rw [nat_append, nat_zeros, Nat.zero_add, List.length_replicate]
theorem Dg.zeros (m : Nat) : Dg (List.replicate m 0) := fun d h => by
  rw [(List.mem_replicate.1 h).2]
  exact B_pos
theorem Dg.set {l : List Nat} (h : Dg l) {d : Nat} (hd : d < B) (i : Nat) : Dg (l.set i d) := fun x hx => by
  rcases List.mem_or_eq_of_mem_set hx with h1 | h1
  · exact h x h1
  · rw [h1]; exact hd
theorem dg_set_same {l : List Nat} {i d : Nat} (h : i < l.length) : dg (l.set i d) i = d := by simp [dg, List.getD, h]
theorem dg_set_ne {l : List Nat} {i j d : Nat} (h : i ≠ j) : dg (l.set i d) j = dg l j := by simp [dg, List.getD, List.getElem?_set_ne h]
theorem val_congr {l k : List Nat} {m : Nat} (h : ∀ i, i < m → dg l i = dg k i) : val l m = val k m := val_same h
end Fr
end Go.Proofs.YtfopmaeaclbknaaDoor
