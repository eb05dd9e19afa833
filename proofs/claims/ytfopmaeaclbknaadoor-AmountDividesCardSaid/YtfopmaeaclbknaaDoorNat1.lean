/- Numbers in memory; contracts of the reference's digit, trim and FromUint. Printed by gen_nat1.py. -/
import Derived.Test.YtfopmaeaclbknaaDoorNatT
import Derived.Test.YtfopmaeaclbknaaDoorApp
import Derived.Test.YtfopmaeaclbknaaDoorProg
import Derived.IntWalk
namespace Go.Proofs.YtfopmaeaclbknaaDoor
open Go.ChangeShapes Go.WideShapes Go.ChangeAt Go.RowKit
namespace Fr
def u32s (l : List Nat) : List Value := l.map fun (d : Nat) => Value.int .u32 (d : Int)
theorem u32s_len (l : List Nat) : (u32s l).length = l.length := by simp [u32s]
theorem u32s_append (l k : List Nat) : u32s (l ++ k) = u32s l ++ u32s k := by simp [u32s]
theorem u32s_one (l : List Nat) : ∀ u ∈ u32s l, u.oneCell' = true := by
  intro u hu
  simp only [u32s, List.mem_map] at hu
  obtain ⟨d, _, rfl⟩ := hu
  rfl
/-- a digit, 0 behind the last -/
def dg (l : List Nat) (i : Nat) : Nat := l.getD i 0
theorem dg_in {l : List Nat} {i : Nat} (h : i < l.length) : dg l i = l[i] := by simp [dg, List.getD, h]
theorem dg_out {l : List Nat} {i : Nat} (h : l.length ≤ i) : dg l i = 0 := by simp [dg, List.getD, h]
theorem dg_lt {l : List Nat} (h : Dg l) (i : Nat) : dg l i < B := by
  by_cases hi : i < l.length
  · rw [dg_in hi]
    exact h.at_ i hi
  · rw [dg_out (by omega)]
    exact B_pos
theorem take_dg {l : List Nat} {k : Nat} (hk : k < l.length) : l.take (k + 1) = l.take k ++ [dg l k] := by rw [List.take_succ_eq_append_getElem hk, dg_in hk]
theorem u32_bd {x : Nat} (h : x < B) : (0 : Int) ≤ (x : Int) ∧ (x : Int) < 4294967296 := by unfold B at h; omega
theorem u64w {x : Nat} (h : x < B) : IntKind.u64.wrap ((x : Nat) : Int) = ((x : Nat) : Int) := IntWalk.u64_in _ (by unfold B at h; omega)
/-- a number in memory: a slice that reads as its digits -/
abbrev NS (w : World) (v : Value) (l : List Nat) : Prop := Sl w 1 v l.length (u32s l)
theorem ns_cases {w : World} {v : Value} {l : List Nat} (h : NS w v l) : ∃ A c, v = .slice A l.length c ∧ l.length ≤ c ∧ c ≤ maxLen ∧ (0 < l.length → ∃ b o, A = some ⟨b, o, none⟩ ∧ b < w.heap.size ∧ ∀ i, i < l.length → w.cell? ⟨b, o + i, none⟩ = some (.int .u32 ((dg l i : Nat) : Int))) := by
  obtain ⟨_, A, c, h1, h2, h3, h4⟩ := h
  refine ⟨A, c, h1, h2, h3, fun hn => ?_⟩
  obtain ⟨b, o, e1, e2, e3⟩ := h4 hn
  exact ⟨b, o, e1, e2, fun i hi => e3 i _ (by simp [u32s, hi, dg_in])⟩
theorem ns_mk {w : World} {l : List Nat} {b o c : Nat} (hb : b < w.heap.size) (h1 : l.length ≤ c) (h2 : c ≤ maxLen) (h : ∀ i, i < l.length → w.cell? ⟨b, o + i, none⟩ = some (.int .u32 ((dg l i : Nat) : Int))) : NS w (.slice (some ⟨b, o, none⟩) l.length c) l := by
  refine ⟨by simp [u32s_len], _, _, rfl, h1, h2, fun _ => ⟨b, o, rfl, hb, fun j u hu => ?_⟩⟩
  obtain ⟨hj, rfl⟩ := List.getElem?_eq_some_iff.1 hu
  have hj' : j < l.length := by simpa [u32s_len] using hj
  rw [h j hj', dg_in hj']
  simp [u32s]
/-- the front of a number -/
theorem ns_take {w : World} {A : Option Addr} {l : List Nat} {n c : Nat} (h : NS w (.slice A l.length c) l) (hn : n ≤ l.length) {c' : Nat} (h1 : n ≤ c') (h2 : c' ≤ maxLen) : Sl w 1 (.slice A n c') n (u32s (l.take n)) := by
  obtain ⟨_, A', c0, e, h3, h4, h5⟩ := h
  injection e with e1 _ e2
  subst e1 e2
  have hl : (l.take n).length = n := by simp; omega
  refine ⟨by rw [u32s_len, Nat.mul_one, hl], A, c', rfl, h1, h2, fun hp => ?_⟩
  obtain ⟨b, o, e1, e2, e3⟩ := h5 (by omega)
  refine ⟨b, o, e1, e2, fun j u hu => e3 j u ?_⟩
  have : u32s l = u32s (l.take n) ++ u32s (l.drop n) := by rw [← u32s_append, List.take_append_drop]
  rw [this, List.getElem?_append_left (List.getElem?_eq_some_iff.1 hu).1]
  exact hu
/-- what a function that makes a number answers -/
def NatPost (n : Nat) (w : World) (e : Ending) (w' : World) : Prop := ∃ v, e = .returned v ∧ NS w' v (digs n) ∧ Below w.heap.size w w'
theorem digit_any (l : List Nat) (v : Value) (i : Nat) (w : World) (hl : l.length ≤ 100000) (hi0 : i ≤ 100000) (hd : Dg l) (h : NS w v l) : Calls Tryd.prog 106 #[v, .int .i64 (i : Int)] w fun e w' => e = .returned (.int .u64 ((dg l i : Nat) : Int)) ∧ w = w' := by
  obtain ⟨A, c, rfl, _, _, ha⟩ := ns_cases h
  by_cases hi : i < l.length
  · have hdec : decide ((i : Int) < (l.length : Int)) = true := by simp; omega
    obtain ⟨b, o, rfl, _, hc⟩ := ha (by omega)
    have hc := hc i hi
    have ww := u64w (dg_lt hd i)
    have hi1 : (0 : Int) ≤ (i : Int) := by omega
    have hi2 : (i : Int) < (l.length : Int) := by omega
    clear ha h hd
    go_enter Tryd.func106, Tryd.ntmps106
    go_wp2_with fail
    go_ret
    exact ⟨rfl, rfl⟩
  · have hdec : decide ((i : Int) < (l.length : Int)) = false := by simp; omega
    have E := Lib.hid (dg_out (show l.length ≤ i by omega))
    clear ha h hd
    go_enter Tryd.func106, Tryd.ntmps106
    go_wp2_with fail
    go_ret
    exact ⟨by rw [E.out]; rfl, rfl⟩
theorem u32_info : (Tryd.prog.info? 92).map (fun i => (i.zero, i.size, i.bytes)) = some (some (.int .u32 0), 1, 4) := by kernel_rfl
theorem own_form {w : World} {base : Nat} {e : TypeId} {size n : Nat} {v : Value} {xs : List Value} (h : w.ownsRow base e size v n xs) : ∃ A c, v = .slice A n c := by
  rcases h.2 with ⟨rfl, rfl⟩ | ⟨g, cap, cur, rfl, _⟩
  · exact ⟨none, 0, rfl⟩
  · exact ⟨_, cap, rfl⟩
theorem grown_below {w w' : World} {B : Nat} {row : Option Nat} (hb : w.grownBy w' row) (hr : ∀ g, row = some g → B ≤ g) (hB : B ≤ w.heap.size) : Below B w w' :=
  ⟨hb.os, hb.tape, hb.output, hb.size, fun k hk => hb.block k (by omega) (fun e => by have := hr k e.symm; omega)⟩
/-- a slice without its last, a zero -/
theorem nat_take_zero {l : List Nat} {k : Nat} (hk : k < l.length) (h0 : dg l k = 0) : nat (l.take (k + 1)) = nat (l.take k) := by
  rw [take_dg hk, nat_append, h0]
  simp [nat]
theorem take_digs {l : List Nat} {k : Nat} (hd : Dg l) (h : nat (l.take k) = nat l) (hl : k = 0 ∨ ∃ j, j < l.length ∧ k = j + 1 ∧ dg l j ≠ 0) : l.take k = digs (nat l) := by
  rw [← h]
  refine (digs_of (hd.take k) ?_).symm
  rcases hl with rfl | ⟨j, hj, rfl, hn⟩
  · simp
  · rw [take_dg hj, List.getLastD_concat]
    exact hn
set_option maxHeartbeats 1000000 in
theorem trim_any (l : List Nat) (v : Value) (w : World) (hl : l.length ≤ 100000) (hd : Dg l) (h : NS w v l) : Calls Tryd.prog 74 #[v] w (NatPost (nat l) w) := by
  obtain ⟨i0, hi0, hz0, hz1, hz2⟩ := info_parts u32_info
  obtain ⟨A, c, rfl, hlc, hcm, ha⟩ := ns_cases h
  have HS := Lib.hid h
  have HD := Lib.hid hd
  have HC := Lib.hid ha
  have HM := Lib.hid hcm
  clear h hd ha
  unfold maxLen at hcm
  go_enter Tryd.func74, Tryd.ntmps74
  go_wp2_with fail
  go_loop [0] (fun v => ∃ k : Nat, k ≤ l.length ∧ v = .slice A k c ∧ Hid (nat (l.take k) = nat l)) (fun v => match v with | .slice _ n _ => n | _ => 0)
  case atStart => exact ⟨l.length, Nat.le_refl _, rfl, by show nat _ = _; rw [List.take_length]⟩
  case round =>
    obtain ⟨k, hk, rfl, HN⟩ := hrel
    cases k with
    | zero =>
      have HT : Hid (l.take 0 = digs (nat l)) := take_digs HD.out HN.out (.inl rfl)
      have HT1 := Lib.hid (ns_take HS.out hk (c' := c) (by omega) HM.out)
      have hlk : (l.take (0)).length = 0 := by rw [List.length_take]; omega
      go_wp2_with (at_builtin; refine wpList_append_sl _ rfl (.tmp 20) (.tmp 21) _ rfl w.heap.size 92 i0 _ 1 4 Tryd.underlying36 hi0 hz0 hz1 hz2 rfl (by decide) (.slice (some ⟨w.heap.size, 0, none⟩) 0 0) 0 [] rfl (World.ownsRow_made w #[] 0 (Nat.le_refl _) (by unfold maxLen; omega) rfl) _ (0) (u32s (l.take (0))) rfl (HT1.out.keep (below_new _ _)) (u32s_one _) (by unfold maxLen; omega) (by omega) (by simp) ?_)
      intro v' w1 hown hgr
      obtain ⟨A5, c5, rfl⟩ := own_form hown
      have HO := Lib.hid (Sl.of_own hown)
      have HB := Lib.hid ((below_new w (.cells #[] 92)).grown hgr (by simp) (fun q hq => by simp [Value.ownBlock] at hq; omega))
      clear hown hgr
      go_wp2_with fail
      go_ret
      refine ⟨_, rfl, ?_, HB.out⟩
      have := HO.out
      try simp only [Nat.zero_add, List.nil_append] at this
      rw [← HT.out]
      show Sl _ _ _ (l.take (0)).length _
      rw [hlk]
      exact this
    | succ j =>
      obtain ⟨b, o, rfl, hb, hc⟩ := HC.out (by omega)
      have hck := hc j (by omega)
      clear hc
      have hp0 : decide ((0 : Int) < ((j + 1 : Nat) : Int)) = true := by simp
      have hp1 : decide ((0 : Int) < (j : Int) + 1) = true := decide_eq_true (by omega)
      have hj0 : (0 : Int) ≤ (j : Int) := by omega
      by_cases hz : dg l j = 0
      · have HN2 : Hid (nat (l.take j) = nat l) := (nat_take_zero (by omega) hz).symm.trans HN.out
        rw [hz] at hck
        clear hz
        go_wp2_with fail
        go_round
        case rel => exact ⟨j, by omega, rfl, HN2⟩
        case measure => simp
      · have HT : Hid (l.take (j + 1) = digs (nat l)) := take_digs HD.out HN.out (.inr ⟨j, by omega, rfl, hz⟩)
        have qz : (((dg l j : Nat) : Int) == 0) = false := beq_eq_false_iff_ne.2 (by omega)
        clear hz
        have HT1 := Lib.hid (ns_take HS.out hk (c' := c) (by omega) HM.out)
        have hlk : (l.take (j + 1)).length = j + 1 := by rw [List.length_take]; omega
        go_wp2_with (at_builtin; refine wpList_append_sl _ rfl (.tmp 20) (.tmp 21) _ rfl w.heap.size 92 i0 _ 1 4 Tryd.underlying36 hi0 hz0 hz1 hz2 rfl (by decide) (.slice (some ⟨w.heap.size, 0, none⟩) 0 0) 0 [] rfl (World.ownsRow_made w #[] 0 (Nat.le_refl _) (by unfold maxLen; omega) rfl) _ (j + 1) (u32s (l.take (j + 1))) rfl (HT1.out.keep (below_new _ _)) (u32s_one _) (by unfold maxLen; omega) (by omega) (by simp) ?_)
        intro v' w1 hown hgr
        obtain ⟨A5, c5, rfl⟩ := own_form hown
        have HO := Lib.hid (Sl.of_own hown)
        have HB := Lib.hid ((below_new w (.cells #[] 92)).grown hgr (by simp) (fun q hq => by simp [Value.ownBlock] at hq; omega))
        clear hown hgr
        go_wp2_with fail
        go_ret
        refine ⟨_, rfl, ?_, HB.out⟩
        have := HO.out
        try simp only [Nat.zero_add, List.nil_append] at this
        rw [← HT.out]
        show Sl _ _ _ (l.take (j + 1)).length _
        rw [hlk]
        exact this
/-- two digits -/
theorem nat_two (x : Nat) (hx : x < B * B) : nat [x % B, x / B] = x ∧ Dg [x % B, x / B] := by
  refine ⟨?_, Dg.cons (Nat.mod_lt _ B_pos) (Dg.cons (Nat.div_lt_of_lt_mul hx) Dg.nil)⟩
  simp only [nat, Nat.mul_zero, Nat.add_zero]
  exact Nat.mod_add_div x B
theorem ns_new2 (w : World) (a b : Nat) (t : TypeId) : NS (w.alloc (.cells #[.int .u32 (a : Int), .int .u32 (b : Int)] t)) (.slice (some ⟨w.heap.size, 0, none⟩) 2 2) [a, b] := by
  refine ns_mk (by simp) (Nat.le_refl _) (by unfold maxLen; simp) fun i hi => ?_
  obtain rfl | rfl : i = 0 ∨ i = 1 := by simp at hi; omega
  · exact (Blk.new w t _).cell 0
  · exact (Blk.new w t _).cell 1
theorem BB_eq : B * B = 18446744073709551616 := by decide
set_option maxHeartbeats 1000000 in
theorem fromUint_any (x : Nat) (w : World) (hx : x < B * B) : Calls Tryd.prog 77 #[.int .u64 (x : Int)] w (NatPost x w) := by
  obtain ⟨h1, h2⟩ := nat_two x hx
  obtain ⟨lo, hlo⟩ : ∃ lo, lo = x % B := ⟨_, rfl⟩
  obtain ⟨hi, hhi⟩ : ∃ hi, hi = x / B := ⟨_, rfl⟩
  rw [← hlo, ← hhi] at h1 h2
  have CT := Lib.hid (trim_any [lo, hi] _ _ (by simp) h2 (ns_new2 w lo hi 92))
  rw [h1] at CT
  have b1 : lo < B := by rw [hlo]; exact Nat.mod_lt _ B_pos
  have b2 : hi < B := by rw [hhi]; exact Nat.div_lt_of_lt_mul hx
  have e1 : IntKind.u32.wrap ((x : Int) % 4294967296) = ((lo : Nat) : Int) := by rw [IntWalk.u32_in _ (by omega), hlo]; unfold B; omega
  have e2 : IntKind.u64.wrap ((x : Int) / 4294967296) = ((hi : Nat) : Int) := by
    rw [BB_eq] at hx
    rw [IntWalk.u64_in _ (by omega), hhi]; unfold B; omega
  have e3 : IntKind.u32.wrap ((hi : Nat) : Int) = ((hi : Nat) : Int) := IntWalk.u32_in _ (by unfold B at b2; omega)
  have e4 : ((hi : Nat) : Int) % 4294967296 = ((hi : Nat) : Int) := by unfold B at b2; omega
  have h0 : (0 : Int) ≤ (x : Int) := by omega
  clear h1 h2 hx hlo hhi b1 b2
  go_enter Tryd.func77, Tryd.ntmps77
  go_wp2_with fail
  refine CT.out.mono ?_
  rintro e w1 ⟨v1, rfl, hs, hb⟩
  have HS := Lib.hid hs
  have HB := Lib.hid (chain1 (Below.refl _ _) hb)
  obtain ⟨A, c, rfl, _⟩ := ns_cases hs
  clear hs hb
  go_wp2_with fail
  go_ret
  exact ⟨_, rfl, HS.out, HB.out⟩
end Fr
end Go.Proofs.YtfopmaeaclbknaaDoor
