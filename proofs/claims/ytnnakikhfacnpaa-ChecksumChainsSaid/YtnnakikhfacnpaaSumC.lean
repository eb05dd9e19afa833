/- The law on chained hashes: walk. -/
import Derived.Test.YtnnakikhfacnpaaSumB
namespace Go.Proofs.Ytnnakikhfacnpaa
open Go.ChangeShapes Go.WideShapes Go.ChangeAt Go.RowKit
namespace Sum
/-- a slice of strings -/
def IsStrs (w : World) (a : Option Addr) (n cap : Nat) (ss : Nat → ByteArray) : Prop :=
  (n = 0 ∧ (a = none → cap = 0)) ∨
  (0 < n ∧ n ≤ cap ∧ cap ≤ maxLen ∧ ∃ (b off : Nat), a = some ⟨b, off, none⟩ ∧ ∀ i, i < n → w.cell? ⟨b, off + i, none⟩ = some (.string (ss i)) ∧ (ss i).size ≤ maxLen)
def chN (p : Nat) (ss : Nat → ByteArray) : Nat → Nat
  | 0 => p
  | k + 1 => chain (chN p ss k) (ss k)
def lastN (p : Nat) (ss : Nat → ByteArray) : Nat → Nat
  | 0 => p
  | k + 1 => chN p ss k
theorem chN_lt {p : Nat} (hp : p < 18446744073709551616) (ss : Nat → ByteArray) : ∀ k, chN p ss k < 18446744073709551616
  | 0 => hp
  | _ + 1 => chain_lt _ _

set_option maxHeartbeats 800000 in
theorem law_chain_nil (p : Nat) (a : Option Addr) (cap : Nat) (at' m : Int) (w : World) :
    Calls Try.prog 14 #[.int .u64 (p : Int), .slice a 0 cap, .int .i64 at', .int .u8 m] w fun e w' => e = .returned (.bool true) ∧ Below w.heap.size w w' := by
  have AW : Hid (Ret 29 #[] (.bool true)) := awake_any
  go_enter Try.func14, Try.ntmps14
  go_wp2_with fail
  refine wp_loop_rounds 1 ?_
  rw [rounds_succ]
  go_wp2_with fail
  refine (AW.out _).mono ?_
  rintro e w1 ⟨rfl, b1⟩
  go_wp2_with fail
  go_ret
  exact ⟨rfl, b1⟩
theorem law_chain_many (p : Nat) (a : Option Addr) (n cap : Nat) (at' m : Int) (w : World) (h : 60 < n) (_hn : n ≤ maxLen) :
    Calls Try.prog 14 #[.int .u64 (p : Int), .slice a n cap, .int .i64 at', .int .u8 m] w fun e w' => e = .returned (.bool true) ∧ Below w.heap.size w w' := by
  have hd : decide ((60 : Int) < (n : Int)) = true := by simp; omega
  unfold maxLen at _hn
  have AW : Hid (Ret 29 #[] (.bool true)) := awake_any
  go_enter Try.func14, Try.ntmps14
  go_wp2_with fail
  refine (AW.out _).mono ?_
  rintro e w1 ⟨rfl, b1⟩
  go_wp2_with fail
  go_ret
  exact ⟨rfl, b1⟩

set_option maxHeartbeats 1600000 in
theorem law_chain_main (p : Nat) (b off q cap : Nat) (ss : Nat → ByteArray) (at' : Int) (m : Nat) (w : World) (hp : p < 18446744073709551616) (hq : q + 1 ≤ 60) (_hc : q + 1 ≤ cap) (_hm : cap ≤ maxLen)
    (hss : ∀ i, i < q + 1 → w.cell? ⟨b, off + i, none⟩ = some (.string (ss i)) ∧ (ss i).size ≤ maxLen) (hm : m < 256) :
    Calls Try.prog 14 #[.int .u64 (p : Int), .slice (some ⟨b, off, none⟩) (q + 1) cap, .int .i64 at', .int .u8 (m : Int)] w fun e w' => e = .returned (.bool true) ∧ Below w.heap.size w w' := by
  have HS := Lib.hid hss
  have hbw : b < w.heap.size := block_lt_of_cell (hss 0 (by omega)).1
  have HL := Lib.hid (chN_lt hp ss)
  clear hss hp
  have hd60 : decide ((60 : Int) < (q : Int) + 1) = false := by simp; omega
  have hq0 : ((q : Int) + 1 == 0) = false := by simp; omega
  have AW : Hid (Ret 29 #[] (.bool true)) := awake_any
  go_enter Try.func14, Try.ntmps14
  go_wp2_with fail
  go_loopw [9, 10, 11, 24] (fun x y z i wr => ∃ k : Nat, k ≤ q + 1 ∧ i = .int .i64 k ∧ x = .int .u64 (chN p ss k : Nat) ∧ y = .int .u64 (chN p ss k : Nat) ∧ z = .int .u64 (lastN p ss k : Nat) ∧ (∀ j, j < k → (ss j).size ≤ 6000) ∧ Below w.heap.size w wr) (fun _ _ _ i _ => q + 1 - (intOf i).toNat)
  case atStart => exact ⟨0, by omega, rfl, rfl, rfl, rfl, by intro j hj; omega, Below.refl _ _⟩
  case round =>
    obtain ⟨k, hk, rfl, rfl, rfl, rfl, hall, B⟩ := hrel
    have HA := Lib.hid hall
    clear hall
    by_cases hlt : k < q + 1
    · have hd : decide ((k : Int) < (q : Int) + 1) = true := by simp; omega
      obtain ⟨hc0, hmx⟩ := HS.out k hlt
      have hc : wr.cell? ⟨b, off + k, none⟩ = some (.string (ss k)) := (B.cell (p := ⟨b, off + k, none⟩) hbw).trans hc0
      clear hc0
      by_cases hf : (ss k).size ≤ 6000
      · have F : Hid (Ret 24 #[.string (ss k)] (.bool true)) := fun w => toB (few_yes (ss k) w hmx hf)
        have C1 : Hid (Ret 40 #[.int .u64 (chN p ss k : Nat), .string (ss k)] (.int .u64 (chN p ss (k + 1) : Nat))) := fun w => chain_any (chN p ss k) (ss k) w (HL.out k) (by omega)
        have C2 : Hid (Ret 41 #[.int .u64 (chN p ss k : Nat), .string (ss k)] (.int .u64 (chN p ss (k + 1) : Nat))) := fun w => refChain_any (chN p ss k) (ss k) w (HL.out k) (by omega)
        go_wp2_with fail
        refine (F.out _).mono ?_
        rintro e w1 ⟨rfl, b1⟩
        have B1 := Lib.hid (chain0 B b1)
        clear b1 B hc
        go_wp2_with fail
        refine (C1.out _).mono ?_
        rintro e w2 ⟨rfl, b2⟩
        have B2 := Lib.hid (chain0 B1.out b2)
        clear b2 B1
        go_wp2_with fail
        refine (C2.out _).mono ?_
        rintro e w3 ⟨rfl, b3⟩
        have B3 := Lib.hid (chain0 B2.out b3)
        clear b3 B2
        go_wp2_with fail
        go_roundw
        case rel => exact ⟨k + 1, by omega, by go_num, rfl, rfl, rfl, fun j hj => by
          by_cases e : j = k
          · subst e; exact hf
          · exact HA.out j (by omega), B3.out⟩
        case measure => simp [intOf]; omega
      · have F : Hid (Ret 24 #[.string (ss k)] (.bool false)) := fun w => toB (few_no (ss k) w hmx hf)
        go_wp2_with fail
        refine (F.out _).mono ?_
        rintro e w1 ⟨rfl, b1⟩
        have B1 := Lib.hid (chain0 B b1)
        clear b1 B hc
        go_wp2_with fail
        refine (AW.out _).mono ?_
        rintro e w2 ⟨rfl, b2⟩
        have B2 := Lib.hid (chain0 B1.out b2)
        clear b2 B1
        go_wp2_with fail
        go_ret
        exact ⟨rfl, B2.out⟩
    · obtain rfl : k = q + 1 := by omega
      have hd : decide ((q : Int) + 1 < (q : Int) + 1) = false := by simp
      obtain ⟨hc0, _⟩ := HS.out q (by omega)
      have hc : wr.cell? ⟨b, off + q, none⟩ = some (.string (ss q)) := (B.cell (p := ⟨b, off + q, none⟩) hbw).trans hc0
      have hf := HA.out q (by omega)
      clear hc0
      have C1 : Hid (∀ t : ByteArray, t.size ≤ 6000 → Ret 40 #[.int .u64 (lastN p ss (q + 1) : Nat), .string t] (.int .u64 (chain (chN p ss q) t : Nat))) := fun t ht w => chain_any (chN p ss q) t w (HL.out q) (by omega)
      have HQ : Hid (chN p ss (q + 1) = chain (chN p ss q) (ss q)) := rfl
      by_cases ha : at' < 0
      · have d1 : decide (at' < 0) = true := by simp; omega
        (go_wp2_with fail; refine (AW.out _).mono ?_; rintro e w1 ⟨rfl, b1⟩; have B1 := Lib.hid (chain0 B b1); clear b1 B hc; go_wp2_with fail; go_ret; exact ⟨rfl, B1.out⟩)
      · have d1 : decide (at' < 0) = false := by simp; omega
        by_cases hfar : ((ss q).size : Int) ≤ at'
        · have d2 : decide (((ss q).size : Int) ≤ at') = true := by simp; omega
          (go_wp2_with fail; refine (AW.out _).mono ?_; rintro e w1 ⟨rfl, b1⟩; have B1 := Lib.hid (chain0 B b1); clear b1 B hc; go_wp2_with fail; go_ret; exact ⟨rfl, B1.out⟩)
        · have d2 : decide (((ss q).size : Int) ≤ at') = false := by simp; omega
          by_cases hz : m = 0
          · have d3 : ((m : Int) == 0) = true := by simp; omega
            (go_wp2_with fail; refine (AW.out _).mono ?_; rintro e w1 ⟨rfl, b1⟩; have B1 := Lib.hid (chain0 B b1); clear b1 B hc; go_wp2_with fail; go_ret; exact ⟨rfl, B1.out⟩)
          · have d3 : ((m : Int) == 0) = false := by simp; omega
            obtain ⟨k, rfl⟩ := Int.eq_ofNat_of_zero_le (show 0 ≤ at' by omega)
            have hkt : k < (ss q).data.toList.length := by simp; omega
            obtain ⟨x, ex, hne⟩ := xor_byte ((ss q).data.toList[k]) m hm
            have hdiff : ((chain (chN p ss q) (chg (ss q) k x) : Nat) : Int) ≠ ((chN p ss (q + 1) : Nat) : Int) := by
              intro e
              rw [HQ.out] at e
              exact chain_chg (p := chN p ss q) (by simpa using hkt) (hne (by omega)) (by omega)
            have hdf : (((chain (chN p ss q) (chg (ss q) k x) : Nat) : Int) != ((chN p ss (q + 1) : Nat) : Int)) = true := by simpa using hdiff
            have C3 : Hid (Ret 40 #[.int .u64 (lastN p ss (q + 1) : Nat), .string (chg (ss q) k x)] (.int .u64 (chain (chN p ss q) (chg (ss q) k x) : Nat))) := C1.out _ (by rw [chg_size]; omega)
            clear hdiff hne HQ C1
            obtain ⟨cap2, W3, hk, b3, BR, hlt3⟩ := bytes_of wr (ss q)
            have B3 := Lib.hid (chain0 B b3)
            have hbs := B.size
            clear b3
            generalize hgb : wr.heap.size = g at *
            have ck := BR.cell k hkt
            have cf := BR.free k hkt
            have hb5 : BRow (W3.setCell ⟨g, k, none⟩ (.int .u8 (x.toNat : Int))) g ((ss q).data.toList.set k x) := BR.set k hkt x _ rfl
            have hcv2 : (convert 49 9 (.slice (some ⟨g, 0, none⟩) (ss q).size cap2)).run Try.prog (W3.setCell ⟨g, k, none⟩ (.int .u8 (x.toNat : Int))) = .ok (.string (chg (ss q) k x)) (W3.setCell ⟨g, k, none⟩ (.int .u8 (x.toNat : Int))) := hb5.back (ss q).size cap2 (by simp)
            have B5 := Lib.hid ((B3.out).setCell (p := ⟨g, k, none⟩) (by show w.heap.size ≤ g; omega) (.int .u8 (x.toNat : Int)))
            have hkt2 : (k : Int) < ((ss q).size : Int) := by omega
            clear B3 BR hb5 B hgb
            generalize (ss q).data.toList[k] = y at *
            generalize chain (chN p ss q) (chg (ss q) k x) = c1 at *
            generalize chN p ss (q + 1) = c2 at *
            generalize lastN p ss (q + 1) = c3 at *
            generalize chg (ss q) k x = t2 at *
            go_wp2_with fail
            refine (C3.out _).mono ?_
            rintro e w6 ⟨rfl, b6⟩
            have B6 := Lib.hid (chain0 B5.out b6)
            clear b6 B5
            go_wp2_with fail
            refine (AW.out _).mono ?_
            rintro e w7 ⟨rfl, b7⟩
            have B7 := Lib.hid (chain0 B6.out b7)
            clear b7 B6
            go_wp2_with fail
            go_ret
            exact ⟨rfl, B7.out⟩

theorem law_chain (p : Int) (a : Option Addr) (n cap : Nat) (ss : Nat → ByteArray) (at' m : Int) (w : World) (h0 : 0 ≤ p) (h1 : p < 18446744073709551616) (hl : IsStrs w a n cap ss) (m0 : 0 ≤ m) (m1 : m < 256) :
    Calls Try.prog 14 #[.int .u64 p, .slice a n cap, .int .i64 at', .int .u8 m] w fun e w' => e = .returned (.bool true) ∧ Below w.heap.size w w' := by
  obtain ⟨p, rfl⟩ := Int.eq_ofNat_of_zero_le h0
  obtain ⟨m, rfl⟩ := Int.eq_ofNat_of_zero_le m0
  rcases hl with ⟨rfl, _⟩ | ⟨hn, hc, hm, b, off, rfl, hss⟩
  · exact law_chain_nil p a cap at' m w
  · by_cases h : 60 < n
    · exact law_chain_many p _ n cap at' m w h (by omega)
    · obtain ⟨q, rfl⟩ : ∃ q, n = q + 1 := ⟨n - 1, by omega⟩
      exact law_chain_main p b off q cap ss at' m w (by omega) (by omega) hc hm hss (by omega)
end Sum
end Go.Proofs.Ytnnakikhfacnpaa
