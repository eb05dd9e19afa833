/- The law on coverage: walk. -/
import Derived.Test.YtabkaaapkcadhaaLexV
namespace Go.Proofs.Ytabkaaapkcadhaa
open Go.ChangeShapes Go.WideShapes Go.ChangeAt Go.RowKit
namespace Lex
theorem Cov.head {s : ByteArray} {a : Nat} {t : Tok} {l : List Tok} (h : Cov s a (t :: l)) : ∃ k : Nat, a ≤ k ∧ 1 ≤ t.text.size ∧ k + t.text.size ≤ s.size ∧ t.pos = (k : Int) ∧ s.extract k (k + t.text.size) = t.text ∧ (∀ j (h : j < s.size), a ≤ j → j < k → s[j].toNat = 32) ∧ Cov s (k + t.text.size) l := by
  obtain ⟨k, n, ha, hn, hk, hp, ht, hs, hc⟩ := h
  have hz : t.text.size = n := by rw [ht]; simp; omega
  exact ⟨k, ha, by omega, by omega, hp, by rw [hz, ht], hs, by rw [hz]; exact hc⟩
set_option maxHeartbeats 1600000 in
set_option maxRecDepth 100000 in
theorem law_covers_ok (s : ByteArray) (l : List Tok) (w : World) (hr : lex s = .ok l) : Calls Try.prog 6 #[.string s] w fun e w' => e = .returned (.bool true) ∧ Below w.heap.size w w' := by
  have AW := Lib.hid awake_any
  obtain ⟨hs, hcov⟩ := lex_cov hr
  have C1 := Lib.hid fun w => tokens_any s w (by omega)
  have hlen : l.length ≤ 5000 := by
    have := lex_len s (by omega)
    rw [hr] at this
    exact this
  rw [hr] at C1
  have HC := Lib.hid hcov
  clear hr hcov
  have hd : decide ((4000 : Int) < (s.size : Int)) = false := by simp; omega
  go_enter Try.func6, Try.ntmps6
  go_wp2_with fail
  refine (C1.out _).mono ?_
  rintro e w1 ⟨v1, rfl, o1, b1⟩
  have he : LexErr (Except.ok l) = 0 := rfl
  have hll : LexToks (Except.ok l) = l := rfl
  rw [hll] at o1
  rw [he]
  clear he hll
  obtain ⟨A, c, rfl, hc, hm, hrow⟩ := own_scan o1
  have HM := Lib.hid hm
  have HR : Hid (0 < l.length → ∃ b o cs, A = some ⟨b, o, none⟩ ∧ Blk w1 b 33 cs ∧ TokRow w1 b o l) := hrow
  have B1 := Lib.hid b1
  clear hm hrow o1 b1
  go_wp2_with fail
  go_loopw [5, 23] (fun p i wr => ∃ k a : Nat, k ≤ l.length ∧ a ≤ s.size ∧ i = .int .i64 (k : Int) ∧ p = .int .i64 (a : Int) ∧ Hid (Cov s a (l.drop k)) ∧ Hid (Below w1.heap.size w1 wr)) (fun _ i _ => l.length - (intOf i).toNat)
  case atStart => exact ⟨0, 0, by omega, by omega, rfl, rfl, by rw [List.drop_zero]; exact HC, Below.refl _ _⟩
  case round =>
    obtain ⟨k, a, hk, ha, rfl, rfl, HV, HB⟩ := hrel
    by_cases hlt : k < l.length
    · have hdk : decide ((k : Int) < (l.length : Int)) = true := by simp; omega
      have hi0 : (0 : Int) ≤ (k : Int) := by omega
      obtain ⟨b, o, cs, rfl, hb, hrr⟩ := HR.out (by omega)
      have hbl := hb.lt
      have et := hrr.at_ k hlt
      simp only [← HB.out.cell (p := ⟨b, _, none⟩) hbl] at et
      have hbr : b < wr.heap.size := by have := HB.out.size; omega
      have hv := HV.out
      rw [List.drop_eq_getElem_cons hlt] at hv
      obtain ⟨q, haq, hn1, hn2, hp, hx, hsp, hc2⟩ := hv.head
      rw [hp] at et
      generalize l[k] = t at *
      obtain ⟨tk, tt, tv, tp⟩ := t
      dsimp only at et hn1 hn2 hx hc2
      have HS := Lib.hid hsp
      have HC2 := Lib.hid hc2
      have h1 := bytes_ne_nil (s := tt) (by omega)
      have h2 := bytes_isEmpty (s := tt) (by omega)
      have d1 : decide ((q : Int) < (a : Int)) = false := by simp; omega
      have d2 : decide ((s.size : Int) < (q : Int)) = false := by simp; omega
      have d1n : decide (q < a) = false := by simp; omega
      have d2n : decide (s.size < q) = false := by simp; omega
      have d3 : decide ((s.size : Int) - (q : Int) < (tt.size : Int)) = false := by simp; omega
      have i1 : IntKind.i64.wrap ((q : Int) + (tt.size : Int)) = (q : Int) + (tt.size : Int) := IntWalk.i64_in _ (by omega)
      have i2 : ((q : Int) + (tt.size : Int)).toNat = q + tt.size := by omega
      have i3 : (0 : Int) ≤ (q : Int) + (tt.size : Int) := by omega
      have i4 : (q : Int) ≤ (q : Int) + (tt.size : Int) := by omega
      have i5 : (q : Int) + (tt.size : Int) ≤ (s.size : Int) := by omega
      have i6 : q ≤ q + tt.size := by omega
      have i7 : IntKind.i64.wrap ((s.size : Int) - (q : Int)) = (s.size : Int) - (q : Int) := IntWalk.i64_in _ (by omega)
      have hbs := HB.out.size
      clear hsp hc2 hp hv hb hrr
      go_wp2_with fail
      go_quiet (fail)
      have kq : Blk ((wr.alloc (.cells #[.int .i64 tk, .string tt, .int .i64 tv, .int .i64 (q : Int)] 33)).drewN nq) wr.heap.size 33 #[.int .i64 tk, .string tt, .int .i64 tv, .int .i64 (q : Int)] := (Blk.new _ _ _).drewN nq
      have bq : Below w1.heap.size w1 ((wr.alloc (.cells #[.int .i64 tk, .string tt, .int .i64 tv, .int .i64 (q : Int)] 33)).drewN nq) := chain0 HB.out ((below_new _ _).trans ((drewN_below _ nq).mono (by simp)))
      generalize (wr.alloc (.cells #[.int .i64 tk, .string tt, .int .i64 tv, .int .i64 (q : Int)] 33)).drewN nq = wq at *
      have dq := kq.c4
      have lq := kq.lt
      have BQ := Lib.hid bq
      clear bq kq et HB hx h1 h2 hbs
      go_wp2_with fail
      go_loop [5] (fun p => ∃ j : Nat, a ≤ j ∧ j ≤ q ∧ p = .int .i64 (j : Int)) (fun p => q - (intOf p).toNat)
      case atStart => exact ⟨a, by omega, haq, rfl⟩
      case round =>
        obtain ⟨j, hj1, hj2, rfl⟩ := hrel
        by_cases hjl : j < q
        · have djl : decide ((j : Int) < (q : Int)) = true := by simp; omega
          have hjs : j < s.size := by omega
          have h32 := HS.out j hjs hj1 hjl
          have hne : ((s[j].toNat : Int) != 32) = false := by rw [h32]; rfl
          have hjb := s[j].toNat_lt
          clear h32
          go_wp2_with fail
          go_round
          case rel => exact ⟨j + 1, by omega, by omega, by go_num⟩
          case measure => simp [intOf]; omega
        · obtain rfl : j = q := by omega
          have djl : decide ((j : Int) < (j : Int)) = false := by simp
          go_wp2_with fail
          go_roundw
          case rel => exact ⟨k + 1, j + tt.size, by omega, by omega, by go_num, by go_num, HC2, BQ⟩
          case measure => simp [intOf]; omega
    · obtain rfl : k = l.length := by omega
      have hdk : decide ((l.length : Int) < (l.length : Int)) = false := by simp
      have hv := HV.out
      rw [List.drop_length] at hv
      have HS := Lib.hid (show ∀ j (h : j < s.size), a ≤ j → s[j].toNat = 32 from hv)
      clear hv HV
      go_wp2_with fail
      go_loop [5] (fun p => ∃ j : Nat, a ≤ j ∧ j ≤ s.size ∧ p = .int .i64 (j : Int)) (fun p => s.size - (intOf p).toNat)
      case atStart => exact ⟨a, by omega, by omega, rfl⟩
      case round =>
        obtain ⟨j, hj1, hj2, rfl⟩ := hrel
        by_cases hjs : j < s.size
        · have djl : decide ((j : Int) < (s.size : Int)) = true := by simp; omega
          have h32 := HS.out j hjs hj1
          have hne : ((s[j].toNat : Int) != 32) = false := by rw [h32]; rfl
          have hjb := s[j].toNat_lt
          clear h32
          go_wp2_with fail
          go_round
          case rel => exact ⟨j + 1, by omega, by omega, by go_num⟩
          case measure => simp [intOf]; omega
        · obtain rfl : j = s.size := by omega
          have djl : decide ((s.size : Int) < (s.size : Int)) = false := by simp
          go_wp2_with fail
          refine (AW.out _).mono ?_
          rintro e w4 ⟨rfl, b4⟩
          have B4 := Lib.hid (chain0 (B1.out.trans (HB.out.mono B1.out.size)) b4)
          clear b4
          go_wp2_with fail
          go_ret
          exact ⟨rfl, B4.out⟩
theorem law_covers (s : ByteArray) (w : World) (hs : s.size ≤ maxLen) : Calls Try.prog 6 #[.string s] w fun e w' => e = .returned (.bool true) ∧ Below w.heap.size w w' := by
  cases hr : lex s with
  | ok l => exact law_covers_ok s l w hr
  | error x =>
    have AW := Lib.hid awake_any
    have C1 : Hid (∀ w, Calls Try.prog 16 #[.string s] w (TokPost 33 (.error x) w)) := fun w => by
      rw [← hr]
      by_cases h : 4000 < s.size
      · exact tokens_long s w hs h
      · exact tokens_short s w (by omega)
    have hx0 : (x != 0) = true := by
      have := lex_err hr
      simp
      omega
    unfold maxLen at hs
    have he : LexErr (Except.error x) = x := rfl
    by_cases h4 : 4000 < s.size
    · have hd : decide ((4000 : Int) < (s.size : Int)) = true := by simp; omega
      clear hr
      go_enter Try.func6, Try.ntmps6
      go_wp2_with fail
      refine (C1.out _).mono ?_
      rintro e w1 ⟨v1, rfl, o1, b1⟩
      rw [he]
      have B1 := Lib.hid b1
      clear o1 b1 he
      go_wp2_with fail
      refine (AW.out _).mono ?_
      rintro e w4 ⟨rfl, b4⟩
      have B4 := Lib.hid (chain0 B1.out b4)
      clear b4
      go_wp2_with fail
      go_ret
      exact ⟨rfl, B4.out⟩
    · have hd : decide ((4000 : Int) < (s.size : Int)) = false := by simp; omega
      clear hr
      go_enter Try.func6, Try.ntmps6
      go_wp2_with fail
      refine (C1.out _).mono ?_
      rintro e w1 ⟨v1, rfl, o1, b1⟩
      rw [he]
      have B1 := Lib.hid b1
      clear o1 b1 he
      go_wp2_with fail
      refine (AW.out _).mono ?_
      rintro e w4 ⟨rfl, b4⟩
      have B4 := Lib.hid (chain0 B1.out b4)
      clear b4
      go_wp2_with fail
      go_ret
      exact ⟨rfl, B4.out⟩
end Lex
end Go.Proofs.Ytabkaaapkcadhaa
