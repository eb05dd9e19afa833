/- The program's fraction.Ceil, Sign and amount.Up. -/
import Derived.Test.YtfopmaeaclbknaaDoorFp1
namespace Go.Proofs.YtfopmaeaclbknaaDoor
open Go.ChangeShapes Go.WideShapes Go.ChangeAt Go.RowKit
set_option linter.unusedVariables false
set_option linter.unusedSimpArgs false
namespace Fr
section
variable (A1 A2 : Option Addr) (c1 c2 n d : Nat) (w : World)
theorem nceil_pos (hln : (digs n).length ≤ 40000) (hld : (digs d).length ≤ 40000) (hd0 : d ≠ 0) (hn : NS w (.slice A1 (digs n).length c1) (digs n)) (hd : NS w (.slice A2 (digs d).length c2) (digs d)) : Calls Tryd.prog 54 #[.agg #[.bool false, .slice A1 (digs n).length c1, .slice A2 (digs d).length c2]] w (CeilPost n d w) := by
  have CR := Lib.hid (fun w' (b : Below w.heap.size w w') => nround_pos A1 A2 c1 c2 n d w' hln hld hd0 (hn.keep b) (hd.keep b))
  clear hn hd hln hld hd0
  go_enter Tryd.func54, Tryd.ntmps54
  go_wp2_with fail
  refine (CR.out _ (below_new w _)).mono ?_
  rintro e w1 ⟨v, b, ⟨rfl, b1⟩, h1, h2⟩
  have HC : Hid ((ceilN n d < 9223372036854775808 → v = ((ceilN n d : Nat) : Int) ∧ b = true) ∧ (9223372036854775808 ≤ ceilN n d → v = 0 ∧ b = false)) := ⟨h1, h2⟩
  have B1 := Lib.hid (chain1 (Below.refl _ _) b1)
  clear h1 h2 b1
  go_wp2_with fail
  go_ret2
  exact ⟨_, _, ⟨rfl, B1.out⟩, HC.out⟩
theorem nceil_neg (hln : (digs n).length ≤ 40000) (hld : (digs d).length ≤ 40000) (hd0 : d ≠ 0) (hn : NS w (.slice A1 (digs n).length c1) (digs n)) (hd : NS w (.slice A2 (digs d).length c2) (digs d)) : Calls Tryd.prog 54 #[.agg #[.bool true, .slice A1 (digs n).length c1, .slice A2 (digs d).length c2]] w (SomePost w) := by
  have CR := Lib.hid (fun w' (b : Below w.heap.size w w') => nround_neg A1 A2 c1 c2 n d w' hln hld hd0 (hn.keep b) (hd.keep b))
  clear hn hd hln hld hd0
  go_enter Tryd.func54, Tryd.ntmps54
  go_wp2_with fail
  refine (CR.out _ (below_new w _)).mono ?_
  rintro e w1 ⟨v, b, rfl, b1⟩
  have B1 := Lib.hid (chain1 (Below.refl _ _) b1)
  clear b1
  go_wp2_with fail
  go_ret2
  exact ⟨_, _, rfl, B1.out⟩
theorem nsign_pos (n' : Nat) (v2 : Value) : Calls Tryd.prog 55 #[.agg #[.bool false, .slice A1 n' c1, v2]] w fun e w' => (∃ s : Int, 0 ≤ s ∧ e = .returned (.int .i64 s)) ∧ Below w.heap.size w w' := by
  by_cases h : n' = 0
  · subst h
    have B1 : Hid (Below w.heap.size w (w.alloc (.cells #[.bool false, .slice A1 0 c1, v2] 38))) := below_new w _
    go_enter Tryd.func55, Tryd.ntmps55
    go_wp2_with fail
    go_ret
    exact ⟨⟨0, by omega, rfl⟩, B1.out⟩
  · have q : ((n' : Int) == 0) = false := beq_eq_false_iff_ne.2 (by omega)
    have B1 : Hid (Below w.heap.size w (w.alloc (.cells #[.bool false, .slice A1 n' c1, v2] 38))) := below_new w _
    clear h
    go_enter Tryd.func55, Tryd.ntmps55
    go_wp2_with fail
    go_ret
    exact ⟨⟨1, by omega, rfl⟩, B1.out⟩
theorem nsign_neg (n' : Nat) (v2 : Value) (h : n' ≠ 0) : Calls Tryd.prog 55 #[.agg #[.bool true, .slice A1 n' c1, v2]] w fun e w' => e = .returned (.int .i64 (-1)) ∧ Below w.heap.size w w' := by
  have q : ((n' : Int) == 0) = false := beq_eq_false_iff_ne.2 (by omega)
  have B1 : Hid (Below w.heap.size w (w.alloc (.cells #[.bool true, .slice A1 n' c1, v2] 38))) := below_new w _
  clear h
  go_enter Tryd.func55, Tryd.ntmps55
  go_wp2_with fail
  go_ret
  exact ⟨rfl, B1.out⟩
/-- what Up answers -/
def UpPost (neg : Bool) (n d : Nat) (w : World) (e : Ending) (w' : World) : Prop := e = .returned (.tuple (if neg = false ∧ ceilN n d ≤ 1000000 then #[.int .i64 ((ceilN n d : Nat) : Int), .int .i64 0] else #[.int .i64 0, .int .i64 4])) ∧ Below w.heap.size w w'
end
set_option maxHeartbeats 1000000 in
theorem nup_pos (A1 A2 : Option Addr) (c1 c2 n d : Nat) (w : World) (hln : (digs n).length ≤ 40000) (hld : (digs d).length ≤ 40000) (hd0 : d ≠ 0) (hn : NS w (.slice A1 (digs n).length c1) (digs n)) (hd : NS w (.slice A2 (digs d).length c2) (digs d)) : Calls Tryd.prog 25 #[.agg #[.bool false, .slice A1 (digs n).length c1, .slice A2 (digs d).length c2]] w (UpPost false n d w) := by
  have CC := Lib.hid (fun w' (b : Below w.heap.size w w') => nceil_pos A1 A2 c1 c2 n d w' hln hld hd0 (hn.keep b) (hd.keep b))
  have CS := Lib.hid (fun w' => nsign_pos A1 c1 w' (digs n).length (.slice A2 (digs d).length c2))
  have K0 : Hid (Blk (w.alloc (.cells #[.bool false, .slice A1 (digs n).length c1, .slice A2 (digs d).length c2] 38)) w.heap.size 38 #[.bool false, .slice A1 (digs n).length c1, .slice A2 (digs d).length c2]) := Blk.new w _ _
  have B0 : Hid (Below w.heap.size w (w.alloc (.cells #[.bool false, .slice A1 (digs n).length c1, .slice A2 (digs d).length c2] 38))) := below_new w _
  clear hn hd hln hld hd0
  go_enter Tryd.func25, Tryd.ntmps25
  go_upto_region 1 with fail
  generalize w.alloc (.cells #[.bool false, .slice A1 (digs n).length c1, .slice A2 (digs d).length c2] 38) = w1 at *
  have k1 := K0.out.c3
  go_wp2_with fail
  refine (CC.out _ B0.out).mono ?_
  rintro e w2 ⟨v, b, ⟨rfl, b2⟩, h1, h2⟩
  have B2 := Lib.hid (chain0 B0.out b2)
  have k2 := (K0.out.below' b2).c3
  clear b2 k1
  by_cases hbig : 9223372036854775808 ≤ ceilN n d
  · obtain ⟨rfl, rfl⟩ := h2 hbig
    have HE : Hid (UpPost false n d w (.returned (.tuple #[.int .i64 0, .int .i64 4])) w2) := ⟨by rw [if_neg (by omega)], B2.out⟩
    clear h1 h2 hbig
    go_wp2_with fail
    go_ret2
    exact HE.out
  · obtain ⟨rfl, rfl⟩ := h1 (by omega)
    by_cases hok : ceilN n d ≤ 1000000
    · have CI := Lib.hid (fun w => So.is_yes ((ceilN n d : Nat) : Int) w (by omega) (by omega))
      have HE : Hid (∀ w', Below w.heap.size w w' → UpPost false n d w (.returned (.tuple #[.int .i64 ((ceilN n d : Nat) : Int), .int .i64 0])) w') := fun w' b => ⟨by rw [if_pos ⟨rfl, hok⟩], b⟩
      clear h1 h2 hbig hok
      generalize ceilN n d = c at *
      go_wp2_with fail
      refine (CS.out _).mono ?_
      rintro e w3 ⟨⟨s, hs, rfl⟩, b3⟩
      have B3 := Lib.hid (chain0 B2.out b3)
      have hd1 : decide (s < 0) = false := decide_eq_false (by omega)
      clear b3 hs
      go_wp2_with fail
      refine (CI.out _).mono ?_
      rintro e w4 ⟨rfl, rfl⟩
      go_wp2_with fail
      go_ret2
      exact HE.out _ B3.out
    · have CI := Lib.hid (fun w => So.is_no ((ceilN n d : Nat) : Int) w (by omega))
      have HE : Hid (∀ w', Below w.heap.size w w' → UpPost false n d w (.returned (.tuple #[.int .i64 0, .int .i64 4])) w') := fun w' b => ⟨by rw [if_neg (by omega)], b⟩
      clear h1 h2 hbig hok
      generalize ceilN n d = c at *
      go_wp2_with fail
      refine (CS.out _).mono ?_
      rintro e w3 ⟨⟨s, hs, rfl⟩, b3⟩
      have B3 := Lib.hid (chain0 B2.out b3)
      have hd1 : decide (s < 0) = false := decide_eq_false (by omega)
      clear b3 hs
      go_wp2_with fail
      refine (CI.out _).mono ?_
      rintro e w4 ⟨rfl, rfl⟩
      go_wp2_with fail
      go_ret2
      exact HE.out _ B3.out
set_option maxHeartbeats 1000000 in
theorem nup_neg (A1 A2 : Option Addr) (c1 c2 n d : Nat) (w : World) (hln : (digs n).length ≤ 40000) (hld : (digs d).length ≤ 40000) (hd0 : d ≠ 0) (hn0 : n ≠ 0) (hn : NS w (.slice A1 (digs n).length c1) (digs n)) (hd : NS w (.slice A2 (digs d).length c2) (digs d)) : Calls Tryd.prog 25 #[.agg #[.bool true, .slice A1 (digs n).length c1, .slice A2 (digs d).length c2]] w (UpPost true n d w) := by
  have CC := Lib.hid (fun w' (b : Below w.heap.size w w') => nceil_neg A1 A2 c1 c2 n d w' hln hld hd0 (hn.keep b) (hd.keep b))
  have hl := digs_pos_len hn0
  have CS := Lib.hid (fun w' => nsign_neg A1 c1 w' (digs n).length (.slice A2 (digs d).length c2) (by omega))
  have K0 : Hid (Blk (w.alloc (.cells #[.bool true, .slice A1 (digs n).length c1, .slice A2 (digs d).length c2] 38)) w.heap.size 38 #[.bool true, .slice A1 (digs n).length c1, .slice A2 (digs d).length c2]) := Blk.new w _ _
  have B0 : Hid (Below w.heap.size w (w.alloc (.cells #[.bool true, .slice A1 (digs n).length c1, .slice A2 (digs d).length c2] 38))) := below_new w _
  have HE : Hid (∀ w', Below w.heap.size w w' → UpPost true n d w (.returned (.tuple #[.int .i64 0, .int .i64 4])) w') := fun w' b => ⟨by rw [if_neg (by simp)], b⟩
  clear hn hd hln hld hd0 hn0 hl
  go_enter Tryd.func25, Tryd.ntmps25
  go_upto_region 1 with fail
  generalize w.alloc (.cells #[.bool true, .slice A1 (digs n).length c1, .slice A2 (digs d).length c2] 38) = w1 at *
  have k1 := K0.out.c3
  go_wp2_with fail
  refine (CC.out _ B0.out).mono ?_
  rintro e w2 ⟨v, b, rfl, b2⟩
  have B2 := Lib.hid (chain0 B0.out b2)
  have k2 := (K0.out.below' b2).c3
  clear b2 k1
  cases b
  · go_wp2_with fail
    go_ret2
    exact HE.out _ B2.out
  · go_wp2_with fail
    refine (CS.out _).mono ?_
    rintro e w3 ⟨rfl, b3⟩
    have B3 := Lib.hid (chain0 B2.out b3)
    clear b3
    go_wp2_with fail
    go_ret2
    exact HE.out _ B3.out
end Fr
end Go.Proofs.YtfopmaeaclbknaaDoor
