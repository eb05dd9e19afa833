/- The law AmountUps: the walk. Printed by gen_am6.py. The law AmountUps, whole. -/
import Derived.Test.YtfopmaeaclbknaaDoorAm5
import Derived.Test.YtfopmaeaclbknaaDoorFvB
import Derived.Deep.RegionHeld3
import Derived.BigQuiet
namespace Go.Proofs.YtfopmaeaclbknaaDoor
open Go.ChangeShapes Go.WideShapes Go.ChangeAt Go.RowKit Fr
set_option linter.unusedVariables false
set_option linter.unusedSimpArgs false
namespace Am
attribute [local go_sem] later_cell
theorem ups_long1 (s : Bool) (A1 A2 : Option Addr) (c1 c2 : Nat) (l1 l2 : List Nat) (w : World) (ht : Tab w) (hn : NS w (.slice A1 l1.length c1) l1) (hd : NS w (.slice A2 l2.length c2) l2) (hl : 20 < l1.length) : Calls Tryd.prog 7 #[.agg #[.bool s, .slice A1 l1.length c1, .slice A2 l2.length c2]] w (LawPost w) := by
  have q1 : decide ((20 : Int) < (l1.length : Int)) = true := decide_eq_true (by omega)
  have q2 : decide (20 < l1.length) = true := decide_eq_true hl
  have K0 : Hid (Blk (w.alloc (.cells #[.bool s, .slice A1 l1.length c1, .slice A2 l2.length c2] 38)) w.heap.size 38 #[.bool s, .slice A1 l1.length c1, .slice A2 l2.length c2]) := Blk.new w _ _
  have B0 : Hid (Below w.heap.size w (w.alloc (.cells #[.bool s, .slice A1 l1.length c1, .slice A2 l2.length c2] 38))) := below_new w _
  have CW := Lib.hid (fun w' (b : Below w.heap.size w w') => awake_any w' (ht.keep b))
  clear ht hn hd hl
  go_enter Tryd.func7, Tryd.ntmps7
  go_upto_region 1 with fail
  generalize w.alloc (.cells #[.bool s, .slice A1 l1.length c1, .slice A2 l2.length c2] 38) = w1 at *
  have k1 := K0.out.c3
  go_wp2_with fail
  refine (CW.out _ B0.out).mono ?_
  rintro e w9 ⟨rfl, b9⟩
  have B9 := Lib.hid (chain0 B0.out b9)
  clear b9
  go_wp2_with fail
  go_ret
  exact ⟨rfl, B9.out⟩
theorem ups_long2 (s : Bool) (A1 A2 : Option Addr) (c1 c2 : Nat) (l1 l2 : List Nat) (w : World) (ht : Tab w) (hn : NS w (.slice A1 l1.length c1) l1) (hd : NS w (.slice A2 l2.length c2) l2) (hl : l1.length ≤ 20) (hl2 : 20 < l2.length) : Calls Tryd.prog 7 #[.agg #[.bool s, .slice A1 l1.length c1, .slice A2 l2.length c2]] w (LawPost w) := by
  have q1 : decide ((20 : Int) < (l1.length : Int)) = false := decide_eq_false (by omega)
  have q2 : decide (20 < l1.length) = false := decide_eq_false (by omega)
  have q3 : decide ((20 : Int) < (l2.length : Int)) = true := decide_eq_true (by omega)
  have q4 : decide (20 < l2.length) = true := decide_eq_true hl2
  have K0 : Hid (Blk (w.alloc (.cells #[.bool s, .slice A1 l1.length c1, .slice A2 l2.length c2] 38)) w.heap.size 38 #[.bool s, .slice A1 l1.length c1, .slice A2 l2.length c2]) := Blk.new w _ _
  have B0 : Hid (Below w.heap.size w (w.alloc (.cells #[.bool s, .slice A1 l1.length c1, .slice A2 l2.length c2] 38))) := below_new w _
  have CW := Lib.hid (fun w' (b : Below w.heap.size w w') => awake_any w' (ht.keep b))
  clear ht hn hd hl hl2
  go_enter Tryd.func7, Tryd.ntmps7
  go_upto_region 1 with fail
  generalize w.alloc (.cells #[.bool s, .slice A1 l1.length c1, .slice A2 l2.length c2] 38) = w1 at *
  have k1 := K0.out.c3
  go_wp2_with fail
  refine (CW.out _ B0.out).mono ?_
  rintro e w9 ⟨rfl, b9⟩
  have B9 := Lib.hid (chain0 B0.out b9)
  clear b9
  go_wp2_with fail
  go_ret
  exact ⟨rfl, B9.out⟩
theorem ups_bad (s : Bool) (A1 A2 : Option Addr) (c1 c2 : Nat) (l1 l2 : List Nat) (w : World) (ht : Tab w) (hn : NS w (.slice A1 l1.length c1) l1) (hd : NS w (.slice A2 l2.length c2) l2) (hl1 : l1.length ≤ 20) (hl2 : l2.length ≤ 20)
    (CV : ∀ w', Below w.heap.size w w' → Calls Tryd.prog 24 #[.agg #[.bool s, .slice A1 l1.length c1, .slice A2 l2.length c2]] w' fun e w'' => e = .returned (.bool false) ∧ Below w'.heap.size w' w'') : Calls Tryd.prog 7 #[.agg #[.bool s, .slice A1 l1.length c1, .slice A2 l2.length c2]] w (LawPost w) := by
  have q1 : decide ((20 : Int) < (l1.length : Int)) = false := decide_eq_false (by omega)
  have q2 : decide (20 < l1.length) = false := decide_eq_false (by omega)
  have q3 : decide ((20 : Int) < (l2.length : Int)) = false := decide_eq_false (by omega)
  have q4 : decide (20 < l2.length) = false := decide_eq_false (by omega)
  have K0 : Hid (Blk (w.alloc (.cells #[.bool s, .slice A1 l1.length c1, .slice A2 l2.length c2] 38)) w.heap.size 38 #[.bool s, .slice A1 l1.length c1, .slice A2 l2.length c2]) := Blk.new w _ _
  have B0 : Hid (Below w.heap.size w (w.alloc (.cells #[.bool s, .slice A1 l1.length c1, .slice A2 l2.length c2] 38))) := below_new w _
  have CW := Lib.hid (fun w' (b : Below w.heap.size w w') => awake_any w' (ht.keep b))
  replace CV := Lib.hid CV
  clear ht hn hd hl1 hl2
  go_enter Tryd.func7, Tryd.ntmps7
  go_upto_region 1 with fail
  generalize w.alloc (.cells #[.bool s, .slice A1 l1.length c1, .slice A2 l2.length c2] 38) = w1 at *
  have k1 := K0.out.c3
  go_wp2_with fail
  refine (CV.out _ B0.out).mono ?_
  rintro e w2 ⟨rfl, d2⟩
  have B2 := Lib.hid (chain0 B0.out d2)
  clear d2 k1
  go_wp2_with fail
  refine (CW.out _ B2.out).mono ?_
  rintro e w9 ⟨rfl, b9⟩
  have B9 := Lib.hid (chain0 B2.out b9)
  clear b9
  go_wp2_with fail
  go_ret
  exact ⟨rfl, B9.out⟩
set_option maxHeartbeats 1000000 in
theorem ups_err (s : Bool) (A1 A2 : Option Addr) (c1 c2 n d : Nat) (w : World) (ht : Tab w) (hl1 : (digs n).length ≤ 20) (hl2 : (digs d).length ≤ 20) (hn : NS w (.slice A1 (digs n).length c1) (digs n)) (hd : NS w (.slice A2 (digs d).length c2) (digs d)) (CV : ∀ w', Below w.heap.size w w' → Calls Tryd.prog 24 #[.agg #[.bool s, .slice A1 (digs n).length c1, .slice A2 (digs d).length c2]] w' fun e w'' => ∃ b, e = .returned (.bool b) ∧ Below w'.heap.size w' w'') (CU : ∀ w', Below w.heap.size w w' → Calls Tryd.prog 25 #[.agg #[.bool s, .slice A1 (digs n).length c1, .slice A2 (digs d).length c2]] w' fun e w'' => e = .returned (.tuple #[.int .i64 0, .int .i64 4]) ∧ Below w'.heap.size w' w'') (CR : ∀ w', Below w.heap.size w w' → Calls Tryd.prog 26 #[.agg #[.bool s, .slice A1 (digs n).length c1, .slice A2 (digs d).length c2]] w' fun e w'' => e = .returned (.tuple #[.int .i64 0, .int .i64 4]) ∧ Below w'.heap.size w' w'') : Calls Tryd.prog 7 #[.agg #[.bool s, .slice A1 (digs n).length c1, .slice A2 (digs d).length c2]] w (LawPost w) := by
  have q1 : decide ((20 : Int) < ((digs n).length : Int)) = false := decide_eq_false (by omega)
  have q2 : decide (20 < (digs n).length) = false := decide_eq_false (by omega)
  have q3 : decide ((20 : Int) < ((digs d).length : Int)) = false := decide_eq_false (by omega)
  have q4 : decide (20 < (digs d).length) = false := decide_eq_false (by omega)
  have K0 : Hid (Blk (w.alloc (.cells #[.bool s, .slice A1 (digs n).length c1, .slice A2 (digs d).length c2] 38)) w.heap.size 38 #[.bool s, .slice A1 (digs n).length c1, .slice A2 (digs d).length c2]) := Blk.new w _ _
  have B0 : Hid (Below w.heap.size w (w.alloc (.cells #[.bool s, .slice A1 (digs n).length c1, .slice A2 (digs d).length c2] 38))) := below_new w _
  have CW := Lib.hid (fun w' (b : Below w.heap.size w w') => awake_any w' (ht.keep b))
  replace CV := Lib.hid CV
  replace CU := Lib.hid CU
  replace CR := Lib.hid CR
  clear ht hn hd hl1 hl2
  go_enter Tryd.func7, Tryd.ntmps7
  go_upto_region 1 with fail
  generalize w.alloc (.cells #[.bool s, .slice A1 (digs n).length c1, .slice A2 (digs d).length c2] 38) = w1 at *
  have k1 := K0.out.c3
  go_wp2_with fail
  refine (CV.out _ B0.out).mono ?_
  rintro e w2 ⟨b, rfl, d2⟩
  have B2 := Lib.hid (chain0 B0.out d2)
  have K2 := Lib.hid (K0.out.below' d2)
  clear d2 k1
  cases b
  · go_wp2_with fail
    refine (CW.out _ B2.out).mono ?_
    rintro e w9 ⟨rfl, b9⟩
    have B9 := Lib.hid (chain0 B2.out b9)
    clear b9
    go_wp2_with fail
    go_ret
    exact ⟨rfl, B9.out⟩
  have k2 := K2.out.c3
  go_wp2_with fail
  refine (CU.out _ B2.out).mono ?_
  rintro e w3 ⟨rfl, d3⟩
  have B3 := Lib.hid (chain0 B2.out d3)
  have K3 := Lib.hid (K2.out.below' d3)
  have k3 := K3.out.c3
  clear d3 k2
  go_wp2_with fail
  refine (CR.out _ B3.out).mono ?_
  rintro e w4 ⟨rfl, d4⟩
  have B4 := Lib.hid (chain0 B3.out d4)
  have K4 := Lib.hid (K3.out.below' d4)
  have k4 := K4.out.c3
  clear d4 k3
  have AW := Lib.hid (fun x => CW.out (later w4 x) (chain0 B4.out (later_below w4 x)))
  go_wp2_with fail
  refine wp_region_later (by kernel_rfl) (by kernel_rfl) ?_
  repeat (first | go_big_quiet_step ((go_at_call 14; exact calls_later (AW.out _))) | quiet_step ((go_at_call 14; exact calls_later (AW.out _))))
  refine wpQuiet_nil ?_
  rintro _ ⟨x, rfl⟩
  go_wp2_with fail
  go_ret
  exact ⟨rfl, chain0 B4.out (later_below _ _)⟩
set_option maxHeartbeats 2000000 in
set_option maxRecDepth 20000 in
theorem ups_val (c : Nat) (m : Int) (sm : Bool) (mn : Nat) (A1 A2 : Option Addr) (c1 c2 n d : Nat) (w : World) (ht : Tab w) (hl1 : (digs n).length ≤ 20) (hl2 : (digs d).length ≤ 20) (hn : NS w (.slice A1 (digs n).length c1) (digs n)) (hd : NS w (.slice A2 (digs d).length c2) (digs d)) (hc : c ≤ 1000000) (hm : m = (c : Int) - 1) (CV : ∀ w', Below w.heap.size w w' → Calls Tryd.prog 24 #[.agg #[.bool false, .slice A1 (digs n).length c1, .slice A2 (digs d).length c2]] w' fun e w'' => ∃ b, e = .returned (.bool b) ∧ Below w'.heap.size w' w'') (CU : ∀ w', Below w.heap.size w w' → Calls Tryd.prog 25 #[.agg #[.bool false, .slice A1 (digs n).length c1, .slice A2 (digs d).length c2]] w' fun e w'' => e = .returned (.tuple #[.int .i64 (c : Int), .int .i64 0]) ∧ Below w'.heap.size w' w'') (CR : ∀ w', Below w.heap.size w w' → Calls Tryd.prog 26 #[.agg #[.bool false, .slice A1 (digs n).length c1, .slice A2 (digs d).length c2]] w' fun e w'' => e = .returned (.tuple #[.int .i64 (c : Int), .int .i64 0]) ∧ Below w'.heap.size w' w'')
    (CF1 : ∀ w', Calls Tryd.prog 28 #[.int .i64 (c : Int)] w' (FracPost false c 1 w')) (CF2 : ∀ w', Calls Tryd.prog 28 #[.int .i64 m] w' (FracPost sm mn 1 w'))
    (CH : ∀ (A3 A4 : Option Addr) (c3 c4 : Nat) (w' : World), Below w.heap.size w w' → NS w' (.slice A3 (digs c).length c3) (digs c) → NS w' (.slice A4 (digs 1).length c4) (digs 1) → Calls Tryd.prog 27 #[.agg #[.bool false, .slice A3 (digs c).length c3, .slice A4 (digs 1).length c4], .agg #[.bool false, .slice A1 (digs n).length c1, .slice A2 (digs d).length c2]] w' fun e w'' => (∃ z : Int, e = .returned (.int .i64 z) ∧ 0 ≤ z) ∧ Below w'.heap.size w' w'')
    (CL : ∀ (A3 A4 : Option Addr) (c3 c4 : Nat) (w' : World), Below w.heap.size w w' → NS w' (.slice A3 (digs mn).length c3) (digs mn) → NS w' (.slice A4 (digs 1).length c4) (digs 1) → Calls Tryd.prog 27 #[.agg #[.bool sm, .slice A3 (digs mn).length c3, .slice A4 (digs 1).length c4], .agg #[.bool false, .slice A1 (digs n).length c1, .slice A2 (digs d).length c2]] w' fun e w'' => e = .returned (.int .i64 (-1)) ∧ Below w'.heap.size w' w'') : Calls Tryd.prog 7 #[.agg #[.bool false, .slice A1 (digs n).length c1, .slice A2 (digs d).length c2]] w (LawPost w) := by
  have q1 : decide ((20 : Int) < ((digs n).length : Int)) = false := decide_eq_false (by omega)
  have q2 : decide (20 < (digs n).length) = false := decide_eq_false (by omega)
  have q3 : decide ((20 : Int) < ((digs d).length : Int)) = false := decide_eq_false (by omega)
  have q4 : decide (20 < (digs d).length) = false := decide_eq_false (by omega)
  have K0 : Hid (Blk (w.alloc (.cells #[.bool false, .slice A1 (digs n).length c1, .slice A2 (digs d).length c2] 38)) w.heap.size 38 #[.bool false, .slice A1 (digs n).length c1, .slice A2 (digs d).length c2]) := Blk.new w _ _
  have B0 : Hid (Below w.heap.size w (w.alloc (.cells #[.bool false, .slice A1 (digs n).length c1, .slice A2 (digs d).length c2] 38))) := below_new w _
  have CW := Lib.hid (fun w' (b : Below w.heap.size w w') => awake_any w' (ht.keep b))
  replace CV := Lib.hid CV
  replace CU := Lib.hid CU
  replace CR := Lib.hid CR
  replace CF1 := Lib.hid CF1
  replace CF2 := Lib.hid CF2
  unfold FracPost FracIs at CF1 CF2
  replace CH := Lib.hid CH
  replace CL := Lib.hid CL
  have t1 : IntKind.i64.wrap ((c : Int) - 1) = m := by rw [IntWalk.i64_in _ (by omega)]; omega
  clear ht hn hd hl1 hl2 hc hm
  go_enter Tryd.func7, Tryd.ntmps7
  go_upto_region 1 with fail
  generalize w.alloc (.cells #[.bool false, .slice A1 (digs n).length c1, .slice A2 (digs d).length c2] 38) = w1 at *
  have k1 := K0.out.c3
  go_wp2_with fail
  refine (CV.out _ B0.out).mono ?_
  rintro e w2 ⟨b, rfl, d2⟩
  have B2 := Lib.hid (chain0 B0.out d2)
  have K2 := Lib.hid (K0.out.below' d2)
  clear d2 k1
  cases b
  · go_wp2_with fail
    refine (CW.out _ B2.out).mono ?_
    rintro e w9 ⟨rfl, b9⟩
    have B9 := Lib.hid (chain0 B2.out b9)
    clear b9
    go_wp2_with fail
    go_ret
    exact ⟨rfl, B9.out⟩
  have k2 := K2.out.c3
  go_wp2_with fail
  refine (CU.out _ B2.out).mono ?_
  rintro e w3 ⟨rfl, d3⟩
  have B3 := Lib.hid (chain0 B2.out d3)
  have K3 := Lib.hid (K2.out.below' d3)
  have k3 := K3.out.c3
  clear d3 k2
  go_wp2_with fail
  refine (CR.out _ B3.out).mono ?_
  rintro e w4 ⟨rfl, d4⟩
  have B4 := Lib.hid (chain0 B3.out d4)
  have K4 := Lib.hid (K3.out.below' d4)
  have k4 := K4.out.c3
  clear d4 k3
  have BD := Lib.hid B4.out.drew
  have KD := Lib.hid K4.out.drew
  clear k4
  have kd := KD.out.c3
  go_wp2_with fail
  go_region_held3 (fun w' => w'.cell? ⟨w.heap.size, 0, none⟩ = some (.bool false) ∧ w'.cell? ⟨w.heap.size, 1, none⟩ = some (.slice A1 (digs n).length c1) ∧ w'.cell? ⟨w.heap.size, 2, none⟩ = some (.slice A2 (digs d).length c2)) (first | exact ⟨kd.1.1, kd.2.1.1, kd.2.2.1⟩ | go_keep) (first
    | (go_at_call 28; with_reducible refine (CF1.out _).mono ?_; rintro e w5 ⟨v, rfl, ⟨A3, c3, A4, c4, rfl, t3, t4⟩, dd⟩; have T3 := Lib.hid t3; have T4 := Lib.hid t4; replace BD := Lib.hid (chain0 BD.out dd); replace KD := Lib.hid (KD.out.below' dd); replace kd := KD.out.c3; clear dd; clear t3 t4)
    | (go_at_call 28; with_reducible refine (CF2.out _).mono ?_; rintro e w6 ⟨v, rfl, ⟨A5, c5, A6, c6, rfl, t5, t6⟩, dd⟩; have T5 := Lib.hid t5; have T6 := Lib.hid t6; replace BD := Lib.hid (chain0 BD.out dd); replace KD := Lib.hid (KD.out.below' dd); replace kd := KD.out.c3; clear dd; clear t5 t6)
    | (go_at_call 27; with_reducible refine (CH.out _ _ _ _ _ BD.out T3.out T4.out).mono ?_; rintro e w7 ⟨⟨z, rfl, hz⟩, dd⟩; have z1 : decide ((0 : Int) ≤ z) = true := decide_eq_true hz; replace BD := Lib.hid (chain0 BD.out dd); replace KD := Lib.hid (KD.out.below' dd); replace kd := KD.out.c3; clear dd; clear hz)
    | (go_at_call 27; with_reducible refine (CL.out _ _ _ _ _ BD.out T5.out T6.out).mono ?_; rintro e w8 ⟨rfl, dd⟩; replace BD := Lib.hid (chain0 BD.out dd); replace KD := Lib.hid (KD.out.below' dd); replace kd := KD.out.c3; clear dd)
    | (go_at_call 14; with_reducible refine (CW.out _ BD.out).mono ?_; rintro e w9 ⟨rfl, dd⟩; replace BD := Lib.hid (chain0 BD.out dd); replace KD := Lib.hid (KD.out.below' dd); replace kd := KD.out.c3; clear dd))
  go_wp2_with fail
  go_ret
  exact ⟨rfl, BD.out⟩
end Am
end Go.Proofs.YtfopmaeaclbknaaDoor
namespace Go.Proofs.YtfopmaeaclbknaaDoor
open Go.ChangeShapes Go.WideShapes Go.ChangeAt Go.RowKit Fr
set_option linter.unusedVariables false
set_option linter.unusedSimpArgs false
namespace Am
theorem uppost_err {s : Bool} {n d : Nat} {w : World} {e : Ending} {w' : World} (h : UpPost s n d w e w') (hs : ¬ (s = false ∧ ceilN n d ≤ 1000000)) : e = .returned (.tuple #[.int .i64 0, .int .i64 4]) ∧ Below w.heap.size w w' := by
  unfold UpPost at h
  rw [if_neg hs] at h
  exact h
theorem uppost_ok {n d : Nat} {w : World} {e : Ending} {w' : World} (h : UpPost false n d w e w') (hs : ceilN n d ≤ 1000000) : e = .returned (.tuple #[.int .i64 ((ceilN n d : Nat) : Int), .int .i64 0]) ∧ Below w.heap.size w w' := by
  unfold UpPost at h
  rw [if_pos ⟨rfl, hs⟩] at h
  exact h
theorem law_ups (s : Bool) (v1 v2 : Value) (l1 l2 : List Nat) (w : World) (ht : Tab w) (hn : NS w v1 l1) (hd : NS w v2 l2) (g1 : Dg l1) (g2 : Dg l2) : Calls Tryd.prog 7 #[.agg #[.bool s, v1, v2]] w (LawPost w) := by
  obtain ⟨A1, c1, rfl, _⟩ := ns_cases hn
  obtain ⟨A2, c2, rfl, _⟩ := ns_cases hd
  by_cases h1 : 20 < l1.length
  · exact ups_long1 s A1 A2 c1 c2 l1 l2 w ht hn hd h1
  by_cases h2 : 20 < l2.length
  · exact ups_long2 s A1 A2 c1 c2 l1 l2 w ht hn hd (by omega) h2
  have CV : ∀ w', Below w.heap.size w w' → Calls Tryd.prog 24 #[.agg #[.bool s, .slice A1 l1.length c1, .slice A2 l2.length c2]] w' (BPost (Fr.Good s l1 l2) w') := fun w' b => rfvalid s A1 A2 c1 c2 l1 l2 w' (by omega) (by omega) g1 g2 (hn.keep b) (hd.keep b)
  by_cases hg : Fr.Good s l1 l2
  case neg =>
    refine ups_bad s A1 A2 c1 c2 l1 l2 w ht hn hd (by omega) (by omega) fun w' b => (CV w' b).mono ?_
    rintro e w2 ⟨x, rfl, hx, k⟩
    cases x
    · exact ⟨rfl, k⟩
    · exact absurd (hx rfl) hg
  obtain ⟨e1, e2, d0, n0⟩ := hg
  have CV2 : ∀ w', Below w.heap.size w w' → Calls Tryd.prog 24 #[.agg #[.bool s, .slice A1 l1.length c1, .slice A2 l2.length c2]] w' fun e w'' => ∃ b, e = .returned (.bool b) ∧ Below w'.heap.size w' w'' := fun w' b => (CV w' b).mono fun e w2 ⟨x, h1, _, h3⟩ => ⟨x, h1, h3⟩
  obtain ⟨n, hnn⟩ : ∃ n, n = nat l1 := ⟨_, rfl⟩
  obtain ⟨d, hdd⟩ : ∃ d, d = nat l2 := ⟨_, rfl⟩
  rw [← hnn] at e1 n0
  rw [← hdd] at e2 d0
  clear CV g1 g2 hnn hdd
  subst e1
  subst e2
  have hc1 : (digs n).length ≤ 20 := by omega
  have hc2 : (digs d).length ≤ 20 := by omega
  by_cases hs : s = false ∧ ceilN n d ≤ 1000000
  case neg =>
    refine ups_err s A1 A2 c1 c2 n d w ht hc1 hc2 hn hd CV2 (fun w' b => ?_) (fun w' b => ?_)
    · cases s
      · exact (nup_pos A1 A2 c1 c2 n d w' (by omega) (by omega) d0 (hn.keep b) (hd.keep b)).mono fun e w2 h => uppost_err h hs
      · exact (nup_neg A1 A2 c1 c2 n d w' (by omega) (by omega) d0 (n0 rfl) (hn.keep b) (hd.keep b)).mono fun e w2 h => uppost_err h hs
    · cases s
      · exact (rup_pos A1 A2 c1 c2 n d w' (by omega) (by omega) d0 (hn.keep b) (hd.keep b)).mono fun e w2 h => uppost_err h hs
      · exact (rup_neg A1 A2 c1 c2 n d w' (by omega) (by omega) d0 (n0 rfl) (hn.keep b) (hd.keep b)).mono fun e w2 h => uppost_err h hs
  obtain ⟨rfl, hc⟩ := hs
  obtain ⟨f1, f2, f3⟩ := ceil_facts (n := n) d0
  have HU : ∀ w', Below w.heap.size w w' → Calls Tryd.prog 25 #[.agg #[.bool false, .slice A1 (digs n).length c1, .slice A2 (digs d).length c2]] w' fun e w'' => e = .returned (.tuple #[.int .i64 ((ceilN n d : Nat) : Int), .int .i64 0]) ∧ Below w'.heap.size w' w'' := fun w' b => (nup_pos A1 A2 c1 c2 n d w' (by omega) (by omega) d0 (hn.keep b) (hd.keep b)).mono fun e w2 h => uppost_ok h hc
  have HR : ∀ w', Below w.heap.size w w' → Calls Tryd.prog 26 #[.agg #[.bool false, .slice A1 (digs n).length c1, .slice A2 (digs d).length c2]] w' fun e w'' => e = .returned (.tuple #[.int .i64 ((ceilN n d : Nat) : Int), .int .i64 0]) ∧ Below w'.heap.size w' w'' := fun w' b => (rup_pos A1 A2 c1 c2 n d w' (by omega) (by omega) d0 (hn.keep b) (hd.keep b)).mono fun e w2 h => uppost_ok h hc
  generalize ceilN n d = c at *
  have hlen : ∀ x : Nat, x ≤ 1000000 → (digs x).length ≤ 1000 := fun x hx => by
    have := digs_len_le (n := x) (m := 1) (by rw [Nat.pow_one]; unfold B; omega)
    omega
  have CF1 : ∀ w', Calls Tryd.prog 28 #[.int .i64 (c : Int)] w' (FracPost false c 1 w') := fun w' => by
    have h := fromInt_any (c : Int) w' (by omega) (by omega)
    have e1 : decide ((c : Int) < 0) = false := decide_eq_false (by omega)
    rw [e1, Int.natAbs_natCast] at h
    exact h
  by_cases hz : n = 0
  · have hc0 := f3 hz
    subst hc0
    refine ups_val 0 (-1) true 1 A1 A2 c1 c2 n d w ht hc1 hc2 hn hd hc (by omega) CV2 HU HR CF1 (fun w' => fromInt_any (-1) w' (by omega) (by omega)) (fun A3 A4 c3 c4 w' b k1 k2 => ?_) (fun A3 A4 c3 c4 w' b k1 k2 => ?_)
    · exact cmp_hi A3 A4 A1 A2 c3 c4 c1 c2 0 n d w' (hlen 0 (by omega)) (by omega) (by omega) d0 f1 k1 k2 (hn.keep b) (hd.keep b)
    · subst hz
      exact cmp_lo0 A3 A4 A1 A2 c3 c4 c1 c2 d w' (by omega) d0 k1 k2 (hn.keep b) (hd.keep b)
  · obtain ⟨p1, p2⟩ := f2 hz
    refine ups_val c ((c - 1 : Nat) : Int) false (c - 1) A1 A2 c1 c2 n d w ht hc1 hc2 hn hd hc (by omega) CV2 HU HR CF1 (fun w' => ?_) (fun A3 A4 c3 c4 w' b k1 k2 => ?_) (fun A3 A4 c3 c4 w' b k1 k2 => ?_)
    · have h := fromInt_any ((c - 1 : Nat) : Int) w' (by omega) (by omega)
      have e1 : decide (((c - 1 : Nat) : Int) < 0) = false := decide_eq_false (by omega)
      rw [e1, Int.natAbs_natCast] at h
      exact h
    · exact cmp_hi A3 A4 A1 A2 c3 c4 c1 c2 c n d w' (hlen c hc) (by omega) (by omega) d0 f1 k1 k2 (hn.keep b) (hd.keep b)
    · exact cmp_lo A3 A4 A1 A2 c3 c4 c1 c2 (c - 1) n d w' (hlen (c - 1) (by omega)) (by omega) (by omega) d0 p2 k1 k2 (hn.keep b) (hd.keep b)
end Am
end Go.Proofs.YtfopmaeaclbknaaDoor
