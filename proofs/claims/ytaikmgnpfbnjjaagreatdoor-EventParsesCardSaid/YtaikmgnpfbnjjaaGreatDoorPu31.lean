/- Contract of event.split. Printed by gen_eva1.py. -/
import Derived.Test.YtaikmgnpfbnjjaaGreatDoorPu30
import Derived.Test.YtaikmgnpfbnjjaaGreatDoorPu24
import Derived.Test.YtaikmgnpfbnjjaaGreatDoorPu20
namespace Go.Proofs.YtaikmgnpfbnjjaaGreatDoor.Ev
open Go.ChangeShapes Go.WideShapes Go.ChangeAt Go.RowKit Gn Cat Lex Ros Se
set_option linter.unusedVariables false
set_option linter.unusedSimpArgs false
attribute [local go_sem] later_cell
abbrev isW (k : Int) (s : ByteArray) : Bool := wordsL k (cutL s.data.toList).2.1 (cutL s.data.toList).2.2
/-- the words behind the name, if there are as many as the kind has -/
abbrev SplitPost (k : Int) (s : ByteArray) (w : World) : Ending → World → Prop := fun x w' => ∃ A n c, x = .returned (.tuple #[.slice A n c, .bool (isW k s)]) ∧ Below w.heap.size w w' ∧ (isW k s = true → WS w' (.slice A n c) (tailS k s)) ∧ (isW k s = true → 0 < n → ∃ o, A = some ⟨w.heap.size, o, none⟩)
theorem five_idx (W : World) : (Instr.index 79 (.agg #[.int .i64 1, .int .i64 2, .int .i64 4, .int .i64 8, .int .i64 16]) (.int .i64 0)).run Tryz.prog W = .ok (.int .i64 1) W ∧ (Instr.index 79 (.agg #[.int .i64 1, .int .i64 2, .int .i64 4, .int .i64 8, .int .i64 16]) (.int .i64 1)).run Tryz.prog W = .ok (.int .i64 2) W ∧ (Instr.index 79 (.agg #[.int .i64 1, .int .i64 2, .int .i64 4, .int .i64 8, .int .i64 16]) (.int .i64 2)).run Tryz.prog W = .ok (.int .i64 4) W ∧ (Instr.index 79 (.agg #[.int .i64 1, .int .i64 2, .int .i64 4, .int .i64 8, .int .i64 16]) (.int .i64 3)).run Tryz.prog W = .ok (.int .i64 8) W ∧ (Instr.index 79 (.agg #[.int .i64 1, .int .i64 2, .int .i64 4, .int .i64 8, .int .i64 16]) (.int .i64 4)).run Tryz.prog W = .ok (.int .i64 16) W := by
  refine ⟨?_, ?_, ?_, ?_, ?_⟩ <;> kernel_rfl
theorem is_sale (s : ByteArray) : isW 1 s = ((cutL s.data.toList).2.2 && !(cutL s.data.toList).2.1.isEmpty) := rfl
theorem is_bid (s : ByteArray) : isW 5 s = ((cutL s.data.toList).2.2 && ((cutL (cutL s.data.toList).2.1).2.2 && (!(cutL (cutL s.data.toList).2.1).2.1.isEmpty && (!((cutL (cutL s.data.toList).2.1).2.1.head? == some 32) && !(cutL (cutL s.data.toList).2.1).2.1.contains 10)))) := rfl
set_option maxHeartbeats 4000000 in
set_option maxRecDepth 100000 in
theorem split_at_1 (s : ByteArray) (w : World) (hsh : Sh w) (hs : s.size ≤ 5000) : Calls Tryz.prog 56 #[.int .i64 1, .string s] w (SplitPost 1 s w) := by
  have CK := Lib.hid (fun W => fields_any 1 W)
  rw [show fieldsK 1 = 4 by decide] at CK
  have j0 := fun W => (five_idx W).1
  have j1 := fun W => (five_idx W).2.1
  have j2 := fun W => (five_idx W).2.2.1
  have j3 := fun W => (five_idx W).2.2.2.1
  have j4 := fun W => (five_idx W).2.2.2.2
  have t1 : (bits BinOp.and IntKind.i64 4 1 != 0) = false := by decide +kernel
  have t2 : (bits BinOp.and IntKind.i64 4 2 != 0) = false := by decide +kernel
  have t4 : (bits BinOp.and IntKind.i64 4 4 != 0) = true := by decide +kernel
  have t8 : (bits BinOp.and IntKind.i64 4 8 != 0) = false := by decide +kernel
  have t16 : (bits BinOp.and IntKind.i64 4 16 != 0) = false := by decide +kernel
  have t0 : (bits BinOp.and IntKind.i64 4 4 == 0) = false := by decide +kernel
  have hcu := cuts_sale s
  have his := is_sale s
  have htl : tailS 1 s = [ofL (cutL s.data.toList).2.1] := rfl
  have hem := ofL_empty (cutL s.data.toList).2.1
  unfold SplitPost
  rw [htl]
  generalize isW 1 s = V at *
  generalize ofL (cutL s.data.toList).2.1 = t at *
  generalize ofL (cutL s.data.toList).1 = f1 at *
  generalize (cutL s.data.toList).2.1.isEmpty = em at *
  cases hm : (cutL s.data.toList).2.2 with
  | false =>
    rw [hm, if_neg (by simp)] at hcu
    rw [hm] at his
    have HCU := Lib.hid hcu
    have HI : Hid (V = false) := his
    clear hcu his htl hem
    have CS := Lib.hid (splitN_any s 2 w hsh hs (by decide) (by decide))
    rw [HCU.out] at CS
    have CC : Hid (∀ W t, Calls Tryz.prog 82 #[.string t, .string ⟨#[10]⟩] W fun x w' => x = .returned (.bool (t.data.toList.contains 10)) ∧ Below W.heap.size W w') := fun W t => (has_any t 10 W).mono fun x w' ⟨h1, h2⟩ => ⟨h1, by rw [h2]; exact Below.refl _ _⟩
    clear hsh hs
    go_enter Tryz.func56, Tryz.ntmps56
    go_wp2_with fail
    refine (CK.out _).mono ?_
    rintro x w1 ⟨rfl, rfl⟩
    go_wp2_with fail
    refine wp_loop_rounds 6 ?_
    rw [rounds_succ]
    go_wp2_with fail
    rw [rounds_succ]
    go_wp2_with fail
    rw [rounds_succ]
    go_wp2_with fail
    rw [rounds_succ]
    go_wp2_with fail
    rw [rounds_succ]
    go_wp2_with fail
    rw [rounds_succ]
    go_wp2_with fail
    refine CS.out.mono ?_
    rintro x w2 ⟨c, rfl, hw2, d2⟩
    have H2 := Lib.hid hw2
    have B2 := Lib.hid d2
    clear hw2 d2 CS
    go_wp2_with fail
    go_ret2
    rw [HI.out]
    exact ⟨_, _, _, rfl, B2.out, (fun h => by cases h), (fun h => by cases h)⟩
  | true =>
    rw [hm, if_pos rfl] at hcu
    rw [hm] at his
    have HCU := Lib.hid hcu
    have HI : Hid (V = !em) := his
    clear hcu his htl hm
    have CS := Lib.hid (splitN_any s 2 w hsh hs (by decide) (by decide))
    rw [HCU.out] at CS
    have CC : Hid (∀ W t, Calls Tryz.prog 82 #[.string t, .string ⟨#[10]⟩] W fun x w' => x = .returned (.bool (t.data.toList.contains 10)) ∧ Below W.heap.size W w') := fun W t => (has_any t 10 W).mono fun x w' ⟨h1, h2⟩ => ⟨h1, by rw [h2]; exact Below.refl _ _⟩
    clear hsh hs
    go_enter Tryz.func56, Tryz.ntmps56
    go_wp2_with fail
    refine (CK.out _).mono ?_
    rintro x w1 ⟨rfl, rfl⟩
    go_wp2_with fail
    refine wp_loop_rounds 6 ?_
    rw [rounds_succ]
    go_wp2_with fail
    rw [rounds_succ]
    go_wp2_with fail
    rw [rounds_succ]
    go_wp2_with fail
    rw [rounds_succ]
    go_wp2_with fail
    rw [rounds_succ]
    go_wp2_with fail
    rw [rounds_succ]
    go_wp2_with fail
    refine CS.out.mono ?_
    rintro x w2 ⟨c, rfl, hw2, d2⟩
    have H2 := Lib.hid hw2
    have B2 := Lib.hid d2
    clear hw2 d2 CS
    obtain ⟨hn2, hc, hg⟩ := ws_lt H2.out (by simp)
    have hc2 : 2 ≤ c := hc
    obtain ⟨A, hA, hsl⟩ := slice_one w1.heap.size 0 2 c (by decide) hc
    have HTL := Lib.hid (ws_tail H2.out (by simp) hA)
    have hcl := ws_get H2.out (j := 1) (by simp)
    rw [show (0 + 1 : Nat) = 1 by decide] at hcl
    have FC := Lib.hid (fun y t => CC.out (later w2 y) t)
    have HL2 := Lib.hid (fun y => B2.out.trans ((later_below w2 y).mono B2.out.size))
    have HK2 := Lib.hid (fun y => HTL.out.keep (later_below w2 y))
    have l2 := hg
    have HAK := Lib.hid hA
    clear B2 HTL H2 CC hg hA
    cases em with
    | true =>
      have HV : Hid (V = false) := HI.out
      go_wp2_with fail
      refine wp_region_later (by kernel_rfl) (by kernel_rfl) ?_
      repeat (first | go_big_quiet_step ((go_at_call 82; exact calls_later (FC.out _ _))) | quiet_step ((go_at_call 82; exact calls_later (FC.out _ _))))
      refine wpQuiet_nil ?_
      rintro _ ⟨y, rfl⟩
      go_wp2_with fail
      go_ret2
      rw [HV.out]
      exact ⟨_, _, _, rfl, HL2.out y, (fun h => by cases h), (fun h => by cases h)⟩
    | false =>
      have HV : Hid (V = true) := HI.out
      go_wp2_with fail
      refine wp_region_later (by kernel_rfl) (by kernel_rfl) ?_
      repeat (first | go_big_quiet_step ((go_at_call 82; exact calls_later (FC.out _ _))) | quiet_step ((go_at_call 82; exact calls_later (FC.out _ _))))
      refine wpQuiet_nil ?_
      rintro _ ⟨y, rfl⟩
      go_wp2_with fail
      go_ret2
      rw [HV.out]
      exact ⟨_, _, _, rfl, HL2.out y, (fun _ => HK2.out y), (fun _ h => ⟨1, HAK.out (by omega)⟩)⟩
set_option maxHeartbeats 4000000 in
set_option maxRecDepth 100000 in
theorem split_at_2 (s : ByteArray) (w : World) (hsh : Sh w) (hs : s.size ≤ 5000) : Calls Tryz.prog 56 #[.int .i64 2, .string s] w (SplitPost 2 s w) := by
  have CK := Lib.hid (fun W => fields_any 2 W)
  rw [show fieldsK 2 = 3 by decide] at CK
  have j0 := fun W => (five_idx W).1
  have j1 := fun W => (five_idx W).2.1
  have j2 := fun W => (five_idx W).2.2.1
  have j3 := fun W => (five_idx W).2.2.2.1
  have j4 := fun W => (five_idx W).2.2.2.2
  have t1 : (bits BinOp.and IntKind.i64 3 1 != 0) = true := by decide +kernel
  have t2 : (bits BinOp.and IntKind.i64 3 2 != 0) = true := by decide +kernel
  have t4 : (bits BinOp.and IntKind.i64 3 4 != 0) = false := by decide +kernel
  have t8 : (bits BinOp.and IntKind.i64 3 8 != 0) = false := by decide +kernel
  have t16 : (bits BinOp.and IntKind.i64 3 16 != 0) = false := by decide +kernel
  have t0 : (bits BinOp.and IntKind.i64 3 4 == 0) = true := by decide +kernel
  have CS := Lib.hid (split_any s w hsh hs)
  have HW := Lib.hid (words_decide (k := 2) (by decide) (by decide) s)
  have HT := Lib.hid (fun x => splitS_tail (k := 2) (by decide) (by decide) (s := s) x)
  have hp := splitS_pos 32 s
  unfold SplitPost isW
  rw [show wordsN 2 = 3 by decide] at HW
  rw [HW.out]
  rw [HW.out] at HT
  generalize splitS 32 s = ws at *
  have HL : Hid (((ws.length : Int) == 3) = decide (ws.length = 3)) := by
    show _ = _
    by_cases h : ws.length = 3
    · rw [h]; rfl
    · rw [decide_eq_false h]
      simp
      omega
  clear hsh hs HW
  go_enter Tryz.func56, Tryz.ntmps56
  go_wp2_with fail
  refine (CK.out _).mono ?_
  rintro x w1 ⟨rfl, rfl⟩
  go_wp2_with fail
  refine wp_loop_rounds 6 ?_
  rw [rounds_succ]
  go_wp2_with fail
  rw [rounds_succ]
  go_wp2_with fail
  rw [rounds_succ]
  go_wp2_with fail
  rw [rounds_succ]
  go_wp2_with fail
  rw [rounds_succ]
  go_wp2_with fail
  rw [rounds_succ]
  go_wp2_with fail
  refine CS.out.mono ?_
  rintro x w2 ⟨c, rfl, hw2, d2⟩
  have H2 := Lib.hid hw2
  have B2 := Lib.hid d2
  clear hw2 d2 CS
  obtain ⟨_, hc, hg⟩ := ws_lt H2.out hp
  obtain ⟨A, hA, hsl⟩ := slice_one w1.heap.size 0 ws.length c hp hc
  have HTL := Lib.hid (ws_tail H2.out hp hA)
  go_wp2_with fail
  go_ret2
  try rw [HL.out]
  refine ⟨_, _, _, rfl, B2.out, fun h => ?_, fun _ h => ⟨1, hA (by omega)⟩⟩
  rw [← HT.out h]
  exact HTL.out
set_option maxHeartbeats 4000000 in
set_option maxRecDepth 100000 in
theorem split_at_3 (s : ByteArray) (w : World) (hsh : Sh w) (hs : s.size ≤ 5000) : Calls Tryz.prog 56 #[.int .i64 3, .string s] w (SplitPost 3 s w) := by
  have CK := Lib.hid (fun W => fields_any 3 W)
  rw [show fieldsK 3 = 0 by decide] at CK
  have j0 := fun W => (five_idx W).1
  have j1 := fun W => (five_idx W).2.1
  have j2 := fun W => (five_idx W).2.2.1
  have j3 := fun W => (five_idx W).2.2.2.1
  have j4 := fun W => (five_idx W).2.2.2.2
  have t1 : (bits BinOp.and IntKind.i64 0 1 != 0) = false := by decide +kernel
  have t2 : (bits BinOp.and IntKind.i64 0 2 != 0) = false := by decide +kernel
  have t4 : (bits BinOp.and IntKind.i64 0 4 != 0) = false := by decide +kernel
  have t8 : (bits BinOp.and IntKind.i64 0 8 != 0) = false := by decide +kernel
  have t16 : (bits BinOp.and IntKind.i64 0 16 != 0) = false := by decide +kernel
  have t0 : (bits BinOp.and IntKind.i64 0 4 == 0) = true := by decide +kernel
  have CS := Lib.hid (split_any s w hsh hs)
  have HW := Lib.hid (words_decide (k := 3) (by decide) (by decide) s)
  have HT := Lib.hid (fun x => splitS_tail (k := 3) (by decide) (by decide) (s := s) x)
  have hp := splitS_pos 32 s
  unfold SplitPost isW
  rw [show wordsN 3 = 1 by decide] at HW
  rw [HW.out]
  rw [HW.out] at HT
  generalize splitS 32 s = ws at *
  have HL : Hid (((ws.length : Int) == 1) = decide (ws.length = 1)) := by
    show _ = _
    by_cases h : ws.length = 1
    · rw [h]; rfl
    · rw [decide_eq_false h]
      simp
      omega
  clear hsh hs HW
  go_enter Tryz.func56, Tryz.ntmps56
  go_wp2_with fail
  refine (CK.out _).mono ?_
  rintro x w1 ⟨rfl, rfl⟩
  go_wp2_with fail
  refine wp_loop_rounds 6 ?_
  rw [rounds_succ]
  go_wp2_with fail
  rw [rounds_succ]
  go_wp2_with fail
  rw [rounds_succ]
  go_wp2_with fail
  rw [rounds_succ]
  go_wp2_with fail
  rw [rounds_succ]
  go_wp2_with fail
  rw [rounds_succ]
  go_wp2_with fail
  refine CS.out.mono ?_
  rintro x w2 ⟨c, rfl, hw2, d2⟩
  have H2 := Lib.hid hw2
  have B2 := Lib.hid d2
  clear hw2 d2 CS
  obtain ⟨_, hc, hg⟩ := ws_lt H2.out hp
  obtain ⟨A, hA, hsl⟩ := slice_one w1.heap.size 0 ws.length c hp hc
  have HTL := Lib.hid (ws_tail H2.out hp hA)
  go_wp2_with fail
  go_ret2
  try rw [HL.out]
  refine ⟨_, _, _, rfl, B2.out, fun h => ?_, fun _ h => ⟨1, hA (by omega)⟩⟩
  rw [← HT.out h]
  exact HTL.out
set_option maxHeartbeats 4000000 in
set_option maxRecDepth 100000 in
theorem split_at_4 (s : ByteArray) (w : World) (hsh : Sh w) (hs : s.size ≤ 5000) : Calls Tryz.prog 56 #[.int .i64 4, .string s] w (SplitPost 4 s w) := by
  have CK := Lib.hid (fun W => fields_any 4 W)
  rw [show fieldsK 4 = 0 by decide] at CK
  have j0 := fun W => (five_idx W).1
  have j1 := fun W => (five_idx W).2.1
  have j2 := fun W => (five_idx W).2.2.1
  have j3 := fun W => (five_idx W).2.2.2.1
  have j4 := fun W => (five_idx W).2.2.2.2
  have t1 : (bits BinOp.and IntKind.i64 0 1 != 0) = false := by decide +kernel
  have t2 : (bits BinOp.and IntKind.i64 0 2 != 0) = false := by decide +kernel
  have t4 : (bits BinOp.and IntKind.i64 0 4 != 0) = false := by decide +kernel
  have t8 : (bits BinOp.and IntKind.i64 0 8 != 0) = false := by decide +kernel
  have t16 : (bits BinOp.and IntKind.i64 0 16 != 0) = false := by decide +kernel
  have t0 : (bits BinOp.and IntKind.i64 0 4 == 0) = true := by decide +kernel
  have CS := Lib.hid (split_any s w hsh hs)
  have HW := Lib.hid (words_decide (k := 4) (by decide) (by decide) s)
  have HT := Lib.hid (fun x => splitS_tail (k := 4) (by decide) (by decide) (s := s) x)
  have hp := splitS_pos 32 s
  unfold SplitPost isW
  rw [show wordsN 4 = 1 by decide] at HW
  rw [HW.out]
  rw [HW.out] at HT
  generalize splitS 32 s = ws at *
  have HL : Hid (((ws.length : Int) == 1) = decide (ws.length = 1)) := by
    show _ = _
    by_cases h : ws.length = 1
    · rw [h]; rfl
    · rw [decide_eq_false h]
      simp
      omega
  clear hsh hs HW
  go_enter Tryz.func56, Tryz.ntmps56
  go_wp2_with fail
  refine (CK.out _).mono ?_
  rintro x w1 ⟨rfl, rfl⟩
  go_wp2_with fail
  refine wp_loop_rounds 6 ?_
  rw [rounds_succ]
  go_wp2_with fail
  rw [rounds_succ]
  go_wp2_with fail
  rw [rounds_succ]
  go_wp2_with fail
  rw [rounds_succ]
  go_wp2_with fail
  rw [rounds_succ]
  go_wp2_with fail
  rw [rounds_succ]
  go_wp2_with fail
  refine CS.out.mono ?_
  rintro x w2 ⟨c, rfl, hw2, d2⟩
  have H2 := Lib.hid hw2
  have B2 := Lib.hid d2
  clear hw2 d2 CS
  obtain ⟨_, hc, hg⟩ := ws_lt H2.out hp
  obtain ⟨A, hA, hsl⟩ := slice_one w1.heap.size 0 ws.length c hp hc
  have HTL := Lib.hid (ws_tail H2.out hp hA)
  go_wp2_with fail
  go_ret2
  try rw [HL.out]
  refine ⟨_, _, _, rfl, B2.out, fun h => ?_, fun _ h => ⟨1, hA (by omega)⟩⟩
  rw [← HT.out h]
  exact HTL.out
set_option maxHeartbeats 4000000 in
set_option maxRecDepth 100000 in
theorem split_at_5 (s : ByteArray) (w : World) (hsh : Sh w) (hs : s.size ≤ 5000) : Calls Tryz.prog 56 #[.int .i64 5, .string s] w (SplitPost 5 s w) := by
  have CK := Lib.hid (fun W => fields_any 5 W)
  rw [show fieldsK 5 = 5 by decide] at CK
  have j0 := fun W => (five_idx W).1
  have j1 := fun W => (five_idx W).2.1
  have j2 := fun W => (five_idx W).2.2.1
  have j3 := fun W => (five_idx W).2.2.2.1
  have j4 := fun W => (five_idx W).2.2.2.2
  have t1 : (bits BinOp.and IntKind.i64 5 1 != 0) = true := by decide +kernel
  have t2 : (bits BinOp.and IntKind.i64 5 2 != 0) = false := by decide +kernel
  have t4 : (bits BinOp.and IntKind.i64 5 4 != 0) = true := by decide +kernel
  have t8 : (bits BinOp.and IntKind.i64 5 8 != 0) = false := by decide +kernel
  have t16 : (bits BinOp.and IntKind.i64 5 16 != 0) = false := by decide +kernel
  have t0 : (bits BinOp.and IntKind.i64 5 4 == 0) = false := by decide +kernel
  have hcu := cuts_bid s
  have his := is_bid s
  have htl : tailS 5 s = [ofL (cutL (cutL s.data.toList).2.1).1, ofL (cutL (cutL s.data.toList).2.1).2.1] := rfl
  have hll := ofL_list (cutL (cutL s.data.toList).2.1).2.1
  unfold SplitPost
  rw [htl]
  generalize isW 5 s = V at *
  rw [← hll] at his
  generalize ofL (cutL (cutL s.data.toList).2.1).2.1 = t at *
  generalize ofL (cutL (cutL s.data.toList).2.1).1 = c1 at *
  generalize ofL (cutL s.data.toList).2.1 = r1 at *
  generalize ofL (cutL s.data.toList).1 = f1 at *
  cases hm : (cutL s.data.toList).2.2 with
  | false =>
    rw [hm, if_neg (by simp)] at hcu
    rw [hm] at his
    have HCU := Lib.hid hcu
    have HI : Hid (V = false) := his
    clear hcu his htl hll
    have CS := Lib.hid (splitN_any s 3 w hsh hs (by decide) (by decide))
    rw [HCU.out] at CS
    have CC : Hid (∀ W t, Calls Tryz.prog 82 #[.string t, .string ⟨#[10]⟩] W fun x w' => x = .returned (.bool (t.data.toList.contains 10)) ∧ Below W.heap.size W w') := fun W t => (has_any t 10 W).mono fun x w' ⟨h1, h2⟩ => ⟨h1, by rw [h2]; exact Below.refl _ _⟩
    clear hsh hs
    go_enter Tryz.func56, Tryz.ntmps56
    go_wp2_with fail
    refine (CK.out _).mono ?_
    rintro x w1 ⟨rfl, rfl⟩
    go_wp2_with fail
    refine wp_loop_rounds 6 ?_
    rw [rounds_succ]
    go_wp2_with fail
    rw [rounds_succ]
    go_wp2_with fail
    rw [rounds_succ]
    go_wp2_with fail
    rw [rounds_succ]
    go_wp2_with fail
    rw [rounds_succ]
    go_wp2_with fail
    rw [rounds_succ]
    go_wp2_with fail
    refine CS.out.mono ?_
    rintro x w2 ⟨c, rfl, hw2, d2⟩
    have H2 := Lib.hid hw2
    have B2 := Lib.hid d2
    clear hw2 d2 CS
    go_wp2_with fail
    go_ret2
    rw [HI.out]
    exact ⟨_, _, _, rfl, B2.out, (fun h => by cases h), (fun h => by cases h)⟩
  | true =>
    rw [hm, if_pos rfl] at hcu
    rw [hm] at his
    cases hm2 : (cutL (cutL s.data.toList).2.1).2.2 with
    | false =>
      rw [hm2, if_neg (by simp)] at hcu
      rw [hm2] at his
      have HCU := Lib.hid hcu
      have HI : Hid (V = false) := his
      clear hcu his htl hll
      have CS := Lib.hid (splitN_any s 3 w hsh hs (by decide) (by decide))
      rw [HCU.out] at CS
      have CC : Hid (∀ W t, Calls Tryz.prog 82 #[.string t, .string ⟨#[10]⟩] W fun x w' => x = .returned (.bool (t.data.toList.contains 10)) ∧ Below W.heap.size W w') := fun W t => (has_any t 10 W).mono fun x w' ⟨h1, h2⟩ => ⟨h1, by rw [h2]; exact Below.refl _ _⟩
      clear hsh hs
      go_enter Tryz.func56, Tryz.ntmps56
      go_wp2_with fail
      refine (CK.out _).mono ?_
      rintro x w1 ⟨rfl, rfl⟩
      go_wp2_with fail
      refine wp_loop_rounds 6 ?_
      rw [rounds_succ]
      go_wp2_with fail
      rw [rounds_succ]
      go_wp2_with fail
      rw [rounds_succ]
      go_wp2_with fail
      rw [rounds_succ]
      go_wp2_with fail
      rw [rounds_succ]
      go_wp2_with fail
      rw [rounds_succ]
      go_wp2_with fail
      refine CS.out.mono ?_
      rintro x w2 ⟨c, rfl, hw2, d2⟩
      have H2 := Lib.hid hw2
      have B2 := Lib.hid d2
      clear hw2 d2 CS
      go_wp2_with fail
      go_ret2
      rw [HI.out]
      exact ⟨_, _, _, rfl, B2.out, (fun h => by cases h), (fun h => by cases h)⟩
    | true =>
      rw [hm2, if_pos rfl] at hcu
      rw [hm2] at his
      have HCU := Lib.hid hcu
      have HI : Hid (V = (!t.data.toList.isEmpty && (!(t.data.toList.head? == some 32) && !t.data.toList.contains 10))) := his
      clear hcu his htl hm hm2 hll
      have CS := Lib.hid (splitN_any s 3 w hsh hs (by decide) (by decide))
      rw [HCU.out] at CS
      have CC : Hid (∀ W t, Calls Tryz.prog 82 #[.string t, .string ⟨#[10]⟩] W fun x w' => x = .returned (.bool (t.data.toList.contains 10)) ∧ Below W.heap.size W w') := fun W t => (has_any t 10 W).mono fun x w' ⟨h1, h2⟩ => ⟨h1, by rw [h2]; exact Below.refl _ _⟩
      clear hsh hs
      go_enter Tryz.func56, Tryz.ntmps56
      go_wp2_with fail
      refine (CK.out _).mono ?_
      rintro x w1 ⟨rfl, rfl⟩
      go_wp2_with fail
      refine wp_loop_rounds 6 ?_
      rw [rounds_succ]
      go_wp2_with fail
      rw [rounds_succ]
      go_wp2_with fail
      rw [rounds_succ]
      go_wp2_with fail
      rw [rounds_succ]
      go_wp2_with fail
      rw [rounds_succ]
      go_wp2_with fail
      rw [rounds_succ]
      go_wp2_with fail
      refine CS.out.mono ?_
      rintro x w2 ⟨c, rfl, hw2, d2⟩
      have H2 := Lib.hid hw2
      have B2 := Lib.hid d2
      clear hw2 d2 CS
      obtain ⟨hn2, hc, hg⟩ := ws_lt H2.out (by simp)
      have hc2 : 3 ≤ c := hc
      obtain ⟨A, hA, hsl⟩ := slice_one w1.heap.size 0 3 c (by decide) hc
      have HTL := Lib.hid (ws_tail H2.out (by simp) hA)
      have hcl := ws_get H2.out (j := 2) (by simp)
      rw [show (0 + 2 : Nat) = 2 by decide] at hcl
      have FC := Lib.hid (fun y t => CC.out (later w2 y) t)
      have HL2 := Lib.hid (fun y => B2.out.trans ((later_below w2 y).mono B2.out.size))
      have HK2 := Lib.hid (fun y => HTL.out.keep (later_below w2 y))
      have l2 := hg
      have HAK := Lib.hid hA
      clear B2 HTL H2 CC hg hA
      by_cases h0 : t = ⟨#[]⟩
      · subst h0
        have HV : Hid (V = false) := by show V = false; rw [HI.out]; rfl
        have hz : (⟨#[]⟩ : ByteArray).toList.isEmpty = true := by decide +kernel
        clear HI
        go_wp2_with fail
        refine wp_region_later (by kernel_rfl) (by kernel_rfl) ?_
        repeat (first | go_big_quiet_step ((go_at_call 82; exact calls_later (FC.out _ _))) | quiet_step ((go_at_call 82; exact calls_later (FC.out _ _))))
        refine wpQuiet_nil ?_
        rintro _ ⟨y, rfl⟩
        go_wp2_with fail
        go_ret2
        rw [HV.out]
        exact ⟨_, _, _, rfl, HL2.out y, (fun h => by cases h), (fun h => by cases h)⟩
      · have hz := ne_empty h0
        have hp := pos_of h0
        have hpi : (0 : Int) < (t.size : Int) := by omega
        have he := isE_of h0
        rw [he, head_of hp] at HI
        by_cases e32 : t[0] = 32
        · have HV : Hid (V = false) := by show V = false; rw [HI.out, e32]; rfl
          have d32 : ((t[0].toNat : Int) != 32) = false := by rw [e32]; rfl
          have n32 : t[0].toNat = 32 := by rw [e32]; rfl
          clear HI e32
          go_wp2_with fail
          refine wp_region_later (by kernel_rfl) (by kernel_rfl) ?_
          repeat (first | go_big_quiet_step ((go_at_call 82; exact calls_later (FC.out _ _))) | quiet_step ((go_at_call 82; exact calls_later (FC.out _ _))))
          refine wpQuiet_nil ?_
          rintro _ ⟨y, rfl⟩
          go_wp2_with fail
          go_ret2
          rw [HV.out]
          exact ⟨_, _, _, rfl, HL2.out y, (fun h => by cases h), (fun h => by cases h)⟩
        · have n32 : ¬ t[0].toNat = 32 := fun h => e32 (UInt8.toNat_inj.1 h)
          have d32 : ((t[0].toNat : Int) != 32) = true := by simp; omega
          have d32b : (some t[0] == some (32 : UInt8)) = false := by simpa using e32
          have HV0 : Hid (V = !t.data.toList.contains 10) := by show _ = _; rw [HI.out, d32b]; rfl
          have FC2 := Lib.hid (fun y => FC.out y t)
          clear HI e32 FC d32b
          generalize t.data.toList.contains 10 = cb at *
          cases cb with
          | true =>
            have HV : Hid (V = false) := HV0.out
            go_wp2_with fail
            refine wp_region_later (by kernel_rfl) (by kernel_rfl) ?_
            repeat (first | go_big_quiet_step ((go_at_call 82; exact calls_later (FC2.out _))) | quiet_step ((go_at_call 82; exact calls_later (FC2.out _))))
            refine wpQuiet_nil ?_
            rintro _ ⟨y, rfl⟩
            go_wp2_with fail
            go_ret2
            rw [HV.out]
            exact ⟨_, _, _, rfl, HL2.out y, (fun h => by cases h), (fun h => by cases h)⟩
          | false =>
            have HV : Hid (V = true) := HV0.out
            go_wp2_with fail
            refine wp_region_later (by kernel_rfl) (by kernel_rfl) ?_
            repeat (first | go_big_quiet_step ((go_at_call 82; exact calls_later (FC2.out _))) | quiet_step ((go_at_call 82; exact calls_later (FC2.out _))))
            refine wpQuiet_nil ?_
            rintro _ ⟨y, rfl⟩
            go_wp2_with fail
            go_ret2
            rw [HV.out]
            exact ⟨_, _, _, rfl, HL2.out y, (fun _ => HK2.out y), (fun _ h => ⟨1, HAK.out (by omega)⟩)⟩
set_option maxHeartbeats 4000000 in
set_option maxRecDepth 100000 in
theorem split_at_6 (s : ByteArray) (w : World) (hsh : Sh w) (hs : s.size ≤ 5000) : Calls Tryz.prog 56 #[.int .i64 6, .string s] w (SplitPost 6 s w) := by
  have CK := Lib.hid (fun W => fields_any 6 W)
  rw [show fieldsK 6 = 1 by decide] at CK
  have j0 := fun W => (five_idx W).1
  have j1 := fun W => (five_idx W).2.1
  have j2 := fun W => (five_idx W).2.2.1
  have j3 := fun W => (five_idx W).2.2.2.1
  have j4 := fun W => (five_idx W).2.2.2.2
  have t1 : (bits BinOp.and IntKind.i64 1 1 != 0) = true := by decide +kernel
  have t2 : (bits BinOp.and IntKind.i64 1 2 != 0) = false := by decide +kernel
  have t4 : (bits BinOp.and IntKind.i64 1 4 != 0) = false := by decide +kernel
  have t8 : (bits BinOp.and IntKind.i64 1 8 != 0) = false := by decide +kernel
  have t16 : (bits BinOp.and IntKind.i64 1 16 != 0) = false := by decide +kernel
  have t0 : (bits BinOp.and IntKind.i64 1 4 == 0) = true := by decide +kernel
  have CS := Lib.hid (split_any s w hsh hs)
  have HW := Lib.hid (words_decide (k := 6) (by decide) (by decide) s)
  have HT := Lib.hid (fun x => splitS_tail (k := 6) (by decide) (by decide) (s := s) x)
  have hp := splitS_pos 32 s
  unfold SplitPost isW
  rw [show wordsN 6 = 2 by decide] at HW
  rw [HW.out]
  rw [HW.out] at HT
  generalize splitS 32 s = ws at *
  have HL : Hid (((ws.length : Int) == 2) = decide (ws.length = 2)) := by
    show _ = _
    by_cases h : ws.length = 2
    · rw [h]; rfl
    · rw [decide_eq_false h]
      simp
      omega
  clear hsh hs HW
  go_enter Tryz.func56, Tryz.ntmps56
  go_wp2_with fail
  refine (CK.out _).mono ?_
  rintro x w1 ⟨rfl, rfl⟩
  go_wp2_with fail
  refine wp_loop_rounds 6 ?_
  rw [rounds_succ]
  go_wp2_with fail
  rw [rounds_succ]
  go_wp2_with fail
  rw [rounds_succ]
  go_wp2_with fail
  rw [rounds_succ]
  go_wp2_with fail
  rw [rounds_succ]
  go_wp2_with fail
  rw [rounds_succ]
  go_wp2_with fail
  refine CS.out.mono ?_
  rintro x w2 ⟨c, rfl, hw2, d2⟩
  have H2 := Lib.hid hw2
  have B2 := Lib.hid d2
  clear hw2 d2 CS
  obtain ⟨_, hc, hg⟩ := ws_lt H2.out hp
  obtain ⟨A, hA, hsl⟩ := slice_one w1.heap.size 0 ws.length c hp hc
  have HTL := Lib.hid (ws_tail H2.out hp hA)
  go_wp2_with fail
  go_ret2
  try rw [HL.out]
  refine ⟨_, _, _, rfl, B2.out, fun h => ?_, fun _ h => ⟨1, hA (by omega)⟩⟩
  rw [← HT.out h]
  exact HTL.out
set_option maxHeartbeats 4000000 in
set_option maxRecDepth 100000 in
theorem split_at_7 (s : ByteArray) (w : World) (hsh : Sh w) (hs : s.size ≤ 5000) : Calls Tryz.prog 56 #[.int .i64 7, .string s] w (SplitPost 7 s w) := by
  have CK := Lib.hid (fun W => fields_any 7 W)
  rw [show fieldsK 7 = 1 by decide] at CK
  have j0 := fun W => (five_idx W).1
  have j1 := fun W => (five_idx W).2.1
  have j2 := fun W => (five_idx W).2.2.1
  have j3 := fun W => (five_idx W).2.2.2.1
  have j4 := fun W => (five_idx W).2.2.2.2
  have t1 : (bits BinOp.and IntKind.i64 1 1 != 0) = true := by decide +kernel
  have t2 : (bits BinOp.and IntKind.i64 1 2 != 0) = false := by decide +kernel
  have t4 : (bits BinOp.and IntKind.i64 1 4 != 0) = false := by decide +kernel
  have t8 : (bits BinOp.and IntKind.i64 1 8 != 0) = false := by decide +kernel
  have t16 : (bits BinOp.and IntKind.i64 1 16 != 0) = false := by decide +kernel
  have t0 : (bits BinOp.and IntKind.i64 1 4 == 0) = true := by decide +kernel
  have CS := Lib.hid (split_any s w hsh hs)
  have HW := Lib.hid (words_decide (k := 7) (by decide) (by decide) s)
  have HT := Lib.hid (fun x => splitS_tail (k := 7) (by decide) (by decide) (s := s) x)
  have hp := splitS_pos 32 s
  unfold SplitPost isW
  rw [show wordsN 7 = 2 by decide] at HW
  rw [HW.out]
  rw [HW.out] at HT
  generalize splitS 32 s = ws at *
  have HL : Hid (((ws.length : Int) == 2) = decide (ws.length = 2)) := by
    show _ = _
    by_cases h : ws.length = 2
    · rw [h]; rfl
    · rw [decide_eq_false h]
      simp
      omega
  clear hsh hs HW
  go_enter Tryz.func56, Tryz.ntmps56
  go_wp2_with fail
  refine (CK.out _).mono ?_
  rintro x w1 ⟨rfl, rfl⟩
  go_wp2_with fail
  refine wp_loop_rounds 6 ?_
  rw [rounds_succ]
  go_wp2_with fail
  rw [rounds_succ]
  go_wp2_with fail
  rw [rounds_succ]
  go_wp2_with fail
  rw [rounds_succ]
  go_wp2_with fail
  rw [rounds_succ]
  go_wp2_with fail
  rw [rounds_succ]
  go_wp2_with fail
  refine CS.out.mono ?_
  rintro x w2 ⟨c, rfl, hw2, d2⟩
  have H2 := Lib.hid hw2
  have B2 := Lib.hid d2
  clear hw2 d2 CS
  obtain ⟨_, hc, hg⟩ := ws_lt H2.out hp
  obtain ⟨A, hA, hsl⟩ := slice_one w1.heap.size 0 ws.length c hp hc
  have HTL := Lib.hid (ws_tail H2.out hp hA)
  go_wp2_with fail
  go_ret2
  try rw [HL.out]
  refine ⟨_, _, _, rfl, B2.out, fun h => ?_, fun _ h => ⟨1, hA (by omega)⟩⟩
  rw [← HT.out h]
  exact HTL.out
set_option maxHeartbeats 4000000 in
set_option maxRecDepth 100000 in
theorem split_at_8 (s : ByteArray) (w : World) (hsh : Sh w) (hs : s.size ≤ 5000) : Calls Tryz.prog 56 #[.int .i64 8, .string s] w (SplitPost 8 s w) := by
  have CK := Lib.hid (fun W => fields_any 8 W)
  rw [show fieldsK 8 = 8 by decide] at CK
  have j0 := fun W => (five_idx W).1
  have j1 := fun W => (five_idx W).2.1
  have j2 := fun W => (five_idx W).2.2.1
  have j3 := fun W => (five_idx W).2.2.2.1
  have j4 := fun W => (five_idx W).2.2.2.2
  have t1 : (bits BinOp.and IntKind.i64 8 1 != 0) = false := by decide +kernel
  have t2 : (bits BinOp.and IntKind.i64 8 2 != 0) = false := by decide +kernel
  have t4 : (bits BinOp.and IntKind.i64 8 4 != 0) = false := by decide +kernel
  have t8 : (bits BinOp.and IntKind.i64 8 8 != 0) = true := by decide +kernel
  have t16 : (bits BinOp.and IntKind.i64 8 16 != 0) = false := by decide +kernel
  have t0 : (bits BinOp.and IntKind.i64 8 4 == 0) = true := by decide +kernel
  have CS := Lib.hid (split_any s w hsh hs)
  have HW := Lib.hid (words_decide (k := 8) (by decide) (by decide) s)
  have HT := Lib.hid (fun x => splitS_tail (k := 8) (by decide) (by decide) (s := s) x)
  have hp := splitS_pos 32 s
  unfold SplitPost isW
  rw [show wordsN 8 = 2 by decide] at HW
  rw [HW.out]
  rw [HW.out] at HT
  generalize splitS 32 s = ws at *
  have HL : Hid (((ws.length : Int) == 2) = decide (ws.length = 2)) := by
    show _ = _
    by_cases h : ws.length = 2
    · rw [h]; rfl
    · rw [decide_eq_false h]
      simp
      omega
  clear hsh hs HW
  go_enter Tryz.func56, Tryz.ntmps56
  go_wp2_with fail
  refine (CK.out _).mono ?_
  rintro x w1 ⟨rfl, rfl⟩
  go_wp2_with fail
  refine wp_loop_rounds 6 ?_
  rw [rounds_succ]
  go_wp2_with fail
  rw [rounds_succ]
  go_wp2_with fail
  rw [rounds_succ]
  go_wp2_with fail
  rw [rounds_succ]
  go_wp2_with fail
  rw [rounds_succ]
  go_wp2_with fail
  rw [rounds_succ]
  go_wp2_with fail
  refine CS.out.mono ?_
  rintro x w2 ⟨c, rfl, hw2, d2⟩
  have H2 := Lib.hid hw2
  have B2 := Lib.hid d2
  clear hw2 d2 CS
  obtain ⟨_, hc, hg⟩ := ws_lt H2.out hp
  obtain ⟨A, hA, hsl⟩ := slice_one w1.heap.size 0 ws.length c hp hc
  have HTL := Lib.hid (ws_tail H2.out hp hA)
  go_wp2_with fail
  go_ret2
  try rw [HL.out]
  refine ⟨_, _, _, rfl, B2.out, fun h => ?_, fun _ h => ⟨1, hA (by omega)⟩⟩
  rw [← HT.out h]
  exact HTL.out
set_option maxHeartbeats 4000000 in
set_option maxRecDepth 100000 in
theorem split_at_9 (s : ByteArray) (w : World) (hsh : Sh w) (hs : s.size ≤ 5000) : Calls Tryz.prog 56 #[.int .i64 9, .string s] w (SplitPost 9 s w) := by
  have CK := Lib.hid (fun W => fields_any 9 W)
  rw [show fieldsK 9 = 0 by decide] at CK
  have j0 := fun W => (five_idx W).1
  have j1 := fun W => (five_idx W).2.1
  have j2 := fun W => (five_idx W).2.2.1
  have j3 := fun W => (five_idx W).2.2.2.1
  have j4 := fun W => (five_idx W).2.2.2.2
  have t1 : (bits BinOp.and IntKind.i64 0 1 != 0) = false := by decide +kernel
  have t2 : (bits BinOp.and IntKind.i64 0 2 != 0) = false := by decide +kernel
  have t4 : (bits BinOp.and IntKind.i64 0 4 != 0) = false := by decide +kernel
  have t8 : (bits BinOp.and IntKind.i64 0 8 != 0) = false := by decide +kernel
  have t16 : (bits BinOp.and IntKind.i64 0 16 != 0) = false := by decide +kernel
  have t0 : (bits BinOp.and IntKind.i64 0 4 == 0) = true := by decide +kernel
  have CS := Lib.hid (split_any s w hsh hs)
  have HW := Lib.hid (words_decide (k := 9) (by decide) (by decide) s)
  have HT := Lib.hid (fun x => splitS_tail (k := 9) (by decide) (by decide) (s := s) x)
  have hp := splitS_pos 32 s
  unfold SplitPost isW
  rw [show wordsN 9 = 1 by decide] at HW
  rw [HW.out]
  rw [HW.out] at HT
  generalize splitS 32 s = ws at *
  have HL : Hid (((ws.length : Int) == 1) = decide (ws.length = 1)) := by
    show _ = _
    by_cases h : ws.length = 1
    · rw [h]; rfl
    · rw [decide_eq_false h]
      simp
      omega
  clear hsh hs HW
  go_enter Tryz.func56, Tryz.ntmps56
  go_wp2_with fail
  refine (CK.out _).mono ?_
  rintro x w1 ⟨rfl, rfl⟩
  go_wp2_with fail
  refine wp_loop_rounds 6 ?_
  rw [rounds_succ]
  go_wp2_with fail
  rw [rounds_succ]
  go_wp2_with fail
  rw [rounds_succ]
  go_wp2_with fail
  rw [rounds_succ]
  go_wp2_with fail
  rw [rounds_succ]
  go_wp2_with fail
  rw [rounds_succ]
  go_wp2_with fail
  refine CS.out.mono ?_
  rintro x w2 ⟨c, rfl, hw2, d2⟩
  have H2 := Lib.hid hw2
  have B2 := Lib.hid d2
  clear hw2 d2 CS
  obtain ⟨_, hc, hg⟩ := ws_lt H2.out hp
  obtain ⟨A, hA, hsl⟩ := slice_one w1.heap.size 0 ws.length c hp hc
  have HTL := Lib.hid (ws_tail H2.out hp hA)
  go_wp2_with fail
  go_ret2
  try rw [HL.out]
  refine ⟨_, _, _, rfl, B2.out, fun h => ?_, fun _ h => ⟨1, hA (by omega)⟩⟩
  rw [← HT.out h]
  exact HTL.out
set_option maxHeartbeats 4000000 in
set_option maxRecDepth 100000 in
theorem split_at_10 (s : ByteArray) (w : World) (hsh : Sh w) (hs : s.size ≤ 5000) : Calls Tryz.prog 56 #[.int .i64 10, .string s] w (SplitPost 10 s w) := by
  have CK := Lib.hid (fun W => fields_any 10 W)
  rw [show fieldsK 10 = 16 by decide] at CK
  have j0 := fun W => (five_idx W).1
  have j1 := fun W => (five_idx W).2.1
  have j2 := fun W => (five_idx W).2.2.1
  have j3 := fun W => (five_idx W).2.2.2.1
  have j4 := fun W => (five_idx W).2.2.2.2
  have t1 : (bits BinOp.and IntKind.i64 16 1 != 0) = false := by decide +kernel
  have t2 : (bits BinOp.and IntKind.i64 16 2 != 0) = false := by decide +kernel
  have t4 : (bits BinOp.and IntKind.i64 16 4 != 0) = false := by decide +kernel
  have t8 : (bits BinOp.and IntKind.i64 16 8 != 0) = false := by decide +kernel
  have t16 : (bits BinOp.and IntKind.i64 16 16 != 0) = true := by decide +kernel
  have t0 : (bits BinOp.and IntKind.i64 16 4 == 0) = true := by decide +kernel
  have CS := Lib.hid (split_any s w hsh hs)
  have HW := Lib.hid (words_decide (k := 10) (by decide) (by decide) s)
  have HT := Lib.hid (fun x => splitS_tail (k := 10) (by decide) (by decide) (s := s) x)
  have hp := splitS_pos 32 s
  unfold SplitPost isW
  rw [show wordsN 10 = 2 by decide] at HW
  rw [HW.out]
  rw [HW.out] at HT
  generalize splitS 32 s = ws at *
  have HL : Hid (((ws.length : Int) == 2) = decide (ws.length = 2)) := by
    show _ = _
    by_cases h : ws.length = 2
    · rw [h]; rfl
    · rw [decide_eq_false h]
      simp
      omega
  clear hsh hs HW
  go_enter Tryz.func56, Tryz.ntmps56
  go_wp2_with fail
  refine (CK.out _).mono ?_
  rintro x w1 ⟨rfl, rfl⟩
  go_wp2_with fail
  refine wp_loop_rounds 6 ?_
  rw [rounds_succ]
  go_wp2_with fail
  rw [rounds_succ]
  go_wp2_with fail
  rw [rounds_succ]
  go_wp2_with fail
  rw [rounds_succ]
  go_wp2_with fail
  rw [rounds_succ]
  go_wp2_with fail
  rw [rounds_succ]
  go_wp2_with fail
  refine CS.out.mono ?_
  rintro x w2 ⟨c, rfl, hw2, d2⟩
  have H2 := Lib.hid hw2
  have B2 := Lib.hid d2
  clear hw2 d2 CS
  obtain ⟨_, hc, hg⟩ := ws_lt H2.out hp
  obtain ⟨A, hA, hsl⟩ := slice_one w1.heap.size 0 ws.length c hp hc
  have HTL := Lib.hid (ws_tail H2.out hp hA)
  go_wp2_with fail
  go_ret2
  try rw [HL.out]
  refine ⟨_, _, _, rfl, B2.out, fun h => ?_, fun _ h => ⟨1, hA (by omega)⟩⟩
  rw [← HT.out h]
  exact HTL.out
theorem split_ev (k : Int) (h : 1 ≤ k ∧ k ≤ 10) (s : ByteArray) (w : World) (hsh : Sh w) (hs : s.size ≤ 5000) : Calls Tryz.prog 56 #[.int .i64 k, .string s] w (SplitPost k s w) := by
  have hk : k = 1 ∨ k = 2 ∨ k = 3 ∨ k = 4 ∨ k = 5 ∨ k = 6 ∨ k = 7 ∨ k = 8 ∨ k = 9 ∨ k = 10 := by omega
  rcases hk with rfl | rfl | rfl | rfl | rfl | rfl | rfl | rfl | rfl | rfl
  · exact split_at_1 s w hsh hs
  · exact split_at_2 s w hsh hs
  · exact split_at_3 s w hsh hs
  · exact split_at_4 s w hsh hs
  · exact split_at_5 s w hsh hs
  · exact split_at_6 s w hsh hs
  · exact split_at_7 s w hsh hs
  · exact split_at_8 s w hsh hs
  · exact split_at_9 s w hsh hs
  · exact split_at_10 s w hsh hs
end Go.Proofs.YtaikmgnpfbnjjaaGreatDoor.Ev
