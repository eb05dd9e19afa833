/- Two events compared. Contracts of event.Check and Encode. Printed by gen_ev6.py. Plain: the line of an event, as it is put together. Contract of event.text. Printed by gen_ev8.py. Contracts of event.kindOf, number and decimal. -/
import Derived.Test.YtaikmgnpfbnjjaaGreatDoorPw00
import Derived.Laws.StructEq
import Derived.Test.YtaikmgnpfbnjjaaGreatDoorPw02
import Derived.Test.YtaikmgnpfbnjjaaGreatDoorPv05
import Derived.Deep.Quiet
import Derived.Deep.QuietTactic
import Derived.Test.YtaikmgnpfbnjjaaGreatDoorPv16
import Derived.Test.YtaikmgnpfbnjjaaGreatDoorPw01
namespace Go.Proofs.YtaikmgnpfbnjjaaGreatDoor.Ev
open Go.ChangeShapes Go.WideShapes Go.ChangeAt Go.RowKit Gn Cat Lex
set_option linter.unusedVariables false
set_option linter.unusedSimpArgs false
section
variable {P : Program} {w : World}
theorem run_part_arr {t e : TypeId} {n : Nat} {i : TypeInfo} (hu : P.underlying t = some (.array n e)) (hi : P.info? t = some i) (xs : Array Value) (off : Nat) : (part t xs off).run P w = .ok (.agg (xs.extract off (off + P.cellsOf t))) w := by
  simp [part, isAgg, run_underlying hu, run_sizeOf w hi]
theorem field_step {f : Field} {fs : List Field} {d : Nat} {xs ys : Array Value} {x y : Value} {r s : Bool} (hn : (f.name == "_") = false) (hx : (part f.type xs f.offset).run P w = .ok x w) (hy : (part f.type ys f.offset).run P w = .ok y w)
    (he : (Op.equalIn d f.type x y).run P w = .ok r w) (hr : (Op.eqFields d xs ys fs).run P w = .ok s w) : (Op.eqFields d xs ys (f :: fs)).run P w = .ok (r && s) w := by
  have hne : f.name ≠ "_" := by simpa using hn
  simp only [Op.eqFields]
  rw [if_pos hne]
  simp only [Sem.run_bind, hx, hy, he, Result.andThen_ok]
  cases r
  · simp
  · simp [hr]
theorem int_step {k : IntKind} {f : Field} {fs : List Field} {d : Nat} {xs ys : Array Value} {a b : Int} {s : Bool} (hu : P.underlying f.type = some (.int k)) (hn : (f.name == "_") = false) (hx : xs[f.offset]? = some (.int k a)) (hy : ys[f.offset]? = some (.int k b))
    (hr : (Op.eqFields (d + 1) xs ys fs).run P w = .ok s w) : (Op.eqFields (d + 1) xs ys (f :: fs)).run P w = .ok (a == b && s) w := by
  have hp : P.plainKey f.type = true := by unfold Program.plainKey; rw [hu]
  exact field_step hn (run_part_plain (w := w) hp hx) (run_part_plain (w := w) hp hy) (run_equalIn_int w d f.type k k a b hu) hr
theorem str_step {f : Field} {fs : List Field} {d : Nat} {xs ys : Array Value} {a b : ByteArray} {s : Bool} (hu : P.underlying f.type = some .string) (hn : (f.name == "_") = false) (hx : xs[f.offset]? = some (.string a)) (hy : ys[f.offset]? = some (.string b))
    (hr : (Op.eqFields (d + 1) xs ys fs).run P w = .ok s w) : (Op.eqFields (d + 1) xs ys (f :: fs)).run P w = .ok (eqB a b && s) w := by
  have hp : P.plainKey f.type = true := by unfold Program.plainKey; rw [hu]
  exact field_step hn (run_part_plain (w := w) hp hx) (run_part_plain (w := w) hp hy) (run_equalIn_string w d f.type a b hu) hr
theorem run_eq6d {E T : TypeId} {i : TypeInfo} (d : Nat) (hT : P.underlying T = some (.array 6 E)) (hi : P.info? E = some i) (hE : P.underlying E = some (.int .i64)) (hp : P.plainKey E = true) (hc : P.cellsOf E = 1) (a b : Nat → Int) :
    (Op.equalIn (d + 2) T (.agg (arr a)) (.agg (arr b))).run P w = .ok (eq6 a b) w := by
  rw [run_equalIn_array w (d + 1) _ _ hT hi, hc]
  show (Op.eqItems (d + 1) E 1 (arr a) (arr b) [0, 1, 2, 3, 4, 5]).run P w = _
  unfold eq6
  refine item_step hE hp _ _ 0 _ (a 0) (b 0) rfl rfl _ w ?_
  refine item_step hE hp _ _ 1 _ (a 1) (b 1) rfl rfl _ w ?_
  refine item_step hE hp _ _ 2 _ (a 2) (b 2) rfl rfl _ w ?_
  refine item_step hE hp _ _ 3 _ (a 3) (b 3) rfl rfl _ w ?_
  refine item_step hE hp _ _ 4 _ (a 4) (b 4) rfl rfl _ w ?_
  rw [show (a 5 == b 5) = (a 5 == b 5 && true) by simp]
  exact item_step hE hp _ _ 5 _ (a 5) (b 5) rfl rfl _ w rfl
end
set_option maxRecDepth 100000 in
theorem evt_facts : ∃ f0 f1 f2 f3 f4 f5 : Field, ∃ e i, (Tryz.prog.fieldsOf 26).toList = [f0, f1, f2, f3, f4, f5] ∧
    (Tryz.prog.underlying f0.type = some (.int .i64) ∧ f0.offset = 0 ∧ (f0.name == "_") = false) ∧
    (Tryz.prog.underlying f1.type = some (.int .i64) ∧ f1.offset = 1 ∧ (f1.name == "_") = false) ∧
    (Tryz.prog.underlying f2.type = some (.int .i64) ∧ f2.offset = 2 ∧ (f2.name == "_") = false) ∧
    (Tryz.prog.underlying f3.type = some (.array 6 e) ∧ f3.offset = 3 ∧ (f3.name == "_") = false ∧ Tryz.prog.underlying e = some (.int .i64) ∧ Tryz.prog.cellsOf e = 1 ∧ Tryz.prog.cellsOf f3.type = 6 ∧ Tryz.prog.info? e = some i ∧ Tryz.prog.plainKey e = true) ∧
    (Tryz.prog.underlying f4.type = some .string ∧ f4.offset = 9 ∧ (f4.name == "_") = false) ∧
    (Tryz.prog.underlying f5.type = some (.int .u64) ∧ f5.offset = 10 ∧ (f5.name == "_") = false) := by
  obtain ⟨i, hi⟩ : ∃ i, Tryz.prog.info? 3 = some i := ⟨_, (Option.some_get (by kernel_rfl)).symm⟩
  unfold Program.fieldsOf
  rw [Tryz.underlying26]
  exact ⟨_, _, _, _, _, _, 3, i, rfl, ⟨by kernel_rfl, by kernel_rfl, by kernel_rfl⟩, ⟨by kernel_rfl, by kernel_rfl, by kernel_rfl⟩, ⟨by kernel_rfl, by kernel_rfl, by kernel_rfl⟩, ⟨by kernel_rfl, by kernel_rfl, by kernel_rfl, by kernel_rfl, by kernel_rfl, by kernel_rfl, hi, by kernel_rfl⟩, ⟨by kernel_rfl, by kernel_rfl, by kernel_rfl⟩, ⟨by kernel_rfl, by kernel_rfl, by kernel_rfl⟩⟩
theorem nat_beq (a b : Nat) : ((a : Int) == (b : Int)) = (a == b) := by
  rw [Bool.eq_iff_iff, beq_iff_eq, beq_iff_eq]
  omega
set_option maxRecDepth 100000 in
theorem eq_evt (a b : Evt) (w : World) : (Op.equalIn 10000 26 a.val b.val).run Tryz.prog w = .ok (evEq a b) w := by
  obtain ⟨f0, f1, f2, f3, f4, f5, e, i, hf, ⟨k0, o0, n0⟩, ⟨k1, o1, n1⟩, ⟨k2, o2, n2⟩, ⟨k3, o3, n3, k3e, z3e, z3, hi, hp⟩, ⟨k4, o4, n4⟩, ⟨k5, o5, n5⟩⟩ := evt_facts
  unfold Evt.val
  rw [run_equalIn_struct w 9999 _ _ _ (by kernel_rfl) (by kernel_rfl), hf]
  unfold evEq
  refine int_step (d := 9998) k0 n0 (by rw [o0]; rfl) (by rw [o0]; rfl) ?_
  refine int_step (d := 9998) k1 n1 (by rw [o1]; rfl) (by rw [o1]; rfl) ?_
  refine int_step (d := 9998) k2 n2 (by rw [o2]; rfl) (by rw [o2]; rfl) ?_
  obtain ⟨j, hj⟩ : ∃ j, Tryz.prog.info? f3.type = some j := by
    cases h : Tryz.prog.info? f3.type with
    | none => rw [Program.underlying, h] at k3; cases k3
    | some j => exact ⟨j, rfl⟩
  refine field_step (x := .agg (arr a.want)) (y := .agg (arr b.want)) n3 ?_ ?_ (run_eq6d 9997 k3 hi k3e hp z3e a.want b.want) ?_
  · rw [run_part_arr k3 hj, o3, z3]; rfl
  · rw [run_part_arr k3 hj, o3, z3]; rfl
  refine str_step (d := 9998) k4 n4 (by rw [o4]; rfl) (by rw [o4]; rfl) ?_
  rw [← nat_beq, show ((a.digest : Int) == (b.digest : Int)) = (((a.digest : Int) == (b.digest : Int)) && true) by simp]
  refine int_step (d := 9998) k5 n5 (by rw [o5]; rfl) (by rw [o5]; rfl) ?_
  simp [Op.eqFields]
end Go.Proofs.YtaikmgnpfbnjjaaGreatDoor.Ev
namespace Go.Proofs.YtaikmgnpfbnjjaaGreatDoor.Ev
open Go.ChangeShapes Go.WideShapes Go.ChangeAt Go.RowKit Gn Cat Lex Se
set_option linter.unusedVariables false
set_option linter.unusedSimpArgs false
attribute [local go_sem] later_cell
theorem chk_2 {e : Evt} (h : (e.kind < 1 ∨ 10 < e.kind) ∨ evEq e (bareE e) = false) : checkV e = 2 := by unfold checkV; rw [if_pos h]
abbrev outE (e : Evt) : Prop := e.bidder < 0 ∨ 8 ≤ e.bidder ∨ e.round < 0 ∨ 30 ≤ e.round ∨ validB e.want = false
theorem chk_4 {e : Evt} (h : ¬ ((e.kind < 1 ∨ 10 < e.kind) ∨ evEq e (bareE e) = false)) (h2 : outE e) : checkV e = 4 := by unfold checkV; rw [if_neg h, if_pos h2]
theorem chk_3 {e : Evt} (h : ¬ ((e.kind < 1 ∨ 10 < e.kind) ∨ evEq e (bareE e) = false)) (h2 : ¬ outE e) (h3 : 4000 < (codeL e).length) : checkV e = 3 := by unfold checkV; rw [if_neg h, if_neg h2, if_pos h3]
theorem chk_0 {e : Evt} (h : ¬ ((e.kind < 1 ∨ 10 < e.kind) ∨ evEq e (bareE e) = false)) (h2 : ¬ outE e) (h3 : ¬ 4000 < (codeL e).length) : checkV e = 0 := by unfold checkV; rw [if_neg h, if_neg h2, if_neg h3]
theorem okay_of {e : Evt} (h : 1 ≤ e.kind ∧ e.kind ≤ 10) (h2 : ¬ outE e) (ht : e.text.size ≤ 5000) (hd : e.digest < 18446744073709551616) : Okay e := by
  have hv : validB e.want = true := by
    cases hx : validB e.want with
    | true => rfl
    | false => exact absurd (.inr (.inr (.inr (.inr hx)))) h2
  unfold outE at h2
  exact ⟨h, by omega, by omega, validB_iff.1 hv, ht, hd⟩
theorem name_none {k : Int} (h : k < 1 ∨ 10 < k) : nameK k = ⟨#[]⟩ := by
  unfold nameK
  rw [if_neg (by omega), if_neg (by omega), if_neg (by omega), if_neg (by omega), if_neg (by omega), if_neg (by omega), if_neg (by omega), if_neg (by omega), if_neg (by omega), if_neg (by omega)]
set_option maxHeartbeats 4000000 in
set_option maxRecDepth 100000 in
theorem check_bad (e : Evt) (w : World) (ht : e.text.size ≤ 5000) (hdg : e.digest < 18446744073709551616) (h : e.kind < 1 ∨ 10 < e.kind) : Calls Tryz.prog 9 #[e.val] w (ErrPost (checkV e) w) := by
  rw [chk_2 (.inl h)]
  have CN := Lib.hid (fun W => name_any e.kind W)
  have CB := Lib.hid (fun W => bare_any e W)
  rw [name_none h] at CN
  have hz : (⟨#[]⟩ : ByteArray).toList.isEmpty = true := by decide +kernel
  generalize (⟨#[]⟩ : ByteArray) = nm at CN hz
  obtain ⟨k, b, r, p, t, d⟩ := e
  generalize bareE ⟨k, b, r, p, t, d⟩ = c at *
  obtain ⟨k2, b2, r2, p2, t2, d2⟩ := c
  unfold Evt.val at *
  dsimp only at *
  clear h
  have B0 := Lib.hid (below_new w (.cells (cells11 k b r p t d) 26))
  have K0 := Lib.hid (Blk.new w 26 (cells11 k b r p t d))
  go_enter Tryz.func9, Tryz.ntmps9
  go_wp2_with fail
  generalize w.alloc (.cells #[.int .i64 k, .int .i64 b, .int .i64 r, .int .i64 (p 0), .int .i64 (p 1), .int .i64 (p 2), .int .i64 (p 3), .int .i64 (p 4), .int .i64 (p 5), .string t, .int .u64 (d : Int)] 26) = w0 at *
  have q0 := Blk11 K0.out
  have l0 := K0.out.lt
  have FN := Lib.hid (fun y => CN.out (later w0 y))
  have FB := Lib.hid (fun y => CB.out (later w0 y))
  refine wp_region_later (by kernel_rfl) (by kernel_rfl) ?_
  repeat (first | go_big_quiet_step (first | (go_at_call 11; exact calls_later (FN.out _)) | (go_at_call 24; exact calls_later (FB.out _))) | quiet_step (first | (go_at_call 11; exact calls_later (FN.out _)) | (go_at_call 24; exact calls_later (FB.out _))))
  refine wpQuiet_nil ?_
  rintro _ ⟨y, rfl⟩
  have B1 := Lib.hid (B0.out.trans ((later_below w0 y).mono B0.out.size))
  have K1 := Lib.hid (K0.out.below' (later_below w0 y))
  clear FN FB q0 l0 K0 B0
  generalize later w0 y = w1 at *
  go_wp2_with fail
  go_ret
  exact ⟨rfl, B1.out⟩
set_option maxHeartbeats 4000000 in
set_option maxRecDepth 100000 in
theorem check_ne (e : Evt) (w : World) (ht : e.text.size ≤ 5000) (hdg : e.digest < 18446744073709551616) (h : 1 ≤ e.kind ∧ e.kind ≤ 10) (hq : evEq e (bareE e) = false) : Calls Tryz.prog 9 #[e.val] w (ErrPost (checkV e) w) := by
  rw [chk_2 (.inr hq)]
  have hz := tl_ne (name_some h).1
  have CN := Lib.hid (fun W => name_any e.kind W)
  have CB := Lib.hid (fun W => bare_any e W)
  have EQ := fun W => eq_evt e (bareE e) W
  rw [hq] at EQ
  generalize nameK e.kind = nm at *
  clear h hq
  obtain ⟨k, b, r, p, t, d⟩ := e
  generalize bareE ⟨k, b, r, p, t, d⟩ = c at *
  obtain ⟨k2, b2, r2, p2, t2, d2⟩ := c
  unfold Evt.val at *
  dsimp only at *
  have B0 := Lib.hid (below_new w (.cells (cells11 k b r p t d) 26))
  have K0 := Lib.hid (Blk.new w 26 (cells11 k b r p t d))
  go_enter Tryz.func9, Tryz.ntmps9
  go_wp2_with fail
  generalize w.alloc (.cells #[.int .i64 k, .int .i64 b, .int .i64 r, .int .i64 (p 0), .int .i64 (p 1), .int .i64 (p 2), .int .i64 (p 3), .int .i64 (p 4), .int .i64 (p 5), .string t, .int .u64 (d : Int)] 26) = w0 at *
  have q0 := Blk11 K0.out
  have l0 := K0.out.lt
  have FN := Lib.hid (fun y => CN.out (later w0 y))
  have FB := Lib.hid (fun y => CB.out (later w0 y))
  refine wp_region_later (by kernel_rfl) (by kernel_rfl) ?_
  repeat (first | go_big_quiet_step (first | (go_at_call 11; exact calls_later (FN.out _)) | (go_at_call 24; exact calls_later (FB.out _))) | quiet_step (first | (go_at_call 11; exact calls_later (FN.out _)) | (go_at_call 24; exact calls_later (FB.out _))))
  refine wpQuiet_nil ?_
  rintro _ ⟨y, rfl⟩
  have B1 := Lib.hid (B0.out.trans ((later_below w0 y).mono B0.out.size))
  have K1 := Lib.hid (K0.out.below' (later_below w0 y))
  clear FN FB q0 l0 K0 B0
  generalize later w0 y = w1 at *
  go_wp2_with fail
  go_ret
  exact ⟨rfl, B1.out⟩
set_option maxHeartbeats 8000000 in
set_option maxRecDepth 100000 in
theorem check_eq (e : Evt) (w : World) (ht : e.text.size ≤ 5000) (hdg : e.digest < 18446744073709551616) (h : 1 ≤ e.kind ∧ e.kind ≤ 10) (hq : evEq e (bareE e) = true) : Calls Tryz.prog 9 #[e.val] w (ErrPost (checkV e) w) := by
  have hz := tl_ne (name_some h).1
  have hn : ¬ ((e.kind < 1 ∨ 10 < e.kind) ∨ evEq e (bareE e) = false) := by
    rintro (h1 | h1)
    · omega
    · rw [hq] at h1; cases h1
  have HV4 := Lib.hid (chk_4 hn)
  have HV3 := Lib.hid (chk_3 hn)
  have HV0 := Lib.hid (chk_0 hn)
  have HT := Lib.hid (code_text hq)
  have CY := Lib.hid (fun h2 : ¬ outE e => fun W => bytes_any e W (okay_of h h2 ht hdg))
  have HS : Hid ((codeB e).size = (codeL e).length) := by
    show (codeL e).toArray.size = _
    rw [List.size_toArray]
  have BY := Lib.hid (fun h W => bcheck_yes e.want W h)
  have BN := Lib.hid (fun h W => bcheck_no e.want W h)
  unfold outE at *
  generalize checkV e = V at *
  generalize codeB e = cb at *
  generalize (codeL e).length = N at *
  have CN := Lib.hid (fun W => name_any e.kind W)
  have CB := Lib.hid (fun W => bare_any e W)
  have EQ := fun W => eq_evt e (bareE e) W
  rw [hq] at EQ
  generalize nameK e.kind = nm at *
  clear h hq hn hdg
  obtain ⟨k, b, r, p, t, d⟩ := e
  generalize bareE ⟨k, b, r, p, t, d⟩ = c at *
  obtain ⟨k2, b2, r2, p2, t2, d2⟩ := c
  unfold Evt.val at *
  dsimp only at *
  have B0 := Lib.hid (below_new w (.cells (cells11 k b r p t d) 26))
  have K0 := Lib.hid (Blk.new w 26 (cells11 k b r p t d))
  go_enter Tryz.func9, Tryz.ntmps9
  go_wp2_with fail
  generalize w.alloc (.cells #[.int .i64 k, .int .i64 b, .int .i64 r, .int .i64 (p 0), .int .i64 (p 1), .int .i64 (p 2), .int .i64 (p 3), .int .i64 (p 4), .int .i64 (p 5), .string t, .int .u64 (d : Int)] 26) = w0 at *
  have q0 := Blk11 K0.out
  have l0 := K0.out.lt
  have FN := Lib.hid (fun y => CN.out (later w0 y))
  have FB := Lib.hid (fun y => CB.out (later w0 y))
  refine wp_region_later (by kernel_rfl) (by kernel_rfl) ?_
  repeat (first | go_big_quiet_step (first | (go_at_call 11; exact calls_later (FN.out _)) | (go_at_call 24; exact calls_later (FB.out _))) | quiet_step (first | (go_at_call 11; exact calls_later (FN.out _)) | (go_at_call 24; exact calls_later (FB.out _))))
  refine wpQuiet_nil ?_
  rintro _ ⟨y, rfl⟩
  have B1 := Lib.hid (B0.out.trans ((later_below w0 y).mono B0.out.size))
  have K1 := Lib.hid (K0.out.below' (later_below w0 y))
  clear FN FB q0 l0 K0 B0
  generalize later w0 y = w1 at *
  have q1 := Blk11 K1.out
  have l1 := K1.out.lt
  by_cases c1 : b < 0
  · have d1 : decide (b < 0) = true := decide_eq_true c1
    have HX := Lib.hid (HV4.out (.inl c1))
    go_wp2_with fail
    go_ret
    exact ⟨by rw [HX.out]; rfl, B1.out⟩
  have d1 : decide (b < 0) = false := decide_eq_false c1
  by_cases c2 : 8 ≤ b
  · have d2 : decide (8 ≤ b) = true := decide_eq_true c2
    have HX := Lib.hid (HV4.out (.inr (.inl c2)))
    go_wp2_with fail
    go_ret
    exact ⟨by rw [HX.out]; rfl, B1.out⟩
  have d2 : decide (8 ≤ b) = false := decide_eq_false c2
  by_cases c3 : r < 0
  · have d3 : decide (r < 0) = true := decide_eq_true c3
    have HX := Lib.hid (HV4.out (.inr (.inr (.inl c3))))
    go_wp2_with fail
    go_ret
    exact ⟨by rw [HX.out]; rfl, B1.out⟩
  have d3 : decide (r < 0) = false := decide_eq_false c3
  by_cases c4 : 30 ≤ r
  · have d4 : decide (30 ≤ r) = true := decide_eq_true c4
    have HX := Lib.hid (HV4.out (.inr (.inr (.inr (.inl c4)))))
    go_wp2_with fail
    go_ret
    exact ⟨by rw [HX.out]; rfl, B1.out⟩
  have d4 : decide (30 ≤ r) = false := decide_eq_false c4
  cases c5 : validB p with
  | false =>
    have BC := Lib.hid (BN.out c5)
    have HX := Lib.hid (HV4.out (.inr (.inr (.inr (.inr c5)))))
    go_wp2_with fail
    refine (BC.out _).mono ?_
    rintro x w2 ⟨rfl, d2⟩
    have B2 := Lib.hid (chain0 B1.out d2)
    clear d2
    go_wp2_with fail
    go_ret
    exact ⟨by rw [HX.out]; rfl, B2.out⟩
  | true =>
    have BC := Lib.hid (BY.out c5)
    have hno : ¬ (b < 0 ∨ 8 ≤ b ∨ r < 0 ∨ 30 ≤ r ∨ validB p = false) := by
      rintro (x | x | x | x | x)
      · exact c1 x
      · exact c2 x
      · exact c3 x
      · exact c4 x
      · rw [c5] at x; cases x
    have V3 := Lib.hid (HV3.out hno)
    have V0 := Lib.hid (HV0.out hno)
    have CZ := Lib.hid (CY.out hno)
    clear HV4 HV3 HV0 CY BY BN hno c1 c2 c3 c4 c5
    go_wp2_with fail
    refine (BC.out _).mono ?_
    rintro x w2 ⟨rfl, d2⟩
    have B2 := Lib.hid (chain0 B1.out d2)
    have K2 := Lib.hid (K1.out.below' d2)
    clear d2 BC B1 K1 q1 l1
    have q2 := Blk11 K2.out
    have l2 := K2.out.lt
    by_cases c6 : 4000 < t.size
    · have d6 : decide ((4000 : Int) < (t.size : Int)) = true := decide_eq_true (by omega)
      have HX := Lib.hid (V3.out (HT.out c6))
      go_wp2_with fail
      go_ret
      exact ⟨by rw [HX.out]; rfl, B2.out⟩
    · have d6 : decide ((4000 : Int) < (t.size : Int)) = false := decide_eq_false (by omega)
      have HC6 := Lib.hid c6
      clear c6
      go_wp2_with fail
      refine (CZ.out _).mono ?_
      rintro x w3 ⟨rfl, d3⟩
      have B3 := Lib.hid (chain0 B2.out d3)
      clear d3
      by_cases c7 : 4000 < cb.size
      · have d7 : decide ((4000 : Int) < (cb.size : Int)) = true := decide_eq_true (by omega)
        have HX := Lib.hid (V3.out (by rw [← HS.out]; exact c7))
        go_wp2_with fail
        go_ret
        exact ⟨by rw [HX.out]; rfl, B3.out⟩
      · have d7 : decide ((4000 : Int) < (cb.size : Int)) = false := decide_eq_false (by omega)
        have HX := Lib.hid (V0.out (by rw [← HS.out]; exact c7))
        go_wp2_with fail
        go_ret
        exact ⟨by rw [HX.out]; rfl, B3.out⟩
theorem check_any (e : Evt) (w : World) (ht : e.text.size ≤ 5000) (hdg : e.digest < 18446744073709551616) : Calls Tryz.prog 9 #[e.val] w (ErrPost (checkV e) w) := by
  by_cases h : e.kind < 1 ∨ 10 < e.kind
  · exact check_bad e w ht hdg h
  · have h2 : 1 ≤ e.kind ∧ e.kind ≤ 10 := by omega
    cases hq : evEq e (bareE e) with
    | false => exact check_ne e w ht hdg h2 hq
    | true => exact check_eq e w ht hdg h2 hq
theorem okay_chk {e : Evt} (h : checkV e = 0) (hdg : e.digest < 18446744073709551616) (ht : e.text.size ≤ 5000) : Okay e := by
  obtain ⟨h1, h2, h3, h4, h5, h6⟩ := check_parts h
  exact ⟨h1, by omega, by omega, validB_iff.1 h5, ht, hdg⟩
theorem encode_any (e : Evt) (w : World) (ht : e.text.size ≤ 5000) (hdg : e.digest < 18446744073709551616) : Calls Tryz.prog 14 #[e.val] w fun x w' => x = .returned (.tuple #[.string (encodeV e).1, .int .i64 (encodeV e).2]) ∧ Below w.heap.size w w' := by
  have CC := Lib.hid (fun W => check_any e W ht hdg)
  have EC : Hid (checkV e ≠ 0 → encodeV e = (⟨#[]⟩, checkV e)) := fun h => by unfold encodeV; rw [if_pos h]
  have E0 : Hid (checkV e = 0 → encodeV e = (codeB e, 0)) := fun h => by unfold encodeV; rw [if_neg (fun x => x h)]
  have CY := Lib.hid (fun h : checkV e = 0 => fun W => bytes_any e W (okay_chk h hdg ht))
  generalize encodeV e = q at *
  obtain ⟨q1, q2⟩ := q
  generalize checkV e = V at *
  generalize codeB e = cb at *
  obtain ⟨k, b, r, p, t, d⟩ := e
  have K0 := Lib.hid (Blk.new w 26 (cells11 k b r p t d))
  unfold Evt.val at *
  dsimp only at *
  go_enter Tryz.func14, Tryz.ntmps14
  go_wp2_with fail
  refine (CC.out _).mono ?_
  rintro x w1 ⟨rfl, d1⟩
  have B1 := Lib.hid (chain1 (Below.refl _ _) d1)
  have K1 := Lib.hid (K0.out.below' d1)
  clear d1 K0
  have k1 := Blk11 K1.out
  have l1 := K1.out.lt
  by_cases hV : V = 0
  · have HE := Lib.hid (E0.out hV)
    have CZ := Lib.hid (CY.out hV)
    have dv : (V != 0) = false := by rw [hV]; rfl
    clear hV
    go_wp2_with fail
    refine (CZ.out _).mono ?_
    rintro x w2 ⟨rfl, d2⟩
    have B2 := Lib.hid (chain0 B1.out d2)
    clear d2
    go_wp2_with fail
    go_ret2
    obtain ⟨e1, e2⟩ := Prod.mk.inj HE.out
    exact ⟨by rw [e1, e2]; rfl, B2.out⟩
  · have HE := Lib.hid (EC.out hV)
    have dv : (V != 0) = true := by simpa using hV
    clear hV
    go_wp2_with fail
    go_ret2
    obtain ⟨e1, e2⟩ := Prod.mk.inj HE.out
    exact ⟨by rw [e1, e2]; rfl, B1.out⟩
end Go.Proofs.YtaikmgnpfbnjjaaGreatDoor.Ev
namespace Go.Proofs.YtaikmgnpfbnjjaaGreatDoor.Ev
open Go.ChangeShapes Go.WideShapes Go.ChangeAt Go.RowKit Gn Cat Lex Ros Se
set_option linter.unusedVariables false
set_option linter.unusedSimpArgs false
/-- a word behind a space -/
def line2 (n x : ByteArray) : ByteArray := n ++ (⟨#[32]⟩ ++ x)
theorem app_list (a b : ByteArray) : (a ++ b).data.toList = a.data.toList ++ b.data.toList := by simp
theorem line2_list (n x : ByteArray) : (line2 n x).data.toList = n.data.toList ++ 32 :: x.data.toList := by
  unfold line2
  rw [app_list, app_list]
  rfl
theorem line2_size (n x : ByteArray) : (line2 n x).size = n.size + 1 + x.size := by
  have := congrArg List.length (line2_list n x)
  rw [List.length_append, List.length_cons] at this
  show (line2 n x).data.toList.length = n.data.toList.length + 1 + x.data.toList.length
  omega
def capV (v : ByteArray) : ByteArray := if 4000 < v.size then ⟨#[]⟩ else v
theorem fmt_check {S : SetD} {e : Evt} (h : checkV e ≠ 0) : formatV S e = ⟨#[]⟩ := by
  unfold formatV formatL
  rw [if_pos h]
theorem fmt_none {S : SetD} {e : Evt} (h : lastL S e = none) : formatV S e = ⟨#[]⟩ := by
  unfold formatV formatL
  rw [h]
  split <;> rfl
theorem fmt_some {S : SetD} {e : Evt} {t : List UInt8} {v : ByteArray} (hc : checkV e = 0) (h : lastL S e = some t) (hv : v.data.toList = (nameK e.kind).data.toList ++ t) : formatV S e = capV v := by
  have hs : v.size = (nameK e.kind).size + t.length := by
    have := congrArg List.length hv
    rw [List.length_append] at this
    exact this
  unfold formatV formatL capV
  rw [if_neg (fun x => x hc), h]
  dsimp only
  rw [hs]
  by_cases h4 : 4000 < (nameK e.kind).size + t.length
  · rw [if_pos h4, if_pos h4]
  · rw [if_neg h4, if_neg h4, ← hv]
def bidN (S : SetD) (i : Int) : ByteArray := (S.bs.getD i.toNat Bid.none).name
theorem bidB_eq (S : SetD) (i : Int) : bidB S i = (bidN S i).data.toList := rfl
section
variable {S : SetD} {e : Evt}
abbrev outB (S : SetD) (e : Evt) : Prop := S.err ≠ 0 ∨ (S.bs.length : Int) ≤ e.bidder
theorem fmt_out (hb : hasB e.kind) (h : outB S e) : formatV S e = ⟨#[]⟩ := fmt_none (by unfold lastL; rw [if_pos ⟨hb, h⟩])
theorem fmt_plain (hc : checkV e = 0) (hk : e.kind = 3 ∨ e.kind = 4 ∨ e.kind = 9) : formatV S e = capV (nameK e.kind) := by
  refine fmt_some (t := []) hc ?_ (by simp)
  unfold lastL
  have hnb : ¬ hasB e.kind := by rintro (h | h | h | h) <;> omega
  have hnt : ¬ hasT e.kind := by rintro (h | h) <;> omega
  rw [if_neg (fun x => hnb x.1), if_neg (by omega), if_neg hnt, if_neg (by omega), if_neg (by omega), if_neg hnb]
theorem fmt_sale (hc : checkV e = 0) (hk : e.kind = 1) : formatV S e = if saleB e.text.data.toList = true then capV (line2 (nameK 1) (ofL (replL 10 59 (Lib.trimSuffix e.text.data.toList [10])))) else ⟨#[]⟩ := by
  have hnb : ¬ hasB e.kind := by rintro (h | h | h | h) <;> omega
  have hl : lastL S e = (lastT 1 e.text.data.toList).map fun t => [] ++ 32 :: t := by
    unfold lastL
    rw [if_neg (fun x => hnb x.1), if_neg (by omega), if_pos (.inl hk), if_neg hnb, hk]
  rw [sale_text] at hl
  by_cases h : saleB e.text.data.toList = true
  · rw [if_pos h] at hl ⊢
    exact fmt_some hc hl (by rw [line2_list, hk]; rfl)
  · rw [if_neg h] at hl ⊢
    exact fmt_none hl
theorem fmt_demand (hc : checkV e = 0) (hk : e.kind = 2) (ho : ¬ outB S e) : formatV S e = if rfitsB e.want S.ps = true then capV (line2 (line2 (nameK 2) (bidN S e.bidder)) (fmtS e.want S.ps)) else ⟨#[]⟩ := by
  have hl : lastL S e = if rfitsB e.want S.ps = true then some (32 :: bidB S e.bidder ++ 32 :: (fmtS e.want S.ps).data.toList) else none := by
    unfold lastL
    rw [if_neg (fun x => ho x.2), if_pos hk]
  by_cases h : rfitsB e.want S.ps = true
  · rw [if_pos h] at hl ⊢
    exact fmt_some hc hl (by rw [line2_list, line2_list, hk, bidB_eq]; simp)
  · rw [if_neg h] at hl ⊢
    exact fmt_none hl
/-- may a bid's text be the last word? -/
def bidT (t : List UInt8) : Bool := !t.isEmpty && (!t.contains 10 && !(t.head? == some 32))
theorem bid_text (t : List UInt8) : lastT 5 t = if bidT t = true then some t else none := by
  unfold lastT bidT
  rw [if_neg (by decide)]
  by_cases h1 : t = []
  · subst h1; rfl
  · have h1b : t.isEmpty = false := by simpa using h1
    rw [h1b]
    by_cases h2 : t.head? = some 32
    · rw [if_pos (.inr (.inl h2)), h2]
      simp
    · have h2b : (t.head? == some 32) = false := by simpa using h2
      rw [h2b]
      cases h3 : t.contains 10 with
      | true => rw [if_pos (.inr (.inr rfl))]; rfl
      | false => rw [if_neg (by rintro (h | h | h); exact h1 h; exact h2 h; cases h)]; rfl
theorem fmt_bid (hc : checkV e = 0) (hk : e.kind = 5) (ho : ¬ outB S e) : formatV S e = if bidT e.text.data.toList = true then capV (line2 (line2 (nameK 5) (bidN S e.bidder)) e.text) else ⟨#[]⟩ := by
  have hb : hasB e.kind := .inr (.inl hk)
  have hl : lastL S e = (lastT 5 e.text.data.toList).map fun t => (32 :: bidB S e.bidder) ++ 32 :: t := by
    unfold lastL
    rw [if_neg (fun x => ho x.2), if_neg (by omega), if_pos (.inr hk), if_pos hb, hk]
  rw [bid_text] at hl
  by_cases h : bidT e.text.data.toList = true
  · rw [if_pos h] at hl ⊢
    exact fmt_some hc hl (by rw [line2_list, line2_list, hk, bidB_eq]; simp)
  · rw [if_neg h] at hl ⊢
    exact fmt_none hl
theorem fmt_out1 (hc : checkV e = 0) (hk : e.kind = 6 ∨ e.kind = 7) (ho : ¬ outB S e) : formatV S e = capV (line2 (nameK e.kind) (bidN S e.bidder)) := by
  have hb : hasB e.kind := by rcases hk with h | h; exact .inr (.inr (.inl h)); exact .inr (.inr (.inr h))
  have hnt : ¬ hasT e.kind := by rintro (h | h) <;> omega
  refine fmt_some (t := 32 :: bidB S e.bidder) hc ?_ (by rw [line2_list, bidB_eq])
  unfold lastL
  rw [if_neg (fun x => ho x.2), if_neg (by omega), if_neg hnt, if_neg (by omega), if_neg (by omega), if_pos hb]
theorem fmt_rerun (hc : checkV e = 0) (hk : e.kind = 8) : formatV S e = capV (line2 (nameK 8) (ofL (Lib.decDigits e.round.toNat))) := by
  have hnb : ¬ hasB e.kind := by rintro (h | h | h | h) <;> omega
  have hnt : ¬ hasT e.kind := by rintro (h | h) <;> omega
  refine fmt_some (t := 32 :: Lib.decDigits e.round.toNat) hc ?_ (by rw [line2_list, hk]; rfl)
  unfold lastL
  rw [if_neg (fun x => hnb x.1), if_neg (by omega), if_neg hnt, if_pos hk]
theorem fmt_decide (hc : checkV e = 0) (hk : e.kind = 10) : formatV S e = capV (line2 (nameK 10) (ofL (Sum.hexL e.digest 16))) := by
  have hnb : ¬ hasB e.kind := by rintro (h | h | h | h) <;> omega
  have hnt : ¬ hasT e.kind := by rintro (h | h) <;> omega
  refine fmt_some (t := 32 :: Sum.hexL e.digest 16) hc ?_ (by rw [line2_list, hk]; rfl)
  unfold lastL
  rw [if_neg (fun x => hnb x.1), if_neg (by omega), if_neg hnt, if_neg (by omega), if_pos hk]
end
end Go.Proofs.YtaikmgnpfbnjjaaGreatDoor.Ev
namespace Go.Proofs.YtaikmgnpfbnjjaaGreatDoor.Ev
open Go.ChangeShapes Go.WideShapes Go.ChangeAt Go.RowKit Gn Cat Lex Ros Se
set_option linter.unusedVariables false
set_option linter.unusedSimpArgs false
attribute [local go_sem] later_cell
abbrev TextPost (t : ByteArray) (b : Bool) (w : World) : Ending → World → Prop := fun x w' => x = .returned (.tuple #[.string t, .bool b]) ∧ Below w.heap.size w w'
theorem ofL_size (l : List UInt8) : (ofL l).size = l.length := by
  show l.toArray.size = _
  rw [List.size_toArray]
theorem ofL_list (l : List UInt8) : (ofL l).data.toList = l := rfl
theorem ofL_empty (l : List UInt8) : (ofL l).toList.isEmpty = l.isEmpty := by
  rw [ByteArray.toList_eq]
  rfl
theorem trim_len (l : List UInt8) : (Lib.trimSuffix l [10]).length ≤ l.length := by
  unfold Lib.trimSuffix
  split
  · rw [List.length_take]; omega
  · exact Nat.le_refl _
set_option maxHeartbeats 2000000 in
set_option maxRecDepth 100000 in
theorem text_sale (e : Evt) (w : World) (hsh : Sh w) (ht : e.text.size ≤ 5000) (hk : e.kind = 1) : Calls Tryz.prog 46 #[e.val] w (TextPost (ofL (replL 10 59 (Lib.trimSuffix e.text.data.toList [10]))) (saleB e.text.data.toList) w) := by
  obtain ⟨k, b, r, p, t, d⟩ := e
  unfold Evt.val
  dsimp only at *
  subst hk
  have K0 := Lib.hid (Blk.new w 26 (cells11 1 b r p t d))
  have CS := Lib.hid (fun W => cutSuf_any t W ht)
  have hb : saleB t.data.toList = (Lib.hasSuffix t.data.toList [10] && (!(Lib.trimSuffix t.data.toList [10]).isEmpty && (!Lib.hasSuffix (Lib.trimSuffix t.data.toList [10]) [10] && !(Lib.trimSuffix t.data.toList [10]).contains 59))) := rfl
  have hl : (ofL (Lib.trimSuffix t.data.toList [10])).size ≤ 5000 := by
    rw [ofL_size]
    have := trim_len t.data.toList
    have h2 : t.data.toList.length = t.size := rfl
    omega
  have CR := Lib.hid (fun W (b : Below w.heap.size w W) => repl_any (ofL (Lib.trimSuffix t.data.toList [10])) 10 59 W (by decide) (sh_keep hsh b) hl)
  have CH := Lib.hid (fun W => hasSuf_any (ofL (Lib.trimSuffix t.data.toList [10])) W hl)
  have CC := Lib.hid (fun W => has_any (ofL (Lib.trimSuffix t.data.toList [10])) 59 W)
  have hz := ofL_empty (Lib.trimSuffix t.data.toList [10])
  rw [ofL_list] at CR CH CC
  generalize saleB t.data.toList = V at *
  generalize ofL (replL 10 59 (Lib.trimSuffix t.data.toList [10])) = tv at *
  generalize ofL (Lib.trimSuffix t.data.toList [10]) = u at *
  generalize Lib.hasSuffix t.data.toList [10] = b1 at *
  generalize Lib.hasSuffix (Lib.trimSuffix t.data.toList [10]) [10] = b3 at *
  generalize (Lib.trimSuffix t.data.toList [10]).contains 59 = b4 at *
  generalize (Lib.trimSuffix t.data.toList [10]).isEmpty = b2 at *
  have HB := Lib.hid hb
  clear hb ht hl hsh
  go_enter Tryz.func46, Tryz.ntmps46
  go_wp2_with fail
  refine (CS.out _).mono ?_
  rintro x w1 ⟨rfl, rfl⟩
  have B1 := Lib.hid (below_new w (.cells (cells11 1 b r p t d) 26))
  go_wp2_with fail
  refine (CR.out _ B1.out).mono ?_
  rintro x w2 ⟨rfl, d2⟩
  have B2 := Lib.hid (chain1 (Below.refl _ _) d2)
  clear d2 B1
  cases b1 with
  | false =>
    go_wp2_with fail
    go_ret2
    exact ⟨by rw [HB.out]; rfl, B2.out⟩
  | true =>
    cases b2 with
    | true =>
      go_wp2_with fail
      go_ret2
      exact ⟨by rw [HB.out]; rfl, B2.out⟩
    | false =>
      go_wp2_with fail
      refine (CH.out _).mono ?_
      rintro x w3 ⟨rfl, rfl⟩
      cases b3 with
      | true =>
        go_wp2_with fail
        go_ret2
        exact ⟨by rw [HB.out]; rfl, B2.out⟩
      | false =>
        go_wp2_with fail
        refine (CC.out _).mono ?_
        rintro x w4 ⟨rfl, rfl⟩
        cases b4 <;> (go_wp2_with fail; go_ret2; exact ⟨by rw [HB.out]; rfl, B2.out⟩)
theorem head_of {t : ByteArray} (h : 0 < t.size) : t.data.toList.head? = some t[0] := by
  rw [List.head?_eq_getElem?, List.getElem?_eq_getElem (show 0 < t.data.toList.length from h)]
  rfl
theorem pos_of {t : ByteArray} (h : t ≠ ⟨#[]⟩) : 0 < t.size := by
  rcases Nat.eq_zero_or_pos t.size with h0 | h0
  · exact absurd (ByteArray.ext (Array.toList_inj.1 (List.eq_nil_of_length_eq_zero h0))) h
  · exact h0
theorem isE_of {t : ByteArray} (h : t ≠ ⟨#[]⟩) : t.data.toList.isEmpty = false := by
  have := pos_of h
  cases hx : t.data.toList.isEmpty with
  | false => rfl
  | true =>
    have h2 : t.data.toList.length = 0 := by rw [List.isEmpty_iff.1 hx]; rfl
    have h3 : t.data.toList.length = t.size := rfl
    omega
set_option maxHeartbeats 2000000 in
set_option maxRecDepth 100000 in
theorem text_bid (e : Evt) (w : World) (hk : e.kind ≠ 1) : Calls Tryz.prog 46 #[e.val] w (TextPost e.text (bidT e.text.data.toList) w) := by
  obtain ⟨k, b, r, p, t, d⟩ := e
  unfold Evt.val
  dsimp only at *
  have K0 := Lib.hid (Blk.new w 26 (cells11 k b r p t d))
  have B0 := Lib.hid (below_new w (.cells (cells11 k b r p t d) 26))
  have dk : (k == 1) = false := by simpa using hk
  have CC : Hid (∀ W, Calls Tryz.prog 82 #[.string t, .string ⟨#[10]⟩] W fun x w' => x = .returned (.bool (t.data.toList.contains 10)) ∧ Below W.heap.size W w') := fun W => (has_any t 10 W).mono fun x w' ⟨h1, h2⟩ => ⟨h1, by rw [h2]; exact Below.refl _ _⟩
  have hb : bidT t.data.toList = (!t.data.toList.isEmpty && (!t.data.toList.contains 10 && !(t.data.toList.head? == some 32))) := rfl
  have HB := Lib.hid hb
  clear hb hk
  go_enter Tryz.func46, Tryz.ntmps46
  go_wp2_with fail
  generalize w.alloc (.cells #[.int .i64 k, .int .i64 b, .int .i64 r, .int .i64 (p 0), .int .i64 (p 1), .int .i64 (p 2), .int .i64 (p 3), .int .i64 (p 4), .int .i64 (p 5), .string t, .int .u64 (d : Int)] 26) = w0 at *
  have FC := Lib.hid (fun y => CC.out (later w0 y))
  have q0 := Blk11 K0.out
  have l0 := K0.out.lt
  have HL := Lib.hid (fun y => B0.out.trans ((later_below w0 y).mono B0.out.size))
  clear K0 B0 CC
  by_cases h0 : t = ⟨#[]⟩
  · subst h0
    have hz : (⟨#[]⟩ : ByteArray).toList.isEmpty = true := by decide +kernel
    have hv : Hid (bidT (⟨#[]⟩ : ByteArray).data.toList = false) := rfl
    generalize (⟨#[]⟩ : ByteArray) = t at *
    refine wp_region_later (by kernel_rfl) (by kernel_rfl) ?_
    repeat (first | go_big_quiet_step (fail) | quiet_step (fail))
    refine wpQuiet_nil ?_
    rintro _ ⟨y, rfl⟩
    go_wp2_with fail
    go_ret2
    exact ⟨by rw [hv.out]; rfl, HL.out y⟩
  · have hz := ne_empty h0
    have hp := pos_of h0
    have hpi : (0 : Int) < (t.size : Int) := by omega
    have hi : Hid (t.data.toList.isEmpty = false) := isE_of h0
    cases hc : t.data.toList.contains 10 with
    | true =>
      have hv : Hid (bidT t.data.toList = false) := by show _ = _; rw [HB.out, hi.out, hc]; rfl
      rw [hc] at FC
      generalize bidT t.data.toList = V at *
      clear hc
      refine wp_region_later (by kernel_rfl) (by kernel_rfl) ?_
      repeat (first | go_big_quiet_step ((go_at_call 82; exact calls_later (FC.out _))) | quiet_step ((go_at_call 82; exact calls_later (FC.out _))))
      refine wpQuiet_nil ?_
      rintro _ ⟨y, rfl⟩
      go_wp2_with fail
      go_ret2
      exact ⟨by rw [hv.out]; rfl, HL.out y⟩
    | false =>
      have hv : Hid (bidT t.data.toList = ((t[0].toNat : Int) != 32)) := by
        show _ = _
        rw [HB.out, hi.out, hc, head_of hp]
        by_cases e32 : t[0] = 32
        · rw [e32]; rfl
        · have h1 : (some t[0] == some (32 : UInt8)) = false := by simpa using e32
          have h2 : ((t[0].toNat : Int) != 32) = true := by
            simp only [bne_iff_ne, ne_eq]
            intro hx
            exact e32 (UInt8.toNat_inj.1 (by show t[0].toNat = 32; omega))
          rw [h1, h2]; rfl
      rw [hc] at FC
      generalize bidT t.data.toList = V at *
      clear hc
      refine wp_region_later (by kernel_rfl) (by kernel_rfl) ?_
      repeat (first | go_big_quiet_step ((go_at_call 82; exact calls_later (FC.out _))) | quiet_step ((go_at_call 82; exact calls_later (FC.out _))))
      refine wpQuiet_nil ?_
      rintro _ ⟨y, rfl⟩
      go_wp2_with fail
      go_ret2
      exact ⟨by rw [hv.out]; rfl, HL.out y⟩
end Go.Proofs.YtaikmgnpfbnjjaaGreatDoor.Ev
namespace Go.Proofs.YtaikmgnpfbnjjaaGreatDoor.Ev
open Go.ChangeShapes Go.WideShapes Go.ChangeAt Go.RowKit Gn Cat Lex Ros Se
set_option linter.unusedVariables false
set_option linter.unusedSimpArgs false
theorem eqS_yes {a b : ByteArray} (h : a = b) : (a.toList == b.toList) = true := by subst h; simp
theorem eqS_no {a b : ByteArray} (h : a ≠ b) : (a.toList == b.toList) = false := by
  cases hx : (a.toList == b.toList) with
  | false => rfl
  | true => exact absurd (eqB_iff.1 (show eqB a b = true from hx)) h
set_option maxHeartbeats 1000000 in
theorem kindOf_any (s : ByteArray) (w : World) : Calls Tryz.prog 55 #[.string s] w fun e w' => e = .returned (.int .i64 (kindOf s.data.toList)) ∧ Below w.heap.size w w' := by
  have CN := Lib.hid (fun k W => name_any k W)
  obtain ⟨r, hr⟩ : ∃ r, r = kindOf s.data.toList := ⟨_, rfl⟩
  have HR := Lib.hid hr
  rw [← hr]
  clear hr
  go_enter Tryz.func55, Tryz.ntmps55
  go_wp2_with fail
  go_loopw [3] (fun kv wr => ∃ k : Nat, 1 ≤ k ∧ k ≤ 11 ∧ kv = .int .i64 (k : Int) ∧ Hid (∀ j : Int, 1 ≤ j → j < (k : Int) → nameK j ≠ s) ∧ Hid (Below w.heap.size w wr)) (fun kv _ => 11 - (intOf kv).toNat)
  case atStart => exact ⟨1, by omega, by omega, rfl, fun j h1 h2 => by omega, Below.refl _ _⟩
  case round =>
    obtain ⟨k, hk1, hk2, rfl, HN, HB⟩ := hrel
    by_cases hk : k ≤ 10
    · have hd : decide ((k : Int) ≤ 10) = true := decide_eq_true (by omega)
      go_wp2_with fail
      refine (CN.out _ _).mono ?_
      rintro e w1 ⟨rfl, b1⟩
      have B1 := Lib.hid (chain0 HB.out b1)
      clear b1 HB
      by_cases he : nameK (k : Int) = s
      · have hb := eqS_yes he
        have HK : Hid (r = (k : Int)) := by
          show _ = _
          rw [HR.out, ← he]
          exact kindOf_name (by omega)
        clear he
        go_wp2_with fail
        go_ret
        exact ⟨by rw [HK.out]; rfl, B1.out⟩
      · have hb := eqS_no he
        have HE := Lib.hid he
        clear he
        go_wp2_with fail
        go_roundw
        case rel => exact ⟨k + 1, by omega, by omega, by simp, fun j h1 h2 => by
          rcases Int.lt_or_eq_of_le (show j ≤ (k : Int) by omega) with h3 | h3
          · exact HN.out j h1 h3
          · rw [h3]; exact HE.out, B1.out⟩
        case measure => simp [intOf]; omega
    · have hd : decide ((k : Int) ≤ 10) = false := decide_eq_false (by omega)
      have HK : Hid (r = 0) := by
        show _ = _
        rw [HR.out]
        exact kindOf_none fun j h1 h2 => HN.out j h1 (by omega)
      go_wp2_with fail
      go_ret
      exact ⟨by rw [HK.out]; rfl, HB.out⟩
theorem num_byte (n : Nat) (h : n < 10) : ((48 : Int) + (n : Int)) = ((UInt8.ofNat (48 + n)).toNat : Int) := by
  show _ = (((48 + n) % 256 : Nat) : Int)
  omega
set_option maxRecDepth 100000 in
theorem number_small (n : Nat) (h : n < 10) (w : World) : Calls Tryz.prog 47 #[.int .i64 (n : Int)] w (StrPost (ofL [UInt8.ofNat (48 + n)]) w) := by
  have hd : decide ((n : Int) < 10) = true := decide_eq_true (by omega)
  have HB := ruint_one ((48 : Int) + (n : Int)) (UInt8.ofNat (48 + n)) w (num_byte n h)
  generalize UInt8.ofNat (48 + n) = c at *
  go_enter Tryz.func47, Tryz.ntmps47
  go_wp2_with fail
  go_ret
  exact ⟨rfl, below_new _ _⟩
set_option maxRecDepth 100000 in
theorem number_any (n : Nat) (h : n < 100) (w : World) : Calls Tryz.prog 47 #[.int .i64 (n : Int)] w (StrPost (ofL (Lib.decDigits n)) w) := by
  by_cases hn : n < 10
  · rw [dec_small hn]
    exact number_small n hn w
  · have hd : decide ((n : Int) < 10) = false := decide_eq_false (by omega)
    have CA := Lib.hid fun W (q : Int) (hq : q = ((n / 10 : Nat) : Int)) => by
      have k := number_small (n / 10) (by omega) W
      rw [← hq] at k
      exact k
    have CB := Lib.hid fun W (q : Int) (hq : q = ((n % 10 : Nat) : Int)) => by
      have k := number_small (n % 10) (by omega) W
      rw [← hq] at k
      exact k
    have HD : Hid (ofL (Lib.decDigits n) = ofL [UInt8.ofNat (48 + n / 10)] ++ ofL [UInt8.ofNat (48 + n % 10)]) := by
      show _ = _
      rw [dec_big hn, dec_small (by omega)]
      rfl
    have HQ : Hid ((n : Int) / 10 = ((n / 10 : Nat) : Int)) := by show _ = _; omega
    have HM : Hid ((n : Int) % 10 = ((n % 10 : Nat) : Int)) := by show _ = _; omega
    have HA := fun W => add_s (ofL [UInt8.ofNat (48 + n / 10)]) (ofL [UInt8.ofNat (48 + n % 10)]) (by show 1 + 1 ≤ _; omega) W
    generalize ofL (Lib.decDigits n) = r at *
    generalize ofL [UInt8.ofNat (48 + n / 10)] = r1 at *
    generalize ofL [UInt8.ofNat (48 + n % 10)] = r2 at *
    go_enter Tryz.func47, Tryz.ntmps47
    go_wp2_with fail
    refine (CA.out _ _ HQ.out).mono ?_
    rintro e w1 ⟨rfl, b1⟩
    have B1 := Lib.hid b1
    clear b1
    go_wp2_with fail
    refine (CB.out _ _ HM.out).mono ?_
    rintro e w2 ⟨rfl, b2⟩
    have B2 := Lib.hid (chain0 B1.out b2)
    clear b2
    go_wp2_with fail
    go_ret
    exact ⟨by rw [HD.out]; rfl, B2.out⟩
theorem dig_lt {b : UInt8} : isDig b = true ↔ 48 ≤ b.toNat ∧ b.toNat ≤ 57 := by
  unfold isDig
  simp
set_option maxHeartbeats 2000000 in
set_option maxRecDepth 100000 in
theorem decimal_any (s : ByteArray) (w : World) (hs : s.size ≤ 5000) : Calls Tryz.prog 90 #[.string s, .int .i64 29] w fun e w' => e = .returned (.tuple #[.int .i64 (decR s.data.toList).1, .int .i64 (decR s.data.toList).2]) ∧ w' = w := by
  by_cases h0 : s = ⟨#[]⟩
  · subst h0
    have hz : (⟨#[]⟩ : ByteArray).toList.isEmpty = true := by decide +kernel
    have HD : Hid (decR (⟨#[]⟩ : ByteArray).data.toList = (0, 2)) := decR_nil
    generalize decR (⟨#[]⟩ : ByteArray).data.toList = r at *
    go_enter Tryz.func90, Tryz.ntmps90
    go_wp2_with fail
    go_ret2
    rw [HD.out]
    exact ⟨rfl, rfl⟩
  · have hz := ne_empty h0
    have hs0 : 0 < s.size := by
      rcases Nat.eq_zero_or_pos s.size with h | h
      · exact absurd (ByteArray.ext (Array.toList_inj.1 (List.eq_nil_of_length_eq_zero h))) h0
      · exact h
    have hl0 : s.data.toList ≠ [] := fun e => by
      have : s.data.toList.length = 0 := by rw [e]; rfl
      have : s.size = 0 := this
      omega
    have hhd : s.data.toList.head? = some s[0] := by
      rw [List.head?_eq_getElem?, List.getElem?_eq_getElem (show 0 < s.data.toList.length from hs0)]
      rfl
    by_cases h1 : 1 < s.size ∧ s[0].toNat = 48
    · have HD : Hid (decR s.data.toList = (0, 2)) := decR_head h1.1 (by rw [hhd]; congr 1; exact UInt8.toNat_inj.1 h1.2)
      generalize decR s.data.toList = r at *
      have d1 : decide ((1 : Int) < (s.size : Int)) = true := decide_eq_true (by omega)
      have d2 : ((s[0].toNat : Int) == 48) = true := by rw [h1.2]; rfl
      clear h1 hhd
      go_enter Tryz.func90, Tryz.ntmps90
      go_wp2_with fail
      go_ret2
      rw [HD.out]
      exact ⟨rfl, rfl⟩
    · have hx : ¬ (1 < s.data.toList.length ∧ s.data.toList.head? = some 48) := fun h => h1 ⟨h.1, by
        have h2 := h.2
        rw [hhd] at h2
        rw [Option.some.inj h2]; rfl⟩
      have HG := Lib.hid (decR_good hl0 hx)
      have HB := Lib.hid (decR_bad (l := s.data.toList))
      have HF := Lib.hid (fun k (h : k < s.data.toList.length) => digB_fail (l := s.data.toList) h)
      have hd01 : decide ((1 : Int) < (s.size : Int)) = false ∨ decide ((1 : Int) < (s.size : Int)) = true ∧ ((s[0].toNat : Int) == 48) = false := by
        by_cases e : 1 < s.size
        · exact .inr ⟨decide_eq_true (by omega), by simp; intro h; exact h1 ⟨e, by omega⟩⟩
        · exact .inl (decide_eq_false (by omega))
      obtain ⟨r, hr⟩ : ∃ r, r = decR s.data.toList := ⟨_, rfl⟩
      rw [← hr] at HG HB ⊢
      clear hx h1 hhd hl0 h0 hr
      rcases hd01 with d1 | ⟨d1, d2⟩
      all_goals
        go_enter Tryz.func90, Tryz.ntmps90
        go_wp2_with fail
        go_loop [6, 22] (fun nv iv => ∃ k : Nat, k ≤ s.size ∧ iv = .int .i64 (k : Int) ∧ Hid (digB (s.data.toList.take k) = true) ∧ nv = .int .i64 ((minV 30 (s.data.toList.take k) : Nat) : Int)) (fun _ iv => s.size - (intOf iv).toNat)
        case atStart => exact ⟨0, by omega, rfl, rfl, rfl⟩
        case round =>
          obtain ⟨k, hk, rfl, HK, rfl⟩ := hrel
          by_cases hks : k < s.size
          · have hd : decide ((k : Int) < (s.size : Int)) = true := decide_eq_true (by omega)
            have htk : s.data.toList.take (k + 1) = s.data.toList.take k ++ [s[k]] := by
              rw [List.take_succ_eq_append_getElem (show k < s.data.toList.length from hks)]
              rfl
            by_cases hdg : isDig s[k] = true
            · obtain ⟨q1, q2⟩ := dig_lt.1 hdg
              have c1 : decide ((s[k].toNat : Int) < 48) = false := decide_eq_false (by omega)
              have c2 : decide ((57 : Int) < (s[k].toNat : Int)) = false := decide_eq_false (by omega)
              have HK2 : Hid (digB (s.data.toList.take (k + 1)) = true) := by
                show _ = _
                rw [htk, digB_snoc HK.out]
                exact hdg
              have HM2 : Hid (minV 30 (s.data.toList.take (k + 1)) = min (10 * minV 30 (s.data.toList.take k) + (s[k].toNat - 48)) 30) := by
                show _ = _
                rw [htk, minV_snoc]
              have HML := minV_le 30 (s.data.toList.take k)
              generalize minV 30 (s.data.toList.take k) = m at *
              clear hdg htk
              go_wp2_with fail
              refine ⟨⟨k + 1, by omega, by simp, HK2.out, ?_⟩, by simp [intOf]; omega⟩
              rw [HM2.out]
              congr 1
              omega
            · have hdf : isDig s[k] = false := by simpa using hdg
              have HR := Lib.hid (HB.out (HF.out k hks hdf))
              have hc12 : decide ((s[k].toNat : Int) < 48) = true ∨ decide ((s[k].toNat : Int) < 48) = false ∧ decide ((57 : Int) < (s[k].toNat : Int)) = true := by
                by_cases e : s[k].toNat < 48
                · exact .inl (decide_eq_true (by omega))
                · refine .inr ⟨decide_eq_false (by omega), decide_eq_true ?_⟩
                  have : ¬ s[k].toNat ≤ 57 := fun h => hdg (dig_lt.2 ⟨by omega, h⟩)
                  omega
              clear hdg hdf htk
              rcases hc12 with c1 | ⟨c1, c2⟩
              all_goals
                go_wp2_with fail
                go_ret2
                rw [HR.out]
                exact ⟨rfl, rfl⟩
          · have hd : decide ((k : Int) < (s.size : Int)) = false := decide_eq_false (by omega)
            have htk : s.data.toList.take k = s.data.toList := List.take_of_length_le (by show s.size ≤ k; omega)
            rw [htk] at HK ⊢
            have HR := Lib.hid (HG.out HK.out)
            obtain ⟨hb1, hb2⟩ := minV_big (m := 30) (n := 29) (l := s.data.toList) (by decide)
            by_cases hv : 29 < val s.data.toList
            · have HR2 := Lib.hid (HR.out.trans (if_pos hv))
              have dv : decide ((29 : Int) < (minV 30 s.data.toList : Int)) = true := decide_eq_true (by have := hb1.2 hv; omega)
              clear hv hb1 hb2 htk
              go_wp2_with fail
              go_ret2
              rw [HR2.out]
              exact ⟨rfl, rfl⟩
            · have HR2 := Lib.hid (HR.out.trans (if_neg hv))
              have HE := Lib.hid (hb2 (by omega))
              have dv : decide ((29 : Int) < (minV 30 s.data.toList : Int)) = false := decide_eq_false (by rw [HE.out]; omega)
              clear hv hb1 hb2 htk
              go_wp2_with fail
              go_ret2
              rw [HR2.out, ← HE.out]
              exact ⟨rfl, rfl⟩
end Go.Proofs.YtaikmgnpfbnjjaaGreatDoor.Ev
