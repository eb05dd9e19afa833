/- Two events compared. Contracts of event.Check and Encode. Printed by gen_ev6.py. -/
import Derived.Test.YtaikmgnpfbnjjaaGreatDoorPu19
import Derived.Laws.StructEq
import Derived.Test.YtaikmgnpfbnjjaaGreatDoorPu27
import Derived.Test.YtaikmgnpfbnjjaaGreatDoorPu06
import Derived.Deep.Quiet
import Derived.Deep.QuietTactic
import Derived.Test.YtaikmgnpfbnjjaaGreatDoorPu17
namespace Go.Proofs.YtaikmgnpfbnjjaaGreatDoor.Ev
open Go.ChangeShapes Go.WideShapes Go.ChangeAt Go.RowKit Gn Cat Lex
set_option linter.unusedVariables false
set_option linter.unusedSimpArgs false
section
variable {P : Program} {w : World}
theorem run_part_arr {t e : TypeId} {n : Nat} {i : TypeInfo} (hu : P.underlying t = some (.array n e)) (hi : P.info? t = some i) (xs : Array Value) (off : Nat) : (part t xs off).run P w = .ok (.agg (xs.extract off (off + P.cellsOf t))) w := by
  simp [part, isAgg, run_underlying hu, run_sizeOf w hi]
theorem field_step {f : Field} {fs : List Field} {d : Nat} {xs ys : Array Value} {x y : Value} {r s : Bool} (hn : (f.name == "_") = false) (hx : (part f.type xs f.offset).run P w = .ok x w) (hy : (part f.type ys f.offset).run P w = .ok y w)
    (he : (Op.equalIn d f.type x y).run P w = .ok r w) (hr : (Op.eqFields d xs ys fs).run P w = .ok s w) : (Op.eqFields d xs ys (f :: fs)).run P w = .ok (r && s) w := by
  have hne : f.name ≠ "_" := by simpa using hn
  simp only [Op.eqFields]
  rw [if_pos hne]
  simp only [Sem.run_bind, hx, hy, he, Result.andThen_ok]
  cases r
  · simp
  · simp [hr]
theorem int_step {k : IntKind} {f : Field} {fs : List Field} {d : Nat} {xs ys : Array Value} {a b : Int} {s : Bool} (hu : P.underlying f.type = some (.int k)) (hn : (f.name == "_") = false) (hx : xs[f.offset]? = some (.int k a)) (hy : ys[f.offset]? = some (.int k b))
    (hr : (Op.eqFields (d + 1) xs ys fs).run P w = .ok s w) : (Op.eqFields (d + 1) xs ys (f :: fs)).run P w = .ok (a == b && s) w := by
  have hp : P.plainKey f.type = true := by unfold Program.plainKey; rw [hu]
  exact field_step hn (run_part_plain (w := w) hp hx) (run_part_plain (w := w) hp hy) (run_equalIn_int w d f.type k k a b hu) hr
theorem str_step {f : Field} {fs : List Field} {d : Nat} {xs ys : Array Value} {a b : ByteArray} {s : Bool} (hu : P.underlying f.type = some .string) (hn : (f.name == "_") = false) (hx : xs[f.offset]? = some (.string a)) (hy : ys[f.offset]? = some (.string b))
    (hr : (Op.eqFields (d + 1) xs ys fs).run P w = .ok s w) : (Op.eqFields (d + 1) xs ys (f :: fs)).run P w = .ok (eqB a b && s) w := by
  have hp : P.plainKey f.type = true := by unfold Program.plainKey; rw [hu]
  exact field_step hn (run_part_plain (w := w) hp hx) (run_part_plain (w := w) hp hy) (run_equalIn_string w d f.type a b hu) hr
theorem run_eq6d {E T : TypeId} {i : TypeInfo} (d : Nat) (hT : P.underlying T = some (.array 6 E)) (hi : P.info? E = some i) (hE : P.underlying E = some (.int .i64)) (hp : P.plainKey E = true) (hc : P.cellsOf E = 1) (a b : Nat → Int) :
    (Op.equalIn (d + 2) T (.agg (arr a)) (.agg (arr b))).run P w = .ok (eq6 a b) w := by
  rw [run_equalIn_array w (d + 1) _ _ hT hi, hc]
  show (Op.eqItems (d + 1) E 1 (arr a) (arr b) [0, 1, 2, 3, 4, 5]).run P w = _
  unfold eq6
  refine item_step hE hp _ _ 0 _ (a 0) (b 0) rfl rfl _ w ?_
  refine item_step hE hp _ _ 1 _ (a 1) (b 1) rfl rfl _ w ?_
  refine item_step hE hp _ _ 2 _ (a 2) (b 2) rfl rfl _ w ?_
  refine item_step hE hp _ _ 3 _ (a 3) (b 3) rfl rfl _ w ?_
  refine item_step hE hp _ _ 4 _ (a 4) (b 4) rfl rfl _ w ?_
  rw [show (a 5 == b 5) = (a 5 == b 5 && true) by simp]
  exact item_step hE hp _ _ 5 _ (a 5) (b 5) rfl rfl _ w rfl
end
set_option maxRecDepth 100000 in
theorem evt_facts : ∃ f0 f1 f2 f3 f4 f5 : Field, ∃ e i, (Tryz.prog.fieldsOf 26).toList = [f0, f1, f2, f3, f4, f5] ∧
    (Tryz.prog.underlying f0.type = some (.int .i64) ∧ f0.offset = 0 ∧ (f0.name == "_") = false) ∧
    (Tryz.prog.underlying f1.type = some (.int .i64) ∧ f1.offset = 1 ∧ (f1.name == "_") = false) ∧
    (Tryz.prog.underlying f2.type = some (.int .i64) ∧ f2.offset = 2 ∧ (f2.name == "_") = false) ∧
    (Tryz.prog.underlying f3.type = some (.array 6 e) ∧ f3.offset = 3 ∧ (f3.name == "_") = false ∧ Tryz.prog.underlying e = some (.int .i64) ∧ Tryz.prog.cellsOf e = 1 ∧ Tryz.prog.cellsOf f3.type = 6 ∧ Tryz.prog.info? e = some i ∧ Tryz.prog.plainKey e = true) ∧
    (Tryz.prog.underlying f4.type = some .string ∧ f4.offset = 9 ∧ (f4.name == "_") = false) ∧
    (Tryz.prog.underlying f5.type = some (.int .u64) ∧ f5.offset = 10 ∧ (f5.name == "_") = false) := by
  obtain ⟨i, hi⟩ : ∃ i, Tryz.prog.info? 3 = some i := ⟨_, (Option.some_get (by kernel_rfl)).symm⟩
  unfold Program.fieldsOf
  rw [Tryz.underlying26]
  exact ⟨_, _, _, _, _, _, 3, i, rfl, ⟨by kernel_rfl, by kernel_rfl, by kernel_rfl⟩, ⟨by kernel_rfl, by kernel_rfl, by kernel_rfl⟩, ⟨by kernel_rfl, by kernel_rfl, by kernel_rfl⟩, ⟨by kernel_rfl, by kernel_rfl, by kernel_rfl, by kernel_rfl, by kernel_rfl, by kernel_rfl, hi, by kernel_rfl⟩, ⟨by kernel_rfl, by kernel_rfl, by kernel_rfl⟩, ⟨by kernel_rfl, by kernel_rfl, by kernel_rfl⟩⟩
theorem nat_beq (a b : Nat) : ((a : Int) == (b : Int)) = (a == b) := by
  rw [Bool.eq_iff_iff, beq_iff_eq, beq_iff_eq]
  omega
set_option maxRecDepth 100000 in
theorem eq_evt (a b : Evt) (w : World) : (Op.equalIn 10000 26 a.val b.val).run Tryz.prog w = .ok (evEq a b) w := by
  obtain ⟨f0, f1, f2, f3, f4, f5, e, i, hf, ⟨k0, o0, n0⟩, ⟨k1, o1, n1⟩, ⟨k2, o2, n2⟩, ⟨k3, o3, n3, k3e, z3e, z3, hi, hp⟩, ⟨k4, o4, n4⟩, ⟨k5, o5, n5⟩⟩ := evt_facts
  unfold Evt.val
  rw [run_equalIn_struct w 9999 _ _ _ (by kernel_rfl) (by kernel_rfl), hf]
  unfold evEq
  refine int_step (d := 9998) k0 n0 (by rw [o0]; rfl) (by rw [o0]; rfl) ?_
  refine int_step (d := 9998) k1 n1 (by rw [o1]; rfl) (by rw [o1]; rfl) ?_
  refine int_step (d := 9998) k2 n2 (by rw [o2]; rfl) (by rw [o2]; rfl) ?_
  obtain ⟨j, hj⟩ : ∃ j, Tryz.prog.info? f3.type = some j := by
    cases h : Tryz.prog.info? f3.type with
    | none => rw [Program.underlying, h] at k3; cases k3
    | some j => exact ⟨j, rfl⟩
  refine field_step (x := .agg (arr a.want)) (y := .agg (arr b.want)) n3 ?_ ?_ (run_eq6d 9997 k3 hi k3e hp z3e a.want b.want) ?_
  · rw [run_part_arr k3 hj, o3, z3]; rfl
  · rw [run_part_arr k3 hj, o3, z3]; rfl
  refine str_step (d := 9998) k4 n4 (by rw [o4]; rfl) (by rw [o4]; rfl) ?_
  rw [← nat_beq, show ((a.digest : Int) == (b.digest : Int)) = (((a.digest : Int) == (b.digest : Int)) && true) by simp]
  refine int_step (d := 9998) k5 n5 (by rw [o5]; rfl) (by rw [o5]; rfl) ?_
  simp [Op.eqFields]
end Go.Proofs.YtaikmgnpfbnjjaaGreatDoor.Ev
namespace Go.Proofs.YtaikmgnpfbnjjaaGreatDoor.Ev
open Go.ChangeShapes Go.WideShapes Go.ChangeAt Go.RowKit Gn Cat Lex Se
set_option linter.unusedVariables false
set_option linter.unusedSimpArgs false
attribute [local go_sem] later_cell
theorem chk_2 {e : Evt} (h : (e.kind < 1 ∨ 10 < e.kind) ∨ evEq e (bareE e) = false) : checkV e = 2 := by unfold checkV; rw [if_pos h]
abbrev outE (e : Evt) : Prop := e.bidder < 0 ∨ 8 ≤ e.bidder ∨ e.round < 0 ∨ 30 ≤ e.round ∨ validB e.want = false
theorem chk_4 {e : Evt} (h : ¬ ((e.kind < 1 ∨ 10 < e.kind) ∨ evEq e (bareE e) = false)) (h2 : outE e) : checkV e = 4 := by unfold checkV; rw [if_neg h, if_pos h2]
theorem chk_3 {e : Evt} (h : ¬ ((e.kind < 1 ∨ 10 < e.kind) ∨ evEq e (bareE e) = false)) (h2 : ¬ outE e) (h3 : 4000 < (codeL e).length) : checkV e = 3 := by unfold checkV; rw [if_neg h, if_neg h2, if_pos h3]
theorem chk_0 {e : Evt} (h : ¬ ((e.kind < 1 ∨ 10 < e.kind) ∨ evEq e (bareE e) = false)) (h2 : ¬ outE e) (h3 : ¬ 4000 < (codeL e).length) : checkV e = 0 := by unfold checkV; rw [if_neg h, if_neg h2, if_neg h3]
theorem okay_of {e : Evt} (h : 1 ≤ e.kind ∧ e.kind ≤ 10) (h2 : ¬ outE e) (ht : e.text.size ≤ 5000) (hd : e.digest < 18446744073709551616) : Okay e := by
  have hv : validB e.want = true := by
    cases hx : validB e.want with
    | true => rfl
    | false => exact absurd (.inr (.inr (.inr (.inr hx)))) h2
  unfold outE at h2
  exact ⟨h, by omega, by omega, validB_iff.1 hv, ht, hd⟩
theorem name_none {k : Int} (h : k < 1 ∨ 10 < k) : nameK k = ⟨#[]⟩ := by
  unfold nameK
  rw [if_neg (by omega), if_neg (by omega), if_neg (by omega), if_neg (by omega), if_neg (by omega), if_neg (by omega), if_neg (by omega), if_neg (by omega), if_neg (by omega), if_neg (by omega)]
set_option maxHeartbeats 4000000 in
set_option maxRecDepth 100000 in
theorem check_bad (e : Evt) (w : World) (ht : e.text.size ≤ 5000) (hdg : e.digest < 18446744073709551616) (h : e.kind < 1 ∨ 10 < e.kind) : Calls Tryz.prog 9 #[e.val] w (ErrPost (checkV e) w) := by
  rw [chk_2 (.inl h)]
  have CN := Lib.hid (fun W => name_any e.kind W)
  have CB := Lib.hid (fun W => bare_any e W)
  rw [name_none h] at CN
  have hz : (⟨#[]⟩ : ByteArray).toList.isEmpty = true := by decide +kernel
  generalize (⟨#[]⟩ : ByteArray) = nm at CN hz
  obtain ⟨k, b, r, p, t, d⟩ := e
  generalize bareE ⟨k, b, r, p, t, d⟩ = c at *
  obtain ⟨k2, b2, r2, p2, t2, d2⟩ := c
  unfold Evt.val at *
  dsimp only at *
  clear h
  have B0 := Lib.hid (below_new w (.cells (cells11 k b r p t d) 26))
  have K0 := Lib.hid (Blk.new w 26 (cells11 k b r p t d))
  go_enter Tryz.func9, Tryz.ntmps9
  go_wp2_with fail
  generalize w.alloc (.cells #[.int .i64 k, .int .i64 b, .int .i64 r, .int .i64 (p 0), .int .i64 (p 1), .int .i64 (p 2), .int .i64 (p 3), .int .i64 (p 4), .int .i64 (p 5), .string t, .int .u64 (d : Int)] 26) = w0 at *
  have q0 := Blk11 K0.out
  have l0 := K0.out.lt
  have FN := Lib.hid (fun y => CN.out (later w0 y))
  have FB := Lib.hid (fun y => CB.out (later w0 y))
  refine wp_region_later (by kernel_rfl) (by kernel_rfl) ?_
  repeat (first | go_big_quiet_step (first | (go_at_call 11; exact calls_later (FN.out _)) | (go_at_call 24; exact calls_later (FB.out _))) | quiet_step (first | (go_at_call 11; exact calls_later (FN.out _)) | (go_at_call 24; exact calls_later (FB.out _))))
  refine wpQuiet_nil ?_
  rintro _ ⟨y, rfl⟩
  have B1 := Lib.hid (B0.out.trans ((later_below w0 y).mono B0.out.size))
  have K1 := Lib.hid (K0.out.below' (later_below w0 y))
  clear FN FB q0 l0 K0 B0
  generalize later w0 y = w1 at *
  go_wp2_with fail
  go_ret
  exact ⟨rfl, B1.out⟩
set_option maxHeartbeats 4000000 in
set_option maxRecDepth 100000 in
theorem check_ne (e : Evt) (w : World) (ht : e.text.size ≤ 5000) (hdg : e.digest < 18446744073709551616) (h : 1 ≤ e.kind ∧ e.kind ≤ 10) (hq : evEq e (bareE e) = false) : Calls Tryz.prog 9 #[e.val] w (ErrPost (checkV e) w) := by
  rw [chk_2 (.inr hq)]
  have hz := tl_ne (name_some h).1
  have CN := Lib.hid (fun W => name_any e.kind W)
  have CB := Lib.hid (fun W => bare_any e W)
  have EQ := fun W => eq_evt e (bareE e) W
  rw [hq] at EQ
  generalize nameK e.kind = nm at *
  clear h hq
  obtain ⟨k, b, r, p, t, d⟩ := e
  generalize bareE ⟨k, b, r, p, t, d⟩ = c at *
  obtain ⟨k2, b2, r2, p2, t2, d2⟩ := c
  unfold Evt.val at *
  dsimp only at *
  have B0 := Lib.hid (below_new w (.cells (cells11 k b r p t d) 26))
  have K0 := Lib.hid (Blk.new w 26 (cells11 k b r p t d))
  go_enter Tryz.func9, Tryz.ntmps9
  go_wp2_with fail
  generalize w.alloc (.cells #[.int .i64 k, .int .i64 b, .int .i64 r, .int .i64 (p 0), .int .i64 (p 1), .int .i64 (p 2), .int .i64 (p 3), .int .i64 (p 4), .int .i64 (p 5), .string t, .int .u64 (d : Int)] 26) = w0 at *
  have q0 := Blk11 K0.out
  have l0 := K0.out.lt
  have FN := Lib.hid (fun y => CN.out (later w0 y))
  have FB := Lib.hid (fun y => CB.out (later w0 y))
  refine wp_region_later (by kernel_rfl) (by kernel_rfl) ?_
  repeat (first | go_big_quiet_step (first | (go_at_call 11; exact calls_later (FN.out _)) | (go_at_call 24; exact calls_later (FB.out _))) | quiet_step (first | (go_at_call 11; exact calls_later (FN.out _)) | (go_at_call 24; exact calls_later (FB.out _))))
  refine wpQuiet_nil ?_
  rintro _ ⟨y, rfl⟩
  have B1 := Lib.hid (B0.out.trans ((later_below w0 y).mono B0.out.size))
  have K1 := Lib.hid (K0.out.below' (later_below w0 y))
  clear FN FB q0 l0 K0 B0
  generalize later w0 y = w1 at *
  go_wp2_with fail
  go_ret
  exact ⟨rfl, B1.out⟩
set_option maxHeartbeats 8000000 in
set_option maxRecDepth 100000 in
theorem check_eq (e : Evt) (w : World) (ht : e.text.size ≤ 5000) (hdg : e.digest < 18446744073709551616) (h : 1 ≤ e.kind ∧ e.kind ≤ 10) (hq : evEq e (bareE e) = true) : Calls Tryz.prog 9 #[e.val] w (ErrPost (checkV e) w) := by
  have hz := tl_ne (name_some h).1
  have hn : ¬ ((e.kind < 1 ∨ 10 < e.kind) ∨ evEq e (bareE e) = false) := by
    rintro (h1 | h1)
    · omega
    · rw [hq] at h1; cases h1
  have HV4 := Lib.hid (chk_4 hn)
  have HV3 := Lib.hid (chk_3 hn)
  have HV0 := Lib.hid (chk_0 hn)
  have HT := Lib.hid (code_text hq)
  have CY := Lib.hid (fun h2 : ¬ outE e => fun W => bytes_any e W (okay_of h h2 ht hdg))
  have HS : Hid ((codeB e).size = (codeL e).length) := by
    show (codeL e).toArray.size = _
    rw [List.size_toArray]
  have BY := Lib.hid (fun h W => bcheck_yes e.want W h)
  have BN := Lib.hid (fun h W => bcheck_no e.want W h)
  unfold outE at *
  generalize checkV e = V at *
  generalize codeB e = cb at *
  generalize (codeL e).length = N at *
  have CN := Lib.hid (fun W => name_any e.kind W)
  have CB := Lib.hid (fun W => bare_any e W)
  have EQ := fun W => eq_evt e (bareE e) W
  rw [hq] at EQ
  generalize nameK e.kind = nm at *
  clear h hq hn hdg
  obtain ⟨k, b, r, p, t, d⟩ := e
  generalize bareE ⟨k, b, r, p, t, d⟩ = c at *
  obtain ⟨k2, b2, r2, p2, t2, d2⟩ := c
  unfold Evt.val at *
  dsimp only at *
  have B0 := Lib.hid (below_new w (.cells (cells11 k b r p t d) 26))
  have K0 := Lib.hid (Blk.new w 26 (cells11 k b r p t d))
  go_enter Tryz.func9, Tryz.ntmps9
  go_wp2_with fail
  generalize w.alloc (.cells #[.int .i64 k, .int .i64 b, .int .i64 r, .int .i64 (p 0), .int .i64 (p 1), .int .i64 (p 2), .int .i64 (p 3), .int .i64 (p 4), .int .i64 (p 5), .string t, .int .u64 (d : Int)] 26) = w0 at *
  have q0 := Blk11 K0.out
  have l0 := K0.out.lt
  have FN := Lib.hid (fun y => CN.out (later w0 y))
  have FB := Lib.hid (fun y => CB.out (later w0 y))
  refine wp_region_later (by kernel_rfl) (by kernel_rfl) ?_
  repeat (first | go_big_quiet_step (first | (go_at_call 11; exact calls_later (FN.out _)) | (go_at_call 24; exact calls_later (FB.out _))) | quiet_step (first | (go_at_call 11; exact calls_later (FN.out _)) | (go_at_call 24; exact calls_later (FB.out _))))
  refine wpQuiet_nil ?_
  rintro _ ⟨y, rfl⟩
  have B1 := Lib.hid (B0.out.trans ((later_below w0 y).mono B0.out.size))
  have K1 := Lib.hid (K0.out.below' (later_below w0 y))
  clear FN FB q0 l0 K0 B0
  generalize later w0 y = w1 at *
  have q1 := Blk11 K1.out
  have l1 := K1.out.lt
  by_cases c1 : b < 0
  · have d1 : decide (b < 0) = true := decide_eq_true c1
    have HX := Lib.hid (HV4.out (.inl c1))
    go_wp2_with fail
    go_ret
    exact ⟨by rw [HX.out]; rfl, B1.out⟩
  have d1 : decide (b < 0) = false := decide_eq_false c1
  by_cases c2 : 8 ≤ b
  · have d2 : decide (8 ≤ b) = true := decide_eq_true c2
    have HX := Lib.hid (HV4.out (.inr (.inl c2)))
    go_wp2_with fail
    go_ret
    exact ⟨by rw [HX.out]; rfl, B1.out⟩
  have d2 : decide (8 ≤ b) = false := decide_eq_false c2
  by_cases c3 : r < 0
  · have d3 : decide (r < 0) = true := decide_eq_true c3
    have HX := Lib.hid (HV4.out (.inr (.inr (.inl c3))))
    go_wp2_with fail
    go_ret
    exact ⟨by rw [HX.out]; rfl, B1.out⟩
  have d3 : decide (r < 0) = false := decide_eq_false c3
  by_cases c4 : 30 ≤ r
  · have d4 : decide (30 ≤ r) = true := decide_eq_true c4
    have HX := Lib.hid (HV4.out (.inr (.inr (.inr (.inl c4)))))
    go_wp2_with fail
    go_ret
    exact ⟨by rw [HX.out]; rfl, B1.out⟩
  have d4 : decide (30 ≤ r) = false := decide_eq_false c4
  cases c5 : validB p with
  | false =>
    have BC := Lib.hid (BN.out c5)
    have HX := Lib.hid (HV4.out (.inr (.inr (.inr (.inr c5)))))
    go_wp2_with fail
    refine (BC.out _).mono ?_
    rintro x w2 ⟨rfl, d2⟩
    have B2 := Lib.hid (chain0 B1.out d2)
    clear d2
    go_wp2_with fail
    go_ret
    exact ⟨by rw [HX.out]; rfl, B2.out⟩
  | true =>
    have BC := Lib.hid (BY.out c5)
    have hno : ¬ (b < 0 ∨ 8 ≤ b ∨ r < 0 ∨ 30 ≤ r ∨ validB p = false) := by
      rintro (x | x | x | x | x)
      · exact c1 x
      · exact c2 x
      · exact c3 x
      · exact c4 x
      · rw [c5] at x; cases x
    have V3 := Lib.hid (HV3.out hno)
    have V0 := Lib.hid (HV0.out hno)
    have CZ := Lib.hid (CY.out hno)
    clear HV4 HV3 HV0 CY BY BN hno c1 c2 c3 c4 c5
    go_wp2_with fail
    refine (BC.out _).mono ?_
    rintro x w2 ⟨rfl, d2⟩
    have B2 := Lib.hid (chain0 B1.out d2)
    have K2 := Lib.hid (K1.out.below' d2)
    clear d2 BC B1 K1 q1 l1
    have q2 := Blk11 K2.out
    have l2 := K2.out.lt
    by_cases c6 : 4000 < t.size
    · have d6 : decide ((4000 : Int) < (t.size : Int)) = true := decide_eq_true (by omega)
      have HX := Lib.hid (V3.out (HT.out c6))
      go_wp2_with fail
      go_ret
      exact ⟨by rw [HX.out]; rfl, B2.out⟩
    · have d6 : decide ((4000 : Int) < (t.size : Int)) = false := decide_eq_false (by omega)
      have HC6 := Lib.hid c6
      clear c6
      go_wp2_with fail
      refine (CZ.out _).mono ?_
      rintro x w3 ⟨rfl, d3⟩
      have B3 := Lib.hid (chain0 B2.out d3)
      clear d3
      by_cases c7 : 4000 < cb.size
      · have d7 : decide ((4000 : Int) < (cb.size : Int)) = true := decide_eq_true (by omega)
        have HX := Lib.hid (V3.out (by rw [← HS.out]; exact c7))
        go_wp2_with fail
        go_ret
        exact ⟨by rw [HX.out]; rfl, B3.out⟩
      · have d7 : decide ((4000 : Int) < (cb.size : Int)) = false := decide_eq_false (by omega)
        have HX := Lib.hid (V0.out (by rw [← HS.out]; exact c7))
        go_wp2_with fail
        go_ret
        exact ⟨by rw [HX.out]; rfl, B3.out⟩
theorem check_any (e : Evt) (w : World) (ht : e.text.size ≤ 5000) (hdg : e.digest < 18446744073709551616) : Calls Tryz.prog 9 #[e.val] w (ErrPost (checkV e) w) := by
  by_cases h : e.kind < 1 ∨ 10 < e.kind
  · exact check_bad e w ht hdg h
  · have h2 : 1 ≤ e.kind ∧ e.kind ≤ 10 := by omega
    cases hq : evEq e (bareE e) with
    | false => exact check_ne e w ht hdg h2 hq
    | true => exact check_eq e w ht hdg h2 hq
theorem okay_chk {e : Evt} (h : checkV e = 0) (hdg : e.digest < 18446744073709551616) (ht : e.text.size ≤ 5000) : Okay e := by
  obtain ⟨h1, h2, h3, h4, h5, h6⟩ := check_parts h
  exact ⟨h1, by omega, by omega, validB_iff.1 h5, ht, hdg⟩
theorem encode_any (e : Evt) (w : World) (ht : e.text.size ≤ 5000) (hdg : e.digest < 18446744073709551616) : Calls Tryz.prog 14 #[e.val] w fun x w' => x = .returned (.tuple #[.string (encodeV e).1, .int .i64 (encodeV e).2]) ∧ Below w.heap.size w w' := by
  have CC := Lib.hid (fun W => check_any e W ht hdg)
  have EC : Hid (checkV e ≠ 0 → encodeV e = (⟨#[]⟩, checkV e)) := fun h => by unfold encodeV; rw [if_pos h]
  have E0 : Hid (checkV e = 0 → encodeV e = (codeB e, 0)) := fun h => by unfold encodeV; rw [if_neg (fun x => x h)]
  have CY := Lib.hid (fun h : checkV e = 0 => fun W => bytes_any e W (okay_chk h hdg ht))
  generalize encodeV e = q at *
  obtain ⟨q1, q2⟩ := q
  generalize checkV e = V at *
  generalize codeB e = cb at *
  obtain ⟨k, b, r, p, t, d⟩ := e
  have K0 := Lib.hid (Blk.new w 26 (cells11 k b r p t d))
  unfold Evt.val at *
  dsimp only at *
  go_enter Tryz.func14, Tryz.ntmps14
  go_wp2_with fail
  refine (CC.out _).mono ?_
  rintro x w1 ⟨rfl, d1⟩
  have B1 := Lib.hid (chain1 (Below.refl _ _) d1)
  have K1 := Lib.hid (K0.out.below' d1)
  clear d1 K0
  have k1 := Blk11 K1.out
  have l1 := K1.out.lt
  by_cases hV : V = 0
  · have HE := Lib.hid (E0.out hV)
    have CZ := Lib.hid (CY.out hV)
    have dv : (V != 0) = false := by rw [hV]; rfl
    clear hV
    go_wp2_with fail
    refine (CZ.out _).mono ?_
    rintro x w2 ⟨rfl, d2⟩
    have B2 := Lib.hid (chain0 B1.out d2)
    clear d2
    go_wp2_with fail
    go_ret2
    obtain ⟨e1, e2⟩ := Prod.mk.inj HE.out
    exact ⟨by rw [e1, e2]; rfl, B2.out⟩
  · have HE := Lib.hid (EC.out hV)
    have dv : (V != 0) = true := by simpa using hV
    clear hV
    go_wp2_with fail
    go_ret2
    obtain ⟨e1, e2⟩ := Prod.mk.inj HE.out
    exact ⟨by rw [e1, e2]; rfl, B1.out⟩
end Go.Proofs.YtaikmgnpfbnjjaaGreatDoor.Ev
