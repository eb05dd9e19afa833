/- Contract of event.bytes. Printed by gen_ev5.py. -/
import Derived.Test.YtaikmgnpfbnjjaaGreatDoorPu20
import Derived.Test.YtaikmgnpfbnjjaaGreatDoorPu23
import Derived.Test.YtaikmgnpfbnjjaaGreatDoorPu22
namespace Go.Proofs.YtaikmgnpfbnjjaaGreatDoor.Ev
open Go.ChangeShapes Go.WideShapes Go.ChangeAt Go.RowKit Gn Cat Lex
set_option linter.unusedVariables false
set_option linter.unusedSimpArgs false
/-- an event as its encoding wants it -/
structure Okay (e : Evt) : Prop where
  kind : 1 ≤ e.kind ∧ e.kind ≤ 10
  bidder : 0 ≤ e.bidder ∧ e.bidder < 8
  round : 0 ≤ e.round ∧ e.round < 30
  want : ∀ i, i < 6 → 0 ≤ e.want i ∧ e.want i ≤ 4
  text : e.text.size ≤ 5000
  digest : e.digest < 18446744073709551616
theorem uint_int (x : Int) (h : 0 ≤ x ∧ x < 1000) (v : Int) (hv : v = x) (W : World) : Calls Tryz.prog 66 #[.int .u64 v] W (StrPost (uintB x.toNat) W) := by
  have k := uint_any x.toNat W (by omega)
  rw [show ((x.toNat : Nat) : Int) = v by omega] at k
  exact k
theorem u64_pos (x : Int) (h : 0 ≤ x ∧ x < 1000) : IntKind.u64.wrap x = x := IntWalk.u64_in x ⟨h.1, by omega⟩
theorem code_cat (a b : List UInt8) : (⟨(a ++ b).toArray⟩ : ByteArray) = ⟨a.toArray⟩ ++ ⟨b.toArray⟩ := by
  apply ByteArray.ext
  apply Array.toList_inj.1
  simp
theorem cat_assoc (a b c : ByteArray) : a ++ (b ++ c) = a ++ b ++ c := by
  apply ByteArray.ext
  apply Array.toList_inj.1
  simp
theorem textB_size {s : ByteArray} (h : s.size ≤ 5000) : (textB s).size ≤ 5010 := by
  have := (textL_len s).2
  show (textL s).toArray.size ≤ _
  rw [List.size_toArray]
  omega
theorem cat_size (a b : ByteArray) {n m : Nat} (h : a.size ≤ n) (k : b.size ≤ m) : (a ++ b).size ≤ n + m := by rw [ByteArray.size_append]; omega
set_option maxHeartbeats 4000000 in
set_option maxRecDepth 100000 in
theorem bytes_at_0 (e : Evt) (w : World) (h : ¬ e.kind = 1 ∧ ¬ e.kind = 2 ∧ ¬ e.kind = 5 ∧ ¬ e.kind = 6 ∧ ¬ e.kind = 7 ∧ ¬ e.kind = 8 ∧ ¬ e.kind = 10) (ho : Okay e) : Calls Tryz.prog 26 #[e.val] w (StrPost (codeB e) w) := by
  have C0 := Lib.hid (fun W => uint_int (e.kind) ⟨by have := ho.kind; omega, by have := ho.kind; omega⟩ (e.kind) rfl W)
  have W0 := Lib.hid (u64_pos (e.kind) ⟨by have := ho.kind; omega, by have := ho.kind; omega⟩)
  have Z0 := (uintB_size e.kind.toNat)
  have HE : codeB e = uintB e.kind.toNat := by
    unfold codeB
    rw [code_0 h]
    simp only [List.append_nil, code_cat, cat_assoc]
    rfl
  rw [HE]
  generalize uintB e.kind.toNat = s0 at *
  have HF := Lib.hid (fields_0 h)
  have CF := Lib.hid (fields_any e.kind)
  rw [HF.out] at CF
  clear h ho HE HF Z0 
  obtain ⟨k, b, r, p, t, d⟩ := e
  unfold Evt.val
  dsimp only at *
  have t1 : (bits BinOp.and IntKind.i64 0 1 != 0) = false := by decide +kernel
  have t2 : (bits BinOp.and IntKind.i64 0 2 != 0) = false := by decide +kernel
  have t4 : (bits BinOp.and IntKind.i64 0 4 != 0) = false := by decide +kernel
  have t8 : (bits BinOp.and IntKind.i64 0 8 != 0) = false := by decide +kernel
  have t16 : (bits BinOp.and IntKind.i64 0 16 != 0) = false := by decide +kernel
  go_enter Tryz.func26, Tryz.ntmps26
  go_wp2_with fail
  refine (CF.out _).mono ?_
  rintro e w1 ⟨rfl, rfl⟩
  go_wp2_with fail
  try rw [W0.out]
  refine (C0.out _).mono ?_
  rintro e x0 ⟨rfl, d0⟩
  have B0 := Lib.hid (chain1 (Below.refl _ _) d0)
  have K0 := Lib.hid ((Blk.new w 26 (cells11 k b r p t d)).below' d0)
  clear d0
  have q0 := Blk11 K0.out
  have l0 := K0.out.lt
  go_wp2_with fail
  go_ret
  exact ⟨rfl, B0.out⟩
set_option maxHeartbeats 4000000 in
set_option maxRecDepth 100000 in
theorem bytes_at_4 (e : Evt) (w : World) (h : e.kind = 1) (ho : Okay e) : Calls Tryz.prog 26 #[e.val] w (StrPost (codeB e) w) := by
  have C0 := Lib.hid (fun W => uint_int (e.kind) ⟨by have := ho.kind; omega, by have := ho.kind; omega⟩ (e.kind) rfl W)
  have W0 := Lib.hid (u64_pos (e.kind) ⟨by have := ho.kind; omega, by have := ho.kind; omega⟩)
  have Z0 := (uintB_size e.kind.toNat)
  have C1 := Lib.hid (fun W => wtext_any e.text W ho.text)
  have Z1 := (textB_size ho.text)
  have HE : codeB e = uintB e.kind.toNat ++ textB e.text := by
    unfold codeB
    rw [code_4 h]
    simp only [List.append_nil, code_cat, cat_assoc]
    rfl
  rw [HE]
  generalize uintB e.kind.toNat = s0 at *
  generalize textB e.text = s1 at *
  have A1 := fun W => add_s (s0) s1 (by have := Z0; have := Z1; omega) W
  have Y1 := cat_size (s0) s1 Z0 Z1
  have HF := Lib.hid (fields_4 h)
  have CF := Lib.hid (fields_any e.kind)
  rw [HF.out] at CF
  clear h ho HE HF Z0 Z1 Y1
  obtain ⟨k, b, r, p, t, d⟩ := e
  unfold Evt.val
  dsimp only at *
  have t1 : (bits BinOp.and IntKind.i64 4 1 != 0) = false := by decide +kernel
  have t2 : (bits BinOp.and IntKind.i64 4 2 != 0) = false := by decide +kernel
  have t4 : (bits BinOp.and IntKind.i64 4 4 != 0) = true := by decide +kernel
  have t8 : (bits BinOp.and IntKind.i64 4 8 != 0) = false := by decide +kernel
  have t16 : (bits BinOp.and IntKind.i64 4 16 != 0) = false := by decide +kernel
  go_enter Tryz.func26, Tryz.ntmps26
  go_wp2_with fail
  refine (CF.out _).mono ?_
  rintro e w1 ⟨rfl, rfl⟩
  go_wp2_with fail
  try rw [W0.out]
  refine (C0.out _).mono ?_
  rintro e x0 ⟨rfl, d0⟩
  have B0 := Lib.hid (chain1 (Below.refl _ _) d0)
  have K0 := Lib.hid ((Blk.new w 26 (cells11 k b r p t d)).below' d0)
  clear d0
  have q0 := Blk11 K0.out
  have l0 := K0.out.lt
  go_wp2_with fail
  refine (C1.out _).mono ?_
  rintro e x1 ⟨rfl, d1⟩
  have B1 := Lib.hid (chain0 B0.out d1)
  have K1 := Lib.hid (K0.out.below' d1)
  clear d1 B0 K0 q0 l0
  have q1 := Blk11 K1.out
  have l1 := K1.out.lt
  go_wp2_with fail
  go_ret
  exact ⟨rfl, B1.out⟩
set_option maxHeartbeats 4000000 in
set_option maxRecDepth 100000 in
theorem bytes_at_3 (e : Evt) (w : World) (h : e.kind = 2) (ho : Okay e) : Calls Tryz.prog 26 #[e.val] w (StrPost (codeB e) w) := by
  have C0 := Lib.hid (fun W => uint_int (e.kind) ⟨by have := ho.kind; omega, by have := ho.kind; omega⟩ (e.kind) rfl W)
  have W0 := Lib.hid (u64_pos (e.kind) ⟨by have := ho.kind; omega, by have := ho.kind; omega⟩)
  have Z0 := (uintB_size e.kind.toNat)
  have C1 := Lib.hid (fun W => uint_int (e.bidder) ⟨ho.bidder.1, by have := ho.bidder; omega⟩ (e.bidder) rfl W)
  have W1 := Lib.hid (u64_pos (e.bidder) ⟨ho.bidder.1, by have := ho.bidder; omega⟩)
  have Z1 := (uintB_size e.bidder.toNat)
  have C2 := Lib.hid (fun W => uint_int (e.want 0) ⟨(ho.want 0 (by decide)).1, by have := ho.want 0 (by decide); omega⟩ (e.want 0) rfl W)
  have W2 := Lib.hid (u64_pos (e.want 0) ⟨(ho.want 0 (by decide)).1, by have := ho.want 0 (by decide); omega⟩)
  have Z2 := (uintB_size (e.want 0).toNat)
  have C3 := Lib.hid (fun W => uint_int (e.want 1) ⟨(ho.want 1 (by decide)).1, by have := ho.want 1 (by decide); omega⟩ (e.want 1) rfl W)
  have W3 := Lib.hid (u64_pos (e.want 1) ⟨(ho.want 1 (by decide)).1, by have := ho.want 1 (by decide); omega⟩)
  have Z3 := (uintB_size (e.want 1).toNat)
  have C4 := Lib.hid (fun W => uint_int (e.want 2) ⟨(ho.want 2 (by decide)).1, by have := ho.want 2 (by decide); omega⟩ (e.want 2) rfl W)
  have W4 := Lib.hid (u64_pos (e.want 2) ⟨(ho.want 2 (by decide)).1, by have := ho.want 2 (by decide); omega⟩)
  have Z4 := (uintB_size (e.want 2).toNat)
  have C5 := Lib.hid (fun W => uint_int (e.want 3) ⟨(ho.want 3 (by decide)).1, by have := ho.want 3 (by decide); omega⟩ (e.want 3) rfl W)
  have W5 := Lib.hid (u64_pos (e.want 3) ⟨(ho.want 3 (by decide)).1, by have := ho.want 3 (by decide); omega⟩)
  have Z5 := (uintB_size (e.want 3).toNat)
  have C6 := Lib.hid (fun W => uint_int (e.want 4) ⟨(ho.want 4 (by decide)).1, by have := ho.want 4 (by decide); omega⟩ (e.want 4) rfl W)
  have W6 := Lib.hid (u64_pos (e.want 4) ⟨(ho.want 4 (by decide)).1, by have := ho.want 4 (by decide); omega⟩)
  have Z6 := (uintB_size (e.want 4).toNat)
  have C7 := Lib.hid (fun W => uint_int (e.want 5) ⟨(ho.want 5 (by decide)).1, by have := ho.want 5 (by decide); omega⟩ (e.want 5) rfl W)
  have W7 := Lib.hid (u64_pos (e.want 5) ⟨(ho.want 5 (by decide)).1, by have := ho.want 5 (by decide); omega⟩)
  have Z7 := (uintB_size (e.want 5).toNat)
  have HE : codeB e = uintB e.kind.toNat ++ uintB e.bidder.toNat ++ uintB (e.want 0).toNat ++ uintB (e.want 1).toNat ++ uintB (e.want 2).toNat ++ uintB (e.want 3).toNat ++ uintB (e.want 4).toNat ++ uintB (e.want 5).toNat := by
    unfold codeB
    rw [code_3 h]
    simp only [List.append_nil, code_cat, cat_assoc]
    rfl
  rw [HE]
  generalize uintB e.kind.toNat = s0 at *
  generalize uintB e.bidder.toNat = s1 at *
  generalize uintB (e.want 0).toNat = s2 at *
  generalize uintB (e.want 1).toNat = s3 at *
  generalize uintB (e.want 2).toNat = s4 at *
  generalize uintB (e.want 3).toNat = s5 at *
  generalize uintB (e.want 4).toNat = s6 at *
  generalize uintB (e.want 5).toNat = s7 at *
  have A1 := fun W => add_s (s0) s1 (by have := Z0; have := Z1; omega) W
  have Y1 := cat_size (s0) s1 Z0 Z1
  have A2 := fun W => add_s (s0 ++ s1) s2 (by have := Y1; have := Z2; omega) W
  have Y2 := cat_size (s0 ++ s1) s2 Y1 Z2
  have A3 := fun W => add_s (s0 ++ s1 ++ s2) s3 (by have := Y2; have := Z3; omega) W
  have Y3 := cat_size (s0 ++ s1 ++ s2) s3 Y2 Z3
  have A4 := fun W => add_s (s0 ++ s1 ++ s2 ++ s3) s4 (by have := Y3; have := Z4; omega) W
  have Y4 := cat_size (s0 ++ s1 ++ s2 ++ s3) s4 Y3 Z4
  have A5 := fun W => add_s (s0 ++ s1 ++ s2 ++ s3 ++ s4) s5 (by have := Y4; have := Z5; omega) W
  have Y5 := cat_size (s0 ++ s1 ++ s2 ++ s3 ++ s4) s5 Y4 Z5
  have A6 := fun W => add_s (s0 ++ s1 ++ s2 ++ s3 ++ s4 ++ s5) s6 (by have := Y5; have := Z6; omega) W
  have Y6 := cat_size (s0 ++ s1 ++ s2 ++ s3 ++ s4 ++ s5) s6 Y5 Z6
  have A7 := fun W => add_s (s0 ++ s1 ++ s2 ++ s3 ++ s4 ++ s5 ++ s6) s7 (by have := Y6; have := Z7; omega) W
  have Y7 := cat_size (s0 ++ s1 ++ s2 ++ s3 ++ s4 ++ s5 ++ s6) s7 Y6 Z7
  have HF := Lib.hid (fields_3 h)
  have CF := Lib.hid (fields_any e.kind)
  rw [HF.out] at CF
  clear h ho HE HF Z0 Z1 Z2 Z3 Z4 Z5 Z6 Z7 Y1 Y2 Y3 Y4 Y5 Y6 Y7
  obtain ⟨k, b, r, p, t, d⟩ := e
  unfold Evt.val
  dsimp only at *
  have t1 : (bits BinOp.and IntKind.i64 3 1 != 0) = true := by decide +kernel
  have t2 : (bits BinOp.and IntKind.i64 3 2 != 0) = true := by decide +kernel
  have t4 : (bits BinOp.and IntKind.i64 3 4 != 0) = false := by decide +kernel
  have t8 : (bits BinOp.and IntKind.i64 3 8 != 0) = false := by decide +kernel
  have t16 : (bits BinOp.and IntKind.i64 3 16 != 0) = false := by decide +kernel
  have i0 : ∀ W, (Instr.index 23 (.agg #[.int .i64 (p 0), .int .i64 (p 1), .int .i64 (p 2), .int .i64 (p 3), .int .i64 (p 4), .int .i64 (p 5)]) (.int .i64 0)).run Tryz.prog W = .ok (.int .i64 (p 0)) W := fun W => idx27 p 0 (by decide) W
  have i1 : ∀ W, (Instr.index 23 (.agg #[.int .i64 (p 0), .int .i64 (p 1), .int .i64 (p 2), .int .i64 (p 3), .int .i64 (p 4), .int .i64 (p 5)]) (.int .i64 1)).run Tryz.prog W = .ok (.int .i64 (p 1)) W := fun W => idx27 p 1 (by decide) W
  have i2 : ∀ W, (Instr.index 23 (.agg #[.int .i64 (p 0), .int .i64 (p 1), .int .i64 (p 2), .int .i64 (p 3), .int .i64 (p 4), .int .i64 (p 5)]) (.int .i64 2)).run Tryz.prog W = .ok (.int .i64 (p 2)) W := fun W => idx27 p 2 (by decide) W
  have i3 : ∀ W, (Instr.index 23 (.agg #[.int .i64 (p 0), .int .i64 (p 1), .int .i64 (p 2), .int .i64 (p 3), .int .i64 (p 4), .int .i64 (p 5)]) (.int .i64 3)).run Tryz.prog W = .ok (.int .i64 (p 3)) W := fun W => idx27 p 3 (by decide) W
  have i4 : ∀ W, (Instr.index 23 (.agg #[.int .i64 (p 0), .int .i64 (p 1), .int .i64 (p 2), .int .i64 (p 3), .int .i64 (p 4), .int .i64 (p 5)]) (.int .i64 4)).run Tryz.prog W = .ok (.int .i64 (p 4)) W := fun W => idx27 p 4 (by decide) W
  have i5 : ∀ W, (Instr.index 23 (.agg #[.int .i64 (p 0), .int .i64 (p 1), .int .i64 (p 2), .int .i64 (p 3), .int .i64 (p 4), .int .i64 (p 5)]) (.int .i64 5)).run Tryz.prog W = .ok (.int .i64 (p 5)) W := fun W => idx27 p 5 (by decide) W
  go_enter Tryz.func26, Tryz.ntmps26
  go_wp2_with fail
  refine (CF.out _).mono ?_
  rintro e w1 ⟨rfl, rfl⟩
  go_wp2_with fail
  try rw [W0.out]
  refine (C0.out _).mono ?_
  rintro e x0 ⟨rfl, d0⟩
  have B0 := Lib.hid (chain1 (Below.refl _ _) d0)
  have K0 := Lib.hid ((Blk.new w 26 (cells11 k b r p t d)).below' d0)
  clear d0
  have q0 := Blk11 K0.out
  have l0 := K0.out.lt
  go_wp2_with fail
  try rw [W1.out]
  refine (C1.out _).mono ?_
  rintro e x1 ⟨rfl, d1⟩
  have B1 := Lib.hid (chain0 B0.out d1)
  have K1 := Lib.hid (K0.out.below' d1)
  clear d1 B0 K0 q0 l0
  have q1 := Blk11 K1.out
  have l1 := K1.out.lt
  go_upto_region 9 with fail
  refine wp_loop_rounds 7 ?_
  rw [rounds_succ]
  go_wp2_with fail
  try rw [W2.out]
  refine (C2.out _).mono ?_
  rintro e x2 ⟨rfl, d2⟩
  have B2 := Lib.hid (chain0 B1.out d2)
  have K2 := Lib.hid (K1.out.below' d2)
  clear d2 B1 K1 q1 l1
  have q2 := Blk11 K2.out
  have l2 := K2.out.lt
  go_wp2_with fail
  rw [rounds_succ]
  go_wp2_with fail
  try rw [W3.out]
  refine (C3.out _).mono ?_
  rintro e x3 ⟨rfl, d3⟩
  have B3 := Lib.hid (chain0 B2.out d3)
  have K3 := Lib.hid (K2.out.below' d3)
  clear d3 B2 K2 q2 l2
  have q3 := Blk11 K3.out
  have l3 := K3.out.lt
  go_wp2_with fail
  rw [rounds_succ]
  go_wp2_with fail
  try rw [W4.out]
  refine (C4.out _).mono ?_
  rintro e x4 ⟨rfl, d4⟩
  have B4 := Lib.hid (chain0 B3.out d4)
  have K4 := Lib.hid (K3.out.below' d4)
  clear d4 B3 K3 q3 l3
  have q4 := Blk11 K4.out
  have l4 := K4.out.lt
  go_wp2_with fail
  rw [rounds_succ]
  go_wp2_with fail
  try rw [W5.out]
  refine (C5.out _).mono ?_
  rintro e x5 ⟨rfl, d5⟩
  have B5 := Lib.hid (chain0 B4.out d5)
  have K5 := Lib.hid (K4.out.below' d5)
  clear d5 B4 K4 q4 l4
  have q5 := Blk11 K5.out
  have l5 := K5.out.lt
  go_wp2_with fail
  rw [rounds_succ]
  go_wp2_with fail
  try rw [W6.out]
  refine (C6.out _).mono ?_
  rintro e x6 ⟨rfl, d6⟩
  have B6 := Lib.hid (chain0 B5.out d6)
  have K6 := Lib.hid (K5.out.below' d6)
  clear d6 B5 K5 q5 l5
  have q6 := Blk11 K6.out
  have l6 := K6.out.lt
  go_wp2_with fail
  rw [rounds_succ]
  go_wp2_with fail
  try rw [W7.out]
  refine (C7.out _).mono ?_
  rintro e x7 ⟨rfl, d7⟩
  have B7 := Lib.hid (chain0 B6.out d7)
  have K7 := Lib.hid (K6.out.below' d7)
  clear d7 B6 K6 q6 l6
  have q7 := Blk11 K7.out
  have l7 := K7.out.lt
  go_wp2_with fail
  rw [rounds_succ]
  go_wp2_with fail
  go_ret
  exact ⟨rfl, B7.out⟩
set_option maxHeartbeats 4000000 in
set_option maxRecDepth 100000 in
theorem bytes_at_5 (e : Evt) (w : World) (h : e.kind = 5) (ho : Okay e) : Calls Tryz.prog 26 #[e.val] w (StrPost (codeB e) w) := by
  have C0 := Lib.hid (fun W => uint_int (e.kind) ⟨by have := ho.kind; omega, by have := ho.kind; omega⟩ (e.kind) rfl W)
  have W0 := Lib.hid (u64_pos (e.kind) ⟨by have := ho.kind; omega, by have := ho.kind; omega⟩)
  have Z0 := (uintB_size e.kind.toNat)
  have C1 := Lib.hid (fun W => uint_int (e.bidder) ⟨ho.bidder.1, by have := ho.bidder; omega⟩ (e.bidder) rfl W)
  have W1 := Lib.hid (u64_pos (e.bidder) ⟨ho.bidder.1, by have := ho.bidder; omega⟩)
  have Z1 := (uintB_size e.bidder.toNat)
  have C2 := Lib.hid (fun W => wtext_any e.text W ho.text)
  have Z2 := (textB_size ho.text)
  have HE : codeB e = uintB e.kind.toNat ++ uintB e.bidder.toNat ++ textB e.text := by
    unfold codeB
    rw [code_5 h]
    simp only [List.append_nil, code_cat, cat_assoc]
    rfl
  rw [HE]
  generalize uintB e.kind.toNat = s0 at *
  generalize uintB e.bidder.toNat = s1 at *
  generalize textB e.text = s2 at *
  have A1 := fun W => add_s (s0) s1 (by have := Z0; have := Z1; omega) W
  have Y1 := cat_size (s0) s1 Z0 Z1
  have A2 := fun W => add_s (s0 ++ s1) s2 (by have := Y1; have := Z2; omega) W
  have Y2 := cat_size (s0 ++ s1) s2 Y1 Z2
  have HF := Lib.hid (fields_5 h)
  have CF := Lib.hid (fields_any e.kind)
  rw [HF.out] at CF
  clear h ho HE HF Z0 Z1 Z2 Y1 Y2
  obtain ⟨k, b, r, p, t, d⟩ := e
  unfold Evt.val
  dsimp only at *
  have t1 : (bits BinOp.and IntKind.i64 5 1 != 0) = true := by decide +kernel
  have t2 : (bits BinOp.and IntKind.i64 5 2 != 0) = false := by decide +kernel
  have t4 : (bits BinOp.and IntKind.i64 5 4 != 0) = true := by decide +kernel
  have t8 : (bits BinOp.and IntKind.i64 5 8 != 0) = false := by decide +kernel
  have t16 : (bits BinOp.and IntKind.i64 5 16 != 0) = false := by decide +kernel
  go_enter Tryz.func26, Tryz.ntmps26
  go_wp2_with fail
  refine (CF.out _).mono ?_
  rintro e w1 ⟨rfl, rfl⟩
  go_wp2_with fail
  try rw [W0.out]
  refine (C0.out _).mono ?_
  rintro e x0 ⟨rfl, d0⟩
  have B0 := Lib.hid (chain1 (Below.refl _ _) d0)
  have K0 := Lib.hid ((Blk.new w 26 (cells11 k b r p t d)).below' d0)
  clear d0
  have q0 := Blk11 K0.out
  have l0 := K0.out.lt
  go_wp2_with fail
  try rw [W1.out]
  refine (C1.out _).mono ?_
  rintro e x1 ⟨rfl, d1⟩
  have B1 := Lib.hid (chain0 B0.out d1)
  have K1 := Lib.hid (K0.out.below' d1)
  clear d1 B0 K0 q0 l0
  have q1 := Blk11 K1.out
  have l1 := K1.out.lt
  go_wp2_with fail
  refine (C2.out _).mono ?_
  rintro e x2 ⟨rfl, d2⟩
  have B2 := Lib.hid (chain0 B1.out d2)
  have K2 := Lib.hid (K1.out.below' d2)
  clear d2 B1 K1 q1 l1
  have q2 := Blk11 K2.out
  have l2 := K2.out.lt
  go_wp2_with fail
  go_ret
  exact ⟨rfl, B2.out⟩
set_option maxHeartbeats 4000000 in
set_option maxRecDepth 100000 in
theorem bytes_at_1 (e : Evt) (w : World) (h : e.kind = 6 ∨ e.kind = 7) (ho : Okay e) : Calls Tryz.prog 26 #[e.val] w (StrPost (codeB e) w) := by
  have C0 := Lib.hid (fun W => uint_int (e.kind) ⟨by have := ho.kind; omega, by have := ho.kind; omega⟩ (e.kind) rfl W)
  have W0 := Lib.hid (u64_pos (e.kind) ⟨by have := ho.kind; omega, by have := ho.kind; omega⟩)
  have Z0 := (uintB_size e.kind.toNat)
  have C1 := Lib.hid (fun W => uint_int (e.bidder) ⟨ho.bidder.1, by have := ho.bidder; omega⟩ (e.bidder) rfl W)
  have W1 := Lib.hid (u64_pos (e.bidder) ⟨ho.bidder.1, by have := ho.bidder; omega⟩)
  have Z1 := (uintB_size e.bidder.toNat)
  have HE : codeB e = uintB e.kind.toNat ++ uintB e.bidder.toNat := by
    unfold codeB
    rw [code_1 h]
    simp only [List.append_nil, code_cat, cat_assoc]
    rfl
  rw [HE]
  generalize uintB e.kind.toNat = s0 at *
  generalize uintB e.bidder.toNat = s1 at *
  have A1 := fun W => add_s (s0) s1 (by have := Z0; have := Z1; omega) W
  have Y1 := cat_size (s0) s1 Z0 Z1
  have HF := Lib.hid (fields_1 h)
  have CF := Lib.hid (fields_any e.kind)
  rw [HF.out] at CF
  clear h ho HE HF Z0 Z1 Y1
  obtain ⟨k, b, r, p, t, d⟩ := e
  unfold Evt.val
  dsimp only at *
  have t1 : (bits BinOp.and IntKind.i64 1 1 != 0) = true := by decide +kernel
  have t2 : (bits BinOp.and IntKind.i64 1 2 != 0) = false := by decide +kernel
  have t4 : (bits BinOp.and IntKind.i64 1 4 != 0) = false := by decide +kernel
  have t8 : (bits BinOp.and IntKind.i64 1 8 != 0) = false := by decide +kernel
  have t16 : (bits BinOp.and IntKind.i64 1 16 != 0) = false := by decide +kernel
  go_enter Tryz.func26, Tryz.ntmps26
  go_wp2_with fail
  refine (CF.out _).mono ?_
  rintro e w1 ⟨rfl, rfl⟩
  go_wp2_with fail
  try rw [W0.out]
  refine (C0.out _).mono ?_
  rintro e x0 ⟨rfl, d0⟩
  have B0 := Lib.hid (chain1 (Below.refl _ _) d0)
  have K0 := Lib.hid ((Blk.new w 26 (cells11 k b r p t d)).below' d0)
  clear d0
  have q0 := Blk11 K0.out
  have l0 := K0.out.lt
  go_wp2_with fail
  try rw [W1.out]
  refine (C1.out _).mono ?_
  rintro e x1 ⟨rfl, d1⟩
  have B1 := Lib.hid (chain0 B0.out d1)
  have K1 := Lib.hid (K0.out.below' d1)
  clear d1 B0 K0 q0 l0
  have q1 := Blk11 K1.out
  have l1 := K1.out.lt
  go_wp2_with fail
  go_ret
  exact ⟨rfl, B1.out⟩
set_option maxHeartbeats 4000000 in
set_option maxRecDepth 100000 in
theorem bytes_at_8 (e : Evt) (w : World) (h : e.kind = 8) (ho : Okay e) : Calls Tryz.prog 26 #[e.val] w (StrPost (codeB e) w) := by
  have C0 := Lib.hid (fun W => uint_int (e.kind) ⟨by have := ho.kind; omega, by have := ho.kind; omega⟩ (e.kind) rfl W)
  have W0 := Lib.hid (u64_pos (e.kind) ⟨by have := ho.kind; omega, by have := ho.kind; omega⟩)
  have Z0 := (uintB_size e.kind.toNat)
  have C1 := Lib.hid (fun W => uint_int (e.round) ⟨ho.round.1, by have := ho.round; omega⟩ (e.round) rfl W)
  have W1 := Lib.hid (u64_pos (e.round) ⟨ho.round.1, by have := ho.round; omega⟩)
  have Z1 := (uintB_size e.round.toNat)
  have HE : codeB e = uintB e.kind.toNat ++ uintB e.round.toNat := by
    unfold codeB
    rw [code_8 h]
    simp only [List.append_nil, code_cat, cat_assoc]
    rfl
  rw [HE]
  generalize uintB e.kind.toNat = s0 at *
  generalize uintB e.round.toNat = s1 at *
  have A1 := fun W => add_s (s0) s1 (by have := Z0; have := Z1; omega) W
  have Y1 := cat_size (s0) s1 Z0 Z1
  have HF := Lib.hid (fields_8 h)
  have CF := Lib.hid (fields_any e.kind)
  rw [HF.out] at CF
  clear h ho HE HF Z0 Z1 Y1
  obtain ⟨k, b, r, p, t, d⟩ := e
  unfold Evt.val
  dsimp only at *
  have t1 : (bits BinOp.and IntKind.i64 8 1 != 0) = false := by decide +kernel
  have t2 : (bits BinOp.and IntKind.i64 8 2 != 0) = false := by decide +kernel
  have t4 : (bits BinOp.and IntKind.i64 8 4 != 0) = false := by decide +kernel
  have t8 : (bits BinOp.and IntKind.i64 8 8 != 0) = true := by decide +kernel
  have t16 : (bits BinOp.and IntKind.i64 8 16 != 0) = false := by decide +kernel
  go_enter Tryz.func26, Tryz.ntmps26
  go_wp2_with fail
  refine (CF.out _).mono ?_
  rintro e w1 ⟨rfl, rfl⟩
  go_wp2_with fail
  try rw [W0.out]
  refine (C0.out _).mono ?_
  rintro e x0 ⟨rfl, d0⟩
  have B0 := Lib.hid (chain1 (Below.refl _ _) d0)
  have K0 := Lib.hid ((Blk.new w 26 (cells11 k b r p t d)).below' d0)
  clear d0
  have q0 := Blk11 K0.out
  have l0 := K0.out.lt
  go_wp2_with fail
  try rw [W1.out]
  refine (C1.out _).mono ?_
  rintro e x1 ⟨rfl, d1⟩
  have B1 := Lib.hid (chain0 B0.out d1)
  have K1 := Lib.hid (K0.out.below' d1)
  clear d1 B0 K0 q0 l0
  have q1 := Blk11 K1.out
  have l1 := K1.out.lt
  go_wp2_with fail
  go_ret
  exact ⟨rfl, B1.out⟩
set_option maxHeartbeats 4000000 in
set_option maxRecDepth 100000 in
theorem bytes_at_16 (e : Evt) (w : World) (h : e.kind = 10) (ho : Okay e) : Calls Tryz.prog 26 #[e.val] w (StrPost (codeB e) w) := by
  have C0 := Lib.hid (fun W => uint_int (e.kind) ⟨by have := ho.kind; omega, by have := ho.kind; omega⟩ (e.kind) rfl W)
  have W0 := Lib.hid (u64_pos (e.kind) ⟨by have := ho.kind; omega, by have := ho.kind; omega⟩)
  have Z0 := (uintB_size e.kind.toNat)
  have C1 := Lib.hid (fun W => uint_any e.digest W ho.digest)
  have Z1 := (uintB_size e.digest)
  have HE : codeB e = uintB e.kind.toNat ++ uintB e.digest := by
    unfold codeB
    rw [code_16 h]
    simp only [List.append_nil, code_cat, cat_assoc]
    rfl
  rw [HE]
  generalize uintB e.kind.toNat = s0 at *
  generalize uintB e.digest = s1 at *
  have A1 := fun W => add_s (s0) s1 (by have := Z0; have := Z1; omega) W
  have Y1 := cat_size (s0) s1 Z0 Z1
  have HF := Lib.hid (fields_16 h)
  have CF := Lib.hid (fields_any e.kind)
  rw [HF.out] at CF
  clear h ho HE HF Z0 Z1 Y1
  obtain ⟨k, b, r, p, t, d⟩ := e
  unfold Evt.val
  dsimp only at *
  have t1 : (bits BinOp.and IntKind.i64 16 1 != 0) = false := by decide +kernel
  have t2 : (bits BinOp.and IntKind.i64 16 2 != 0) = false := by decide +kernel
  have t4 : (bits BinOp.and IntKind.i64 16 4 != 0) = false := by decide +kernel
  have t8 : (bits BinOp.and IntKind.i64 16 8 != 0) = false := by decide +kernel
  have t16 : (bits BinOp.and IntKind.i64 16 16 != 0) = true := by decide +kernel
  go_enter Tryz.func26, Tryz.ntmps26
  go_wp2_with fail
  refine (CF.out _).mono ?_
  rintro e w1 ⟨rfl, rfl⟩
  go_wp2_with fail
  try rw [W0.out]
  refine (C0.out _).mono ?_
  rintro e x0 ⟨rfl, d0⟩
  have B0 := Lib.hid (chain1 (Below.refl _ _) d0)
  have K0 := Lib.hid ((Blk.new w 26 (cells11 k b r p t d)).below' d0)
  clear d0
  have q0 := Blk11 K0.out
  have l0 := K0.out.lt
  go_wp2_with fail
  refine (C1.out _).mono ?_
  rintro e x1 ⟨rfl, d1⟩
  have B1 := Lib.hid (chain0 B0.out d1)
  have K1 := Lib.hid (K0.out.below' d1)
  clear d1 B0 K0 q0 l0
  have q1 := Blk11 K1.out
  have l1 := K1.out.lt
  go_wp2_with fail
  go_ret
  exact ⟨rfl, B1.out⟩
theorem bytes_any (e : Evt) (w : World) (ho : Okay e) : Calls Tryz.prog 26 #[e.val] w (StrPost (codeB e) w) := by
  rcases kind_cases e.kind with h | h | h | h | h | h | h
  · exact bytes_at_4 e w h ho
  · exact bytes_at_3 e w h ho
  · exact bytes_at_5 e w h ho
  · exact bytes_at_1 e w h ho
  · exact bytes_at_8 e w h ho
  · exact bytes_at_16 e w h ho
  · exact bytes_at_0 e w h ho
end Go.Proofs.YtaikmgnpfbnjjaaGreatDoor.Ev
