/- Contracts of the reference's bare, code, Check, Encode. Printed by gen_evc1.py. -/
import Derived.Test.YtaikmgnpfbnjjaaGreatDoorPu33
import Derived.Test.YtaikmgnpfbnjjaaGreatDoorPu28
import Derived.Deep.Quiet
import Derived.Deep.QuietTactic
namespace Go.Proofs.YtaikmgnpfbnjjaaGreatDoor.Ev
open Go.ChangeShapes Go.WideShapes Go.ChangeAt Go.RowKit Gn Cat Lex Ros Se
set_option linter.unusedVariables false
set_option linter.unusedSimpArgs false
attribute [local go_sem] later_cell
set_option maxHeartbeats 1000000 in
theorem rbare_at_1 (e : Evt) (w : World) (h : e.kind = 1) : Calls Tryz.prog 27 #[e.val] w (EvtPost (bareE e) w) := by
  have HV := Lib.hid (bare_4 h)
  have CF := Lib.hid (fun W => rhas_any e.kind W)
  rw [show hasBb e.kind = false by rw [h]; rfl] at CF
  unfold EvtPost
  rw [HV.out]
  obtain ⟨k, b, r, p, t, d⟩ := e
  unfold Evt.val
  dsimp only at *
  subst h
  go_enter Tryz.func27, Tryz.ntmps27
  go_wp2_with fail
  refine (CF.out _).mono ?_
  rintro e w1 ⟨rfl, rfl⟩
  go_wp2_with fail
  try dsimp only [Exit.noGoto, Exit.inBlock, Exit.then]
  exact bodyPost_ret (v := .agg (cells11 1 0 0 zero6 t 0)) (results_blk rfl rfl (blk_mid _ 26 _ _ _) Tryz.underlying26 rfl (by kernel_rfl)) rfl ⟨rfl, below_three _ _ _ _⟩
set_option maxHeartbeats 1000000 in
theorem rbare_at_2 (e : Evt) (w : World) (h : e.kind = 2) : Calls Tryz.prog 27 #[e.val] w (EvtPost (bareE e) w) := by
  have HV := Lib.hid (bare_3 h)
  have CF := Lib.hid (fun W => rhas_any e.kind W)
  rw [show hasBb e.kind = true by rw [h]; rfl] at CF
  unfold EvtPost
  rw [HV.out]
  obtain ⟨k, b, r, p, t, d⟩ := e
  unfold Evt.val
  dsimp only at *
  subst h
  go_enter Tryz.func27, Tryz.ntmps27
  go_wp2_with fail
  refine (CF.out _).mono ?_
  rintro e w1 ⟨rfl, rfl⟩
  go_wp2_with fail
  try dsimp only [Exit.noGoto, Exit.inBlock, Exit.then]
  exact bodyPost_ret (v := .agg (cells11 2 b 0 p ⟨#[]⟩ 0)) (results_blk rfl rfl (blk_mid _ 26 _ _ _) Tryz.underlying26 rfl (by kernel_rfl)) rfl ⟨rfl, below_three _ _ _ _⟩
set_option maxHeartbeats 1000000 in
theorem rbare_at_5 (e : Evt) (w : World) (h : e.kind = 5) : Calls Tryz.prog 27 #[e.val] w (EvtPost (bareE e) w) := by
  have HV := Lib.hid (bare_5 h)
  have CF := Lib.hid (fun W => rhas_any e.kind W)
  rw [show hasBb e.kind = true by rw [h]; rfl] at CF
  unfold EvtPost
  rw [HV.out]
  obtain ⟨k, b, r, p, t, d⟩ := e
  unfold Evt.val
  dsimp only at *
  subst h
  go_enter Tryz.func27, Tryz.ntmps27
  go_wp2_with fail
  refine (CF.out _).mono ?_
  rintro e w1 ⟨rfl, rfl⟩
  go_wp2_with fail
  try dsimp only [Exit.noGoto, Exit.inBlock, Exit.then]
  exact bodyPost_ret (v := .agg (cells11 5 b 0 zero6 t 0)) (results_blk rfl rfl (blk_mid _ 26 _ _ _) Tryz.underlying26 rfl (by kernel_rfl)) rfl ⟨rfl, below_three _ _ _ _⟩
set_option maxHeartbeats 1000000 in
theorem rbare_at_6 (e : Evt) (w : World) (h : e.kind = 6) : Calls Tryz.prog 27 #[e.val] w (EvtPost (bareE e) w) := by
  have HV := Lib.hid (bare_1 (.inl h))
  have CF := Lib.hid (fun W => rhas_any e.kind W)
  rw [show hasBb e.kind = true by rw [h]; rfl] at CF
  unfold EvtPost
  rw [HV.out]
  obtain ⟨k, b, r, p, t, d⟩ := e
  unfold Evt.val
  dsimp only at *
  subst h
  go_enter Tryz.func27, Tryz.ntmps27
  go_wp2_with fail
  refine (CF.out _).mono ?_
  rintro e w1 ⟨rfl, rfl⟩
  go_wp2_with fail
  try dsimp only [Exit.noGoto, Exit.inBlock, Exit.then]
  exact bodyPost_ret (v := .agg (cells11 6 b 0 zero6 ⟨#[]⟩ 0)) (results_blk rfl rfl (blk_mid _ 26 _ _ _) Tryz.underlying26 rfl (by kernel_rfl)) rfl ⟨rfl, below_three _ _ _ _⟩
set_option maxHeartbeats 1000000 in
theorem rbare_at_7 (e : Evt) (w : World) (h : e.kind = 7) : Calls Tryz.prog 27 #[e.val] w (EvtPost (bareE e) w) := by
  have HV := Lib.hid (bare_1 (.inr h))
  have CF := Lib.hid (fun W => rhas_any e.kind W)
  rw [show hasBb e.kind = true by rw [h]; rfl] at CF
  unfold EvtPost
  rw [HV.out]
  obtain ⟨k, b, r, p, t, d⟩ := e
  unfold Evt.val
  dsimp only at *
  subst h
  go_enter Tryz.func27, Tryz.ntmps27
  go_wp2_with fail
  refine (CF.out _).mono ?_
  rintro e w1 ⟨rfl, rfl⟩
  go_wp2_with fail
  try dsimp only [Exit.noGoto, Exit.inBlock, Exit.then]
  exact bodyPost_ret (v := .agg (cells11 7 b 0 zero6 ⟨#[]⟩ 0)) (results_blk rfl rfl (blk_mid _ 26 _ _ _) Tryz.underlying26 rfl (by kernel_rfl)) rfl ⟨rfl, below_three _ _ _ _⟩
set_option maxHeartbeats 1000000 in
theorem rbare_at_8 (e : Evt) (w : World) (h : e.kind = 8) : Calls Tryz.prog 27 #[e.val] w (EvtPost (bareE e) w) := by
  have HV := Lib.hid (bare_8 h)
  have CF := Lib.hid (fun W => rhas_any e.kind W)
  rw [show hasBb e.kind = false by rw [h]; rfl] at CF
  unfold EvtPost
  rw [HV.out]
  obtain ⟨k, b, r, p, t, d⟩ := e
  unfold Evt.val
  dsimp only at *
  subst h
  go_enter Tryz.func27, Tryz.ntmps27
  go_wp2_with fail
  refine (CF.out _).mono ?_
  rintro e w1 ⟨rfl, rfl⟩
  go_wp2_with fail
  try dsimp only [Exit.noGoto, Exit.inBlock, Exit.then]
  exact bodyPost_ret (v := .agg (cells11 8 0 r zero6 ⟨#[]⟩ 0)) (results_blk rfl rfl (blk_mid _ 26 _ _ _) Tryz.underlying26 rfl (by kernel_rfl)) rfl ⟨rfl, below_three _ _ _ _⟩
set_option maxHeartbeats 1000000 in
theorem rbare_at_10 (e : Evt) (w : World) (h : e.kind = 10) : Calls Tryz.prog 27 #[e.val] w (EvtPost (bareE e) w) := by
  have HV := Lib.hid (bare_16 h)
  have CF := Lib.hid (fun W => rhas_any e.kind W)
  rw [show hasBb e.kind = false by rw [h]; rfl] at CF
  unfold EvtPost
  rw [HV.out]
  obtain ⟨k, b, r, p, t, d⟩ := e
  unfold Evt.val
  dsimp only at *
  subst h
  go_enter Tryz.func27, Tryz.ntmps27
  go_wp2_with fail
  refine (CF.out _).mono ?_
  rintro e w1 ⟨rfl, rfl⟩
  go_wp2_with fail
  try dsimp only [Exit.noGoto, Exit.inBlock, Exit.then]
  exact bodyPost_ret (v := .agg (cells11 10 0 0 zero6 ⟨#[]⟩ d)) (results_blk rfl rfl (blk_mid _ 26 _ _ _) Tryz.underlying26 rfl (by kernel_rfl)) rfl ⟨rfl, below_three _ _ _ _⟩
set_option maxHeartbeats 1000000 in
theorem rbare_at_none (e : Evt) (w : World) (h : ¬ e.kind = 1 ∧ ¬ e.kind = 2 ∧ ¬ e.kind = 5 ∧ ¬ e.kind = 6 ∧ ¬ e.kind = 7 ∧ ¬ e.kind = 8 ∧ ¬ e.kind = 10) : Calls Tryz.prog 27 #[e.val] w (EvtPost (bareE e) w) := by
  have HV := Lib.hid (bare_0 h)
  have CF := Lib.hid (fun W => rhas_any e.kind W)
  rw [show hasBb e.kind = false by unfold hasBb; simp [h]] at CF
  unfold EvtPost
  rw [HV.out]
  obtain ⟨k, b, r, p, t, d⟩ := e
  unfold Evt.val
  dsimp only at *
  have d1 : (k == 1) = false := by simpa using h.1
  have d2 : (k == 2) = false := by simpa using h.2.1
  have d5 : (k == 5) = false := by simpa using h.2.2.1
  have d6 : (k == 6) = false := by simpa using h.2.2.2.1
  have d7 : (k == 7) = false := by simpa using h.2.2.2.2.1
  have d8 : (k == 8) = false := by simpa using h.2.2.2.2.2.1
  have d10 : (k == 10) = false := by simpa using h.2.2.2.2.2.2
  clear h
  go_enter Tryz.func27, Tryz.ntmps27
  go_wp2_with fail
  refine (CF.out _).mono ?_
  rintro e w1 ⟨rfl, rfl⟩
  go_wp2_with fail
  try dsimp only [Exit.noGoto, Exit.inBlock, Exit.then]
  exact bodyPost_ret (v := .agg (cells11 k 0 0 zero6 ⟨#[]⟩ 0)) (results_blk rfl rfl (blk_mid _ 26 _ _ _) Tryz.underlying26 rfl (by kernel_rfl)) rfl ⟨rfl, below_three _ _ _ _⟩
theorem kind_lits (k : Int) : k = 1 ∨ k = 2 ∨ k = 5 ∨ k = 6 ∨ k = 7 ∨ k = 8 ∨ k = 10 ∨ (¬ k = 1 ∧ ¬ k = 2 ∧ ¬ k = 5 ∧ ¬ k = 6 ∧ ¬ k = 7 ∧ ¬ k = 8 ∧ ¬ k = 10) := by omega
theorem rbare_any (e : Evt) (w : World) : Calls Tryz.prog 27 #[e.val] w (EvtPost (bareE e) w) := by
  rcases kind_lits e.kind with h | h | h | h | h | h | h | h
  · exact rbare_at_1 e w h
  · exact rbare_at_2 e w h
  · exact rbare_at_5 e w h
  · exact rbare_at_6 e w h
  · exact rbare_at_7 e w h
  · exact rbare_at_8 e w h
  · exact rbare_at_10 e w h
  · exact rbare_at_none e w h
set_option maxHeartbeats 4000000 in
set_option maxRecDepth 100000 in
theorem rcode_at_1 (e : Evt) (w : World) (h : e.kind = 1) (ho : Okay e) : Calls Tryz.prog 29 #[e.val] w (StrPost (codeB e) w) := by
  have C0 := Lib.hid (fun W => rnum_any (e.kind) ⟨by have := ho.kind; omega, by have := ho.kind; omega⟩ W)
  have Z0 := (uintB_size e.kind.toNat)
  have C1 := Lib.hid (fun W => rwtext_any e.text W ho.text)
  have Z1 := (textB_size ho.text)
  have HE : codeB e = uintB e.kind.toNat ++ textB e.text := by
    unfold codeB
    rw [code_4 h]
    simp only [List.append_nil, code_cat, cat_assoc]
    rfl
  rw [HE]
  generalize uintB e.kind.toNat = s0 at *
  generalize textB e.text = s1 at *
  have A1 := fun W => add_s (s0) s1 (by have := Z0; have := Z1; omega) W
  have Y1 := cat_size (s0) s1 Z0 Z1
  have CF := Lib.hid (fun W => rhas_any e.kind W)
  rw [show hasBb e.kind = false by rw [h]; rfl] at CF
  clear ho HE Z0 Z1 Y1
  obtain ⟨k, b, r, p, t, d⟩ := e
  unfold Evt.val
  dsimp only at *
  subst h
  go_enter Tryz.func29, Tryz.ntmps29
  go_wp2_with fail
  refine (C0.out _).mono ?_
  rintro e x0 ⟨rfl, d0⟩
  have B0 := Lib.hid (chain1 (Below.refl _ _) d0)
  have K0 := Lib.hid ((Blk.new w 26 (cells11 1 b r p t d)).below' d0)
  clear d0
  have q0 := Blk11 K0.out
  have l0 := K0.out.lt
  go_wp2_with fail
  refine (CF.out _).mono ?_
  rintro e xq ⟨rfl, rfl⟩
  go_wp2_with fail
  refine (C1.out _).mono ?_
  rintro e x1 ⟨rfl, d1⟩
  have B1 := Lib.hid (chain0 B0.out d1)
  have K1 := Lib.hid (K0.out.below' d1)
  clear d1 B0 K0 q0 l0
  have q1 := Blk11 K1.out
  have l1 := K1.out.lt
  go_wp2_with fail
  try dsimp only [Exit.noGoto, Exit.inBlock, Exit.then]
  go_ret
  exact ⟨rfl, B1.out⟩
set_option maxHeartbeats 4000000 in
set_option maxRecDepth 100000 in
theorem rcode_at_2 (e : Evt) (w : World) (h : e.kind = 2) (ho : Okay e) : Calls Tryz.prog 29 #[e.val] w (StrPost (codeB e) w) := by
  have C0 := Lib.hid (fun W => rnum_any (e.kind) ⟨by have := ho.kind; omega, by have := ho.kind; omega⟩ W)
  have Z0 := (uintB_size e.kind.toNat)
  have C1 := Lib.hid (fun W => rnum_any (e.bidder) ⟨ho.bidder.1, by have := ho.bidder; omega⟩ W)
  have Z1 := (uintB_size e.bidder.toNat)
  have C2 := Lib.hid (fun W => rnum_any (e.want 0) ⟨(ho.want 0 (by decide)).1, by have := ho.want 0 (by decide); omega⟩ W)
  have Z2 := (uintB_size (e.want 0).toNat)
  have C3 := Lib.hid (fun W => rnum_any (e.want 1) ⟨(ho.want 1 (by decide)).1, by have := ho.want 1 (by decide); omega⟩ W)
  have Z3 := (uintB_size (e.want 1).toNat)
  have C4 := Lib.hid (fun W => rnum_any (e.want 2) ⟨(ho.want 2 (by decide)).1, by have := ho.want 2 (by decide); omega⟩ W)
  have Z4 := (uintB_size (e.want 2).toNat)
  have C5 := Lib.hid (fun W => rnum_any (e.want 3) ⟨(ho.want 3 (by decide)).1, by have := ho.want 3 (by decide); omega⟩ W)
  have Z5 := (uintB_size (e.want 3).toNat)
  have C6 := Lib.hid (fun W => rnum_any (e.want 4) ⟨(ho.want 4 (by decide)).1, by have := ho.want 4 (by decide); omega⟩ W)
  have Z6 := (uintB_size (e.want 4).toNat)
  have C7 := Lib.hid (fun W => rnum_any (e.want 5) ⟨(ho.want 5 (by decide)).1, by have := ho.want 5 (by decide); omega⟩ W)
  have Z7 := (uintB_size (e.want 5).toNat)
  have HE : codeB e = uintB e.kind.toNat ++ uintB e.bidder.toNat ++ uintB (e.want 0).toNat ++ uintB (e.want 1).toNat ++ uintB (e.want 2).toNat ++ uintB (e.want 3).toNat ++ uintB (e.want 4).toNat ++ uintB (e.want 5).toNat := by
    unfold codeB
    rw [code_3 h]
    simp only [List.append_nil, code_cat, cat_assoc]
    rfl
  rw [HE]
  generalize uintB e.kind.toNat = s0 at *
  generalize uintB e.bidder.toNat = s1 at *
  generalize uintB (e.want 0).toNat = s2 at *
  generalize uintB (e.want 1).toNat = s3 at *
  generalize uintB (e.want 2).toNat = s4 at *
  generalize uintB (e.want 3).toNat = s5 at *
  generalize uintB (e.want 4).toNat = s6 at *
  generalize uintB (e.want 5).toNat = s7 at *
  have A1 := fun W => add_s (s0) s1 (by have := Z0; have := Z1; omega) W
  have Y1 := cat_size (s0) s1 Z0 Z1
  have A2 := fun W => add_s (s0 ++ s1) s2 (by have := Y1; have := Z2; omega) W
  have Y2 := cat_size (s0 ++ s1) s2 Y1 Z2
  have A3 := fun W => add_s (s0 ++ s1 ++ s2) s3 (by have := Y2; have := Z3; omega) W
  have Y3 := cat_size (s0 ++ s1 ++ s2) s3 Y2 Z3
  have A4 := fun W => add_s (s0 ++ s1 ++ s2 ++ s3) s4 (by have := Y3; have := Z4; omega) W
  have Y4 := cat_size (s0 ++ s1 ++ s2 ++ s3) s4 Y3 Z4
  have A5 := fun W => add_s (s0 ++ s1 ++ s2 ++ s3 ++ s4) s5 (by have := Y4; have := Z5; omega) W
  have Y5 := cat_size (s0 ++ s1 ++ s2 ++ s3 ++ s4) s5 Y4 Z5
  have A6 := fun W => add_s (s0 ++ s1 ++ s2 ++ s3 ++ s4 ++ s5) s6 (by have := Y5; have := Z6; omega) W
  have Y6 := cat_size (s0 ++ s1 ++ s2 ++ s3 ++ s4 ++ s5) s6 Y5 Z6
  have A7 := fun W => add_s (s0 ++ s1 ++ s2 ++ s3 ++ s4 ++ s5 ++ s6) s7 (by have := Y6; have := Z7; omega) W
  have Y7 := cat_size (s0 ++ s1 ++ s2 ++ s3 ++ s4 ++ s5 ++ s6) s7 Y6 Z7
  have CF := Lib.hid (fun W => rhas_any e.kind W)
  rw [show hasBb e.kind = true by rw [h]; rfl] at CF
  clear ho HE Z0 Z1 Z2 Z3 Z4 Z5 Z6 Z7 Y1 Y2 Y3 Y4 Y5 Y6 Y7
  obtain ⟨k, b, r, p, t, d⟩ := e
  unfold Evt.val
  dsimp only at *
  subst h
  go_enter Tryz.func29, Tryz.ntmps29
  go_wp2_with fail
  refine (C0.out _).mono ?_
  rintro e x0 ⟨rfl, d0⟩
  have B0 := Lib.hid (chain1 (Below.refl _ _) d0)
  have K0 := Lib.hid ((Blk.new w 26 (cells11 2 b r p t d)).below' d0)
  clear d0
  have q0 := Blk11 K0.out
  have l0 := K0.out.lt
  go_wp2_with fail
  refine (CF.out _).mono ?_
  rintro e xq ⟨rfl, rfl⟩
  go_wp2_with fail
  refine (C1.out _).mono ?_
  rintro e x1 ⟨rfl, d1⟩
  have B1 := Lib.hid (chain0 B0.out d1)
  have K1 := Lib.hid (K0.out.below' d1)
  clear d1 B0 K0 q0 l0
  have q1 := Blk11 K1.out
  have l1 := K1.out.lt
  go_upto_region 10 with fail
  refine wp_loop_rounds 7 ?_
  rw [rounds_succ]
  go_wp2_with fail
  refine (C2.out _).mono ?_
  rintro e x2 ⟨rfl, d2⟩
  have B2 := Lib.hid (chain0 B1.out d2)
  have K2 := Lib.hid (K1.out.below' d2)
  clear d2 B1 K1 q1 l1
  have q2 := Blk11 K2.out
  have l2 := K2.out.lt
  go_wp2_with fail
  rw [rounds_succ]
  go_wp2_with fail
  refine (C3.out _).mono ?_
  rintro e x3 ⟨rfl, d3⟩
  have B3 := Lib.hid (chain0 B2.out d3)
  have K3 := Lib.hid (K2.out.below' d3)
  clear d3 B2 K2 q2 l2
  have q3 := Blk11 K3.out
  have l3 := K3.out.lt
  go_wp2_with fail
  rw [rounds_succ]
  go_wp2_with fail
  refine (C4.out _).mono ?_
  rintro e x4 ⟨rfl, d4⟩
  have B4 := Lib.hid (chain0 B3.out d4)
  have K4 := Lib.hid (K3.out.below' d4)
  clear d4 B3 K3 q3 l3
  have q4 := Blk11 K4.out
  have l4 := K4.out.lt
  go_wp2_with fail
  rw [rounds_succ]
  go_wp2_with fail
  refine (C5.out _).mono ?_
  rintro e x5 ⟨rfl, d5⟩
  have B5 := Lib.hid (chain0 B4.out d5)
  have K5 := Lib.hid (K4.out.below' d5)
  clear d5 B4 K4 q4 l4
  have q5 := Blk11 K5.out
  have l5 := K5.out.lt
  go_wp2_with fail
  rw [rounds_succ]
  go_wp2_with fail
  refine (C6.out _).mono ?_
  rintro e x6 ⟨rfl, d6⟩
  have B6 := Lib.hid (chain0 B5.out d6)
  have K6 := Lib.hid (K5.out.below' d6)
  clear d6 B5 K5 q5 l5
  have q6 := Blk11 K6.out
  have l6 := K6.out.lt
  go_wp2_with fail
  rw [rounds_succ]
  go_wp2_with fail
  refine (C7.out _).mono ?_
  rintro e x7 ⟨rfl, d7⟩
  have B7 := Lib.hid (chain0 B6.out d7)
  have K7 := Lib.hid (K6.out.below' d7)
  clear d7 B6 K6 q6 l6
  have q7 := Blk11 K7.out
  have l7 := K7.out.lt
  go_wp2_with fail
  rw [rounds_succ]
  go_wp2_with fail
  try dsimp only [Exit.noGoto, Exit.inBlock, Exit.then]
  go_ret
  exact ⟨rfl, B7.out⟩
set_option maxHeartbeats 4000000 in
set_option maxRecDepth 100000 in
theorem rcode_at_5 (e : Evt) (w : World) (h : e.kind = 5) (ho : Okay e) : Calls Tryz.prog 29 #[e.val] w (StrPost (codeB e) w) := by
  have C0 := Lib.hid (fun W => rnum_any (e.kind) ⟨by have := ho.kind; omega, by have := ho.kind; omega⟩ W)
  have Z0 := (uintB_size e.kind.toNat)
  have C1 := Lib.hid (fun W => rnum_any (e.bidder) ⟨ho.bidder.1, by have := ho.bidder; omega⟩ W)
  have Z1 := (uintB_size e.bidder.toNat)
  have C2 := Lib.hid (fun W => rwtext_any e.text W ho.text)
  have Z2 := (textB_size ho.text)
  have HE : codeB e = uintB e.kind.toNat ++ uintB e.bidder.toNat ++ textB e.text := by
    unfold codeB
    rw [code_5 h]
    simp only [List.append_nil, code_cat, cat_assoc]
    rfl
  rw [HE]
  generalize uintB e.kind.toNat = s0 at *
  generalize uintB e.bidder.toNat = s1 at *
  generalize textB e.text = s2 at *
  have A1 := fun W => add_s (s0) s1 (by have := Z0; have := Z1; omega) W
  have Y1 := cat_size (s0) s1 Z0 Z1
  have A2 := fun W => add_s (s0 ++ s1) s2 (by have := Y1; have := Z2; omega) W
  have Y2 := cat_size (s0 ++ s1) s2 Y1 Z2
  have CF := Lib.hid (fun W => rhas_any e.kind W)
  rw [show hasBb e.kind = true by rw [h]; rfl] at CF
  clear ho HE Z0 Z1 Z2 Y1 Y2
  obtain ⟨k, b, r, p, t, d⟩ := e
  unfold Evt.val
  dsimp only at *
  subst h
  go_enter Tryz.func29, Tryz.ntmps29
  go_wp2_with fail
  refine (C0.out _).mono ?_
  rintro e x0 ⟨rfl, d0⟩
  have B0 := Lib.hid (chain1 (Below.refl _ _) d0)
  have K0 := Lib.hid ((Blk.new w 26 (cells11 5 b r p t d)).below' d0)
  clear d0
  have q0 := Blk11 K0.out
  have l0 := K0.out.lt
  go_wp2_with fail
  refine (CF.out _).mono ?_
  rintro e xq ⟨rfl, rfl⟩
  go_wp2_with fail
  refine (C1.out _).mono ?_
  rintro e x1 ⟨rfl, d1⟩
  have B1 := Lib.hid (chain0 B0.out d1)
  have K1 := Lib.hid (K0.out.below' d1)
  clear d1 B0 K0 q0 l0
  have q1 := Blk11 K1.out
  have l1 := K1.out.lt
  go_wp2_with fail
  refine (C2.out _).mono ?_
  rintro e x2 ⟨rfl, d2⟩
  have B2 := Lib.hid (chain0 B1.out d2)
  have K2 := Lib.hid (K1.out.below' d2)
  clear d2 B1 K1 q1 l1
  have q2 := Blk11 K2.out
  have l2 := K2.out.lt
  go_wp2_with fail
  try dsimp only [Exit.noGoto, Exit.inBlock, Exit.then]
  go_ret
  exact ⟨rfl, B2.out⟩
set_option maxHeartbeats 4000000 in
set_option maxRecDepth 100000 in
theorem rcode_at_6 (e : Evt) (w : World) (h : e.kind = 6) (ho : Okay e) : Calls Tryz.prog 29 #[e.val] w (StrPost (codeB e) w) := by
  have C0 := Lib.hid (fun W => rnum_any (e.kind) ⟨by have := ho.kind; omega, by have := ho.kind; omega⟩ W)
  have Z0 := (uintB_size e.kind.toNat)
  have C1 := Lib.hid (fun W => rnum_any (e.bidder) ⟨ho.bidder.1, by have := ho.bidder; omega⟩ W)
  have Z1 := (uintB_size e.bidder.toNat)
  have HE : codeB e = uintB e.kind.toNat ++ uintB e.bidder.toNat := by
    unfold codeB
    rw [code_1 (.inl h)]
    simp only [List.append_nil, code_cat, cat_assoc]
    rfl
  rw [HE]
  generalize uintB e.kind.toNat = s0 at *
  generalize uintB e.bidder.toNat = s1 at *
  have A1 := fun W => add_s (s0) s1 (by have := Z0; have := Z1; omega) W
  have Y1 := cat_size (s0) s1 Z0 Z1
  have CF := Lib.hid (fun W => rhas_any e.kind W)
  rw [show hasBb e.kind = true by rw [h]; rfl] at CF
  clear ho HE Z0 Z1 Y1
  obtain ⟨k, b, r, p, t, d⟩ := e
  unfold Evt.val
  dsimp only at *
  subst h
  go_enter Tryz.func29, Tryz.ntmps29
  go_wp2_with fail
  refine (C0.out _).mono ?_
  rintro e x0 ⟨rfl, d0⟩
  have B0 := Lib.hid (chain1 (Below.refl _ _) d0)
  have K0 := Lib.hid ((Blk.new w 26 (cells11 6 b r p t d)).below' d0)
  clear d0
  have q0 := Blk11 K0.out
  have l0 := K0.out.lt
  go_wp2_with fail
  refine (CF.out _).mono ?_
  rintro e xq ⟨rfl, rfl⟩
  go_wp2_with fail
  refine (C1.out _).mono ?_
  rintro e x1 ⟨rfl, d1⟩
  have B1 := Lib.hid (chain0 B0.out d1)
  have K1 := Lib.hid (K0.out.below' d1)
  clear d1 B0 K0 q0 l0
  have q1 := Blk11 K1.out
  have l1 := K1.out.lt
  go_wp2_with fail
  try dsimp only [Exit.noGoto, Exit.inBlock, Exit.then]
  go_ret
  exact ⟨rfl, B1.out⟩
set_option maxHeartbeats 4000000 in
set_option maxRecDepth 100000 in
theorem rcode_at_7 (e : Evt) (w : World) (h : e.kind = 7) (ho : Okay e) : Calls Tryz.prog 29 #[e.val] w (StrPost (codeB e) w) := by
  have C0 := Lib.hid (fun W => rnum_any (e.kind) ⟨by have := ho.kind; omega, by have := ho.kind; omega⟩ W)
  have Z0 := (uintB_size e.kind.toNat)
  have C1 := Lib.hid (fun W => rnum_any (e.bidder) ⟨ho.bidder.1, by have := ho.bidder; omega⟩ W)
  have Z1 := (uintB_size e.bidder.toNat)
  have HE : codeB e = uintB e.kind.toNat ++ uintB e.bidder.toNat := by
    unfold codeB
    rw [code_1 (.inr h)]
    simp only [List.append_nil, code_cat, cat_assoc]
    rfl
  rw [HE]
  generalize uintB e.kind.toNat = s0 at *
  generalize uintB e.bidder.toNat = s1 at *
  have A1 := fun W => add_s (s0) s1 (by have := Z0; have := Z1; omega) W
  have Y1 := cat_size (s0) s1 Z0 Z1
  have CF := Lib.hid (fun W => rhas_any e.kind W)
  rw [show hasBb e.kind = true by rw [h]; rfl] at CF
  clear ho HE Z0 Z1 Y1
  obtain ⟨k, b, r, p, t, d⟩ := e
  unfold Evt.val
  dsimp only at *
  subst h
  go_enter Tryz.func29, Tryz.ntmps29
  go_wp2_with fail
  refine (C0.out _).mono ?_
  rintro e x0 ⟨rfl, d0⟩
  have B0 := Lib.hid (chain1 (Below.refl _ _) d0)
  have K0 := Lib.hid ((Blk.new w 26 (cells11 7 b r p t d)).below' d0)
  clear d0
  have q0 := Blk11 K0.out
  have l0 := K0.out.lt
  go_wp2_with fail
  refine (CF.out _).mono ?_
  rintro e xq ⟨rfl, rfl⟩
  go_wp2_with fail
  refine (C1.out _).mono ?_
  rintro e x1 ⟨rfl, d1⟩
  have B1 := Lib.hid (chain0 B0.out d1)
  have K1 := Lib.hid (K0.out.below' d1)
  clear d1 B0 K0 q0 l0
  have q1 := Blk11 K1.out
  have l1 := K1.out.lt
  go_wp2_with fail
  try dsimp only [Exit.noGoto, Exit.inBlock, Exit.then]
  go_ret
  exact ⟨rfl, B1.out⟩
set_option maxHeartbeats 4000000 in
set_option maxRecDepth 100000 in
theorem rcode_at_8 (e : Evt) (w : World) (h : e.kind = 8) (ho : Okay e) : Calls Tryz.prog 29 #[e.val] w (StrPost (codeB e) w) := by
  have C0 := Lib.hid (fun W => rnum_any (e.kind) ⟨by have := ho.kind; omega, by have := ho.kind; omega⟩ W)
  have Z0 := (uintB_size e.kind.toNat)
  have C1 := Lib.hid (fun W => rnum_any (e.round) ⟨ho.round.1, by have := ho.round; omega⟩ W)
  have Z1 := (uintB_size e.round.toNat)
  have HE : codeB e = uintB e.kind.toNat ++ uintB e.round.toNat := by
    unfold codeB
    rw [code_8 h]
    simp only [List.append_nil, code_cat, cat_assoc]
    rfl
  rw [HE]
  generalize uintB e.kind.toNat = s0 at *
  generalize uintB e.round.toNat = s1 at *
  have A1 := fun W => add_s (s0) s1 (by have := Z0; have := Z1; omega) W
  have Y1 := cat_size (s0) s1 Z0 Z1
  have CF := Lib.hid (fun W => rhas_any e.kind W)
  rw [show hasBb e.kind = false by rw [h]; rfl] at CF
  clear ho HE Z0 Z1 Y1
  obtain ⟨k, b, r, p, t, d⟩ := e
  unfold Evt.val
  dsimp only at *
  subst h
  go_enter Tryz.func29, Tryz.ntmps29
  go_wp2_with fail
  refine (C0.out _).mono ?_
  rintro e x0 ⟨rfl, d0⟩
  have B0 := Lib.hid (chain1 (Below.refl _ _) d0)
  have K0 := Lib.hid ((Blk.new w 26 (cells11 8 b r p t d)).below' d0)
  clear d0
  have q0 := Blk11 K0.out
  have l0 := K0.out.lt
  go_wp2_with fail
  refine (CF.out _).mono ?_
  rintro e xq ⟨rfl, rfl⟩
  go_wp2_with fail
  refine (C1.out _).mono ?_
  rintro e x1 ⟨rfl, d1⟩
  have B1 := Lib.hid (chain0 B0.out d1)
  have K1 := Lib.hid (K0.out.below' d1)
  clear d1 B0 K0 q0 l0
  have q1 := Blk11 K1.out
  have l1 := K1.out.lt
  go_wp2_with fail
  try dsimp only [Exit.noGoto, Exit.inBlock, Exit.then]
  go_ret
  exact ⟨rfl, B1.out⟩
set_option maxHeartbeats 4000000 in
set_option maxRecDepth 100000 in
theorem rcode_at_10 (e : Evt) (w : World) (h : e.kind = 10) (ho : Okay e) : Calls Tryz.prog 29 #[e.val] w (StrPost (codeB e) w) := by
  have C0 := Lib.hid (fun W => rnum_any (e.kind) ⟨by have := ho.kind; omega, by have := ho.kind; omega⟩ W)
  have Z0 := (uintB_size e.kind.toNat)
  have C1 := Lib.hid (fun W => ruintn_any e.digest W ho.digest)
  have Z1 := (uintB_size e.digest)
  have HE : codeB e = uintB e.kind.toNat ++ uintB e.digest := by
    unfold codeB
    rw [code_16 h]
    simp only [List.append_nil, code_cat, cat_assoc]
    rfl
  rw [HE]
  generalize uintB e.kind.toNat = s0 at *
  generalize uintB e.digest = s1 at *
  have A1 := fun W => add_s (s0) s1 (by have := Z0; have := Z1; omega) W
  have Y1 := cat_size (s0) s1 Z0 Z1
  have CF := Lib.hid (fun W => rhas_any e.kind W)
  rw [show hasBb e.kind = false by rw [h]; rfl] at CF
  clear ho HE Z0 Z1 Y1
  obtain ⟨k, b, r, p, t, d⟩ := e
  unfold Evt.val
  dsimp only at *
  subst h
  go_enter Tryz.func29, Tryz.ntmps29
  go_wp2_with fail
  refine (C0.out _).mono ?_
  rintro e x0 ⟨rfl, d0⟩
  have B0 := Lib.hid (chain1 (Below.refl _ _) d0)
  have K0 := Lib.hid ((Blk.new w 26 (cells11 10 b r p t d)).below' d0)
  clear d0
  have q0 := Blk11 K0.out
  have l0 := K0.out.lt
  go_wp2_with fail
  refine (CF.out _).mono ?_
  rintro e xq ⟨rfl, rfl⟩
  go_wp2_with fail
  refine (C1.out _).mono ?_
  rintro e x1 ⟨rfl, d1⟩
  have B1 := Lib.hid (chain0 B0.out d1)
  have K1 := Lib.hid (K0.out.below' d1)
  clear d1 B0 K0 q0 l0
  have q1 := Blk11 K1.out
  have l1 := K1.out.lt
  go_wp2_with fail
  try dsimp only [Exit.noGoto, Exit.inBlock, Exit.then]
  go_ret
  exact ⟨rfl, B1.out⟩
set_option maxHeartbeats 4000000 in
set_option maxRecDepth 100000 in
theorem rcode_at_none (e : Evt) (w : World) (h : ¬ e.kind = 1 ∧ ¬ e.kind = 2 ∧ ¬ e.kind = 5 ∧ ¬ e.kind = 6 ∧ ¬ e.kind = 7 ∧ ¬ e.kind = 8 ∧ ¬ e.kind = 10) (ho : Okay e) : Calls Tryz.prog 29 #[e.val] w (StrPost (codeB e) w) := by
  have C0 := Lib.hid (fun W => rnum_any (e.kind) ⟨by have := ho.kind; omega, by have := ho.kind; omega⟩ W)
  have Z0 := (uintB_size e.kind.toNat)
  have HE : codeB e = uintB e.kind.toNat := by
    unfold codeB
    rw [code_0 h]
    simp only [List.append_nil, code_cat, cat_assoc]
    rfl
  rw [HE]
  generalize uintB e.kind.toNat = s0 at *
  have CF := Lib.hid (fun W => rhas_any e.kind W)
  rw [show hasBb e.kind = false by unfold hasBb; simp [h]] at CF
  clear ho HE Z0 
  obtain ⟨k, b, r, p, t, d⟩ := e
  unfold Evt.val
  dsimp only at *
  have d1 : (k == 1) = false := by simpa using h.1
  have d2 : (k == 2) = false := by simpa using h.2.1
  have d5 : (k == 5) = false := by simpa using h.2.2.1
  have d6 : (k == 6) = false := by simpa using h.2.2.2.1
  have d7 : (k == 7) = false := by simpa using h.2.2.2.2.1
  have d8 : (k == 8) = false := by simpa using h.2.2.2.2.2.1
  have d10 : (k == 10) = false := by simpa using h.2.2.2.2.2.2
  clear h
  go_enter Tryz.func29, Tryz.ntmps29
  go_wp2_with fail
  refine (C0.out _).mono ?_
  rintro e x0 ⟨rfl, d0⟩
  have B0 := Lib.hid (chain1 (Below.refl _ _) d0)
  have K0 := Lib.hid ((Blk.new w 26 (cells11 k b r p t d)).below' d0)
  clear d0
  have q0 := Blk11 K0.out
  have l0 := K0.out.lt
  go_wp2_with fail
  refine (CF.out _).mono ?_
  rintro e xq ⟨rfl, rfl⟩
  go_wp2_with fail
  try dsimp only [Exit.noGoto, Exit.inBlock, Exit.then]
  go_ret
  exact ⟨rfl, B0.out⟩
theorem rcode_any (e : Evt) (w : World) (ho : Okay e) : Calls Tryz.prog 29 #[e.val] w (StrPost (codeB e) w) := by
  rcases kind_lits e.kind with h | h | h | h | h | h | h | h
  · exact rcode_at_1 e w h ho
  · exact rcode_at_2 e w h ho
  · exact rcode_at_5 e w h ho
  · exact rcode_at_6 e w h ho
  · exact rcode_at_7 e w h ho
  · exact rcode_at_8 e w h ho
  · exact rcode_at_10 e w h ho
  · exact rcode_at_none e w h ho
set_option maxHeartbeats 4000000 in
set_option maxRecDepth 100000 in
theorem rcheck_bad1 (e : Evt) (w : World) (ht : e.text.size ≤ 5000) (hdg : e.digest < 18446744073709551616) (h : e.kind < 1) : Calls Tryz.prog 10 #[e.val] w (ErrPost (checkV e) w) := by
  rw [chk_2 (.inl (by omega))]
  have CB := Lib.hid (fun W => rbare_any e W)
  obtain ⟨k, b, r, p, t, d⟩ := e
  generalize bareE ⟨k, b, r, p, t, d⟩ = c at *
  obtain ⟨k2, b2, r2, p2, t2, d2⟩ := c
  unfold Evt.val at *
  dsimp only at *
  have f1 : decide (k < 1) = true := decide_eq_true h
  clear h
  have B0 := Lib.hid (below_new w (.cells (cells11 k b r p t d) 26))
  have K0 := Lib.hid (Blk.new w 26 (cells11 k b r p t d))
  go_enter Tryz.func10, Tryz.ntmps10
  go_wp2_with fail
  generalize w.alloc (.cells #[.int .i64 k, .int .i64 b, .int .i64 r, .int .i64 (p 0), .int .i64 (p 1), .int .i64 (p 2), .int .i64 (p 3), .int .i64 (p 4), .int .i64 (p 5), .string t, .int .u64 (d : Int)] 26) = w0 at *
  have q0 := Blk11 K0.out
  have l0 := K0.out.lt
  have FB := Lib.hid (fun y => CB.out (later w0 y))
  refine wp_region_later (by kernel_rfl) (by kernel_rfl) ?_
  repeat (first | go_big_quiet_step ((go_at_call 27; exact calls_later (FB.out _))) | quiet_step ((go_at_call 27; exact calls_later (FB.out _))))
  refine wpQuiet_nil ?_
  rintro _ ⟨y, rfl⟩
  have B1 := Lib.hid (B0.out.trans ((later_below w0 y).mono B0.out.size))
  have K1 := Lib.hid (K0.out.below' (later_below w0 y))
  clear FB q0 l0 K0 B0
  generalize later w0 y = w1 at *
  go_wp2_with fail
  go_ret
  exact ⟨rfl, B1.out⟩
set_option maxHeartbeats 4000000 in
set_option maxRecDepth 100000 in
theorem rcheck_bad2 (e : Evt) (w : World) (ht : e.text.size ≤ 5000) (hdg : e.digest < 18446744073709551616) (h : ¬ e.kind < 1 ∧ 10 < e.kind) : Calls Tryz.prog 10 #[e.val] w (ErrPost (checkV e) w) := by
  rw [chk_2 (.inl (by omega))]
  have CB := Lib.hid (fun W => rbare_any e W)
  obtain ⟨k, b, r, p, t, d⟩ := e
  generalize bareE ⟨k, b, r, p, t, d⟩ = c at *
  obtain ⟨k2, b2, r2, p2, t2, d2⟩ := c
  unfold Evt.val at *
  dsimp only at *
  have f1 : decide (k < 1) = false := decide_eq_false h.1
  have f2 : decide (10 < k) = true := decide_eq_true h.2
  clear h
  have B0 := Lib.hid (below_new w (.cells (cells11 k b r p t d) 26))
  have K0 := Lib.hid (Blk.new w 26 (cells11 k b r p t d))
  go_enter Tryz.func10, Tryz.ntmps10
  go_wp2_with fail
  generalize w.alloc (.cells #[.int .i64 k, .int .i64 b, .int .i64 r, .int .i64 (p 0), .int .i64 (p 1), .int .i64 (p 2), .int .i64 (p 3), .int .i64 (p 4), .int .i64 (p 5), .string t, .int .u64 (d : Int)] 26) = w0 at *
  have q0 := Blk11 K0.out
  have l0 := K0.out.lt
  have FB := Lib.hid (fun y => CB.out (later w0 y))
  refine wp_region_later (by kernel_rfl) (by kernel_rfl) ?_
  repeat (first | go_big_quiet_step ((go_at_call 27; exact calls_later (FB.out _))) | quiet_step ((go_at_call 27; exact calls_later (FB.out _))))
  refine wpQuiet_nil ?_
  rintro _ ⟨y, rfl⟩
  have B1 := Lib.hid (B0.out.trans ((later_below w0 y).mono B0.out.size))
  have K1 := Lib.hid (K0.out.below' (later_below w0 y))
  clear FB q0 l0 K0 B0
  generalize later w0 y = w1 at *
  go_wp2_with fail
  go_ret
  exact ⟨rfl, B1.out⟩
set_option maxHeartbeats 4000000 in
set_option maxRecDepth 100000 in
theorem rcheck_ne (e : Evt) (w : World) (ht : e.text.size ≤ 5000) (hdg : e.digest < 18446744073709551616) (h : 1 ≤ e.kind ∧ e.kind ≤ 10) (hq : evEq e (bareE e) = false) : Calls Tryz.prog 10 #[e.val] w (ErrPost (checkV e) w) := by
  rw [chk_2 (.inr hq)]
  have CB := Lib.hid (fun W => rbare_any e W)
  have EQ := fun W => eq_evt e (bareE e) W
  rw [hq] at EQ
  obtain ⟨k, b, r, p, t, d⟩ := e
  generalize bareE ⟨k, b, r, p, t, d⟩ = c at *
  obtain ⟨k2, b2, r2, p2, t2, d2⟩ := c
  unfold Evt.val at *
  dsimp only at *
  have f1 : decide (k < 1) = false := decide_eq_false (by omega)
  have f2 : decide (10 < k) = false := decide_eq_false (by omega)
  clear h hq
  have B0 := Lib.hid (below_new w (.cells (cells11 k b r p t d) 26))
  have K0 := Lib.hid (Blk.new w 26 (cells11 k b r p t d))
  go_enter Tryz.func10, Tryz.ntmps10
  go_wp2_with fail
  generalize w.alloc (.cells #[.int .i64 k, .int .i64 b, .int .i64 r, .int .i64 (p 0), .int .i64 (p 1), .int .i64 (p 2), .int .i64 (p 3), .int .i64 (p 4), .int .i64 (p 5), .string t, .int .u64 (d : Int)] 26) = w0 at *
  have q0 := Blk11 K0.out
  have l0 := K0.out.lt
  have FB := Lib.hid (fun y => CB.out (later w0 y))
  refine wp_region_later (by kernel_rfl) (by kernel_rfl) ?_
  repeat (first | go_big_quiet_step ((go_at_call 27; exact calls_later (FB.out _))) | quiet_step ((go_at_call 27; exact calls_later (FB.out _))))
  refine wpQuiet_nil ?_
  rintro _ ⟨y, rfl⟩
  have B1 := Lib.hid (B0.out.trans ((later_below w0 y).mono B0.out.size))
  have K1 := Lib.hid (K0.out.below' (later_below w0 y))
  clear FB q0 l0 K0 B0
  generalize later w0 y = w1 at *
  go_wp2_with fail
  go_ret
  exact ⟨rfl, B1.out⟩
set_option maxHeartbeats 8000000 in
set_option maxRecDepth 100000 in
theorem rcheck_eq (e : Evt) (w : World) (ht : e.text.size ≤ 5000) (hdg : e.digest < 18446744073709551616) (h : 1 ≤ e.kind ∧ e.kind ≤ 10) (hq : evEq e (bareE e) = true) : Calls Tryz.prog 10 #[e.val] w (ErrPost (checkV e) w) := by
  have hn : ¬ ((e.kind < 1 ∨ 10 < e.kind) ∨ evEq e (bareE e) = false) := by
    rintro (h1 | h1)
    · omega
    · rw [hq] at h1; cases h1
  have HV4 := Lib.hid (chk_4 hn)
  have HV3 := Lib.hid (chk_3 hn)
  have HV0 := Lib.hid (chk_0 hn)
  have CY := Lib.hid (fun h2 : ¬ outE e => fun W => rcode_any e W (okay_of h h2 ht hdg))
  have HS : Hid ((codeB e).size = (codeL e).length) := by
    show (codeL e).toArray.size = _
    rw [List.size_toArray]
  have BC := Lib.hid (fun W => r7check_any e.want W)
  have HVE : Hid (valE e.want = if validB e.want = true then 0 else 4) := rfl
  have CB := Lib.hid (fun W => rbare_any e W)
  have EQ := fun W => eq_evt e (bareE e) W
  rw [hq] at EQ
  unfold outE at *
  generalize checkV e = V at *
  generalize codeB e = cb at *
  generalize (codeL e).length = N at *
  generalize valE e.want = vw at *
  obtain ⟨k, b, r, p, t, d⟩ := e
  generalize bareE ⟨k, b, r, p, t, d⟩ = c at *
  obtain ⟨k2, b2, r2, p2, t2, d2⟩ := c
  unfold Evt.val at *
  dsimp only at *
  have f1 : decide (k < 1) = false := decide_eq_false (by omega)
  have f2 : decide (10 < k) = false := decide_eq_false (by omega)
  clear h hq hn hdg ht
  have B0 := Lib.hid (below_new w (.cells (cells11 k b r p t d) 26))
  have K0 := Lib.hid (Blk.new w 26 (cells11 k b r p t d))
  go_enter Tryz.func10, Tryz.ntmps10
  go_wp2_with fail
  generalize w.alloc (.cells #[.int .i64 k, .int .i64 b, .int .i64 r, .int .i64 (p 0), .int .i64 (p 1), .int .i64 (p 2), .int .i64 (p 3), .int .i64 (p 4), .int .i64 (p 5), .string t, .int .u64 (d : Int)] 26) = w0 at *
  have q0 := Blk11 K0.out
  have l0 := K0.out.lt
  have FB := Lib.hid (fun y => CB.out (later w0 y))
  refine wp_region_later (by kernel_rfl) (by kernel_rfl) ?_
  repeat (first | go_big_quiet_step ((go_at_call 27; exact calls_later (FB.out _))) | quiet_step ((go_at_call 27; exact calls_later (FB.out _))))
  refine wpQuiet_nil ?_
  rintro _ ⟨y, rfl⟩
  have B1 := Lib.hid (B0.out.trans ((later_below w0 y).mono B0.out.size))
  have K1 := Lib.hid (K0.out.below' (later_below w0 y))
  clear FB q0 l0 K0 B0
  generalize later w0 y = w1 at *
  have q1 := Blk11 K1.out
  have l1 := K1.out.lt
  by_cases c1 : b < 0
  · have d1 : decide (b < 0) = true := decide_eq_true c1
    have HX := Lib.hid (HV4.out (.inl c1))
    go_wp2_with fail
    go_ret
    exact ⟨by rw [HX.out]; rfl, B1.out⟩
  have d1 : decide (b < 0) = false := decide_eq_false c1
  by_cases c2 : 8 ≤ b
  · have d2 : decide (7 < b) = true := decide_eq_true (by omega)
    have HX := Lib.hid (HV4.out (.inr (.inl c2)))
    go_wp2_with fail
    go_ret
    exact ⟨by rw [HX.out]; rfl, B1.out⟩
  have d2 : decide (7 < b) = false := decide_eq_false (by omega)
  by_cases c3 : r < 0
  · have d3 : decide (r < 0) = true := decide_eq_true c3
    have HX := Lib.hid (HV4.out (.inr (.inr (.inl c3))))
    go_wp2_with fail
    go_ret
    exact ⟨by rw [HX.out]; rfl, B1.out⟩
  have d3 : decide (r < 0) = false := decide_eq_false c3
  by_cases c4 : 30 ≤ r
  · have d4 : decide (29 < r) = true := decide_eq_true (by omega)
    have HX := Lib.hid (HV4.out (.inr (.inr (.inr (.inl c4)))))
    go_wp2_with fail
    go_ret
    exact ⟨by rw [HX.out]; rfl, B1.out⟩
  have d4 : decide (29 < r) = false := decide_eq_false (by omega)
  go_wp2_with fail
  refine (BC.out _).mono ?_
  rintro x w2 ⟨rfl, d2x⟩
  have B2 := Lib.hid (chain0 B1.out d2x)
  have K2 := Lib.hid (K1.out.below' d2x)
  clear d2x BC B1 K1 q1 l1
  have q2 := Blk11 K2.out
  have l2 := K2.out.lt
  cases c5 : validB p with
  | false =>
    have HX := Lib.hid (HV4.out (.inr (.inr (.inr (.inr c5)))))
    have hvw : vw = 4 := by rw [HVE.out, c5]; rfl
    have dv : (vw != 0) = true := by rw [hvw]; rfl
    clear hvw
    go_wp2_with fail
    go_ret
    exact ⟨by rw [HX.out]; rfl, B2.out⟩
  | true =>
    have hno : ¬ (b < 0 ∨ 8 ≤ b ∨ r < 0 ∨ 30 ≤ r ∨ validB p = false) := by
      rintro (x | x | x | x | x)
      · omega
      · omega
      · omega
      · omega
      · rw [c5] at x; cases x
    have V3 := Lib.hid (HV3.out hno)
    have V0 := Lib.hid (HV0.out hno)
    have CZ := Lib.hid (CY.out hno)
    have hvw : vw = 0 := by rw [HVE.out, c5]; rfl
    have dv : (vw != 0) = false := by rw [hvw]; rfl
    clear HV4 HV3 HV0 CY hno c1 c2 c3 c4 c5 hvw
    go_wp2_with fail
    refine (CZ.out _).mono ?_
    rintro x w3 ⟨rfl, d3⟩
    have B3 := Lib.hid (chain0 B2.out d3)
    clear d3
    by_cases c7 : 4000 < cb.size
    · have d7 : decide ((4000 : Int) < (cb.size : Int)) = true := decide_eq_true (by omega)
      have HX := Lib.hid (V3.out (by rw [← HS.out]; exact c7))
      go_wp2_with fail
      go_ret
      exact ⟨by rw [HX.out]; rfl, B3.out⟩
    · have d7 : decide ((4000 : Int) < (cb.size : Int)) = false := decide_eq_false (by omega)
      have HX := Lib.hid (V0.out (by rw [← HS.out]; exact c7))
      go_wp2_with fail
      go_ret
      exact ⟨by rw [HX.out]; rfl, B3.out⟩
theorem rcheckE_any (e : Evt) (w : World) (ht : e.text.size ≤ 5000) (hdg : e.digest < 18446744073709551616) : Calls Tryz.prog 10 #[e.val] w (ErrPost (checkV e) w) := by
  by_cases h : e.kind < 1
  · exact rcheck_bad1 e w ht hdg h
  · by_cases h3 : 10 < e.kind
    · exact rcheck_bad2 e w ht hdg ⟨h, h3⟩
    · have h2 : 1 ≤ e.kind ∧ e.kind ≤ 10 := by omega
      cases hq : evEq e (bareE e) with
      | false => exact rcheck_ne e w ht hdg h2 hq
      | true => exact rcheck_eq e w ht hdg h2 hq
end Go.Proofs.YtaikmgnpfbnjjaaGreatDoor.Ev
