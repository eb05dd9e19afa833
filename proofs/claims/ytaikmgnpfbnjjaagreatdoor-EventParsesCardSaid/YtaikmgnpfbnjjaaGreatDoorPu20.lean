/- Contracts of event.Name, fields and bare. Printed by gen_ev3.py. -/
import Derived.Test.YtaikmgnpfbnjjaaGreatDoorPu19
namespace Go.Proofs.YtaikmgnpfbnjjaaGreatDoor.Ev
open Go.ChangeShapes Go.WideShapes Go.ChangeAt Go.RowKit Gn Cat Lex
set_option linter.unusedVariables false
set_option linter.unusedSimpArgs false
set_option maxHeartbeats 1000000 in
theorem name_any (k : Int) (w : World) : Calls Tryz.prog 11 #[.int .i64 k] w (StrPost (nameK k) w) := by
  by_cases h1 : k < 1
  · have HV : Hid (nameK k = ⟨#[]⟩) := by
      show nameK k = _
      unfold nameK
      rw [if_neg (by omega), if_neg (by omega), if_neg (by omega), if_neg (by omega), if_neg (by omega), if_neg (by omega), if_neg (by omega), if_neg (by omega), if_neg (by omega), if_neg (by omega)]
    have hd : decide (k < 1) = true := decide_eq_true h1
    clear h1
    go_enter Tryz.func11, Tryz.ntmps11
    go_wp2_with fail
    go_ret
    exact ⟨by rw [HV.out]; rfl, below_new _ _⟩
  · have hd : decide (k < 1) = false := decide_eq_false h1
    by_cases h2 : 10 < k
    · have HV : Hid (nameK k = ⟨#[]⟩) := by
        show nameK k = _
        unfold nameK
        rw [if_neg (by omega), if_neg (by omega), if_neg (by omega), if_neg (by omega), if_neg (by omega), if_neg (by omega), if_neg (by omega), if_neg (by omega), if_neg (by omega), if_neg (by omega)]
      have hd2 : decide (10 < k) = true := decide_eq_true h2
      clear h1 h2
      go_enter Tryz.func11, Tryz.ntmps11
      go_wp2_with fail
      go_ret
      exact ⟨by rw [HV.out]; rfl, below_new _ _⟩
    · have hk : k = 1 ∨ k = 2 ∨ k = 3 ∨ k = 4 ∨ k = 5 ∨ k = 6 ∨ k = 7 ∨ k = 8 ∨ k = 9 ∨ k = 10 := by omega
      clear h1 h2 hd
      rcases hk with rfl | rfl | rfl | rfl | rfl | rfl | rfl | rfl | rfl | rfl
      all_goals
        go_enter Tryz.func11, Tryz.ntmps11
        go_wp2_with fail
        go_ret
        exact ⟨rfl, below_new _ _⟩
theorem fields_any (k : Int) (w : World) : Calls Tryz.prog 35 #[.int .i64 k] w fun e w' => e = .returned (.int .i64 (fieldsK k)) ∧ w' = w := by
  rcases kind_cases k with rfl | rfl | rfl | (rfl | rfl) | rfl | rfl | h
  all_goals try (
    go_enter Tryz.func35, Tryz.ntmps35
    go_wp2_with fail
    go_ret
    exact ⟨rfl, rfl⟩)
  have HV := Lib.hid (fields_none h)
  obtain ⟨h1, h2, h5, h6, h7, h8, h10⟩ := h
  have d1 : (k == 1) = false := by simpa using h1
  have d2 : (k == 2) = false := by simpa using h2
  have d5 : (k == 5) = false := by simpa using h5
  have d6 : (k == 6) = false := by simpa using h6
  have d7 : (k == 7) = false := by simpa using h7
  have d8 : (k == 8) = false := by simpa using h8
  have d10 : (k == 10) = false := by simpa using h10
  clear h1 h2 h5 h6 h7 h8 h10
  go_enter Tryz.func35, Tryz.ntmps35
  go_wp2_with fail
  go_ret
  exact ⟨by rw [HV.out]; rfl, rfl⟩
theorem noB {k : Int} (h : ¬ k = 2 ∧ ¬ k = 5 ∧ ¬ k = 6 ∧ ¬ k = 7) : ¬ hasB k := by rintro (x | x | x | x) <;> omega
theorem noT {k : Int} (h : ¬ k = 1 ∧ ¬ k = 5) : ¬ hasT k := by rintro (x | x) <;> omega
theorem isB {k : Int} (h : k = 2 ∨ k = 5 ∨ k = 6 ∨ k = 7) : hasB k := h
theorem isT {k : Int} (h : k = 1 ∨ k = 5) : hasT k := h
theorem fields_0 {e : Evt} (h : ¬ e.kind = 1 ∧ ¬ e.kind = 2 ∧ ¬ e.kind = 5 ∧ ¬ e.kind = 6 ∧ ¬ e.kind = 7 ∧ ¬ e.kind = 8 ∧ ¬ e.kind = 10) : fieldsK e.kind = 0 := by
  exact fields_none h
theorem bare_0 {e : Evt} (h : ¬ e.kind = 1 ∧ ¬ e.kind = 2 ∧ ¬ e.kind = 5 ∧ ¬ e.kind = 6 ∧ ¬ e.kind = 7 ∧ ¬ e.kind = 8 ∧ ¬ e.kind = 10) : bareE e = ⟨e.kind, 0, 0, zero6, ⟨#[]⟩, 0⟩ := by
  unfold bareE
  rw [if_neg (noB (by omega)), if_neg (by omega), if_neg (by omega), if_neg (noT (by omega)), if_neg (by omega)]
theorem code_0 {e : Evt} (h : ¬ e.kind = 1 ∧ ¬ e.kind = 2 ∧ ¬ e.kind = 5 ∧ ¬ e.kind = 6 ∧ ¬ e.kind = 7 ∧ ¬ e.kind = 8 ∧ ¬ e.kind = 10) : codeL e = uintL e.kind.toNat ++ ([]) := by
  unfold codeL
  rw [if_neg (noB (by omega)), if_neg (by omega), if_neg (by omega), if_neg (noT (by omega)), if_neg (by omega)]
  simp
theorem fields_4 {e : Evt} (h : e.kind = 1) : fieldsK e.kind = 4 := by
  rw [h]; rfl
theorem bare_4 {e : Evt} (h : e.kind = 1) : bareE e = ⟨e.kind, 0, 0, zero6, e.text, 0⟩ := by
  unfold bareE
  rw [if_neg (noB (by omega)), if_neg (by omega), if_neg (by omega), if_pos (isT (by omega)), if_neg (by omega)]
theorem code_4 {e : Evt} (h : e.kind = 1) : codeL e = uintL e.kind.toNat ++ (textL e.text) := by
  unfold codeL
  rw [if_neg (noB (by omega)), if_neg (by omega), if_neg (by omega), if_pos (isT (by omega)), if_neg (by omega)]
  simp
theorem fields_3 {e : Evt} (h : e.kind = 2) : fieldsK e.kind = 3 := by
  rw [h]; rfl
theorem bare_3 {e : Evt} (h : e.kind = 2) : bareE e = ⟨e.kind, e.bidder, 0, e.want, ⟨#[]⟩, 0⟩ := by
  unfold bareE
  rw [if_pos (isB (by omega)), if_neg (by omega), if_pos (by omega), if_neg (noT (by omega)), if_neg (by omega)]
theorem code_3 {e : Evt} (h : e.kind = 2) : codeL e = uintL e.kind.toNat ++ (uintL e.bidder.toNat ++ (uintL (e.want 0).toNat ++ (uintL (e.want 1).toNat ++ (uintL (e.want 2).toNat ++ (uintL (e.want 3).toNat ++ (uintL (e.want 4).toNat ++ uintL (e.want 5).toNat)))))) := by
  unfold codeL
  rw [if_pos (isB (by omega)), if_neg (by omega), if_pos (by omega), if_neg (noT (by omega)), if_neg (by omega)]
  simp
theorem fields_5 {e : Evt} (h : e.kind = 5) : fieldsK e.kind = 5 := by
  rw [h]; rfl
theorem bare_5 {e : Evt} (h : e.kind = 5) : bareE e = ⟨e.kind, e.bidder, 0, zero6, e.text, 0⟩ := by
  unfold bareE
  rw [if_pos (isB (by omega)), if_neg (by omega), if_neg (by omega), if_pos (isT (by omega)), if_neg (by omega)]
theorem code_5 {e : Evt} (h : e.kind = 5) : codeL e = uintL e.kind.toNat ++ (uintL e.bidder.toNat ++ textL e.text) := by
  unfold codeL
  rw [if_pos (isB (by omega)), if_neg (by omega), if_neg (by omega), if_pos (isT (by omega)), if_neg (by omega)]
  simp
theorem fields_1 {e : Evt} (h : e.kind = 6 ∨ e.kind = 7) : fieldsK e.kind = 1 := by
  rcases h with h | h <;> rw [h] <;> rfl
theorem bare_1 {e : Evt} (h : e.kind = 6 ∨ e.kind = 7) : bareE e = ⟨e.kind, e.bidder, 0, zero6, ⟨#[]⟩, 0⟩ := by
  unfold bareE
  rw [if_pos (isB (by omega)), if_neg (by omega), if_neg (by omega), if_neg (noT (by omega)), if_neg (by omega)]
theorem code_1 {e : Evt} (h : e.kind = 6 ∨ e.kind = 7) : codeL e = uintL e.kind.toNat ++ (uintL e.bidder.toNat) := by
  unfold codeL
  rw [if_pos (isB (by omega)), if_neg (by omega), if_neg (by omega), if_neg (noT (by omega)), if_neg (by omega)]
  simp
theorem fields_8 {e : Evt} (h : e.kind = 8) : fieldsK e.kind = 8 := by
  rw [h]; rfl
theorem bare_8 {e : Evt} (h : e.kind = 8) : bareE e = ⟨e.kind, 0, e.round, zero6, ⟨#[]⟩, 0⟩ := by
  unfold bareE
  rw [if_neg (noB (by omega)), if_pos (by omega), if_neg (by omega), if_neg (noT (by omega)), if_neg (by omega)]
theorem code_8 {e : Evt} (h : e.kind = 8) : codeL e = uintL e.kind.toNat ++ (uintL e.round.toNat) := by
  unfold codeL
  rw [if_neg (noB (by omega)), if_pos (by omega), if_neg (by omega), if_neg (noT (by omega)), if_neg (by omega)]
  simp
theorem fields_16 {e : Evt} (h : e.kind = 10) : fieldsK e.kind = 16 := by
  rw [h]; rfl
theorem bare_16 {e : Evt} (h : e.kind = 10) : bareE e = ⟨e.kind, 0, 0, zero6, ⟨#[]⟩, e.digest⟩ := by
  unfold bareE
  rw [if_neg (noB (by omega)), if_neg (by omega), if_neg (by omega), if_neg (noT (by omega)), if_pos (by omega)]
theorem code_16 {e : Evt} (h : e.kind = 10) : codeL e = uintL e.kind.toNat ++ (uintL e.digest) := by
  unfold codeL
  rw [if_neg (noB (by omega)), if_neg (by omega), if_neg (by omega), if_neg (noT (by omega)), if_pos (by omega)]
  simp
abbrev EvtPost (x : Evt) (w : World) (e : Ending) (w' : World) : Prop := e = .returned x.val ∧ Below w.heap.size w w'
set_option maxHeartbeats 1000000 in
theorem bare_at_0 (e : Evt) (w : World) (h : ¬ e.kind = 1 ∧ ¬ e.kind = 2 ∧ ¬ e.kind = 5 ∧ ¬ e.kind = 6 ∧ ¬ e.kind = 7 ∧ ¬ e.kind = 8 ∧ ¬ e.kind = 10) : Calls Tryz.prog 24 #[e.val] w (EvtPost (bareE e) w) := by
  have HV := Lib.hid (bare_0 h)
  have HF := Lib.hid (fields_0 h)
  have CF := Lib.hid (fields_any e.kind)
  clear h
  rw [HF.out] at CF
  unfold EvtPost
  rw [HV.out]
  obtain ⟨k, b, r, p, t, d⟩ := e
  unfold Evt.val
  dsimp only at CF ⊢
  have t1 : (bits BinOp.and IntKind.i64 0 1 != 0) = false := by decide +kernel
  have t2 : (bits BinOp.and IntKind.i64 0 2 != 0) = false := by decide +kernel
  have t4 : (bits BinOp.and IntKind.i64 0 4 != 0) = false := by decide +kernel
  have t8 : (bits BinOp.and IntKind.i64 0 8 != 0) = false := by decide +kernel
  have t16 : (bits BinOp.and IntKind.i64 0 16 != 0) = false := by decide +kernel
  go_enter Tryz.func24, Tryz.ntmps24
  go_wp2_with fail
  refine (CF.out _).mono ?_
  rintro e w1 ⟨rfl, rfl⟩
  go_wp2_with fail
  exact bodyPost_ret (v := .agg (cells11 k 0 0 zero6 ⟨#[]⟩ 0)) (results_blk rfl rfl (blk_mid _ 26 _ _ _) Tryz.underlying26 rfl (by kernel_rfl)) rfl ⟨rfl, below_three _ _ _ _⟩
set_option maxHeartbeats 1000000 in
theorem bare_at_4 (e : Evt) (w : World) (h : e.kind = 1) : Calls Tryz.prog 24 #[e.val] w (EvtPost (bareE e) w) := by
  have HV := Lib.hid (bare_4 h)
  have HF := Lib.hid (fields_4 h)
  have CF := Lib.hid (fields_any e.kind)
  clear h
  rw [HF.out] at CF
  unfold EvtPost
  rw [HV.out]
  obtain ⟨k, b, r, p, t, d⟩ := e
  unfold Evt.val
  dsimp only at CF ⊢
  have t1 : (bits BinOp.and IntKind.i64 4 1 != 0) = false := by decide +kernel
  have t2 : (bits BinOp.and IntKind.i64 4 2 != 0) = false := by decide +kernel
  have t4 : (bits BinOp.and IntKind.i64 4 4 != 0) = true := by decide +kernel
  have t8 : (bits BinOp.and IntKind.i64 4 8 != 0) = false := by decide +kernel
  have t16 : (bits BinOp.and IntKind.i64 4 16 != 0) = false := by decide +kernel
  go_enter Tryz.func24, Tryz.ntmps24
  go_wp2_with fail
  refine (CF.out _).mono ?_
  rintro e w1 ⟨rfl, rfl⟩
  go_wp2_with fail
  exact bodyPost_ret (v := .agg (cells11 k 0 0 zero6 t 0)) (results_blk rfl rfl (blk_mid _ 26 _ _ _) Tryz.underlying26 rfl (by kernel_rfl)) rfl ⟨rfl, below_three _ _ _ _⟩
set_option maxHeartbeats 1000000 in
theorem bare_at_3 (e : Evt) (w : World) (h : e.kind = 2) : Calls Tryz.prog 24 #[e.val] w (EvtPost (bareE e) w) := by
  have HV := Lib.hid (bare_3 h)
  have HF := Lib.hid (fields_3 h)
  have CF := Lib.hid (fields_any e.kind)
  clear h
  rw [HF.out] at CF
  unfold EvtPost
  rw [HV.out]
  obtain ⟨k, b, r, p, t, d⟩ := e
  unfold Evt.val
  dsimp only at CF ⊢
  have t1 : (bits BinOp.and IntKind.i64 3 1 != 0) = true := by decide +kernel
  have t2 : (bits BinOp.and IntKind.i64 3 2 != 0) = true := by decide +kernel
  have t4 : (bits BinOp.and IntKind.i64 3 4 != 0) = false := by decide +kernel
  have t8 : (bits BinOp.and IntKind.i64 3 8 != 0) = false := by decide +kernel
  have t16 : (bits BinOp.and IntKind.i64 3 16 != 0) = false := by decide +kernel
  go_enter Tryz.func24, Tryz.ntmps24
  go_wp2_with fail
  refine (CF.out _).mono ?_
  rintro e w1 ⟨rfl, rfl⟩
  go_wp2_with fail
  exact bodyPost_ret (v := .agg (cells11 k b 0 p ⟨#[]⟩ 0)) (results_blk rfl rfl (blk_mid _ 26 _ _ _) Tryz.underlying26 rfl (by kernel_rfl)) rfl ⟨rfl, below_three _ _ _ _⟩
set_option maxHeartbeats 1000000 in
theorem bare_at_5 (e : Evt) (w : World) (h : e.kind = 5) : Calls Tryz.prog 24 #[e.val] w (EvtPost (bareE e) w) := by
  have HV := Lib.hid (bare_5 h)
  have HF := Lib.hid (fields_5 h)
  have CF := Lib.hid (fields_any e.kind)
  clear h
  rw [HF.out] at CF
  unfold EvtPost
  rw [HV.out]
  obtain ⟨k, b, r, p, t, d⟩ := e
  unfold Evt.val
  dsimp only at CF ⊢
  have t1 : (bits BinOp.and IntKind.i64 5 1 != 0) = true := by decide +kernel
  have t2 : (bits BinOp.and IntKind.i64 5 2 != 0) = false := by decide +kernel
  have t4 : (bits BinOp.and IntKind.i64 5 4 != 0) = true := by decide +kernel
  have t8 : (bits BinOp.and IntKind.i64 5 8 != 0) = false := by decide +kernel
  have t16 : (bits BinOp.and IntKind.i64 5 16 != 0) = false := by decide +kernel
  go_enter Tryz.func24, Tryz.ntmps24
  go_wp2_with fail
  refine (CF.out _).mono ?_
  rintro e w1 ⟨rfl, rfl⟩
  go_wp2_with fail
  exact bodyPost_ret (v := .agg (cells11 k b 0 zero6 t 0)) (results_blk rfl rfl (blk_mid _ 26 _ _ _) Tryz.underlying26 rfl (by kernel_rfl)) rfl ⟨rfl, below_three _ _ _ _⟩
set_option maxHeartbeats 1000000 in
theorem bare_at_1 (e : Evt) (w : World) (h : e.kind = 6 ∨ e.kind = 7) : Calls Tryz.prog 24 #[e.val] w (EvtPost (bareE e) w) := by
  have HV := Lib.hid (bare_1 h)
  have HF := Lib.hid (fields_1 h)
  have CF := Lib.hid (fields_any e.kind)
  clear h
  rw [HF.out] at CF
  unfold EvtPost
  rw [HV.out]
  obtain ⟨k, b, r, p, t, d⟩ := e
  unfold Evt.val
  dsimp only at CF ⊢
  have t1 : (bits BinOp.and IntKind.i64 1 1 != 0) = true := by decide +kernel
  have t2 : (bits BinOp.and IntKind.i64 1 2 != 0) = false := by decide +kernel
  have t4 : (bits BinOp.and IntKind.i64 1 4 != 0) = false := by decide +kernel
  have t8 : (bits BinOp.and IntKind.i64 1 8 != 0) = false := by decide +kernel
  have t16 : (bits BinOp.and IntKind.i64 1 16 != 0) = false := by decide +kernel
  go_enter Tryz.func24, Tryz.ntmps24
  go_wp2_with fail
  refine (CF.out _).mono ?_
  rintro e w1 ⟨rfl, rfl⟩
  go_wp2_with fail
  exact bodyPost_ret (v := .agg (cells11 k b 0 zero6 ⟨#[]⟩ 0)) (results_blk rfl rfl (blk_mid _ 26 _ _ _) Tryz.underlying26 rfl (by kernel_rfl)) rfl ⟨rfl, below_three _ _ _ _⟩
set_option maxHeartbeats 1000000 in
theorem bare_at_8 (e : Evt) (w : World) (h : e.kind = 8) : Calls Tryz.prog 24 #[e.val] w (EvtPost (bareE e) w) := by
  have HV := Lib.hid (bare_8 h)
  have HF := Lib.hid (fields_8 h)
  have CF := Lib.hid (fields_any e.kind)
  clear h
  rw [HF.out] at CF
  unfold EvtPost
  rw [HV.out]
  obtain ⟨k, b, r, p, t, d⟩ := e
  unfold Evt.val
  dsimp only at CF ⊢
  have t1 : (bits BinOp.and IntKind.i64 8 1 != 0) = false := by decide +kernel
  have t2 : (bits BinOp.and IntKind.i64 8 2 != 0) = false := by decide +kernel
  have t4 : (bits BinOp.and IntKind.i64 8 4 != 0) = false := by decide +kernel
  have t8 : (bits BinOp.and IntKind.i64 8 8 != 0) = true := by decide +kernel
  have t16 : (bits BinOp.and IntKind.i64 8 16 != 0) = false := by decide +kernel
  go_enter Tryz.func24, Tryz.ntmps24
  go_wp2_with fail
  refine (CF.out _).mono ?_
  rintro e w1 ⟨rfl, rfl⟩
  go_wp2_with fail
  exact bodyPost_ret (v := .agg (cells11 k 0 r zero6 ⟨#[]⟩ 0)) (results_blk rfl rfl (blk_mid _ 26 _ _ _) Tryz.underlying26 rfl (by kernel_rfl)) rfl ⟨rfl, below_three _ _ _ _⟩
set_option maxHeartbeats 1000000 in
theorem bare_at_16 (e : Evt) (w : World) (h : e.kind = 10) : Calls Tryz.prog 24 #[e.val] w (EvtPost (bareE e) w) := by
  have HV := Lib.hid (bare_16 h)
  have HF := Lib.hid (fields_16 h)
  have CF := Lib.hid (fields_any e.kind)
  clear h
  rw [HF.out] at CF
  unfold EvtPost
  rw [HV.out]
  obtain ⟨k, b, r, p, t, d⟩ := e
  unfold Evt.val
  dsimp only at CF ⊢
  have t1 : (bits BinOp.and IntKind.i64 16 1 != 0) = false := by decide +kernel
  have t2 : (bits BinOp.and IntKind.i64 16 2 != 0) = false := by decide +kernel
  have t4 : (bits BinOp.and IntKind.i64 16 4 != 0) = false := by decide +kernel
  have t8 : (bits BinOp.and IntKind.i64 16 8 != 0) = false := by decide +kernel
  have t16 : (bits BinOp.and IntKind.i64 16 16 != 0) = true := by decide +kernel
  go_enter Tryz.func24, Tryz.ntmps24
  go_wp2_with fail
  refine (CF.out _).mono ?_
  rintro e w1 ⟨rfl, rfl⟩
  go_wp2_with fail
  exact bodyPost_ret (v := .agg (cells11 k 0 0 zero6 ⟨#[]⟩ d)) (results_blk rfl rfl (blk_mid _ 26 _ _ _) Tryz.underlying26 rfl (by kernel_rfl)) rfl ⟨rfl, below_three _ _ _ _⟩
theorem bare_any (e : Evt) (w : World) : Calls Tryz.prog 24 #[e.val] w (EvtPost (bareE e) w) := by
  rcases kind_cases e.kind with h | h | h | h | h | h | h
  · exact bare_at_4 e w h
  · exact bare_at_3 e w h
  · exact bare_at_5 e w h
  · exact bare_at_1 e w h
  · exact bare_at_8 e w h
  · exact bare_at_16 e w h
  · exact bare_at_0 e w h
end Go.Proofs.YtaikmgnpfbnjjaaGreatDoor.Ev
