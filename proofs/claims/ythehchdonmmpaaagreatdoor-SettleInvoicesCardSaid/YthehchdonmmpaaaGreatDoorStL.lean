/- The chapter's examples: lives is true. -/
import Derived.Test.YthehchdonmmpaaaGreatDoorSt7
import Derived.Test.YthehchdonmmpaaaGreatDoorSt9
import Derived.Test.YthehchdonmmpaaaGreatDoorSt1
namespace Go.Proofs.YthehchdonmmpaaaGreatDoor.St
open Go.ChangeShapes Go.WideShapes Go.ChangeAt Go.RowKit Gn Cat Lex Pr Ros Fr
set_option linter.unusedVariables false
set_option linter.unusedSimpArgs false
abbrev TruePost (w : World) (e : Ending) (w' : World) : Prop := e = .returned (.bool true) ∧ Below w.heap.size w w'
abbrev litI : Array Value := #[.int .i64 0, .int .i64 1, .int .i64 0, .int .i64 0, .int .i64 0, .int .i64 0, .int .i64 0, .int .i64 3, .int .i64 5, .int .i64 8]
theorem lit_eq (W : World) : (Op.equalIn 10000 42 (.agg litI) (.agg litI)).run Tryz.prog W = .ok true W := by
  have := eq_inv invQ invQ W
  have e : eqI invQ invQ = true := by kernel_rfl
  rw [e] at this
  exact this
theorem ns_one {w : World} {g d : Nat} {t : TypeId} (h : Blk w g t #[.int .u32 ((d : Nat) : Int)]) : NS w (.slice (some ⟨g, 0, none⟩) 1 1) [d] :=
  sl_of_cells (n := 1) (K := 1) (cs := [.int .u32 ((d : Nat) : Int)]) h rfl (by omega)
set_option maxHeartbeats 4000000 in
set_option maxRecDepth 100000 in
theorem lives_any (w : World) (ht : Am.Tab w) : Calls Tryz.prog 5 #[] w (TruePost w) := by
  have HT := Lib.hid (fun W (b : Below w.heap.size w W) => tab_keep ht b)
  have CI : Hid (∀ w, Calls Tryz.prog 9 #[.int .i64 10, .int .i64 3] w fun e w' => ∃ v', e = .returned (.tuple #[v', .int .i64 0]) ∧ So.IS w' v' [4, 3, 3] ∧ Below w.heap.size w w') := fun w => by
    have h := inst_any 10 3 w
    rw [live_inst] at h
    exact h
  have LT := live_text
  have EQ := lit_eq
  obtain ⟨txt, htx⟩ : ∃ t, t = setFmt saleQ bidQ [invQ] := ⟨_, rfl⟩
  rw [← htx] at LT
  have HTX := Lib.hid htx
  clear htx ht
  go_enter Tryz.func5, Tryz.ntmps5
  go_wp2_with fail
  refine (sale_any w).mono ?_
  rintro e w1 ⟨ga, gb, rfl, s1, d1⟩
  have B1 := Lib.hid d1
  have S1 := Lib.hid s1
  clear d1 s1
  obtain ⟨k0, k1, k2, k3, k4, b2⟩ := five_alloc w1 #[.int .i64 1, .int .i64 0, .int .i64 0, .int .i64 0, .int .i64 0, .int .i64 0, .int .i64 0, .int .i64 0, .int .i64 0, .int .i64 0, .int .i64 0, .int .i64 0] #[.int .u32 9] #[.int .u32 2] #[.int .u32 1] #[.bool false, .slice (some ⟨w1.heap.size + 1, 0, none⟩) 1 1, .slice (some ⟨w1.heap.size + 1 + 1, 0, none⟩) 1 1, .bool false, .slice none 0 0, .slice (some ⟨w1.heap.size + 1 + 1 + 1, 0, none⟩) 1 1] 40 53 53 53 47
  obtain ⟨w2, hw2⟩ : ∃ z, z = (((((w1.alloc (.cells #[.int .i64 1, .int .i64 0, .int .i64 0, .int .i64 0, .int .i64 0, .int .i64 0, .int .i64 0, .int .i64 0, .int .i64 0, .int .i64 0, .int .i64 0, .int .i64 0] 40)).alloc (.cells #[.int .u32 9] 53)).alloc (.cells #[.int .u32 2] 53)).alloc (.cells #[.int .u32 1] 53)).alloc (.cells #[.bool false, .slice (some ⟨w1.heap.size + 1, 0, none⟩) 1 1, .slice (some ⟨w1.heap.size + 1 + 1, 0, none⟩) 1 1, .bool false, .slice none 0 0, .slice (some ⟨w1.heap.size + 1 + 1 + 1, 0, none⟩) 1 1] 47)) := ⟨_, rfl⟩
  rw [← hw2] at k0 k1 k2 k3 k4 b2
  have HW2 := Lib.hid hw2
  clear hw2
  have n1 : NS _ _ [9] := ns_one (d := 9) k1
  have n2 : NS _ _ [2] := ns_one (d := 2) k2
  have n3 : NS _ _ [1] := ns_one (d := 1) k3
  have sb := sl_of_cells (n := 2) (K := 6) (cs := [.int .i64 1, .int .i64 0, .int .i64 0, .int .i64 0, .int .i64 0, .int .i64 0, .int .i64 0, .int .i64 0, .int .i64 0, .int .i64 0, .int .i64 0, .int .i64 0]) k0 rfl (by omega)
  have sf := sl_of_cells (n := 2) (K := 3) (cs := [.bool false, .slice (some ⟨w1.heap.size + 1, 0, none⟩) 1 1, .slice (some ⟨w1.heap.size + 1 + 1, 0, none⟩) 1 1, .bool false, .slice none 0 0, .slice (some ⟨w1.heap.size + 1 + 1 + 1, 0, none⟩) 1 1]) k4 rfl (by omega)
  have HN1 := Lib.hid n1
  have HN2 := Lib.hid n2
  have HN3 := Lib.hid n3
  have HSB := Lib.hid sb
  have HSF := Lib.hid sf
  have E2 := Lib.hid b2
  clear k0 k1 k2 k3 k4 n1 n2 n3 sb sf b2
  go_wp2_with fail
  rw [← HW2.out]
  have B2 := Lib.hid (chain0 B1.out E2.out)
  have S2 := Lib.hid (S1.out.keep E2.out)
  have FO : FrcOk w2 [⟨false, .slice (some ⟨w1.heap.size + 1, 0, none⟩) 1 1, .slice (some ⟨w1.heap.size + 1 + 1, 0, none⟩) 1 1, [9], [2]⟩, ⟨false, .slice none 0 0, .slice (some ⟨w1.heap.size + 1 + 1 + 1, 0, none⟩) 1 1, [], [1]⟩] := fun f hf => by
    simp only [List.mem_cons, List.not_mem_nil, or_false] at hf
    rcases hf with rfl | rfl
    · exact ⟨HN1.out, HN2.out, (fun d hd => by simp at hd; subst hd; unfold B; omega), (fun d hd => by simp at hd; subst hd; unfold B; omega)⟩
    · exact ⟨Sl.nil w2 1, HN3.out, (fun d hd => by cases hd), (fun d hd => by simp at hd; subst hd; unfold B; omega)⟩
  have CV := invoices_any saleQ bidQ [wonQ, zero6] [⟨false, .slice (some ⟨w1.heap.size + 1, 0, none⟩) 1 1, .slice (some ⟨w1.heap.size + 1 + 1, 0, none⟩) 1 1, [9], [2]⟩, ⟨false, .slice none 0 0, .slice (some ⟨w1.heap.size + 1 + 1 + 1, 0, none⟩) 1 1, [], [1]⟩] (some ⟨ga, 0, none⟩) (some ⟨gb, 0, none⟩) 1 2 (.slice none 0 0) (.slice none 0 0) (.slice (some ⟨w1.heap.size, 0, none⟩) 2 2) (.slice (some ⟨w1.heap.size + 1 + 1 + 1 + 1, 0, none⟩) 2 2) w2 S2.out HSB.out HSF.out FO (fun f hf => by
    simp only [List.mem_cons, List.not_mem_nil, or_false] at hf
    rcases hf with rfl | rfl <;> exact ⟨by simp, by simp⟩) (by simp) (by simp)
  rw [live_invs] at CV
  have CV2 : Calls _ _ _ w2 fun e w' => ∃ v', e = .returned (.tuple #[v', .int .i64 0]) ∧ InvS w' v' [invQ] ∧ Below w2.heap.size w2 w' := CV
  clear CV
  refine CV2.mono ?_
  rintro e w3 ⟨v3, rfl, i3, d3⟩
  have B3 := Lib.hid (chain0 B2.out d3)
  obtain ⟨AI, ci, rfl, _, _, hri⟩ := sl_parts i3
  obtain ⟨bi, oi, rfl, hbi, hrow⟩ := hri (by decide)
  have I3 := Lib.hid i3
  have HX : Hid (∀ W, Below w3.heap.size w3 W → W.cell? ⟨bi, oi, none⟩ = some (.int .i64 0) ∧ W.cell? ⟨bi, oi + 1, none⟩ = some (.int .i64 1) ∧ W.cell? ⟨bi, oi + 2, none⟩ = some (.int .i64 0) ∧ W.cell? ⟨bi, oi + 3, none⟩ = some (.int .i64 0) ∧ W.cell? ⟨bi, oi + 4, none⟩ = some (.int .i64 0) ∧ W.cell? ⟨bi, oi + 5, none⟩ = some (.int .i64 0) ∧ W.cell? ⟨bi, oi + 6, none⟩ = some (.int .i64 0) ∧ W.cell? ⟨bi, oi + 7, none⟩ = some (.int .i64 3) ∧ W.cell? ⟨bi, oi + 8, none⟩ = some (.int .i64 5) ∧ W.cell? ⟨bi, oi + 9, none⟩ = some (.int .i64 8)) := fun W bw => by
    have := inv_at (hrow.below hbi bw) 0 (by decide)
    simpa [okI, invQ, wonQ] using this
  clear CV2 FO d3 i3 hri hrow HN1 HN2 HN3 HSB HSF E2 S1 S2 HW2
  go_wp2_with fail
  refine (CI.out w3).mono ?_
  rintro e w4 ⟨v4, rfl, p4, d4⟩
  have B4 := Lib.hid (chain0 B3.out d4)
  obtain ⟨AP, cp, rfl, _, _, hrp⟩ := sl_parts p4
  obtain ⟨bp, op, rfl, hbp, hrowp⟩ := hrp (by decide)
  have HP : Hid (∀ W, Below w4.heap.size w4 W → W.cell? ⟨bp, op, none⟩ = some (.int .i64 4) ∧ W.cell? ⟨bp, op + 1, none⟩ = some (.int .i64 3)) := fun W bw => by
    have h := hrowp.below hbp bw
    have h0 := h 0 (.int .i64 4) rfl
    have h1 := h 1 (.int .i64 3) rfl
    rw [Nat.add_zero] at h0
    exact ⟨h0, h1⟩
  have D4 := Lib.hid d4
  have CRV := revenue_any [invQ] _ w4 (by decide) (I3.out.keep d4)
  rw [live_dues] at CRV
  have CRV := Lib.hid CRV
  have hx := HX.out w4 d4
  have hbi4 : bi < w4.heap.size := Nat.lt_of_lt_of_le hbi d4.size
  have hp4 := HP.out w4 (Below.refl _ _)
  have hbp4 := hbp
  clear p4 hrp hrowp d4
  rw [show ([invQ] : List Inv).length = 1 from rfl] at *
  rw [show ([4, 3, 3] : List Int).length = 3 from rfl] at *
  dsimp only [litI] at EQ
  go_wp2_with fail
  refine (CRV.out).mono ?_
  rintro e w5 ⟨rfl, d5⟩
  have B5 := Lib.hid (chain0 B4.out d5)
  have E5 := Lib.hid d5
  clear hx hp4 d5
  go_wp2_with fail
  refine (sale_any w5).mono ?_
  rintro e w6 ⟨gc, gd, rfl, s6, d6⟩
  have B6 := Lib.hid (chain0 B5.out d6)
  have E6 := Lib.hid (chain0 E5.out d6)
  have CFM := setfmt_any saleQ bidQ [invQ] (some ⟨gc, 0, none⟩) (some ⟨gd, 0, none⟩) 1 2 (.slice none 0 0) (.slice none 0 0) _ w6 s6 (I3.out.keep (chain0 D4.out E6.out)) (by decide) (HT.out w6 B6.out)
  rw [← HTX.out] at CFM
  have CFM := Lib.hid CFM
  clear s6 d6
  go_wp2_with fail
  refine (CFM.out).mono ?_
  rintro e w7 ⟨rfl, d7⟩
  have B7 := Lib.hid (chain0 B6.out d7)
  have hp7 := HP.out w7 (chain0 E6.out d7)
  have hb7 : bp < w7.heap.size := Nat.lt_of_lt_of_le hbp (chain0 E6.out d7).size
  clear d7
  go_wp2_with fail
  go_ret
  exact ⟨rfl, B7.out⟩
end Go.Proofs.YthehchdonmmpaaaGreatDoor.St
