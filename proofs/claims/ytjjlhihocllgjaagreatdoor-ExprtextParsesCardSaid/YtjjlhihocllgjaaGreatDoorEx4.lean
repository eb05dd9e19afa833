/- Contract of expr.Check. Printed by gen_ex4.py. -/
import Derived.Test.YtjjlhihocllgjaaGreatDoorEx3
namespace Go.Proofs.YtjjlhihocllgjaaGreatDoor.Ex
open Go.ChangeShapes Go.WideShapes Go.ChangeAt Go.RowKit Gn Cat Lex
set_option linter.unusedVariables false
set_option linter.unusedSimpArgs false
theorem check_1 {d : Nat} {e : Tree} (h : 6 < depthF d e) : checkX d e = 9 := by unfold checkX; rw [if_pos h]
theorem check_2 {d : Nat} {e : Tree} (h : ¬ 6 < depthF d e) (h2 : wideB (preF d e) = true) : checkX d e = 3 := by unfold checkX; rw [if_neg h, if_pos (by rw [h2]; rfl)]
theorem check_3 {d : Nat} {e : Tree} (h : ¬ 6 < depthF d e) (h2 : 40 < (preF d e).length) : checkX d e = 3 := by unfold checkX; rw [if_neg h, if_pos (by rw [decide_eq_true h2, Bool.or_true])]
theorem check_4 {d : Nat} {e : Tree} (h : ¬ 6 < depthF d e) (h2 : wideB (preF d e) = false) (h3 : ¬ 40 < (preF d e).length) : checkX d e = errN (preF d e) := by unfold checkX; rw [if_neg h, if_neg (by rw [h2, decide_eq_false h3]; simp)]
abbrev ErrPost (n : Int) (w : World) : Ending → World → Prop := fun r w' => r = .returned (.int .i64 n) ∧ Below w.heap.size w w'
set_option maxHeartbeats 4000000 in
set_option maxRecDepth 100000 in
theorem check_any (d : Nat) (e : Tree) (B : Nat) (w : World) (h : In d B w e) (hB : B ≤ w.heap.size) (hsz : (preF d e).length ≤ 5000) : Calls Tryz.prog 38 #[e.val] w (ErrPost (checkX d e) w) := by
  have BX := Lib.hid (below_new w (.cells #[.int .i64 e.op, .int .i64 (e.want 0), .int .i64 (e.want 1), .int .i64 (e.want 2), .int .i64 (e.want 3), .int .i64 (e.want 4), .int .i64 (e.want 5), .int .i64 e.value, .slice e.a e.args.length e.c] 28))
  have KX := Lib.hid (Blk.new w 28 #[.int .i64 e.op, .int .i64 (e.want 0), .int .i64 (e.want 1), .int .i64 (e.want 2), .int .i64 (e.want 3), .int .i64 (e.want 4), .int .i64 (e.want 5), .int .i64 e.value, .slice e.a e.args.length e.c])
  have HIN := Lib.hid (fun W (k : Below w.heap.size w W) => h.keep (k.mono hB))
  have CD := Lib.hid (fun W (k : Below w.heap.size w W) => depth_any d e B W (h.keep (k.mono hB)) (Nat.le_trans hB k.size) hsz)
  have CW1 := Lib.hid (fun (g : Nat) W (k : Below w.heap.size w W) (hg : w.heap.size ≤ g) (hl : g < W.heap.size) => walk1_any g B (fun W _ => g < W.heap.size) (fun s _ => s) okW (by omega) (fun _ _ _ h k => Nat.lt_of_lt_of_le h k.size) (fun _ _ h => h) (fun _ x W s _ _ h => visit1_any g x W s h) d e W 0 (h.keep (k.mono hB)) (Nat.le_trans hB k.size) hl hsz)
  have CS := Lib.hid (fun W (k : Below w.heap.size w W) => size_any d e B W (h.keep (k.mono hB)) (Nat.le_trans hB k.size) hsz)
  have CW3 := Lib.hid (fun (g : Nat) W (k : Below w.heap.size w W) (hg : w.heap.size ≤ g) (hl : Blk W g 29 #[.int .i64 0]) => walk3_any g B (fun W s => Blk W g 29 #[.int .i64 s]) stepE okE (by omega) (fun _ _ _ h k => h.below' k) (fun _ _ h => h.lt) (fun _ x W s _ _ h => visit3_any g x W s h) d e W 0 (h.keep (k.mono hB)) (Nat.le_trans hB k.size) hl hsz)
  rw [fold_err] at CW3
  have HFW := Lib.hid (fold_wide (preF d e) 0)
  rw [HFW.out] at CW1
  have E1 := Lib.hid (check_1 (d := d) (e := e))
  have E2 := Lib.hid (check_2 (d := d) (e := e))
  have E3 := Lib.hid (check_3 (d := d) (e := e))
  have E4 := Lib.hid (check_4 (d := d) (e := e))
  obtain ⟨R, hR⟩ : ∃ R, R = checkX d e := ⟨_, rfl⟩
  rw [← hR] at E1 E2 E3 E4
  rw [← hR]
  generalize (foldW stepE okE 0 (preF d e)).2 = q3 at *
  generalize (foldW (fun s _ => s) okW 0 (preF d e)).1 = q1 at *
  obtain ⟨er, her⟩ : ∃ er, er = errN (preF d e) := ⟨_, rfl⟩
  rw [← her] at CW3 E4
  obtain ⟨wd, hwd⟩ : ∃ wd, wd = wideB (preF d e) := ⟨_, rfl⟩
  rw [← hwd] at CW1 E2 E4
  have hsz5 : ((preF d e).length : Int) ≤ 5000 := by omega
  obtain ⟨n, hn⟩ : ∃ n, n = (preF d e).length := ⟨_, rfl⟩
  rw [← hn] at CS E3 E4 hsz5
  obtain ⟨dp, hdp⟩ : ∃ dp, dp = depthF d e := ⟨_, rfl⟩
  rw [← hdp] at CD E1 E2 E3 E4
  unfold Tree.val at CD CW1 CS CW3 ⊢
  clear h hB hsz hR her hwd hn hdp HFW HIN
  go_enter Tryz.func38, Tryz.ntmps38
  have z0 := KX.out.cell 0
  have z1 := KX.out.cell 1
  have z2 := KX.out.cell 2
  have z3 := KX.out.cell 3
  have z4 := KX.out.cell 4
  have z5 := KX.out.cell 5
  have z6 := KX.out.cell 6
  have z7 := KX.out.cell 7
  have z8 := KX.out.cell 8
  have zl := KX.out.lt
  go_wp2_with fail
  refine (CD.out _ BX.out).mono ?_
  rintro r w1 ⟨rfl, d1⟩
  have K1 := Lib.hid (KX.out.below' d1)
  have B1 := Lib.hid (chain0 BX.out d1)
  clear d1 BX KX CD
  clear z0 z1 z2 z3 z4 z5 z6 z7 z8 zl
  by_cases h6 : 6 < dp
  · have t1 : decide ((6 : Int) < (dp : Int)) = true := decide_eq_true (by omega)
    have HV := Lib.hid (E1.out h6)
    clear h6
    go_wp2_with fail
    go_ret
    exact ⟨by rw [HV.out]; rfl, B1.out⟩
  have t1 : decide ((6 : Int) < (dp : Int)) = false := decide_eq_false (by omega)
  have E2a := Lib.hid (E2.out h6)
  have E3a := Lib.hid (E3.out h6)
  have E4a := Lib.hid (E4.out h6)
  clear h6 E1 E2 E3 E4
  have z0 := K1.out.cell 0
  have z1 := K1.out.cell 1
  have z2 := K1.out.cell 2
  have z3 := K1.out.cell 3
  have z4 := K1.out.cell 4
  have z5 := K1.out.cell 5
  have z6 := K1.out.cell 6
  have z7 := K1.out.cell 7
  have z8 := K1.out.cell 8
  have zl := K1.out.lt
  go_wp2_with fail
  clear z0 z1 z2 z3 z4 z5 z6 z7 z8 zl
  have D2 := Lib.hid (below_new w1 (.cells #[.func (.func 82) #[] #[]] 124))
  have B2 := Lib.hid (chain0 B1.out D2.out)
  have K2 := Lib.hid (K1.out.below' D2.out)
  have hg : w1.heap.size < (w1.alloc (.cells #[.func (.func 82) #[] #[]] 124)).heap.size := by rw [World.size_alloc]; omega
  have HGL := Lib.hid hg
  have HGW := Lib.hid B1.out.size
  have HGE : Hid (w.heap.size ≠ w1.heap.size) := by show _ ≠ _; have := K1.out.lt; omega
  refine (CW1.out w1.heap.size _ B2.out HGW.out HGL.out).mono ?_
  rintro r w3 ⟨rfl, _, o3⟩
  have B3 := Lib.hid (B2.out.trans (o3.below (B := w.heap.size) HGW.out B2.out.size))
  have K3 := Lib.hid (K2.out.only o3 HGE.out)
  clear o3 D2 B2 K2 hg HGL K1 B1 CW1
  cases wd with
  | true =>
    have HV := Lib.hid (E2a.out (by first | rfl | trivial))
    go_wp2_with fail
    go_ret
    exact ⟨by rw [HV.out]; rfl, B3.out⟩
  | false =>
  have z0 := K3.out.cell 0
  have z1 := K3.out.cell 1
  have z2 := K3.out.cell 2
  have z3 := K3.out.cell 3
  have z4 := K3.out.cell 4
  have z5 := K3.out.cell 5
  have z6 := K3.out.cell 6
  have z7 := K3.out.cell 7
  have z8 := K3.out.cell 8
  have zl := K3.out.lt
  go_wp2_with fail
  refine (CS.out _ B3.out).mono ?_
  rintro r w4 ⟨rfl, d4⟩
  have K4 := Lib.hid (K3.out.below' d4)
  have B4 := Lib.hid (chain0 B3.out d4)
  clear d4 K3 B3 CS
  clear z0 z1 z2 z3 z4 z5 z6 z7 z8 zl
  by_cases h40 : 40 < n
  · have t2 : decide ((40 : Int) < (n : Int)) = true := decide_eq_true (by omega)
    have HV := Lib.hid (E3a.out h40)
    clear h40
    go_wp2_with fail
    go_ret
    exact ⟨by rw [HV.out]; rfl, B4.out⟩
  have t2 : decide ((40 : Int) < (n : Int)) = false := decide_eq_false (by omega)
  have HV := Lib.hid (E4a.out (by first | rfl | trivial) h40)
  clear h40 E2a E3a E4a
  have z0 := K4.out.cell 0
  have z1 := K4.out.cell 1
  have z2 := K4.out.cell 2
  have z3 := K4.out.cell 3
  have z4 := K4.out.cell 4
  have z5 := K4.out.cell 5
  have z6 := K4.out.cell 6
  have z7 := K4.out.cell 7
  have z8 := K4.out.cell 8
  have zl := K4.out.lt
  go_wp2_with fail
  clear z0 z1 z2 z3 z4 z5 z6 z7 z8 zl
  have D5 := Lib.hid ((below_new w4 (.cells #[.int .i64 0] 29)).alloc (below_new w4 (.cells #[.int .i64 0] 29)).size (.cells #[.func (.func 85) #[] #[.pointer (some ⟨w4.heap.size, 0, none⟩)]] 124))
  have B5 := Lib.hid (chain0 B4.out D5.out)
  have G5 := Lib.hid ((Blk.new w4 29 #[.int .i64 0]).alloc (.cells #[.func (.func 85) #[] #[.pointer (some ⟨w4.heap.size, 0, none⟩)]] 124))
  have HG4 := Lib.hid B4.out.size
  refine (CW3.out w4.heap.size _ B5.out HG4.out G5.out).mono ?_
  rintro r w6 ⟨rfl, h6, o6⟩
  have B6 := Lib.hid (B5.out.trans (o6.below (B := w.heap.size) HG4.out B5.out.size))
  have G6 := Lib.hid h6
  have z := G6.out.c1
  have zl := G6.out.lt
  clear h6 o6
  go_wp2_with fail
  go_ret
  exact ⟨by rw [HV.out]; rfl, B6.out⟩

end Go.Proofs.YtjjlhihocllgjaaGreatDoor.Ex
