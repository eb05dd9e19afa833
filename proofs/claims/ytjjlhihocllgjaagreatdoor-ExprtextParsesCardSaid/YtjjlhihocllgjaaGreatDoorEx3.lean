/- Contracts of expr.ranged, the visits, Size, Check. Printed by gen_ex3.py. -/
import Derived.Test.YtjjlhihocllgjaaGreatDoorEx2
import Derived.Laws.EntriesVeiled
namespace Go.Proofs.YtjjlhihocllgjaaGreatDoor.Ex
open Go.ChangeShapes Go.WideShapes Go.ChangeAt Go.RowKit Gn Cat Lex
set_option linter.unusedVariables false
set_option linter.unusedSimpArgs false
theorem range_eq (e : Tree) : rangeB e = if ((e.op == (2 : Int)) || (e.op == (3 : Int))) = true then true else if (decide (e.value < 1) || decide ((1000000 : Int) < e.value)) = true then false else (e.op == (5 : Int)) || (validB e.want && decide (0 < total6 e.want)) := by
  have c : (e.op == (5 : Int)) = decide (e.op = 5) := by by_cases h : e.op = 5 <;> simp [h]
  rw [c]
  unfold rangeB
  simp only [beq_iff_eq, Bool.or_eq_true, decide_eq_true_eq]
set_option maxHeartbeats 4000000 in
set_option maxRecDepth 100000 in
theorem range_any (e : Tree) (w : World) : Calls Tryz.prog 87 #[e.val] w fun r w' => r = .returned (.bool (rangeB e)) ∧ Below w.heap.size w w' := by
  have BX := Lib.hid (below_new w (.cells #[.int .i64 e.op, .int .i64 (e.want 0), .int .i64 (e.want 1), .int .i64 (e.want 2), .int .i64 (e.want 3), .int .i64 (e.want 4), .int .i64 (e.want 5), .int .i64 e.value, .slice e.a e.args.length e.c] 28))
  have KX := Lib.hid (Blk.new w 28 #[.int .i64 e.op, .int .i64 (e.want 0), .int .i64 (e.want 1), .int .i64 (e.want 2), .int .i64 (e.want 3), .int .i64 (e.want 4), .int .i64 (e.want 5), .int .i64 e.value, .slice e.a e.args.length e.c])
  have CB := Lib.hid (fun W => bcheck_any e.want W)
  have CT := Lib.hid (fun W h => total_any e.want W h)
  obtain ⟨R, hR⟩ : ∃ R, R = rangeB e := ⟨_, rfl⟩
  have HR := Lib.hid (hR.trans (range_eq e))
  rw [← hR]
  clear hR
  obtain ⟨o, ho⟩ : ∃ o, o = e.op := ⟨_, rfl⟩
  obtain ⟨vl, hvl⟩ : ∃ v, v = e.value := ⟨_, rfl⟩
  obtain ⟨p, hp⟩ : ∃ p, p = e.want := ⟨_, rfl⟩
  unfold Tree.val
  rw [← ho, ← hvl, ← hp] at KX BX HR
  rw [← ho, ← hvl, ← hp]
  rw [← hp] at CB CT
  unfold arr at CB CT
  clear ho hvl hp
  cases h2 : (o == (2 : Int)) with
  | true =>
    have HV : Hid (R = true) := by show _ = _; rw [HR.out, if_pos (by simp [h2])]
    clear HR
    go_enter Tryz.func87, Tryz.ntmps87
    have z0 := KX.out.cell 0
    have z1 := KX.out.cell 1
    have z2 := KX.out.cell 2
    have z3 := KX.out.cell 3
    have z4 := KX.out.cell 4
    have z5 := KX.out.cell 5
    have z6 := KX.out.cell 6
    have z7 := KX.out.cell 7
    have z8 := KX.out.cell 8
    go_wp2_with fail
    go_ret
    exact ⟨by rw [HV.out]; rfl, BX.out⟩
  | false =>
  cases h3 : (o == (3 : Int)) with
  | true =>
    have HV : Hid (R = true) := by show _ = _; rw [HR.out, if_pos (by simp [h2, h3])]
    clear HR
    go_enter Tryz.func87, Tryz.ntmps87
    have z0 := KX.out.cell 0
    have z1 := KX.out.cell 1
    have z2 := KX.out.cell 2
    have z3 := KX.out.cell 3
    have z4 := KX.out.cell 4
    have z5 := KX.out.cell 5
    have z6 := KX.out.cell 6
    have z7 := KX.out.cell 7
    have z8 := KX.out.cell 8
    go_wp2_with fail
    go_ret
    exact ⟨by rw [HV.out]; rfl, BX.out⟩
  | false =>
  have HR1 : Hid (R = if (decide (vl < 1) || decide ((1000000 : Int) < vl)) = true then false else (o == (5 : Int)) || (validB p && decide (0 < total6 p))) := by show _ = _; rw [HR.out, h2, h3, if_neg (by simp)]
  clear HR
  cases q1 : decide (vl < (1 : Int)) with
  | true =>
    have HV : Hid (R = false) := by show _ = _; rw [HR1.out, if_pos (by simp only [q1, Bool.true_or])]
    clear HR1
    go_enter Tryz.func87, Tryz.ntmps87
    have z0 := KX.out.cell 0
    have z1 := KX.out.cell 1
    have z2 := KX.out.cell 2
    have z3 := KX.out.cell 3
    have z4 := KX.out.cell 4
    have z5 := KX.out.cell 5
    have z6 := KX.out.cell 6
    have z7 := KX.out.cell 7
    have z8 := KX.out.cell 8
    go_wp2_with fail
    go_ret
    exact ⟨by rw [HV.out]; rfl, BX.out⟩
  | false =>
  cases q2 : decide ((1000000 : Int) < vl) with
  | true =>
    have HV : Hid (R = false) := by show _ = _; rw [HR1.out, if_pos (by simp only [q2, Bool.or_true])]
    clear HR1
    go_enter Tryz.func87, Tryz.ntmps87
    have z0 := KX.out.cell 0
    have z1 := KX.out.cell 1
    have z2 := KX.out.cell 2
    have z3 := KX.out.cell 3
    have z4 := KX.out.cell 4
    have z5 := KX.out.cell 5
    have z6 := KX.out.cell 6
    have z7 := KX.out.cell 7
    have z8 := KX.out.cell 8
    go_wp2_with fail
    go_ret
    exact ⟨by rw [HV.out]; rfl, BX.out⟩
  | false =>
  have HR2 : Hid (R = ((o == (5 : Int)) || (validB p && decide (0 < total6 p)))) := by show _ = _; rw [HR1.out, if_neg (by simp only [q1, q2, Bool.or_false]; simp)]
  clear HR1
  cases h5 : (o == (5 : Int)) with
  | true =>
    have HV : Hid (R = true) := by show _ = _; rw [HR2.out, h5]; rfl
    clear HR2
    go_enter Tryz.func87, Tryz.ntmps87
    have z0 := KX.out.cell 0
    have z1 := KX.out.cell 1
    have z2 := KX.out.cell 2
    have z3 := KX.out.cell 3
    have z4 := KX.out.cell 4
    have z5 := KX.out.cell 5
    have z6 := KX.out.cell 6
    have z7 := KX.out.cell 7
    have z8 := KX.out.cell 8
    go_wp2_with fail
    go_ret
    exact ⟨by rw [HV.out]; rfl, BX.out⟩
  | false =>
  go_enter Tryz.func87, Tryz.ntmps87
  have z0 := KX.out.cell 0
  have z1 := KX.out.cell 1
  have z2 := KX.out.cell 2
  have z3 := KX.out.cell 3
  have z4 := KX.out.cell 4
  have z5 := KX.out.cell 5
  have z6 := KX.out.cell 6
  have z7 := KX.out.cell 7
  have z8 := KX.out.cell 8
  go_wp2_with fail
  refine (CB.out _).mono ?_
  rintro r w1 ⟨rfl, d1⟩
  have K1 := Lib.hid (KX.out.below' d1)
  have B1 := Lib.hid (chain0 BX.out d1)
  clear d1 z0 z1 z2 z3 z4 z5 z6 z7 z8
  cases hv : validB p with
  | false =>
    have HV : Hid (R = false) := by show _ = _; rw [HR2.out, h5, hv]; rfl
    rw [if_neg (by simp)]
    clear hv HR2
    go_wp2_with fail
    go_ret
    exact ⟨by rw [HV.out]; rfl, B1.out⟩
  | true =>
    have CT2 := Lib.hid (fun W => CT.out W hv)
    have HR3 : Hid (R = decide (0 < total6 p)) := by show _ = _; rw [HR2.out, h5, hv]; rfl
    rw [if_pos rfl]
    clear hv HR2
    have z1 := K1.out.cell 1
    have z2 := K1.out.cell 2
    have z3 := K1.out.cell 3
    have z4 := K1.out.cell 4
    have z5 := K1.out.cell 5
    have z6 := K1.out.cell 6
    have zl := K1.out.lt
    go_wp2_with fail
    refine (CT2.out _).mono ?_
    rintro r w2 ⟨rfl, d2⟩
    have B2 := Lib.hid (chain0 B1.out d2)
    clear d2
    generalize total6 p = t at *
    cases h0 : decide ((0 : Int) < t) with
    | true =>
      rw [h0] at HR3
      go_wp2_with fail
      go_ret
      exact ⟨by rw [HR3.out]; rfl, B2.out⟩
    | false =>
      rw [h0] at HR3
      go_wp2_with fail
      go_ret
      exact ⟨by rw [HR3.out]; rfl, B2.out⟩
theorem only_new (g : Nat) (w : World) (o : Obj) : Only g w (w.alloc o) := Only.of_below g (below_new w o)
/-- a node with at most eight arguments -/
abbrev okW (_ : Int) (x : Tree) : Bool := decide ((x.args.length : Int) ≤ (8 : Int))
theorem visit1_any (g : Nat) (x : Tree) (W : World) (s : Int) (hg : g < W.heap.size) : Calls Tryz.prog 82 #[x.val] W fun r W' => r = .returned (.bool (okW s x)) ∧ g < W'.heap.size ∧ Only g W W' := by
  have BX := Lib.hid (below_new W (.cells #[.int .i64 x.op, .int .i64 (x.want 0), .int .i64 (x.want 1), .int .i64 (x.want 2), .int .i64 (x.want 3), .int .i64 (x.want 4), .int .i64 (x.want 5), .int .i64 x.value, .slice x.a x.args.length x.c] 28))
  have KX := Lib.hid (Blk.new W 28 #[.int .i64 x.op, .int .i64 (x.want 0), .int .i64 (x.want 1), .int .i64 (x.want 2), .int .i64 (x.want 3), .int .i64 (x.want 4), .int .i64 (x.want 5), .int .i64 x.value, .slice x.a x.args.length x.c])
  unfold Tree.val okW
  obtain ⟨b, hb⟩ : ∃ b, b = decide ((x.args.length : Int) ≤ (8 : Int)) := ⟨_, rfl⟩
  rw [← hb]
  have HBB := Lib.hid hb
  have hb2 := hb.symm
  clear hb
  go_enter Tryz.func82, Tryz.ntmps82
  have z8 := KX.out.cell 8
  go_wp2_with fail
  go_ret
  exact ⟨rfl, Nat.lt_of_lt_of_le hg BX.out.size, Only.of_below g BX.out⟩
abbrev stepN (s : Int) (_ : Tree) : Int := wrap64 (s + 1)
theorem visit2_any (g : Nat) (x : Tree) (W : World) (s : Int) (hg : Blk W g 3 #[.int .i64 s]) : Calls Tryz.prog 126 #[x.val, .pointer (some ⟨g, 0, none⟩)] W fun r W' => r = .returned (.bool true) ∧ Blk W' g 3 #[.int .i64 (stepN s x)] ∧ Only g W W' := by
  have HG := Lib.hid hg
  have HP := Lib.hid (hg.put 0 (.int .i64 (stepN s x)))
  have HO := Lib.hid ((Only.refl g W).put 0 (.int .i64 (stepN s x)))
  have z := hg.c1
  have zl := hg.lt
  unfold Tree.val
  unfold stepN at *
  clear hg
  go_enter Tryz.func126, Tryz.ntmps126
  go_wp2_with fail
  go_ret
  exact ⟨rfl, HP.out.alloc _, HO.out.alloc _⟩
abbrev stepE (s : Int) (x : Tree) : Int := if formB x = false then 2 else if rangeB x = false then 4 else s
abbrev okE (s : Int) (x : Tree) : Bool := stepE s x == 0
theorem visit3_any (g : Nat) (x : Tree) (W : World) (s : Int) (hg : Blk W g 29 #[.int .i64 s]) : Calls Tryz.prog 85 #[x.val, .pointer (some ⟨g, 0, none⟩)] W fun r W' => r = .returned (.bool (okE s x)) ∧ Blk W' g 29 #[.int .i64 (stepE s x)] ∧ Only g W W' := by
  have CF := Lib.hid (fun W => form_any x W)
  have CR := Lib.hid (fun W => range_any x W)
  have BX := Lib.hid (below_new W (.cells #[.int .i64 x.op, .int .i64 (x.want 0), .int .i64 (x.want 1), .int .i64 (x.want 2), .int .i64 (x.want 3), .int .i64 (x.want 4), .int .i64 (x.want 5), .int .i64 x.value, .slice x.a x.args.length x.c] 28))
  have KX := Lib.hid (Blk.new W 28 #[.int .i64 x.op, .int .i64 (x.want 0), .int .i64 (x.want 1), .int .i64 (x.want 2), .int .i64 (x.want 3), .int .i64 (x.want 4), .int .i64 (x.want 5), .int .i64 x.value, .slice x.a x.args.length x.c])
  have GX := Lib.hid (hg.alloc (.cells #[.int .i64 x.op, .int .i64 (x.want 0), .int .i64 (x.want 1), .int .i64 (x.want 2), .int .i64 (x.want 3), .int .i64 (x.want 4), .int .i64 (x.want 5), .int .i64 x.value, .slice x.a x.args.length x.c] 28))
  have HV := Lib.hid (show stepE s x = if formB x = false then 2 else if rangeB x = false then 4 else s from rfl)
  unfold okE
  generalize stepE s x = st at *
  unfold Tree.val at *
  clear hg
  go_enter Tryz.func85, Tryz.ntmps85
  have z0 := KX.out.cell 0
  have z1 := KX.out.cell 1
  have z2 := KX.out.cell 2
  have z3 := KX.out.cell 3
  have z4 := KX.out.cell 4
  have z5 := KX.out.cell 5
  have z6 := KX.out.cell 6
  have z7 := KX.out.cell 7
  have z8 := KX.out.cell 8
  go_wp2_with fail
  refine (CF.out _).mono ?_
  rintro r w1 ⟨rfl, d1⟩
  have K1 := Lib.hid (KX.out.below' d1)
  have B1 := Lib.hid (chain0 BX.out d1)
  have G1 := Lib.hid (GX.out.below' d1)
  clear d1 BX KX GX z0 z1 z2 z3 z4 z5 z6 z7 z8
  have gz := G1.out.c1
  have gl := G1.out.lt
  cases hf : formB x with
  | false =>
    have HV2 : Hid (st = 2) := by show _ = _; rw [HV.out, if_pos hf]
    have HP := Lib.hid (G1.out.put 0 (.int .i64 2))
    have HO := Lib.hid ((Only.of_below g B1.out).put 0 (.int .i64 2))
    clear hf
    go_wp2_with fail
    go_ret
    exact ⟨by rw [HV2.out]; rfl, by rw [HV2.out]; exact HP.out, HO.out⟩
  | true =>
  have z0 := K1.out.cell 0
  have z1 := K1.out.cell 1
  have z2 := K1.out.cell 2
  have z3 := K1.out.cell 3
  have z4 := K1.out.cell 4
  have z5 := K1.out.cell 5
  have z6 := K1.out.cell 6
  have z7 := K1.out.cell 7
  have z8 := K1.out.cell 8
  have zl := K1.out.lt
  have HV1 : Hid (st = if rangeB x = false then 4 else s) := by show _ = _; rw [HV.out, if_neg (by rw [hf]; simp)]
  clear hf HV
  go_wp2_with fail
  refine (CR.out _).mono ?_
  rintro r w2 ⟨rfl, d2⟩
  have B2 := Lib.hid (chain0 B1.out d2)
  have G2 := Lib.hid (G1.out.below' d2)
  clear d2 K1 B1 G1 z0 z1 z2 z3 z4 z5 z6 z7 z8 zl gz gl
  have gz := G2.out.c1
  have gl := G2.out.lt
  cases hf : rangeB x with
  | false =>
    have HV2 : Hid (st = 4) := by show _ = _; rw [HV1.out, if_pos hf]
    have HP := Lib.hid (G2.out.put 0 (.int .i64 4))
    have HO := Lib.hid ((Only.of_below g B2.out).put 0 (.int .i64 4))
    clear hf
    go_wp2_with fail
    go_ret
    exact ⟨by rw [HV2.out]; rfl, by rw [HV2.out]; exact HP.out, HO.out⟩
  | true =>
    have HV2 : Hid (st = s) := by show _ = _; rw [HV1.out, if_neg (by rw [hf]; simp)]
    clear hf
    cases h0 : (s == (0 : Int)) with
    | true =>
      go_wp2_with fail
      go_ret
      exact ⟨by rw [HV2.out, h0]; first | done | rfl, by rw [HV2.out]; exact G2.out, Only.of_below g B2.out⟩
    | false =>
      go_wp2_with fail
      go_ret
      exact ⟨by rw [HV2.out, h0]; first | done | rfl, by rw [HV2.out]; exact G2.out, Only.of_below g B2.out⟩
theorem fold_count : ∀ (l : List Tree) (s : Int), 0 ≤ s → s + l.length ≤ 10000 → foldW stepN (fun _ _ => true) s l = (s + l.length, true)
  | [], s, _, _ => by simp [foldW]
  | x :: l, s, h0, h1 => by
    rw [List.length_cons] at h1
    have hw : wrap64 (s + 1) = s + 1 := IntWalk.wrap64_in _ (by omega)
    rw [foldW, if_pos rfl, show stepN s x = s + 1 from hw, fold_count l (s + 1) (by omega) (by omega), List.length_cons]
    congr 1
    omega
theorem fold_wide : ∀ (l : List Tree) (s : Int), (foldW (fun s _ => s) okW s l).2 = !wideB l
  | [], s => rfl
  | x :: l, s => by
    rw [foldW]
    unfold wideB
    rw [List.any_cons]
    by_cases h : x.args.length ≤ 8
    · rw [if_pos (decide_eq_true (by omega)), decide_eq_false (by omega), Bool.false_or]
      exact fold_wide l s
    · rw [if_neg (by rw [show okW s x = false from decide_eq_false (by omega)]; simp), decide_eq_true (by omega)]
      rfl
theorem fold_err : ∀ (l : List Tree), (foldW stepE okE 0 l).1 = errN l
  | [] => rfl
  | x :: l => by
    rw [foldW, errN]
    cases h1 : formB x with
    | false =>
      have e : stepE 0 x = 2 := if_pos h1
      rw [if_neg (by rw [show okE 0 x = false by show (stepE 0 x == 0) = false; rw [e]; rfl]; simp), e, if_pos rfl]
    | true =>
      rw [if_neg (show ¬ true = false by simp)]
      cases h2 : rangeB x with
      | false =>
        have e : stepE 0 x = 4 := by unfold stepE; rw [if_neg (by rw [h1]; simp), if_pos h2]
        rw [if_neg (by rw [show okE 0 x = false by show (stepE 0 x == 0) = false; rw [e]; rfl]; simp), e, if_pos rfl]
      | true =>
        have e : stepE 0 x = 0 := by unfold stepE; rw [if_neg (by rw [h1]; simp), if_neg (by rw [h2]; simp)]
        rw [if_pos (show okE 0 x = true by show (stepE 0 x == 0) = true; rw [e]; rfl), e, if_neg (show ¬ true = false by simp)]
        exact fold_err l

theorem box_run (w : World) (o : Obj) : Below w.heap.size w (w.alloc o) := below_new w o
set_option maxHeartbeats 2000000 in
set_option maxRecDepth 100000 in
theorem size_any (d : Nat) (e : Tree) (B : Nat) (w : World) (h : In d B w e) (hB : B ≤ w.heap.size) (hsz : (preF d e).length ≤ 5000) : Calls Tryz.prog 84 #[e.val] w fun r w' => r = .returned (.int .i64 ((preF d e).length : Nat)) ∧ Below w.heap.size w w' := by
  have hz1 : (w.alloc (.cells #[.int .i64 e.op, .int .i64 (e.want 0), .int .i64 (e.want 1), .int .i64 (e.want 2), .int .i64 (e.want 3), .int .i64 (e.want 4), .int .i64 (e.want 5), .int .i64 e.value, .slice e.a e.args.length e.c] 28)).heap.size = w.heap.size + 1 := World.size_alloc _ _
  have hz2 : ((w.alloc (.cells #[.int .i64 e.op, .int .i64 (e.want 0), .int .i64 (e.want 1), .int .i64 (e.want 2), .int .i64 (e.want 3), .int .i64 (e.want 4), .int .i64 (e.want 5), .int .i64 e.value, .slice e.a e.args.length e.c] 28)).alloc (.cells #[.int .i64 0] 3)).heap.size = w.heap.size + 2 := by rw [World.size_alloc, hz1]
  obtain ⟨W, hW⟩ : ∃ W, W = ((w.alloc (.cells #[.int .i64 e.op, .int .i64 (e.want 0), .int .i64 (e.want 1), .int .i64 (e.want 2), .int .i64 (e.want 3), .int .i64 (e.want 4), .int .i64 (e.want 5), .int .i64 e.value, .slice e.a e.args.length e.c] 28)).alloc (.cells #[.int .i64 0] 3)).alloc (.cells #[.func (.func 126) #[] #[.pointer (some ⟨w.heap.size + 1, 0, none⟩)]] 124) := ⟨_, rfl⟩
  have B0 : Below w.heap.size w W := by
    rw [hW]
    exact ((below_new w (.cells #[.int .i64 e.op, .int .i64 (e.want 0), .int .i64 (e.want 1), .int .i64 (e.want 2), .int .i64 (e.want 3), .int .i64 (e.want 4), .int .i64 (e.want 5), .int .i64 e.value, .slice e.a e.args.length e.c] 28)).alloc (below_new w (.cells #[.int .i64 e.op, .int .i64 (e.want 0), .int .i64 (e.want 1), .int .i64 (e.want 2), .int .i64 (e.want 3), .int .i64 (e.want 4), .int .i64 (e.want 5), .int .i64 e.value, .slice e.a e.args.length e.c] 28)).size _).alloc (((below_new w (.cells #[.int .i64 e.op, .int .i64 (e.want 0), .int .i64 (e.want 1), .int .i64 (e.want 2), .int .i64 (e.want 3), .int .i64 (e.want 4), .int .i64 (e.want 5), .int .i64 e.value, .slice e.a e.args.length e.c] 28)).alloc (below_new w (.cells #[.int .i64 e.op, .int .i64 (e.want 0), .int .i64 (e.want 1), .int .i64 (e.want 2), .int .i64 (e.want 3), .int .i64 (e.want 4), .int .i64 (e.want 5), .int .i64 e.value, .slice e.a e.args.length e.c] 28)).size _)).size _
  have K0 : Blk W w.heap.size 28 #[.int .i64 e.op, .int .i64 (e.want 0), .int .i64 (e.want 1), .int .i64 (e.want 2), .int .i64 (e.want 3), .int .i64 (e.want 4), .int .i64 (e.want 5), .int .i64 e.value, .slice e.a e.args.length e.c] := by rw [hW]; exact ((Blk.new w 28 #[.int .i64 e.op, .int .i64 (e.want 0), .int .i64 (e.want 1), .int .i64 (e.want 2), .int .i64 (e.want 3), .int .i64 (e.want 4), .int .i64 (e.want 5), .int .i64 e.value, .slice e.a e.args.length e.c]).alloc _).alloc _
  have N0 : Blk W (w.heap.size + 1) 3 #[.int .i64 0] := by
    have h := Blk.new (w.alloc (.cells #[.int .i64 e.op, .int .i64 (e.want 0), .int .i64 (e.want 1), .int .i64 (e.want 2), .int .i64 (e.want 3), .int .i64 (e.want 4), .int .i64 (e.want 5), .int .i64 e.value, .slice e.a e.args.length e.c] 28)) 3 #[.int .i64 0]
    rw [hz1] at h
    rw [hW]
    exact h.alloc _
  have CW := walk2_any (w.heap.size + 1) B (fun W s => Blk W (w.heap.size + 1) 3 #[.int .i64 s]) stepN (fun _ _ => true) (by omega) (fun _ _ _ h k => h.below' k) (fun _ _ h => h.lt) (fun _ x W s _ _ h => visit2_any _ x W s h) d e W 0 (h.keep (B0.mono hB)) (Nat.le_trans hB B0.size) N0 hsz
  rw [fold_count (preF d e) 0 (Int.le_refl _) (by omega)] at CW
  dsimp only at CW
  rw [Int.zero_add] at CW
  have HC := Lib.hid CW
  have HB0 := Lib.hid B0
  have HW := Lib.hid hW
  have HK0 := Lib.hid K0
  have hn : ((preF d e).length : Int) ≤ 5000 := by omega
  generalize (preF d e).length = n at *
  unfold Tree.val at HC ⊢
  clear h hB hsz hz1 hz2 B0 K0 N0 CW hW
  go_enter Tryz.func84, Tryz.ntmps84
  go_wp2_with (fail)
  rw [← HW.out]
  try
    have z0 := HK0.out.cell 0
    have z1 := HK0.out.cell 1
    have z2 := HK0.out.cell 2
    have z3 := HK0.out.cell 3
    have z4 := HK0.out.cell 4
    have z5 := HK0.out.cell 5
    have z6 := HK0.out.cell 6
    have z7 := HK0.out.cell 7
    have z8 := HK0.out.cell 8
    go_wp2_with fail
  refine HC.out.mono ?_
  rintro r w2 ⟨rfl, h2, o2⟩
  have B2 := Lib.hid (Below.trans HB0.out (o2.below (B := w.heap.size) (by omega) HB0.out.size))
  have K2 := Lib.hid h2
  have z := K2.out.c1
  have zl := K2.out.lt
  clear h2 o2
  go_wp2_with fail
  go_ret
  exact ⟨rfl, B2.out⟩
end Go.Proofs.YtjjlhihocllgjaaGreatDoor.Ex
