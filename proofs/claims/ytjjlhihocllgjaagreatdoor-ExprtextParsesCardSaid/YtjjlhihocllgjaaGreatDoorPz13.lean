/- Contract of the reference's Parse. Printed by gen_catP.py. Contracts of Check of both. Printed by gen_ros.py. -/
import Derived.Test.YtjjlhihocllgjaaGreatDoorPz12
import Derived.Test.YtjjlhihocllgjaaGreatDoorPz07
namespace Go.Proofs.YtjjlhihocllgjaaGreatDoor
open Go.ChangeShapes Go.WideShapes Go.ChangeAt Go.RowKit
set_option linter.unusedVariables false
set_option linter.unusedSimpArgs false
namespace Cat
open Lex
theorem refGo_rest (l : List Prod) : ∀ (m : Nat) (D : List Tok) (b : Nat → Int) (k : Nat), D.length ≤ m → ∀ b' R n, refGo l D b k = .ok (b', R, n) → ∃ j, n = k + j ∧ R = D.drop j ∧ j ≤ D.length
  | 0, D, b, k, hm, b', R, n, h => by
    obtain rfl : D = [] := List.eq_nil_of_length_eq_zero (by omega)
    unfold refGo at h
    cases h
  | m + 1, D, b, k, hm, b', R, n, h => by
    rw [refGo_D] at h
    unfold goD at h
    by_cases c0 : D.length ≤ 0
    · rw [if_pos c0] at h; cases h
    · rw [if_neg c0] at h
      by_cases c1 : (tokAt D 0).kind ≠ 1
      · rw [if_pos c1] at h; cases h
      · rw [if_neg c1] at h
        by_cases c2 : findP l (tokAt D 0).text = none
        · rw [if_pos c2] at h; cases h
        · rw [if_neg c2] at h
          by_cases c3 : b (findK l (tokAt D 0).text) ≠ 0
          · rw [if_pos c3] at h; cases h
          · rw [if_neg c3] at h
            by_cases c4 : isAt D 1 ⟨#[58]⟩ = false
            · rw [if_pos c4] at h; cases h
            · rw [if_neg c4] at h
              by_cases c5 : D.length ≤ 2 ∨ (tokAt D 2).kind ≠ 2
              · rw [if_pos c5] at h; cases h
              · rw [if_neg c5] at h
                by_cases c6 : ¬ (1 ≤ (tokAt D 2).value ∧ (tokAt D 2).value ≤ 4)
                · rw [if_pos c6] at h; cases h
                · rw [if_neg c6] at h
                  by_cases c7 : isAt D 3 ⟨#[125]⟩ = true
                  · rw [if_pos c7] at h
                    injection h with h
                    injection h with h1 h2
                    injection h2 with h2 h3
                    subst h1 h2 h3
                    refine ⟨4, rfl, rfl, ?_⟩
                    unfold isAt at c7
                    simp at c7
                    omega
                  · rw [if_neg c7] at h
                    by_cases c8 : isAt D 3 ⟨#[44]⟩ = true
                    · rw [if_pos c8] at h
                      have hl : 3 < D.length := by
                        unfold isAt at c8
                        simp at c8
                        omega
                      obtain ⟨j, h1, h2, h3⟩ := refGo_rest l m (D.drop 4) _ _ (by rw [List.length_drop]; omega) _ _ _ h
                      rw [List.length_drop] at h3
                      exact ⟨4 + j, by omega, by rw [h2, List.drop_drop], by omega⟩
                    · rw [if_neg c8] at h; cases h
theorem refF_rest {l : List Prod} {U : List Tok} {b' : Nat → Int} {R : List Tok} {n : Nat} (h : refF l U = .ok (b', R, n)) : R = U.drop n ∧ n ≤ U.length := by
  rw [refF_at] at h
  by_cases c0 : isAt U 0 ⟨#[123]⟩ = false
  · rw [if_pos c0] at h; cases h
  · rw [if_neg c0] at h
    have hl : 0 < U.length := by
      unfold isAt at c0
      simp at c0
      omega
    by_cases c1 : isAt U 1 ⟨#[125]⟩ = true
    · rw [if_pos c1] at h
      injection h with h
      injection h with h1 h2
      injection h2 with h2 h3
      subst h1 h2 h3
      refine ⟨rfl, ?_⟩
      unfold isAt at c1
      simp at c1
      omega
    · rw [if_neg c1] at h
      obtain ⟨j, h1, h2, h3⟩ := refGo_rest l _ (U.drop 1) _ _ (Nat.le_refl _) _ _ _ h
      rw [List.length_drop] at h3
      exact ⟨by rw [h2, List.drop_drop, h1], by omega⟩
/-- what the reference's Tokens gives, in three parts -/
def rtB : Except Int ((Nat → Int) × List Tok × Nat) → Nat → Int
  | .error _ => zero6
  | .ok (b, _, _) => b
def rtN : Except Int ((Nat → Int) × List Tok × Nat) → Nat
  | .error _ => 0
  | .ok (_, _, n) => n
def rtE : Except Int ((Nat → Int) × List Tok × Nat) → Int
  | .error x => x
  | .ok _ => 0
theorem rtokV_eq (r : Except Int ((Nat → Int) × List Tok × Nat)) : rtokV r = .tuple #[.agg (arr (rtB r)), .int .i64 (rtN r : Int), .int .i64 (rtE r)] := by
  cases r with
  | error x => rfl
  | ok r => obtain ⟨b, R, n⟩ := r; rfl
theorem refF_err_ne {l : List Prod} {U : List Tok} {x : Int} (hz : checkE l = 0) (h : refF l U = .error x) : x ≠ 0 := by
  have := scan_ref l U hz
  rw [h] at this
  exact this.1
theorem parseT_parts (l : List Prod) (U : List Tok) (hz : checkE l = 0) : parseT l U = if rtE (refF l U) ≠ 0 then (zero6, rtE (refF l U)) else if rtN (refF l U) < U.length then (zero6, 3) else (rtB (refF l U), 0) := by
  unfold parseT
  cases h : refF l U with
  | error x =>
    have := refF_err_ne hz h
    show (zero6, x) = if x ≠ 0 then (zero6, x) else _
    rw [if_pos this]
  | ok r =>
    obtain ⟨b, R, n⟩ := r
    obtain ⟨h1, h2⟩ := refF_rest h
    have e1 : rtE (.ok (b, R, n)) = 0 := rfl
    have e2 : rtN (.ok (b, R, n)) = n := rfl
    have e3 : rtB (.ok (b, R, n)) = b := rfl
    rw [e1, e2, e3, if_neg (fun h => h rfl)]
    dsimp only
    by_cases c : n < U.length
    · have hR : R ≠ [] := by
        intro e
        rw [e] at h1
        have := congrArg List.length h1
        rw [List.length_drop] at this
        simp at this
        omega
      rw [if_pos c, if_neg hR]
    · have hR : R = [] := by
        rw [h1]
        exact List.drop_eq_nil_of_le (by omega)
      rw [if_neg c, if_pos hR]
end Cat
end Go.Proofs.YtjjlhihocllgjaaGreatDoor
namespace Go.Proofs.YtjjlhihocllgjaaGreatDoor.Ros
open Go.ChangeShapes Go.WideShapes Go.ChangeAt Go.RowKit Gn Cat Lex
set_option linter.unusedVariables false
set_option linter.unusedSimpArgs false
abbrev CheckPost (l : List Bid) (w : World) : Ending → World → Prop := fun e w' => e = .returned (.int .i64 (rosE l)) ∧ Below w.heap.size w w'
theorem check_empty (A : Option Addr) (c : Nat) (w : World) : Calls Tryz.prog 45 #[.slice A 0 c] w (CheckPost [] w) := by
  have HE : Hid (rosE [] = 1) := rfl
  go_enter Tryz.func45, Tryz.ntmps45
  go_wp2_with fail
  go_ret
  exact ⟨by rw [HE.out]; rfl, Below.refl _ _⟩
theorem check_long (l : List Bid) (A : Option Addr) (c : Nat) (w : World) (hl : l.length ≤ 5000) (h : 8 < l.length) : Calls Tryz.prog 45 #[.slice A l.length c] w (CheckPost l w) := by
  have HE := Lib.hid (show rosE l = 3 by unfold rosE; simp [h, show ¬ l.length = 0 by omega])
  have d0 : ((l.length : Int) == 0) = false := beq_eq_false_iff_ne.2 (by omega)
  have d1 : decide ((8 : Int) < (l.length : Int)) = true := by simp; omega
  go_enter Tryz.func45, Tryz.ntmps45
  go_wp2_with fail
  go_ret
  exact ⟨by rw [HE.out]; rfl, Below.refl _ _⟩
theorem rcheck_empty (A : Option Addr) (c : Nat) (w : World) : Calls Tryz.prog 48 #[.slice A 0 c] w (CheckPost [] w) := by
  have HE : Hid (rosE [] = 1) := rfl
  go_enter Tryz.func48, Tryz.ntmps48
  go_wp2_with fail
  go_ret
  exact ⟨by rw [HE.out]; rfl, Below.refl _ _⟩
theorem rcheck_long (l : List Bid) (A : Option Addr) (c : Nat) (w : World) (hl : l.length ≤ 5000) (h : 8 < l.length) : Calls Tryz.prog 48 #[.slice A l.length c] w (CheckPost l w) := by
  have HE := Lib.hid (show rosE l = 3 by unfold rosE; simp [h, show ¬ l.length = 0 by omega])
  have d0 : ((l.length : Int) == 0) = false := beq_eq_false_iff_ne.2 (by omega)
  have d1 : decide ((8 : Int) < (l.length : Int)) = true := by simp; omega
  go_enter Tryz.func48, Tryz.ntmps48
  go_wp2_with fail
  go_ret
  exact ⟨by rw [HE.out]; rfl, Below.refl _ _⟩
set_option maxHeartbeats 800000 in
set_option maxRecDepth 100000 in
theorem check_some (l : List Bid) (b1 o1 c1 : Nat) (w : World) (h8 : l.length ≤ 8) (h0 : 0 < l.length) (hc : l.length ≤ c1) (_hm : c1 ≤ maxLen) (hb1 : b1 < w.heap.size) (h1 : BidRow w b1 o1 l) (hn : ∀ p ∈ l, p.name.size ≤ maxLen) :
    Calls Tryz.prog 45 #[.slice (some ⟨b1, o1, none⟩) l.length c1] w (CheckPost l w) := by
  have HN := Lib.hid fun k (h : k < l.length) => hn l[k] (List.getElem_mem h)
  have HR := Lib.hid fun w' => h1.below (w' := w') hb1
  have HE := Lib.hid (rosE_mid h0 h8)
  have HD := Lib.hid (fun k (h : k < l.length) => rosGo_drop (l := l) (k := k) h)
  unfold maxLen at _hm
  clear hn h1
  have d0 : ((l.length : Int) == 0) = false := beq_eq_false_iff_ne.2 (by omega)
  have d1 : decide ((8 : Int) < (l.length : Int)) = false := by simp; omega
  go_enter Tryz.func45, Tryz.ntmps45
  go_wp2_with fail
  go_loopw [17] (fun i wr => ∃ k : Nat, k ≤ l.length ∧ i = .int .i64 (k : Int) ∧ Hid (rosGo l (l.drop k) k = rosGo l l 0) ∧ Hid (Below w.heap.size w wr)) (fun i _ => l.length - (intOf i).toNat)
  case atStart => exact ⟨0, by omega, rfl, rfl, Below.refl _ _⟩
  case round =>
    clear d0 d1
    obtain ⟨k, hk, rfl, HX, HB0⟩ := hrel
    by_cases hlt : k < l.length
    · have hd : decide ((k : Int) < (l.length : Int)) = true := by simp; omega
      have hi0 : (0 : Int) ≤ (k : Int) := by omega
      have et := BidRow.at_ (HR.out _ HB0.out) k hlt
      have hbr : b1 < wr.heap.size := by have := HB0.out.size; omega
      have HST := Lib.hid (HX.out.symm.trans (HD.out k hlt))
      have hsz := HN.out k hlt
      clear HX
      have htk := HR.out
      generalize hp : l[k] = p at *
      have HP := Lib.hid hp
      clear hp
      have hc1 : 0 < c1 := by omega
      have hkc : k ≤ c1 := by omega
      cases hnm : nameOk p.name with
      | false =>
        have HF := Lib.hid (show rosGo l l 0 = 5 by rw [HST.out, hnm]; rfl)
        go_wp2_with fail
        refine (isName_any p.name _ hsz).mono ?_
        rintro e w1 ⟨rfl, rfl⟩
        rw [hnm]
        go_wp2_with fail
        go_ret
        exact ⟨by rw [HE.out, HF.out]; rfl, HB0.out.alloc HB0.out.size _⟩
      | true =>
        have HST1 := Lib.hid (show rosGo l l 0 = if (findB (l.take k) p.name).isSome then 7 else if bidOk p then rosGo l (l.drop (k + 1)) (k + 1) else 4 by rw [HST.out, hnm]; rfl)
        clear HST
        go_wp2_with fail
        refine (isName_any p.name _ hsz).mono ?_
        rintro e w1 ⟨rfl, rfl⟩
        rw [hnm]
        clear et htk
        have K1 := Lib.hid (Blk.new wr 87 #[.string p.name, .int .i64 p.cls, .int .i64 p.budget, .int .i64 p.points])
        have B1 := Lib.hid (HB0.out.alloc HB0.out.size (.cells #[.string p.name, .int .i64 p.cls, .int .i64 p.budget, .int .i64 p.points] 87))
        have hg := K1.out.lt
        have e1 := K1.out.c4
        generalize wr.alloc _ = W at *
        generalize wr.heap.size = g at *
        cases hf : findOk (l.take k) p.name with
        | true =>
          have HF := Lib.hid (show rosGo l l 0 = 7 by rw [HST1.out]; unfold findOk at hf; rw [hf]; rfl)
          go_wp2_with fail
          go_region_held3 (fun w' => w'.cell? ⟨g, 0, none⟩ = some (.string p.name)) (go_keep) ((go_at_call 101; refine (find_take l b1 o1 c1 k p.name _ (by omega) hk (Nat.lt_of_lt_of_le hb1 (chain0 B1.out (Below.refl _ _).drew).size) (HR.out _ (chain0 B1.out (Below.refl _ _).drew))).mono ?_; rintro r w2 ⟨rfl, b2⟩; have B2 := Lib.hid (chain0 (chain0 B1.out (Below.refl _ _).drew) b2); rw [hf]; have e2 := (K1.out.drew.below' b2).c4; clear b2))
          go_wp2_with fail
          go_ret
          exact ⟨by rw [HE.out, HF.out]; rfl, B2.out⟩
        | false =>
          have HST2 := Lib.hid (show rosGo l l 0 = if bidOk p then rosGo l (l.drop (k + 1)) (k + 1) else 4 by rw [HST1.out]; unfold findOk at hf; rw [hf]; rfl)
          clear HST1
          go_wp2_with fail
          go_region_held3 (fun w' => w'.cell? ⟨g, 0, none⟩ = some (.string p.name)) (go_keep) ((go_at_call 101; refine (find_take l b1 o1 c1 k p.name _ (by omega) hk (Nat.lt_of_lt_of_le hb1 (chain0 B1.out (Below.refl _ _).drew).size) (HR.out _ (chain0 B1.out (Below.refl _ _).drew))).mono ?_; rintro r w2 ⟨rfl, b2⟩; have B2 := Lib.hid (chain0 (chain0 B1.out (Below.refl _ _).drew) b2); rw [hf]; have e2 := (K1.out.drew.below' b2).c4; clear b2))
          clear e1
          by_cases q0 : p.cls < 0
          · have t0 : decide (p.cls < (0 : Int)) = true := decide_eq_true q0
            have HF := Lib.hid (show rosGo l l 0 = 4 by rw [HST2.out, if_neg (fun h => by have := bidOk_iff.1 h; omega)])
            clear q0
            go_wp2_with fail
            go_ret
            exact ⟨by rw [HE.out, HF.out]; rfl, B2.out⟩
          · have t0 : decide (p.cls < (0 : Int)) = false := decide_eq_false q0
            by_cases q1 : 4 < p.cls
            · have t1 : decide ((4 : Int) < p.cls) = true := decide_eq_true q1
              have HF := Lib.hid (show rosGo l l 0 = 4 by rw [HST2.out, if_neg (fun h => by have := bidOk_iff.1 h; omega)])
              clear q0
              clear q1
              go_wp2_with fail
              go_ret
              exact ⟨by rw [HE.out, HF.out]; rfl, B2.out⟩
            · have t1 : decide ((4 : Int) < p.cls) = false := decide_eq_false q1
              by_cases q2 : p.budget < 0
              · have t2 : decide (p.budget < (0 : Int)) = true := decide_eq_true q2
                have HF := Lib.hid (show rosGo l l 0 = 4 by rw [HST2.out, if_neg (fun h => by have := bidOk_iff.1 h; omega)])
                clear q0
                clear q1
                clear q2
                go_wp2_with fail
                go_ret
                exact ⟨by rw [HE.out, HF.out]; rfl, B2.out⟩
              · have t2 : decide (p.budget < (0 : Int)) = false := decide_eq_false q2
                by_cases q3 : 1000000 < p.budget
                · have t3 : decide ((1000000 : Int) < p.budget) = true := decide_eq_true q3
                  have HF := Lib.hid (show rosGo l l 0 = 4 by rw [HST2.out, if_neg (fun h => by have := bidOk_iff.1 h; omega)])
                  clear q0
                  clear q1
                  clear q2
                  clear q3
                  go_wp2_with fail
                  go_ret
                  exact ⟨by rw [HE.out, HF.out]; rfl, B2.out⟩
                · have t3 : decide ((1000000 : Int) < p.budget) = false := decide_eq_false q3
                  by_cases q4 : p.points < 0
                  · have t4 : decide (p.points < (0 : Int)) = true := decide_eq_true q4
                    have HF := Lib.hid (show rosGo l l 0 = 4 by rw [HST2.out, if_neg (fun h => by have := bidOk_iff.1 h; omega)])
                    clear q0
                    clear q1
                    clear q2
                    clear q3
                    clear q4
                    go_wp2_with fail
                    go_ret
                    exact ⟨by rw [HE.out, HF.out]; rfl, B2.out⟩
                  · have t4 : decide (p.points < (0 : Int)) = false := decide_eq_false q4
                    by_cases q5 : 24000 < p.points
                    · have t5 : decide ((24000 : Int) < p.points) = true := decide_eq_true q5
                      have HF := Lib.hid (show rosGo l l 0 = 4 by rw [HST2.out, if_neg (fun h => by have := bidOk_iff.1 h; omega)])
                      clear q0
                      clear q1
                      clear q2
                      clear q3
                      clear q4
                      clear q5
                      go_wp2_with fail
                      go_ret
                      exact ⟨by rw [HE.out, HF.out]; rfl, B2.out⟩
                    · have t5 : decide ((24000 : Int) < p.points) = false := decide_eq_false q5
                      have HF := Lib.hid (show rosGo l (l.drop (k + 1)) (k + 1) = rosGo l l 0 by rw [HST2.out, if_pos (bidOk_iff.2 (by omega))])
                      clear q0
                      clear q1
                      clear q2
                      clear q3
                      clear q4
                      clear q5
                      go_wp2_with fail
                      go_roundw
                      case rel => exact ⟨k + 1, by omega, by go_num, HF, B2.out⟩
                      case measure => simp [intOf]; omega
    · obtain rfl : k = l.length := by omega
      have hd : decide ((l.length : Int) < (l.length : Int)) = false := by simp
      have HZ : Hid (rosGo l l 0 = 0) := by
        rw [← HX.out, List.drop_length]
        rfl
      go_wp2_with fail
      go_ret
      exact ⟨by rw [HE.out, HZ.out]; rfl, HB0.out⟩
set_option maxHeartbeats 800000 in
set_option maxRecDepth 100000 in
theorem rcheck_some (l : List Bid) (b1 o1 c1 : Nat) (w : World) (h8 : l.length ≤ 8) (h0 : 0 < l.length) (hc : l.length ≤ c1) (_hm : c1 ≤ maxLen) (hb1 : b1 < w.heap.size) (h1 : BidRow w b1 o1 l) (hn : ∀ p ∈ l, p.name.size ≤ maxLen) :
    Calls Tryz.prog 48 #[.slice (some ⟨b1, o1, none⟩) l.length c1] w (CheckPost l w) := by
  have HN := Lib.hid fun k (h : k < l.length) => hn l[k] (List.getElem_mem h)
  have HR := Lib.hid fun w' => h1.below (w' := w') hb1
  have HE := Lib.hid (rosE_mid h0 h8)
  have HD := Lib.hid (fun k (h : k < l.length) => rosGo_drop (l := l) (k := k) h)
  unfold maxLen at _hm
  clear hn h1
  have d0 : ((l.length : Int) == 0) = false := beq_eq_false_iff_ne.2 (by omega)
  have d1 : decide ((8 : Int) < (l.length : Int)) = false := by simp; omega
  go_enter Tryz.func48, Tryz.ntmps48
  go_wp2_with fail
  go_loopw [3] (fun i wr => ∃ k : Nat, k ≤ l.length ∧ i = .int .i64 (k : Int) ∧ Hid (rosGo l (l.drop k) k = rosGo l l 0) ∧ Hid (Below w.heap.size w wr)) (fun i _ => l.length - (intOf i).toNat)
  case atStart => exact ⟨0, by omega, rfl, rfl, Below.refl _ _⟩
  case round =>
    clear d0 d1
    obtain ⟨k, hk, rfl, HX, HB0⟩ := hrel
    by_cases hlt : k < l.length
    · have hd : decide ((k : Int) < (l.length : Int)) = true := by simp; omega
      have hi0 : (0 : Int) ≤ (k : Int) := by omega
      have et := BidRow.at_ (HR.out _ HB0.out) k hlt
      have hbr : b1 < wr.heap.size := by have := HB0.out.size; omega
      have HST := Lib.hid (HX.out.symm.trans (HD.out k hlt))
      have hsz := HN.out k hlt
      clear HX
      have HAT := Lib.hid (find_at hlt)
      have HLT := Lib.hid (fun j (h : findB (l.take k) l[k].name = some j) => find_take_lt h)
      generalize hp : l[k] = p at *
      have HP := Lib.hid hp
      clear hp
      cases hnm : nameOk p.name with
      | false =>
        have HF := Lib.hid (show rosGo l l 0 = 5 by rw [HST.out, hnm]; rfl)
        go_wp2_with fail
        refine (refIsName_any p.name _ hsz).mono ?_
        rintro e w1 ⟨rfl, b1⟩
        rw [hnm]
        have B1 := Lib.hid (chain0 HB0.out b1)
        clear b1
        go_wp2_with fail
        go_ret
        exact ⟨by rw [HE.out, HF.out]; rfl, B1.out⟩
      | true =>
        have HST1 := Lib.hid (show rosGo l l 0 = if (findB (l.take k) p.name).isSome then 7 else if bidOk p then rosGo l (l.drop (k + 1)) (k + 1) else 4 by rw [HST.out, hnm]; rfl)
        clear HST
        go_wp2_with fail
        refine (refIsName_any p.name _ hsz).mono ?_
        rintro e w1 ⟨rfl, b1⟩
        rw [hnm]
        have B1 := Lib.hid (chain0 HB0.out b1)
        clear b1 et
        have et := BidRow.at_ (HR.out _ B1.out) k hlt
        rw [HP.out] at et
        have hbx : b1 < w1.heap.size := by have := B1.out.size; omega
        go_wp2_with fail
        refine (rfind_some l b1 o1 c1 p.name _ (by omega) hbx (HR.out _ B1.out)).mono ?_
        rintro e w2 ⟨rfl, b2⟩
        have HB1 := Lib.hid (chain0 B1.out b2)
        clear b2 et
        have et := BidRow.at_ (HR.out _ HB1.out) k hlt
        rw [HP.out] at et
        have hby : b1 < w2.heap.size := by have := HB1.out.size; omega
        have HI : Hid (findI l p.name = (((findB (l.take k) p.name).getD k : Nat) : Int)) := by show _ = _; unfold findI; rw [HAT.out]; rfl
        have hio : findOk l p.name = true := by unfold findOk; rw [HAT.out]; rfl
        rw [HI.out, hio]
        cases hf : findB (l.take k) p.name with
        | some j =>
          have hj := HLT.out j hf
          have HF := Lib.hid (show rosGo l l 0 = 7 by rw [HST1.out, hf]; rfl)
          have z : ((j : Int) != (k : Int)) = true := by simp; omega
          rw [show (some j).getD k = j from rfl]
          go_wp2_with fail
          go_ret
          exact ⟨by rw [HE.out, HF.out]; rfl, HB1.out⟩
        | none =>
          have z : ((k : Int) != (k : Int)) = false := by simp
          rw [show (none : Option Nat).getD k = k from rfl]
          have HST2 := Lib.hid (show rosGo l l 0 = if bidOk p then rosGo l (l.drop (k + 1)) (k + 1) else 4 by rw [HST1.out, hf]; rfl)
          clear HST1 hf HAT HLT HI hio
          by_cases q0 : p.cls < 0
          · have t0 : decide (p.cls < (0 : Int)) = true := decide_eq_true q0
            have HF := Lib.hid (show rosGo l l 0 = 4 by rw [HST2.out, if_neg (fun h => by have := bidOk_iff.1 h; omega)])
            clear q0
            go_wp2_with fail
            go_ret
            exact ⟨by rw [HE.out, HF.out]; rfl, HB1.out⟩
          · have t0 : decide (p.cls < (0 : Int)) = false := decide_eq_false q0
            by_cases q1 : 4 < p.cls
            · have t1 : decide ((4 : Int) < p.cls) = true := decide_eq_true q1
              have HF := Lib.hid (show rosGo l l 0 = 4 by rw [HST2.out, if_neg (fun h => by have := bidOk_iff.1 h; omega)])
              clear q0
              clear q1
              go_wp2_with fail
              go_ret
              exact ⟨by rw [HE.out, HF.out]; rfl, HB1.out⟩
            · have t1 : decide ((4 : Int) < p.cls) = false := decide_eq_false q1
              by_cases q2 : p.budget < 0
              · have t2 : decide (p.budget < (0 : Int)) = true := decide_eq_true q2
                have HF := Lib.hid (show rosGo l l 0 = 4 by rw [HST2.out, if_neg (fun h => by have := bidOk_iff.1 h; omega)])
                clear q0
                clear q1
                clear q2
                go_wp2_with fail
                go_ret
                exact ⟨by rw [HE.out, HF.out]; rfl, HB1.out⟩
              · have t2 : decide (p.budget < (0 : Int)) = false := decide_eq_false q2
                by_cases q3 : 1000000 < p.budget
                · have t3 : decide ((1000000 : Int) < p.budget) = true := decide_eq_true q3
                  have HF := Lib.hid (show rosGo l l 0 = 4 by rw [HST2.out, if_neg (fun h => by have := bidOk_iff.1 h; omega)])
                  clear q0
                  clear q1
                  clear q2
                  clear q3
                  go_wp2_with fail
                  go_ret
                  exact ⟨by rw [HE.out, HF.out]; rfl, HB1.out⟩
                · have t3 : decide ((1000000 : Int) < p.budget) = false := decide_eq_false q3
                  by_cases q4 : p.points < 0
                  · have t4 : decide (p.points < (0 : Int)) = true := decide_eq_true q4
                    have HF := Lib.hid (show rosGo l l 0 = 4 by rw [HST2.out, if_neg (fun h => by have := bidOk_iff.1 h; omega)])
                    clear q0
                    clear q1
                    clear q2
                    clear q3
                    clear q4
                    go_wp2_with fail
                    go_ret
                    exact ⟨by rw [HE.out, HF.out]; rfl, HB1.out⟩
                  · have t4 : decide (p.points < (0 : Int)) = false := decide_eq_false q4
                    by_cases q5 : 24000 < p.points
                    · have t5 : decide ((24000 : Int) < p.points) = true := decide_eq_true q5
                      have HF := Lib.hid (show rosGo l l 0 = 4 by rw [HST2.out, if_neg (fun h => by have := bidOk_iff.1 h; omega)])
                      clear q0
                      clear q1
                      clear q2
                      clear q3
                      clear q4
                      clear q5
                      go_wp2_with fail
                      go_ret
                      exact ⟨by rw [HE.out, HF.out]; rfl, HB1.out⟩
                    · have t5 : decide ((24000 : Int) < p.points) = false := decide_eq_false q5
                      have HF := Lib.hid (show rosGo l (l.drop (k + 1)) (k + 1) = rosGo l l 0 by rw [HST2.out, if_pos (bidOk_iff.2 (by omega))])
                      clear q0
                      clear q1
                      clear q2
                      clear q3
                      clear q4
                      clear q5
                      go_wp2_with fail
                      go_roundw
                      case rel => exact ⟨k + 1, by omega, by go_num, HF, HB1.out⟩
                      case measure => simp [intOf]; omega
    · obtain rfl : k = l.length := by omega
      have hd : decide ((l.length : Int) < (l.length : Int)) = false := by simp
      have HZ : Hid (rosGo l l 0 = 0) := by
        rw [← HX.out, List.drop_length]
        rfl
      go_wp2_with fail
      go_ret
      exact ⟨by rw [HE.out, HZ.out]; rfl, HB0.out⟩
theorem check_any (l : List Bid) (v : Value) (w : World) (hl : l.length ≤ 5000) (h : BidS w v l) (hn : ∀ p ∈ l, p.name.size ≤ maxLen) : Calls Tryz.prog 45 #[v] w (CheckPost l w) := by
  obtain ⟨A, c, rfl, h1, h2, ha⟩ := sl_parts h
  by_cases h8 : 8 < l.length
  · exact check_long l A c w hl h8
  · cases l with
    | nil => exact check_empty A c w
    | cons p l =>
      obtain ⟨b, o, rfl, hb, r⟩ := ha (by simp)
      exact check_some _ b o c w (by omega) (by simp) h1 h2 hb r hn
theorem rcheck_any (l : List Bid) (v : Value) (w : World) (hl : l.length ≤ 5000) (h : BidS w v l) (hn : ∀ p ∈ l, p.name.size ≤ maxLen) : Calls Tryz.prog 48 #[v] w (CheckPost l w) := by
  obtain ⟨A, c, rfl, h1, h2, ha⟩ := sl_parts h
  by_cases h8 : 8 < l.length
  · exact rcheck_long l A c w hl h8
  · cases l with
    | nil => exact rcheck_empty A c w
    | cons p l =>
      obtain ⟨b, o, rfl, hb, r⟩ := ha (by simp)
      exact rcheck_some _ b o c w (by omega) (by simp) h1 h2 hb r hn
end Go.Proofs.YtjjlhihocllgjaaGreatDoor.Ros
