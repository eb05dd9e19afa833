/- Contracts of Check of both. Printed by gen_catC.py. Contracts of the weights' closures and of (units).sum. Printed by gen_catD.py. Contracts of (units).sum. Printed by gen_catE.py. Contracts of Points, Reserve, Units. Printed by gen_catF.py. Contract of the reference's Sums. Contracts of fits and of the reference's Fits. -/
import Derived.Test.YtaikmgnpfbnjjaaGreatDoorPu06
import Derived.Deep.RegionHeld3
import Derived.BigQuiet
namespace Go.Proofs.YtaikmgnpfbnjjaaGreatDoor
open Go.ChangeShapes Go.WideShapes Go.ChangeAt Go.RowKit
set_option linter.unusedVariables false
set_option linter.unusedSimpArgs false
namespace Cat
open Lex
def checkE (l : List Prod) : Int :=
  if l.length = 0 then 1
  else if 6 < l.length then 3
  else if checkGo l l 0 ≠ 0 then checkGo l l 0
  else if 1024 < cnt (supI l) l.length then 12
  else 0
theorem checkE_err {l : List Prod} (h0 : 0 < l.length) (h6 : l.length ≤ 6) {x : Int} (h : checkGo l l 0 = x) (hx : x ≠ 0) : checkE l = x := by
  unfold checkE
  rw [if_neg (by omega), if_neg (by omega), h, if_pos hx]
theorem checkE_ok {l : List Prod} (h0 : 0 < l.length) (h6 : l.length ≤ 6) (h : checkGo l l 0 = 0) : checkE l = if 1024 < cnt (supI l) l.length then 12 else 0 := by
  unfold checkE
  rw [if_neg (by omega), if_neg (by omega), if_neg (by rw [h]; simp)]
/-- what Check's OK says -/
theorem checkE_zero {l : List Prod} (h : checkE l = 0) : 0 < l.length ∧ l.length ≤ 6 ∧ checkGo l l 0 = 0 := by
  unfold checkE at h
  split at h
  · cases h
  · split at h
    · cases h
    · split at h
      · rename_i hx
        exact absurd h hx
      · rename_i a b c
        refine ⟨by omega, by omega, ?_⟩
        by_cases e : checkGo l l 0 = 0
        · exact e
        · exact absurd e c
theorem supI_range {l : List Prod} (h : checkGo l l 0 = 0) (i : Nat) : 0 ≤ supI l i ∧ supI l i ≤ 4 := by
  by_cases hi : i < l.length
  · rw [supI_at l i hi]
    have := (rangeOk_iff.1 (checkGo_range l 0 h l[i] (List.getElem_mem hi)).1).1
    omega
  · unfold supI
    rw [show l.getD i Prod.none = Prod.none by simp [List.getD, List.getElem?_eq_none (Nat.le_of_not_lt hi)]]
    exact ⟨Int.le_refl 0, by decide⟩
theorem supP_valid {l : List Prod} (h : checkGo l l 0 = 0) : validB (supP l) = true := validB_iff.2 fun i _ => by
  unfold supP startP
  split
  · exact supI_range h i
  · omega
theorem cnt_start (re : Nat → Int) (n : Nat) : ∀ k, cnt (startP n re) k = cnt re (min k n)
  | 0 => by simp [cnt]
  | k + 1 => by
    rw [cnt, cnt_start re n k]
    by_cases h : k < n
    · rw [Nat.min_eq_left (by omega), Nat.min_eq_left (by omega), cnt]
      unfold startP
      rw [if_pos h]
    · rw [Nat.min_eq_right (by omega), Nat.min_eq_right (by omega)]
      unfold startP
      rw [if_neg h]
      simp
theorem count_zero {l : List Prod} (h6 : l.length ≤ 6) (h : checkGo l l 0 = 0) : (countE (supP l) == 0) = decide (1024 < cnt (supI l) l.length) := by
  have hv := supP_valid h
  have hc : cnt (supP l) 6 = cnt (supI l) l.length := by
    unfold supP
    rw [cnt_start, Nat.min_eq_right h6]
  have hl := cnt_le (validB_iff.1 hv) 6 (by omega)
  unfold countE
  rw [if_pos hv, hc]
  rw [hc] at hl
  by_cases hb : 1024 < cnt (supI l) l.length
  · rw [if_pos hb, decide_eq_true hb]
    rfl
  · rw [if_neg hb, decide_eq_false hb]
    simp
    omega
theorem ProdRow.below {w w' : World} {b o : Nat} {l : List Prod} (h : ProdRow w b o l) (hb : b < w.heap.size) (hB : Below w.heap.size w w') : ProdRow w' b o l := fun j u hu => by
  rw [hB.cell (p := ⟨b, _, none⟩) hb]
  exact h j u hu
theorem find_take (l : List Prod) (b1 o1 c1 k : Nat) (name : ByteArray) (w : World) (hl : l.length ≤ 5000) (hk : k ≤ l.length) (h1 : ProdRow w b1 o1 l) : Calls Tryz.prog 97 #[.slice (some ⟨b1, o1, none⟩) k c1, .string name] w (FindPost (l.take k) name w) := by
  have e : (l.take k).length = k := by simp; omega
  rcases Nat.eq_zero_or_pos k with rfl | h0
  · rw [List.take_zero]
    exact find_empty _ _ _ _
  · have h := find_some (l.take k) b1 o1 c1 name w (by omega) (h1.take k) (by omega)
    rw [e] at h
    exact h
abbrev CheckPost (l : List Prod) (w : World) : Ending → World → Prop := fun e w' => e = .returned (.int .i64 (checkE l)) ∧ Below w.heap.size w w'
theorem check_empty (A : Option Addr) (c : Nat) (w : World) : Calls Tryz.prog 73 #[.slice A 0 c] w (CheckPost [] w) := by
  have HE : Hid (checkE [] = 1) := rfl
  go_enter Tryz.func73, Tryz.ntmps73
  go_wp2_with fail
  go_ret
  exact ⟨by rw [HE.out]; rfl, Below.refl _ _⟩
theorem check_long (l : List Prod) (A : Option Addr) (c : Nat) (w : World) (hl : l.length ≤ 5000) (h : 6 < l.length) : Calls Tryz.prog 73 #[.slice A l.length c] w (CheckPost l w) := by
  have HE := Lib.hid (show checkE l = 3 by unfold checkE; simp [h, show ¬ l.length = 0 by omega])
  have d0 : ((l.length : Int) == 0) = false := beq_eq_false_iff_ne.2 (by omega)
  have d1 : decide ((6 : Int) < (l.length : Int)) = true := by simp; omega
  go_enter Tryz.func73, Tryz.ntmps73
  go_wp2_with fail
  go_ret
  exact ⟨by rw [HE.out]; rfl, Below.refl _ _⟩
theorem rcheck_empty (A : Option Addr) (c : Nat) (w : World) : Calls Tryz.prog 64 #[.slice A 0 c] w (CheckPost [] w) := by
  have HE : Hid (checkE [] = 1) := rfl
  go_enter Tryz.func64, Tryz.ntmps64
  go_wp2_with fail
  go_ret
  exact ⟨by rw [HE.out]; rfl, Below.refl _ _⟩
theorem rcheck_long (l : List Prod) (A : Option Addr) (c : Nat) (w : World) (hl : l.length ≤ 5000) (h : 6 < l.length) : Calls Tryz.prog 64 #[.slice A l.length c] w (CheckPost l w) := by
  have HE := Lib.hid (show checkE l = 3 by unfold checkE; simp [h, show ¬ l.length = 0 by omega])
  have d0 : ((l.length : Int) == 0) = false := beq_eq_false_iff_ne.2 (by omega)
  have d1 : decide ((6 : Int) < (l.length : Int)) = true := by simp; omega
  go_enter Tryz.func64, Tryz.ntmps64
  go_wp2_with fail
  go_ret
  exact ⟨by rw [HE.out]; rfl, Below.refl _ _⟩
set_option maxHeartbeats 800000 in
set_option maxRecDepth 100000 in
theorem check_some (l : List Prod) (b1 o1 c1 : Nat) (w : World) (h6 : l.length ≤ 6) (h0 : 0 < l.length) (hc : l.length ≤ c1) (_hm : c1 ≤ maxLen) (h1 : ProdRow w b1 o1 l) (hn : ∀ p ∈ l, p.name.size ≤ maxLen) :
    Calls Tryz.prog 73 #[.slice (some ⟨b1, o1, none⟩) l.length c1] w (CheckPost l w) := by
  have hb1 : b1 < w.heap.size := block_lt_of_cell (h1.at_ 0 h0).1
  have HN := Lib.hid fun k (h : k < l.length) => hn l[k] (List.getElem_mem h)
  have HR := Lib.hid fun w' => h1.below (w' := w') hb1
  have HE := Lib.hid fun x => checkE_err (x := x) h0 h6
  have HE0 := Lib.hid (checkE_ok h0 h6)
  have HD := Lib.hid (fun k (h : k < l.length) => checkGo_drop (l := l) (k := k) h)
  have HCZ := Lib.hid (count_zero (l := l) h6)
  have HSR := Lib.hid (supI_range (l := l))
  unfold maxLen at _hm
  clear hn h1
  have d0 : ((l.length : Int) == 0) = false := beq_eq_false_iff_ne.2 (by omega)
  have d1 : decide ((6 : Int) < (l.length : Int)) = false := by simp; omega
  go_enter Tryz.func73, Tryz.ntmps73
  go_wp2_with fail
  go_loopw [17] (fun i wr => ∃ k : Nat, k ≤ l.length ∧ i = .int .i64 (k : Int) ∧ Hid (checkGo l (l.drop k) k = checkGo l l 0) ∧ Hid (Below w.heap.size w wr)) (fun i _ => l.length - (intOf i).toNat)
  case atStart => exact ⟨0, by omega, rfl, rfl, Below.refl _ _⟩
  case round =>
    clear d0 d1
    obtain ⟨k, hk, rfl, HX, HB0⟩ := hrel
    by_cases hlt : k < l.length
    · have hd : decide ((k : Int) < (l.length : Int)) = true := by simp; omega
      have hi0 : (0 : Int) ≤ (k : Int) := by omega
      have et := (HR.out _ HB0.out).at_ k hlt
      have hbr : b1 < wr.heap.size := by have := HB0.out.size; omega
      have HST := Lib.hid (HX.out.symm.trans (HD.out k hlt))
      have hsz := HN.out k hlt
      clear HX
      have htk := HR.out
      generalize hp : l[k] = p at *
      have HP := Lib.hid hp
      clear hp
      have hc1 : 0 < c1 := by omega
      have hkc : k ≤ c1 := by omega
      cases hnm : nameOk p.name with
      | false =>
        have HF := Lib.hid (show checkGo l l 0 = 5 by rw [HST.out, hnm]; rfl)
        go_wp2_with fail
        refine (isName_any p.name _ hsz).mono ?_
        rintro e w1 ⟨rfl, rfl⟩
        rw [hnm]
        go_wp2_with fail
        go_ret
        exact ⟨by rw [HE.out _ HF.out (by decide)]; rfl, HB0.out.alloc HB0.out.size _⟩
      | true =>
        have HST1 := Lib.hid (show checkGo l l 0 = if (findP (l.take k) p.name).isSome then 7 else if rangeOk p then checkGo l (l.drop (k + 1)) (k + 1) else 4 by rw [HST.out, hnm]; rfl)
        clear HST
        go_wp2_with fail
        refine (isName_any p.name _ hsz).mono ?_
        rintro e w1 ⟨rfl, rfl⟩
        rw [hnm]
        clear et htk
        have K1 := Lib.hid (Blk.new wr 98 #[.string p.name, .int .i64 p.supply, .int .i64 p.reserve, .int .i64 p.points, .int .i64 p.group])
        have B1 := Lib.hid (HB0.out.alloc HB0.out.size (.cells #[.string p.name, .int .i64 p.supply, .int .i64 p.reserve, .int .i64 p.points, .int .i64 p.group] 98))
        have hg := K1.out.lt
        have e1 := K1.out.c5
        generalize wr.alloc _ = W at *
        generalize wr.heap.size = g at *
        cases hf : findOk (l.take k) p.name with
        | true =>
          have HF := Lib.hid (show checkGo l l 0 = 7 by rw [HST1.out]; unfold findOk at hf; rw [hf]; rfl)
          go_wp2_with fail
          go_region_held3 (fun w' => w'.cell? ⟨g, 0, none⟩ = some (.string p.name)) (go_keep) ((go_at_call 97; refine (find_take l b1 o1 c1 k p.name _ (by omega) hk (HR.out _ (chain0 B1.out (Below.refl _ _).drew))).mono ?_; rintro r w2 ⟨rfl, b2⟩; have B2 := Lib.hid (chain0 (chain0 B1.out (Below.refl _ _).drew) b2); rw [hf]; have e2 := (K1.out.drew.below' b2).c5; clear b2))
          go_wp2_with fail
          go_ret
          exact ⟨by rw [HE.out _ HF.out (by decide)]; rfl, B2.out⟩
        | false =>
          have HST2 := Lib.hid (show checkGo l l 0 = if rangeOk p then checkGo l (l.drop (k + 1)) (k + 1) else 4 by rw [HST1.out]; unfold findOk at hf; rw [hf]; rfl)
          clear HST1
          go_wp2_with fail
          go_region_held3 (fun w' => w'.cell? ⟨g, 0, none⟩ = some (.string p.name)) (go_keep) ((go_at_call 97; refine (find_take l b1 o1 c1 k p.name _ (by omega) hk (HR.out _ (chain0 B1.out (Below.refl _ _).drew))).mono ?_; rintro r w2 ⟨rfl, b2⟩; have B2 := Lib.hid (chain0 (chain0 B1.out (Below.refl _ _).drew) b2); rw [hf]; have e2 := (K1.out.drew.below' b2).c5; clear b2))
          clear e1
          cases r0 : inR p.supply 1 4 with
          | false =>
            have HF := Lib.hid (show checkGo l l 0 = 4 by rw [HST2.out, if_neg (by unfold rangeOk; rw [r0]; simp)])
            go_wp2_with (go_at_call 98; refine (between_any _ _ _ _).mono ?_; rintro e w3 ⟨rfl, rfl⟩; (first | rw [r0]))
            go_ret
            exact ⟨by rw [HE.out _ HF.out (by decide)]; rfl, B2.out⟩
          | true =>
            cases r1 : inR p.reserve 0 1000000 with
            | false =>
              have HF := Lib.hid (show checkGo l l 0 = 4 by rw [HST2.out, if_neg (by unfold rangeOk; rw [r0, r1]; simp)])
              go_wp2_with (go_at_call 98; refine (between_any _ _ _ _).mono ?_; rintro e w3 ⟨rfl, rfl⟩; (first | rw [r0] | rw [r1]))
              go_ret
              exact ⟨by rw [HE.out _ HF.out (by decide)]; rfl, B2.out⟩
            | true =>
              cases r2 : inR p.points 0 1000 with
              | false =>
                have HF := Lib.hid (show checkGo l l 0 = 4 by rw [HST2.out, if_neg (by unfold rangeOk; rw [r0, r1, r2]; simp)])
                go_wp2_with (go_at_call 98; refine (between_any _ _ _ _).mono ?_; rintro e w3 ⟨rfl, rfl⟩; (first | rw [r0] | rw [r1] | rw [r2]))
                go_ret
                exact ⟨by rw [HE.out _ HF.out (by decide)]; rfl, B2.out⟩
              | true =>
                cases r3 : inR p.group 0 4 with
                | false =>
                  have HF := Lib.hid (show checkGo l l 0 = 4 by rw [HST2.out, if_neg (by unfold rangeOk; rw [r0, r1, r2, r3]; simp)])
                  go_wp2_with (go_at_call 98; refine (between_any _ _ _ _).mono ?_; rintro e w3 ⟨rfl, rfl⟩; (first | rw [r0] | rw [r1] | rw [r2] | rw [r3]))
                  go_ret
                  exact ⟨by rw [HE.out _ HF.out (by decide)]; rfl, B2.out⟩
                | true =>
                  have HF := Lib.hid (show checkGo l (l.drop (k + 1)) (k + 1) = checkGo l l 0 by rw [HST2.out, if_pos (by unfold rangeOk; rw [r0, r1, r2, r3]; rfl)])
                  go_wp2_with (go_at_call 98; refine (between_any _ _ _ _).mono ?_; rintro e w3 ⟨rfl, rfl⟩; (first | rw [r0] | rw [r1] | rw [r2] | rw [r3]))
                  go_roundw
                  case rel => exact ⟨k + 1, by omega, by go_num, HF, B2⟩
                  case measure => simp [intOf]; omega
    · obtain rfl : k = l.length := by omega
      have hd : decide ((l.length : Int) < (l.length : Int)) = false := by simp
      have HZ : Hid (checkGo l l 0 = 0) := by
        rw [← HX.out, List.drop_length]
        rfl
      have hcz := HCZ.out HZ.out
      have HEZ := Lib.hid (HE0.out HZ.out)
      go_wp2_with fail
      refine (supply_some l b1 o1 c1 _ (by omega) (HR.out _ HB0.out) h0).mono ?_
      rintro e w1 ⟨rfl, b1⟩
      have B1 := Lib.hid (chain0 HB0.out b1)
      clear b1
      go_wp2_with fail
      refine (count_any (supP l) _).mono ?_
      rintro e w2 ⟨rfl, b2⟩
      have B2 := Lib.hid (chain0 B1.out b2)
      clear b2
      by_cases hb : 1024 < cnt (supI l) l.length
      · have HB := Lib.hid hb
        have hz : (countE (supP l) == 0) = true := by rw [hcz]; exact decide_eq_true hb
        clear hcz
        go_wp2_with fail
        go_ret
        exact ⟨by rw [HEZ.out, if_pos HB.out]; rfl, B2.out⟩
      · have HB := Lib.hid hb
        have hz : (countE (supP l) == 0) = false := by rw [hcz]; exact decide_eq_false hb
        clear hcz
        go_wp2_with fail
        go_ret
        exact ⟨by rw [HEZ.out, if_neg (by have := HB.out; omega)]; rfl, B2.out⟩
set_option maxHeartbeats 800000 in
set_option maxRecDepth 100000 in
theorem rcheck_some (l : List Prod) (b1 o1 c1 : Nat) (w : World) (h6 : l.length ≤ 6) (h0 : 0 < l.length) (hc : l.length ≤ c1) (_hm : c1 ≤ maxLen) (h1 : ProdRow w b1 o1 l) (hn : ∀ p ∈ l, p.name.size ≤ maxLen) :
    Calls Tryz.prog 64 #[.slice (some ⟨b1, o1, none⟩) l.length c1] w (CheckPost l w) := by
  have hb1 : b1 < w.heap.size := block_lt_of_cell (h1.at_ 0 h0).1
  have HN := Lib.hid fun k (h : k < l.length) => hn l[k] (List.getElem_mem h)
  have HR := Lib.hid fun w' => h1.below (w' := w') hb1
  have HE := Lib.hid fun x => checkE_err (x := x) h0 h6
  have HE0 := Lib.hid (checkE_ok h0 h6)
  have HD := Lib.hid (fun k (h : k < l.length) => checkGo_drop (l := l) (k := k) h)
  have HCZ := Lib.hid (count_zero (l := l) h6)
  have HSR := Lib.hid (supI_range (l := l))
  unfold maxLen at _hm
  clear hn h1
  have d0 : ((l.length : Int) == 0) = false := beq_eq_false_iff_ne.2 (by omega)
  have d1 : decide ((6 : Int) < (l.length : Int)) = false := by simp; omega
  go_enter Tryz.func64, Tryz.ntmps64
  go_wp2_with fail
  go_loopw [3] (fun i wr => ∃ k : Nat, k ≤ l.length ∧ i = .int .i64 (k : Int) ∧ Hid (checkGo l (l.drop k) k = checkGo l l 0) ∧ Hid (Below w.heap.size w wr)) (fun i _ => l.length - (intOf i).toNat)
  case atStart => exact ⟨0, by omega, rfl, rfl, Below.refl _ _⟩
  case round =>
    clear d0 d1
    obtain ⟨k, hk, rfl, HX, HB0⟩ := hrel
    by_cases hlt : k < l.length
    · have hd : decide ((k : Int) < (l.length : Int)) = true := by simp; omega
      have hi0 : (0 : Int) ≤ (k : Int) := by omega
      have et := (HR.out _ HB0.out).at_ k hlt
      have hbr : b1 < wr.heap.size := by have := HB0.out.size; omega
      have HST := Lib.hid (HX.out.symm.trans (HD.out k hlt))
      have hsz := HN.out k hlt
      clear HX
      have hce : Hid (∀ j (h : j < l.length), l[j].name = l[j].name) := fun _ _ => rfl
      cases hnm : nameOk l[k].name with
      | false =>
        have HF := Lib.hid (show checkGo l l 0 = 5 by rw [HST.out, hnm]; rfl)
        generalize hp : l[k] = p at *
        clear hp
        go_wp2_with fail
        refine (isName8_any p.name _ hsz).mono ?_
        rintro e w1 ⟨rfl, b1⟩
        rw [hnm]
        have B1 := Lib.hid (chain0 HB0.out b1)
        clear b1
        go_wp2_with fail
        go_ret
        exact ⟨by rw [HE.out _ HF.out (by decide)]; rfl, B1.out⟩
      | true =>
        have HST1 := Lib.hid (show checkGo l l 0 = if (findP (l.take k) l[k].name).isSome then 7 else if rangeOk l[k] then checkGo l (l.drop (k + 1)) (k + 1) else 4 by rw [HST.out, hnm]; rfl)
        clear HST hce
        have HT : Hid (∀ j (hj : j < k) (h : j < (l.take k).length), (l.take k)[j] = l[j]'(Nat.lt_trans hj hlt)) := fun j hj h => by simp
        have HTL : Hid ((l.take k).length = k) := by show (l.take k).length = k; simp; omega
        generalize hp : l[k] = p at *
        have HP := Lib.hid hp
        clear hp
        go_wp2_with fail
        refine (isName8_any p.name _ hsz).mono ?_
        rintro e w1 ⟨rfl, b1⟩
        rw [hnm]
        have B1 := Lib.hid (chain0 HB0.out b1)
        clear b1 et
        go_wp2_with fail
        go_loopw [4] (fun i wx => ∃ j : Nat, j ≤ k ∧ i = .int .i64 (j : Int) ∧ Hid (findFrom p.name ((l.take k).drop j) j = findP (l.take k) p.name) ∧ Hid (Below w.heap.size w wx)) (fun i _ => k - (intOf i).toNat)
        case atStart => exact ⟨0, by omega, rfl, rfl, B1.out⟩
        case round =>
          obtain ⟨j, hj, rfl, HY, HB1⟩ := hrel
          have et := (HR.out _ HB1.out).at_ k hlt
          rw [HP.out] at et
          have hbx : b1 < wr.heap.size := by have := HB1.out.size; omega
          by_cases hjl : j < k
          · have hdj : decide ((j : Int) < (k : Int)) = true := by simp; omega
            have hj0 : (0 : Int) ≤ (j : Int) := by omega
            have hjn : j < l.length := by omega
            have ej := (HR.out _ HB1.out).at_ j hjn
            have hst := findFrom_drop (name := p.name) (l := l.take k) (k := j) (by rw [HTL.out]; exact hjl) j
            rw [HT.out j hjl] at hst
            generalize l[j] = q at *
            cases he : eqB q.name p.name with
            | true =>
              rw [he, if_pos rfl] at hst
              have HF0 : Hid (findP (l.take k) p.name = some j) := HY.out.symm.trans hst
              have HF := Lib.hid (show checkGo l l 0 = 7 by rw [HST1.out, HF0.out]; rfl)
              have he2 : (q.name.toList == p.name.toList) = true := he
              clear hst he
              go_wp2_with fail
              go_quiet (fail)
              go_wp2_with fail
              go_ret
              exact ⟨by rw [HE.out _ HF.out (by decide)]; rfl, chain0 HB1.out (drewN_below _ _)⟩
            | false =>
              rw [he, if_neg (by simp)] at hst
              have HF : Hid (findFrom p.name ((l.take k).drop (j + 1)) (j + 1) = findP (l.take k) p.name) := hst.symm.trans HY.out
              have he2 : (q.name.toList == p.name.toList) = false := he
              clear hst he
              go_wp2_with fail
              go_quiet (fail)
              go_wp2_with fail
              go_roundw
              case rel => exact ⟨j + 1, by omega, by go_num, HF, chain0 HB1.out (drewN_below _ _)⟩
              case measure => simp [intOf]; omega
          · obtain rfl : j = k := by omega
            have hdj : decide ((j : Int) < (j : Int)) = false := by simp
            have hf : findP (l.take j) p.name = none := by
              rw [← HY.out]
              have := findFrom_end (name := p.name) (l := l.take j) j
              rw [HTL.out] at this
              exact this
            have HST2 := Lib.hid (show checkGo l l 0 = if rangeOk p then checkGo l (l.drop (j + 1)) (j + 1) else 4 by rw [HST1.out, hf]; rfl)
            clear HST1 hf HY
            by_cases q0 : p.supply < 1
            · have t0 : decide (p.supply < (1 : Int)) = true := decide_eq_true q0
              have HF := Lib.hid (show checkGo l l 0 = 4 by rw [HST2.out, if_neg (fun h => by have := rangeOk_iff.1 h; omega)])
              clear q0
              go_wp2_with fail
              go_ret
              exact ⟨by rw [HE.out _ HF.out (by decide)]; rfl, HB1.out.alloc HB1.out.size _⟩
            · have t0 : decide (p.supply < (1 : Int)) = false := decide_eq_false q0
              by_cases q1 : 4 < p.supply
              · have t1 : decide ((4 : Int) < p.supply) = true := decide_eq_true q1
                have HF := Lib.hid (show checkGo l l 0 = 4 by rw [HST2.out, if_neg (fun h => by have := rangeOk_iff.1 h; omega)])
                clear q0
                clear q1
                go_wp2_with fail
                go_ret
                exact ⟨by rw [HE.out _ HF.out (by decide)]; rfl, HB1.out.alloc HB1.out.size _⟩
              · have t1 : decide ((4 : Int) < p.supply) = false := decide_eq_false q1
                by_cases q2 : p.reserve < 0
                · have t2 : decide (p.reserve < (0 : Int)) = true := decide_eq_true q2
                  have HF := Lib.hid (show checkGo l l 0 = 4 by rw [HST2.out, if_neg (fun h => by have := rangeOk_iff.1 h; omega)])
                  clear q0
                  clear q1
                  clear q2
                  go_wp2_with fail
                  go_ret
                  exact ⟨by rw [HE.out _ HF.out (by decide)]; rfl, HB1.out.alloc HB1.out.size _⟩
                · have t2 : decide (p.reserve < (0 : Int)) = false := decide_eq_false q2
                  by_cases q3 : 1000000 < p.reserve
                  · have t3 : decide ((1000000 : Int) < p.reserve) = true := decide_eq_true q3
                    have HF := Lib.hid (show checkGo l l 0 = 4 by rw [HST2.out, if_neg (fun h => by have := rangeOk_iff.1 h; omega)])
                    clear q0
                    clear q1
                    clear q2
                    clear q3
                    go_wp2_with fail
                    go_ret
                    exact ⟨by rw [HE.out _ HF.out (by decide)]; rfl, HB1.out.alloc HB1.out.size _⟩
                  · have t3 : decide ((1000000 : Int) < p.reserve) = false := decide_eq_false q3
                    by_cases q4 : p.points < 0
                    · have t4 : decide (p.points < (0 : Int)) = true := decide_eq_true q4
                      have HF := Lib.hid (show checkGo l l 0 = 4 by rw [HST2.out, if_neg (fun h => by have := rangeOk_iff.1 h; omega)])
                      clear q0
                      clear q1
                      clear q2
                      clear q3
                      clear q4
                      go_wp2_with fail
                      go_ret
                      exact ⟨by rw [HE.out _ HF.out (by decide)]; rfl, HB1.out.alloc HB1.out.size _⟩
                    · have t4 : decide (p.points < (0 : Int)) = false := decide_eq_false q4
                      by_cases q5 : 1000 < p.points
                      · have t5 : decide ((1000 : Int) < p.points) = true := decide_eq_true q5
                        have HF := Lib.hid (show checkGo l l 0 = 4 by rw [HST2.out, if_neg (fun h => by have := rangeOk_iff.1 h; omega)])
                        clear q0
                        clear q1
                        clear q2
                        clear q3
                        clear q4
                        clear q5
                        go_wp2_with fail
                        go_ret
                        exact ⟨by rw [HE.out _ HF.out (by decide)]; rfl, HB1.out.alloc HB1.out.size _⟩
                      · have t5 : decide ((1000 : Int) < p.points) = false := decide_eq_false q5
                        by_cases q6 : p.group < 0
                        · have t6 : decide (p.group < (0 : Int)) = true := decide_eq_true q6
                          have HF := Lib.hid (show checkGo l l 0 = 4 by rw [HST2.out, if_neg (fun h => by have := rangeOk_iff.1 h; omega)])
                          clear q0
                          clear q1
                          clear q2
                          clear q3
                          clear q4
                          clear q5
                          clear q6
                          go_wp2_with fail
                          go_ret
                          exact ⟨by rw [HE.out _ HF.out (by decide)]; rfl, HB1.out.alloc HB1.out.size _⟩
                        · have t6 : decide (p.group < (0 : Int)) = false := decide_eq_false q6
                          by_cases q7 : 4 < p.group
                          · have t7 : decide ((4 : Int) < p.group) = true := decide_eq_true q7
                            have HF := Lib.hid (show checkGo l l 0 = 4 by rw [HST2.out, if_neg (fun h => by have := rangeOk_iff.1 h; omega)])
                            clear q0
                            clear q1
                            clear q2
                            clear q3
                            clear q4
                            clear q5
                            clear q6
                            clear q7
                            go_wp2_with fail
                            go_ret
                            exact ⟨by rw [HE.out _ HF.out (by decide)]; rfl, HB1.out.alloc HB1.out.size _⟩
                          · have t7 : decide ((4 : Int) < p.group) = false := decide_eq_false q7
                            have HF := Lib.hid (show checkGo l (l.drop (j + 1)) (j + 1) = checkGo l l 0 by rw [HST2.out, if_pos (rangeOk_iff.2 (by omega))])
                            clear q0
                            clear q1
                            clear q2
                            clear q3
                            clear q4
                            clear q5
                            clear q6
                            clear q7
                            go_wp2_with fail
                            go_roundw
                            case rel => exact ⟨j + 1, by omega, by go_num, HF, HB1.out.alloc HB1.out.size _⟩
                            case measure => simp [intOf]; omega
    · obtain rfl : k = l.length := by omega
      have hd : decide ((l.length : Int) < (l.length : Int)) = false := by simp
      have HZ : Hid (checkGo l l 0 = 0) := by
        rw [← HX.out, List.drop_length]
        rfl
      have HEZ := Lib.hid (HE0.out HZ.out)
      have HL := Lib.hid (cnt_le (b := supI l) (fun i _ => HSR.out HZ.out i))
      have HU : Hid (∀ k, cnt (supI l) (k + 1) = cnt (supI l) k * (supI l k + 1)) := fun _ => rfl
      have HRW := Lib.hid (HR.out _ HB0.out)
      have hbr : b1 < wr.heap.size := by have := HB0.out.size; omega
      go_wp2_with fail
      go_loop [7, 6] (fun i n => ∃ k : Nat, k ≤ l.length ∧ i = .int .i64 (k : Int) ∧ n = .int .i64 (cnt (supI l) k)) (fun i _ => l.length - (intOf i).toNat)
      case atStart => exact ⟨0, by omega, rfl, rfl⟩
      case round =>
        obtain ⟨k, hk, rfl, rfl⟩ := hrel
        by_cases hlt : k < l.length
        · have hdk : decide ((k : Int) < (l.length : Int)) = true := by simp; omega
          have hi0 : (0 : Int) ≤ (k : Int) := by omega
          have et := HRW.out.at_ k hlt
          have hq := supI_at l k hlt
          have hl1 := HL.out k (by omega)
          have hl2 := HL.out (k + 1) (by omega)
          have hp1 := HSR.out HZ.out k
          have hm1 : (5 : Int) ^ k ≤ 15625 := by
            obtain h | h | h | h | h | h : k = 0 ∨ k = 1 ∨ k = 2 ∨ k = 3 ∨ k = 4 ∨ k = 5 := by omega
            all_goals subst h; decide
          have hm2 : (5 : Int) ^ (k + 1) ≤ 15625 := by
            obtain h | h | h | h | h | h : k = 0 ∨ k = 1 ∨ k = 2 ∨ k = 3 ∨ k = 4 ∨ k = 5 := by omega
            all_goals subst h; decide
          have wr0 : ∀ q : Int, 1 ≤ q → q ≤ 15625 → IntKind.i64.wrap q = q := fun q _ _ => IntWalk.i64_in q (by omega)
          have wr1 := wr0 (supI l k + 1) (by omega) (by omega)
          have wr2 := wr0 (cnt (supI l) (k + 1)) hl2.1 (Int.le_trans hl2.2 hm2)
          clear wr0
          rw [HU.out k] at wr2
          clear hl1 hl2 hm1 hm2 hp1
          rw [hq] at wr1 wr2
          have HU2 := Lib.hid ((HU.out k).trans (by rw [hq]))
          clear hq
          generalize l[k] = p at *
          generalize cnt (supI l) k = cn at *
          go_wp2_with fail
          go_round
          case rel => exact ⟨k + 1, by omega, by go_num, by rw [HU2.out]; try rfl⟩
          case measure => simp [intOf]; omega
        · obtain rfl : k = l.length := by omega
          by_cases hb : 1024 < cnt (supI l) l.length
          · have HB := Lib.hid hb
            have hz : decide ((1024 : Int) < cnt (supI l) l.length) = true := decide_eq_true hb
            go_wp2_with fail
            go_ret
            exact ⟨by rw [HEZ.out, if_pos HB.out]; rfl, HB0.out⟩
          · have HB := Lib.hid hb
            have hz : decide ((1024 : Int) < cnt (supI l) l.length) = false := decide_eq_false hb
            go_wp2_with fail
            go_ret
            exact ⟨by rw [HEZ.out, if_neg (by have := HB.out; omega)]; rfl, HB0.out⟩
theorem check_any (l : List Prod) (v : Value) (w : World) (hl : l.length ≤ 5000) (h : PS w v l) (hn : ∀ p ∈ l, p.name.size ≤ maxLen) : Calls Tryz.prog 73 #[v] w (CheckPost l w) := by
  obtain ⟨A, c, rfl, h1, h2, ha⟩ := ps_cases h
  by_cases h6 : 6 < l.length
  · exact check_long l A c w hl h6
  · cases l with
    | nil => exact check_empty A c w
    | cons p l =>
      obtain ⟨b, o, rfl, _, r⟩ := ha (by simp)
      exact check_some _ b o c w (by omega) (by simp) h1 h2 r hn
theorem rcheck_any (l : List Prod) (v : Value) (w : World) (hl : l.length ≤ 5000) (h : PS w v l) (hn : ∀ p ∈ l, p.name.size ≤ maxLen) : Calls Tryz.prog 64 #[v] w (CheckPost l w) := by
  obtain ⟨A, c, rfl, h1, h2, ha⟩ := ps_cases h
  by_cases h6 : 6 < l.length
  · exact rcheck_long l A c w hl h6
  · cases l with
    | nil => exact rcheck_empty A c w
    | cons p l =>
      obtain ⟨b, o, rfl, _, r⟩ := ha (by simp)
      exact rcheck_some _ b o c w (by omega) (by simp) h1 h2 r hn
end Cat
end Go.Proofs.YtaikmgnpfbnjjaaGreatDoor
namespace Go.Proofs.YtaikmgnpfbnjjaaGreatDoor
open Go.ChangeShapes Go.WideShapes Go.ChangeAt Go.RowKit
set_option linter.unusedVariables false
set_option linter.unusedSimpArgs false
namespace Cat
open Lex
/-- the quantities of the first k products times their weights -/
def sw (f : Prod → Int) (b : Nat → Int) (l : List Prod) : Nat → Int
  | 0 => 0
  | k + 1 => sw f b l k + b k * f (l.getD k Prod.none)
end Cat
end Go.Proofs.YtaikmgnpfbnjjaaGreatDoor
namespace Go.Proofs.YtaikmgnpfbnjjaaGreatDoor
open Go.ChangeShapes Go.WideShapes Go.ChangeAt Go.RowKit
set_option linter.unusedVariables false
set_option linter.unusedSimpArgs false
namespace Cat
open Lex
theorem Blk.c7 {w : World} {g : Nat} {t : TypeId} {a b c d e f h : Value} (k : Blk w g t #[a, b, c, d, e, f, h]) :
    w.cell? ⟨g, 0, none⟩ = some a ∧ w.cell? ⟨g, 1, none⟩ = some b ∧ w.cell? ⟨g, 2, none⟩ = some c ∧ w.cell? ⟨g, 3, none⟩ = some d ∧ w.cell? ⟨g, 4, none⟩ = some e ∧ w.cell? ⟨g, 5, none⟩ = some f ∧ w.cell? ⟨g, 6, none⟩ = some h :=
  ⟨k.cell 0, k.cell 1, k.cell 2, k.cell 3, k.cell 4, k.cell 5, k.cell 6⟩
end Cat
end Go.Proofs.YtaikmgnpfbnjjaaGreatDoor
namespace Go.Proofs.YtaikmgnpfbnjjaaGreatDoor
open Go.ChangeShapes Go.WideShapes Go.ChangeAt Go.RowKit
set_option linter.unusedVariables false
set_option linter.unusedSimpArgs false
namespace Cat
open Lex
end Cat
end Go.Proofs.YtaikmgnpfbnjjaaGreatDoor
namespace Go.Proofs.YtaikmgnpfbnjjaaGreatDoor
open Go.ChangeShapes Go.WideShapes Go.ChangeAt Go.RowKit
set_option linter.unusedVariables false
set_option linter.unusedSimpArgs false
namespace Cat
open Lex
end Cat
end Go.Proofs.YtaikmgnpfbnjjaaGreatDoor
namespace Go.Proofs.YtaikmgnpfbnjjaaGreatDoor
open Go.ChangeShapes Go.WideShapes Go.ChangeAt Go.RowKit
set_option linter.unusedVariables false
set_option linter.unusedSimpArgs false
namespace Cat
open Lex
/-- no units from place n on -/
def tailB (p : Nat → Int) (n : Nat) : Bool := (List.range 6).all fun i => decide (i < n) || p i == 0
theorem tailB_true {p : Nat → Int} {n : Nat} (h : ∀ j, j < 6 → j < n ∨ p j = 0) : tailB p n = true := by
  unfold tailB
  rw [List.all_eq_true]
  intro i hi
  simpa using h i (List.mem_range.1 hi)
theorem tailB_iff {p : Nat → Int} {n : Nat} : tailB p n = true ↔ ∀ j, j < 6 → j < n ∨ p j = 0 := by
  refine ⟨fun h j hj => ?_, tailB_true⟩
  unfold tailB at h
  rw [List.all_eq_true] at h
  simpa using h j (List.mem_range.2 hj)
theorem tailB_false {p : Nat → Int} {n : Nat} (k : Nat) (hk : k < 6) (h1 : ¬ k < n) (h2 : p k ≠ 0) : tailB p n = false := by
  cases h : tailB p n with
  | false => rfl
  | true => rcases tailB_iff.1 h k hk with h | h <;> contradiction
def fitsB (p : Nat → Int) (n : Nat) : Bool := validB p && tailB p n
theorem fits_no (n : Nat) (A : Option Addr) (c : Nat) (p : Nat → Int) (w : World) (hn : n ≤ 5000) (hv : validB p = false) : Calls Tryz.prog 77 #[.slice A n c, .agg (arr p)] w fun e w' => e = .returned (.bool (fitsB p n)) ∧ Below w.heap.size w w' := by
  have HF : Hid (fitsB p n = false) := by show fitsB p n = false; unfold fitsB; rw [hv]; rfl
  have CB := Lib.hid (fun w => bcheck_no p w hv)
  unfold arr at CB
  clear hv
  unfold arr
  go_enter Tryz.func77, Tryz.ntmps77
  go_wp2_with fail
  refine (CB.out _).mono ?_
  rintro e w1 ⟨rfl, b1⟩
  have B1 := Lib.hid (chain1 (Below.refl _ _) b1)
  clear b1
  go_wp2_with fail
  go_ret
  exact ⟨by rw [HF.out]; rfl, B1.out⟩
theorem fits_yes (n : Nat) (A : Option Addr) (c : Nat) (p : Nat → Int) (w : World) (hn : n ≤ 5000) (hv : validB p = true) : Calls Tryz.prog 77 #[.slice A n c, .agg (arr p)] w fun e w' => e = .returned (.bool (fitsB p n)) ∧ Below w.heap.size w w' := by
  have HF : Hid (∀ b, tailB p n = b → fitsB p n = b) := fun b h => by unfold fitsB; rw [hv, h]; rfl
  have CB := Lib.hid (fun w => bcheck_yes p w hv)
  have HK := Lib.hid (fun w1 (k : Below (w.alloc (.cells (arr p) 23)).heap.size (w.alloc (.cells (arr p) 23)) w1) => (box_new w p 23).below k (by go_size))
  have HI := Lib.hid (idx27 p)
  unfold arr at CB HI
  clear hv
  unfold arr
  go_enter Tryz.func77, Tryz.ntmps77
  go_wp2_with fail
  refine (CB.out _).mono ?_
  rintro e w1 ⟨rfl, d1⟩
  have K1 := Lib.hid (HK.out _ d1)
  have c1 := K1.out.cells
  have g1 := K1.out.lt
  have B1 := Lib.hid (chain1 (Below.refl _ _) d1)
  clear d1
  go_wp2_with fail
  clear c1 g1
  go_loop [11] (fun i => ∃ k : Nat, k ≤ 6 ∧ i = .int .i64 (k : Int) ∧ Hid (∀ j, j < k → j < n ∨ p j = 0)) (fun i => 6 - (intOf i).toNat)
  case atStart => exact ⟨0, by omega, rfl, fun j hj => by omega⟩
  case round =>
    obtain ⟨k, hk, rfl, HA⟩ := hrel
    by_cases hlt : k < 6
    · have hi' := HI.out k hlt
      have hd : decide ((k : Int) < 6) = true := by simp; omega
      have hi0 : (0 : Int) ≤ (k : Int) := by omega
      by_cases hkn : k < n
      · have d1 : decide (n ≤ k) = false := by simp; omega
        have HA2 : Hid (∀ j, j < k + 1 → j < n ∨ p j = 0) := fun j hj => by
          by_cases e : j = k
          · subst e; exact .inl hkn
          · exact HA.out j (by omega)
        go_wp2_with fail
        go_round
        case rel => exact ⟨k + 1, by omega, by go_num, HA2⟩
        case measure => simp [intOf]; omega
      · have d1 : decide (n ≤ k) = true := by simp; omega
        by_cases h0 : p k = 0
        · have q0 : (p k != 0) = false := by simpa using h0
          have HA2 : Hid (∀ j, j < k + 1 → j < n ∨ p j = 0) := fun j hj => by
            by_cases e : j = k
            · subst e; exact .inr h0
            · exact HA.out j (by omega)
          clear h0
          go_wp2_with fail
          go_round
          case rel => exact ⟨k + 1, by omega, by go_num, HA2⟩
          case measure => simp [intOf]; omega
        · have q0 : (p k != 0) = true := by simpa using h0
          have HR := Lib.hid (HF.out false (tailB_false k hlt hkn h0))
          clear h0
          go_wp2_with fail
          go_ret
          exact ⟨by rw [HR.out]; rfl, B1.out⟩
    · obtain rfl : k = 6 := by omega
      have hd : decide (((6 : Nat) : Int) < 6) = false := by simp
      have HR := Lib.hid (HF.out true (tailB_true HA.out))
      go_wp2_with fail
      go_ret
      exact ⟨by rw [HR.out]; rfl, B1.out⟩
theorem fits_any (n : Nat) (A : Option Addr) (c : Nat) (p : Nat → Int) (w : World) (hn : n ≤ 5000) : Calls Tryz.prog 77 #[.slice A n c, .agg (arr p)] w fun e w' => e = .returned (.bool (fitsB p n)) ∧ Below w.heap.size w w' := by
  cases hv : validB p with
  | false => exact fits_no n A c p w hn hv
  | true => exact fits_yes n A c p w hn hv
def rfitsB (p : Nat → Int) (l : List Prod) : Bool := checkE l == 0 && fitsB p l.length
end Cat
end Go.Proofs.YtaikmgnpfbnjjaaGreatDoor
