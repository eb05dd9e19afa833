/- Contracts of Check of both. Printed by gen_ros.py. Plain numbers: the register of CRC-32C, by bits, by four bits, by bytes; FNV-1a. Contracts of the checksum's small functions. Contracts of Update and CRC. Contracts of Hash, low, bytes. Contracts of Chain, Seal and Open and their references. -/
import Derived.Test.YtaikmgnpfbnjjaaGreatDoorPu13
import Derived.Test.YtaikmgnpfbnjjaaGreatDoorRows
import Derived.Test.YtaikmgnpfbnjjaaGreatDoorPu01
import Derived.Laws.BitsAllLaws
import Derived.Laws.BytesArg
import Derived.Laws.Concat
namespace Go.Proofs.YtaikmgnpfbnjjaaGreatDoor.Ros
open Go.ChangeShapes Go.WideShapes Go.ChangeAt Go.RowKit Gn Cat Lex
set_option linter.unusedVariables false
set_option linter.unusedSimpArgs false
abbrev CheckPost (l : List Bid) (w : World) : Ending → World → Prop := fun e w' => e = .returned (.int .i64 (rosE l)) ∧ Below w.heap.size w w'
theorem check_empty (A : Option Addr) (c : Nat) (w : World) : Calls Tryz.prog 74 #[.slice A 0 c] w (CheckPost [] w) := by
  have HE : Hid (rosE [] = 1) := rfl
  go_enter Tryz.func74, Tryz.ntmps74
  go_wp2_with fail
  go_ret
  exact ⟨by rw [HE.out]; rfl, Below.refl _ _⟩
theorem check_long (l : List Bid) (A : Option Addr) (c : Nat) (w : World) (hl : l.length ≤ 5000) (h : 8 < l.length) : Calls Tryz.prog 74 #[.slice A l.length c] w (CheckPost l w) := by
  have HE := Lib.hid (show rosE l = 3 by unfold rosE; simp [h, show ¬ l.length = 0 by omega])
  have d0 : ((l.length : Int) == 0) = false := beq_eq_false_iff_ne.2 (by omega)
  have d1 : decide ((8 : Int) < (l.length : Int)) = true := by simp; omega
  go_enter Tryz.func74, Tryz.ntmps74
  go_wp2_with fail
  go_ret
  exact ⟨by rw [HE.out]; rfl, Below.refl _ _⟩
theorem rcheck_empty (A : Option Addr) (c : Nat) (w : World) : Calls Tryz.prog 65 #[.slice A 0 c] w (CheckPost [] w) := by
  have HE : Hid (rosE [] = 1) := rfl
  go_enter Tryz.func65, Tryz.ntmps65
  go_wp2_with fail
  go_ret
  exact ⟨by rw [HE.out]; rfl, Below.refl _ _⟩
theorem rcheck_long (l : List Bid) (A : Option Addr) (c : Nat) (w : World) (hl : l.length ≤ 5000) (h : 8 < l.length) : Calls Tryz.prog 65 #[.slice A l.length c] w (CheckPost l w) := by
  have HE := Lib.hid (show rosE l = 3 by unfold rosE; simp [h, show ¬ l.length = 0 by omega])
  have d0 : ((l.length : Int) == 0) = false := beq_eq_false_iff_ne.2 (by omega)
  have d1 : decide ((8 : Int) < (l.length : Int)) = true := by simp; omega
  go_enter Tryz.func65, Tryz.ntmps65
  go_wp2_with fail
  go_ret
  exact ⟨by rw [HE.out]; rfl, Below.refl _ _⟩
set_option maxHeartbeats 800000 in
set_option maxRecDepth 100000 in
theorem check_some (l : List Bid) (b1 o1 c1 : Nat) (w : World) (h8 : l.length ≤ 8) (h0 : 0 < l.length) (hc : l.length ≤ c1) (_hm : c1 ≤ maxLen) (hb1 : b1 < w.heap.size) (h1 : BidRow w b1 o1 l) (hn : ∀ p ∈ l, p.name.size ≤ maxLen) :
    Calls Tryz.prog 74 #[.slice (some ⟨b1, o1, none⟩) l.length c1] w (CheckPost l w) := by
  have HN := Lib.hid fun k (h : k < l.length) => hn l[k] (List.getElem_mem h)
  have HR := Lib.hid fun w' => h1.below (w' := w') hb1
  have HE := Lib.hid (rosE_mid h0 h8)
  have HD := Lib.hid (fun k (h : k < l.length) => rosGo_drop (l := l) (k := k) h)
  unfold maxLen at _hm
  clear hn h1
  have d0 : ((l.length : Int) == 0) = false := beq_eq_false_iff_ne.2 (by omega)
  have d1 : decide ((8 : Int) < (l.length : Int)) = false := by simp; omega
  go_enter Tryz.func74, Tryz.ntmps74
  go_wp2_with fail
  go_loopw [17] (fun i wr => ∃ k : Nat, k ≤ l.length ∧ i = .int .i64 (k : Int) ∧ Hid (rosGo l (l.drop k) k = rosGo l l 0) ∧ Hid (Below w.heap.size w wr)) (fun i _ => l.length - (intOf i).toNat)
  case atStart => exact ⟨0, by omega, rfl, rfl, Below.refl _ _⟩
  case round =>
    clear d0 d1
    obtain ⟨k, hk, rfl, HX, HB0⟩ := hrel
    by_cases hlt : k < l.length
    · have hd : decide ((k : Int) < (l.length : Int)) = true := by simp; omega
      have hi0 : (0 : Int) ≤ (k : Int) := by omega
      have et := BidRow.at_ (HR.out _ HB0.out) k hlt
      have hbr : b1 < wr.heap.size := by have := HB0.out.size; omega
      have HST := Lib.hid (HX.out.symm.trans (HD.out k hlt))
      have hsz := HN.out k hlt
      clear HX
      have htk := HR.out
      generalize hp : l[k] = p at *
      have HP := Lib.hid hp
      clear hp
      have hc1 : 0 < c1 := by omega
      have hkc : k ≤ c1 := by omega
      cases hnm : nameOk p.name with
      | false =>
        have HF := Lib.hid (show rosGo l l 0 = 5 by rw [HST.out, hnm]; rfl)
        go_wp2_with fail
        refine (isName_any p.name _ hsz).mono ?_
        rintro e w1 ⟨rfl, rfl⟩
        rw [hnm]
        go_wp2_with fail
        go_ret
        exact ⟨by rw [HE.out, HF.out]; rfl, HB0.out.alloc HB0.out.size _⟩
      | true =>
        have HST1 := Lib.hid (show rosGo l l 0 = if (findB (l.take k) p.name).isSome then 7 else if bidOk p then rosGo l (l.drop (k + 1)) (k + 1) else 4 by rw [HST.out, hnm]; rfl)
        clear HST
        go_wp2_with fail
        refine (isName_any p.name _ hsz).mono ?_
        rintro e w1 ⟨rfl, rfl⟩
        rw [hnm]
        clear et htk
        have K1 := Lib.hid (Blk.new wr 67 #[.string p.name, .int .i64 p.cls, .int .i64 p.budget, .int .i64 p.points])
        have B1 := Lib.hid (HB0.out.alloc HB0.out.size (.cells #[.string p.name, .int .i64 p.cls, .int .i64 p.budget, .int .i64 p.points] 67))
        have hg := K1.out.lt
        have e1 := K1.out.c4
        generalize wr.alloc _ = W at *
        generalize wr.heap.size = g at *
        cases hf : findOk (l.take k) p.name with
        | true =>
          have HF := Lib.hid (show rosGo l l 0 = 7 by rw [HST1.out]; unfold findOk at hf; rw [hf]; rfl)
          go_wp2_with fail
          go_region_held3 (fun w' => w'.cell? ⟨g, 0, none⟩ = some (.string p.name)) (go_keep) ((go_at_call 87; refine (find_take l b1 o1 c1 k p.name _ (by omega) hk (Nat.lt_of_lt_of_le hb1 (chain0 B1.out (Below.refl _ _).drew).size) (HR.out _ (chain0 B1.out (Below.refl _ _).drew))).mono ?_; rintro r w2 ⟨rfl, b2⟩; have B2 := Lib.hid (chain0 (chain0 B1.out (Below.refl _ _).drew) b2); rw [hf]; have e2 := (K1.out.drew.below' b2).c4; clear b2))
          go_wp2_with fail
          go_ret
          exact ⟨by rw [HE.out, HF.out]; rfl, B2.out⟩
        | false =>
          have HST2 := Lib.hid (show rosGo l l 0 = if bidOk p then rosGo l (l.drop (k + 1)) (k + 1) else 4 by rw [HST1.out]; unfold findOk at hf; rw [hf]; rfl)
          clear HST1
          go_wp2_with fail
          go_region_held3 (fun w' => w'.cell? ⟨g, 0, none⟩ = some (.string p.name)) (go_keep) ((go_at_call 87; refine (find_take l b1 o1 c1 k p.name _ (by omega) hk (Nat.lt_of_lt_of_le hb1 (chain0 B1.out (Below.refl _ _).drew).size) (HR.out _ (chain0 B1.out (Below.refl _ _).drew))).mono ?_; rintro r w2 ⟨rfl, b2⟩; have B2 := Lib.hid (chain0 (chain0 B1.out (Below.refl _ _).drew) b2); rw [hf]; have e2 := (K1.out.drew.below' b2).c4; clear b2))
          clear e1
          by_cases q0 : p.cls < 0
          · have t0 : decide (p.cls < (0 : Int)) = true := decide_eq_true q0
            have HF := Lib.hid (show rosGo l l 0 = 4 by rw [HST2.out, if_neg (fun h => by have := bidOk_iff.1 h; omega)])
            clear q0
            go_wp2_with fail
            go_ret
            exact ⟨by rw [HE.out, HF.out]; rfl, B2.out⟩
          · have t0 : decide (p.cls < (0 : Int)) = false := decide_eq_false q0
            by_cases q1 : 4 < p.cls
            · have t1 : decide ((4 : Int) < p.cls) = true := decide_eq_true q1
              have HF := Lib.hid (show rosGo l l 0 = 4 by rw [HST2.out, if_neg (fun h => by have := bidOk_iff.1 h; omega)])
              clear q0
              clear q1
              go_wp2_with fail
              go_ret
              exact ⟨by rw [HE.out, HF.out]; rfl, B2.out⟩
            · have t1 : decide ((4 : Int) < p.cls) = false := decide_eq_false q1
              by_cases q2 : p.budget < 0
              · have t2 : decide (p.budget < (0 : Int)) = true := decide_eq_true q2
                have HF := Lib.hid (show rosGo l l 0 = 4 by rw [HST2.out, if_neg (fun h => by have := bidOk_iff.1 h; omega)])
                clear q0
                clear q1
                clear q2
                go_wp2_with fail
                go_ret
                exact ⟨by rw [HE.out, HF.out]; rfl, B2.out⟩
              · have t2 : decide (p.budget < (0 : Int)) = false := decide_eq_false q2
                by_cases q3 : 1000000 < p.budget
                · have t3 : decide ((1000000 : Int) < p.budget) = true := decide_eq_true q3
                  have HF := Lib.hid (show rosGo l l 0 = 4 by rw [HST2.out, if_neg (fun h => by have := bidOk_iff.1 h; omega)])
                  clear q0
                  clear q1
                  clear q2
                  clear q3
                  go_wp2_with fail
                  go_ret
                  exact ⟨by rw [HE.out, HF.out]; rfl, B2.out⟩
                · have t3 : decide ((1000000 : Int) < p.budget) = false := decide_eq_false q3
                  by_cases q4 : p.points < 0
                  · have t4 : decide (p.points < (0 : Int)) = true := decide_eq_true q4
                    have HF := Lib.hid (show rosGo l l 0 = 4 by rw [HST2.out, if_neg (fun h => by have := bidOk_iff.1 h; omega)])
                    clear q0
                    clear q1
                    clear q2
                    clear q3
                    clear q4
                    go_wp2_with fail
                    go_ret
                    exact ⟨by rw [HE.out, HF.out]; rfl, B2.out⟩
                  · have t4 : decide (p.points < (0 : Int)) = false := decide_eq_false q4
                    by_cases q5 : 24000 < p.points
                    · have t5 : decide ((24000 : Int) < p.points) = true := decide_eq_true q5
                      have HF := Lib.hid (show rosGo l l 0 = 4 by rw [HST2.out, if_neg (fun h => by have := bidOk_iff.1 h; omega)])
                      clear q0
                      clear q1
                      clear q2
                      clear q3
                      clear q4
                      clear q5
                      go_wp2_with fail
                      go_ret
                      exact ⟨by rw [HE.out, HF.out]; rfl, B2.out⟩
                    · have t5 : decide ((24000 : Int) < p.points) = false := decide_eq_false q5
                      have HF := Lib.hid (show rosGo l (l.drop (k + 1)) (k + 1) = rosGo l l 0 by rw [HST2.out, if_pos (bidOk_iff.2 (by omega))])
                      clear q0
                      clear q1
                      clear q2
                      clear q3
                      clear q4
                      clear q5
                      go_wp2_with fail
                      go_roundw
                      case rel => exact ⟨k + 1, by omega, by go_num, HF, B2.out⟩
                      case measure => simp [intOf]; omega
    · obtain rfl : k = l.length := by omega
      have hd : decide ((l.length : Int) < (l.length : Int)) = false := by simp
      have HZ : Hid (rosGo l l 0 = 0) := by
        rw [← HX.out, List.drop_length]
        rfl
      go_wp2_with fail
      go_ret
      exact ⟨by rw [HE.out, HZ.out]; rfl, HB0.out⟩
set_option maxHeartbeats 800000 in
set_option maxRecDepth 100000 in
theorem rcheck_some (l : List Bid) (b1 o1 c1 : Nat) (w : World) (h8 : l.length ≤ 8) (h0 : 0 < l.length) (hc : l.length ≤ c1) (_hm : c1 ≤ maxLen) (hb1 : b1 < w.heap.size) (h1 : BidRow w b1 o1 l) (hn : ∀ p ∈ l, p.name.size ≤ maxLen) :
    Calls Tryz.prog 65 #[.slice (some ⟨b1, o1, none⟩) l.length c1] w (CheckPost l w) := by
  have HN := Lib.hid fun k (h : k < l.length) => hn l[k] (List.getElem_mem h)
  have HR := Lib.hid fun w' => h1.below (w' := w') hb1
  have HE := Lib.hid (rosE_mid h0 h8)
  have HD := Lib.hid (fun k (h : k < l.length) => rosGo_drop (l := l) (k := k) h)
  unfold maxLen at _hm
  clear hn h1
  have d0 : ((l.length : Int) == 0) = false := beq_eq_false_iff_ne.2 (by omega)
  have d1 : decide ((8 : Int) < (l.length : Int)) = false := by simp; omega
  go_enter Tryz.func65, Tryz.ntmps65
  go_wp2_with fail
  go_loopw [3] (fun i wr => ∃ k : Nat, k ≤ l.length ∧ i = .int .i64 (k : Int) ∧ Hid (rosGo l (l.drop k) k = rosGo l l 0) ∧ Hid (Below w.heap.size w wr)) (fun i _ => l.length - (intOf i).toNat)
  case atStart => exact ⟨0, by omega, rfl, rfl, Below.refl _ _⟩
  case round =>
    clear d0 d1
    obtain ⟨k, hk, rfl, HX, HB0⟩ := hrel
    by_cases hlt : k < l.length
    · have hd : decide ((k : Int) < (l.length : Int)) = true := by simp; omega
      have hi0 : (0 : Int) ≤ (k : Int) := by omega
      have et := BidRow.at_ (HR.out _ HB0.out) k hlt
      have hbr : b1 < wr.heap.size := by have := HB0.out.size; omega
      have HST := Lib.hid (HX.out.symm.trans (HD.out k hlt))
      have hsz := HN.out k hlt
      clear HX
      have HAT := Lib.hid (find_at hlt)
      have HLT := Lib.hid (fun j (h : findB (l.take k) l[k].name = some j) => find_take_lt h)
      generalize hp : l[k] = p at *
      have HP := Lib.hid hp
      clear hp
      cases hnm : nameOk p.name with
      | false =>
        have HF := Lib.hid (show rosGo l l 0 = 5 by rw [HST.out, hnm]; rfl)
        go_wp2_with fail
        refine (refIsName_any p.name _ hsz).mono ?_
        rintro e w1 ⟨rfl, b1⟩
        rw [hnm]
        have B1 := Lib.hid (chain0 HB0.out b1)
        clear b1
        go_wp2_with fail
        go_ret
        exact ⟨by rw [HE.out, HF.out]; rfl, B1.out⟩
      | true =>
        have HST1 := Lib.hid (show rosGo l l 0 = if (findB (l.take k) p.name).isSome then 7 else if bidOk p then rosGo l (l.drop (k + 1)) (k + 1) else 4 by rw [HST.out, hnm]; rfl)
        clear HST
        go_wp2_with fail
        refine (refIsName_any p.name _ hsz).mono ?_
        rintro e w1 ⟨rfl, b1⟩
        rw [hnm]
        have B1 := Lib.hid (chain0 HB0.out b1)
        clear b1 et
        have et := BidRow.at_ (HR.out _ B1.out) k hlt
        rw [HP.out] at et
        have hbx : b1 < w1.heap.size := by have := B1.out.size; omega
        go_wp2_with fail
        refine (rfind_some l b1 o1 c1 p.name _ (by omega) hbx (HR.out _ B1.out)).mono ?_
        rintro e w2 ⟨rfl, b2⟩
        have HB1 := Lib.hid (chain0 B1.out b2)
        clear b2 et
        have et := BidRow.at_ (HR.out _ HB1.out) k hlt
        rw [HP.out] at et
        have hby : b1 < w2.heap.size := by have := HB1.out.size; omega
        have HI : Hid (findI l p.name = (((findB (l.take k) p.name).getD k : Nat) : Int)) := by show _ = _; unfold findI; rw [HAT.out]; rfl
        have hio : findOk l p.name = true := by unfold findOk; rw [HAT.out]; rfl
        rw [HI.out, hio]
        cases hf : findB (l.take k) p.name with
        | some j =>
          have hj := HLT.out j hf
          have HF := Lib.hid (show rosGo l l 0 = 7 by rw [HST1.out, hf]; rfl)
          have z : ((j : Int) != (k : Int)) = true := by simp; omega
          rw [show (some j).getD k = j from rfl]
          go_wp2_with fail
          go_ret
          exact ⟨by rw [HE.out, HF.out]; rfl, HB1.out⟩
        | none =>
          have z : ((k : Int) != (k : Int)) = false := by simp
          rw [show (none : Option Nat).getD k = k from rfl]
          have HST2 := Lib.hid (show rosGo l l 0 = if bidOk p then rosGo l (l.drop (k + 1)) (k + 1) else 4 by rw [HST1.out, hf]; rfl)
          clear HST1 hf HAT HLT HI hio
          by_cases q0 : p.cls < 0
          · have t0 : decide (p.cls < (0 : Int)) = true := decide_eq_true q0
            have HF := Lib.hid (show rosGo l l 0 = 4 by rw [HST2.out, if_neg (fun h => by have := bidOk_iff.1 h; omega)])
            clear q0
            go_wp2_with fail
            go_ret
            exact ⟨by rw [HE.out, HF.out]; rfl, HB1.out⟩
          · have t0 : decide (p.cls < (0 : Int)) = false := decide_eq_false q0
            by_cases q1 : 4 < p.cls
            · have t1 : decide ((4 : Int) < p.cls) = true := decide_eq_true q1
              have HF := Lib.hid (show rosGo l l 0 = 4 by rw [HST2.out, if_neg (fun h => by have := bidOk_iff.1 h; omega)])
              clear q0
              clear q1
              go_wp2_with fail
              go_ret
              exact ⟨by rw [HE.out, HF.out]; rfl, HB1.out⟩
            · have t1 : decide ((4 : Int) < p.cls) = false := decide_eq_false q1
              by_cases q2 : p.budget < 0
              · have t2 : decide (p.budget < (0 : Int)) = true := decide_eq_true q2
                have HF := Lib.hid (show rosGo l l 0 = 4 by rw [HST2.out, if_neg (fun h => by have := bidOk_iff.1 h; omega)])
                clear q0
                clear q1
                clear q2
                go_wp2_with fail
                go_ret
                exact ⟨by rw [HE.out, HF.out]; rfl, HB1.out⟩
              · have t2 : decide (p.budget < (0 : Int)) = false := decide_eq_false q2
                by_cases q3 : 1000000 < p.budget
                · have t3 : decide ((1000000 : Int) < p.budget) = true := decide_eq_true q3
                  have HF := Lib.hid (show rosGo l l 0 = 4 by rw [HST2.out, if_neg (fun h => by have := bidOk_iff.1 h; omega)])
                  clear q0
                  clear q1
                  clear q2
                  clear q3
                  go_wp2_with fail
                  go_ret
                  exact ⟨by rw [HE.out, HF.out]; rfl, HB1.out⟩
                · have t3 : decide ((1000000 : Int) < p.budget) = false := decide_eq_false q3
                  by_cases q4 : p.points < 0
                  · have t4 : decide (p.points < (0 : Int)) = true := decide_eq_true q4
                    have HF := Lib.hid (show rosGo l l 0 = 4 by rw [HST2.out, if_neg (fun h => by have := bidOk_iff.1 h; omega)])
                    clear q0
                    clear q1
                    clear q2
                    clear q3
                    clear q4
                    go_wp2_with fail
                    go_ret
                    exact ⟨by rw [HE.out, HF.out]; rfl, HB1.out⟩
                  · have t4 : decide (p.points < (0 : Int)) = false := decide_eq_false q4
                    by_cases q5 : 24000 < p.points
                    · have t5 : decide ((24000 : Int) < p.points) = true := decide_eq_true q5
                      have HF := Lib.hid (show rosGo l l 0 = 4 by rw [HST2.out, if_neg (fun h => by have := bidOk_iff.1 h; omega)])
                      clear q0
                      clear q1
                      clear q2
                      clear q3
                      clear q4
                      clear q5
                      go_wp2_with fail
                      go_ret
                      exact ⟨by rw [HE.out, HF.out]; rfl, HB1.out⟩
                    · have t5 : decide ((24000 : Int) < p.points) = false := decide_eq_false q5
                      have HF := Lib.hid (show rosGo l (l.drop (k + 1)) (k + 1) = rosGo l l 0 by rw [HST2.out, if_pos (bidOk_iff.2 (by omega))])
                      clear q0
                      clear q1
                      clear q2
                      clear q3
                      clear q4
                      clear q5
                      go_wp2_with fail
                      go_roundw
                      case rel => exact ⟨k + 1, by omega, by go_num, HF, HB1.out⟩
                      case measure => simp [intOf]; omega
    · obtain rfl : k = l.length := by omega
      have hd : decide ((l.length : Int) < (l.length : Int)) = false := by simp
      have HZ : Hid (rosGo l l 0 = 0) := by
        rw [← HX.out, List.drop_length]
        rfl
      go_wp2_with fail
      go_ret
      exact ⟨by rw [HE.out, HZ.out]; rfl, HB0.out⟩
theorem check_any (l : List Bid) (v : Value) (w : World) (hl : l.length ≤ 5000) (h : BidS w v l) (hn : ∀ p ∈ l, p.name.size ≤ maxLen) : Calls Tryz.prog 74 #[v] w (CheckPost l w) := by
  obtain ⟨A, c, rfl, h1, h2, ha⟩ := sl_parts h
  by_cases h8 : 8 < l.length
  · exact check_long l A c w hl h8
  · cases l with
    | nil => exact check_empty A c w
    | cons p l =>
      obtain ⟨b, o, rfl, hb, r⟩ := ha (by simp)
      exact check_some _ b o c w (by omega) (by simp) h1 h2 hb r hn
theorem rcheck_any (l : List Bid) (v : Value) (w : World) (hl : l.length ≤ 5000) (h : BidS w v l) (hn : ∀ p ∈ l, p.name.size ≤ maxLen) : Calls Tryz.prog 65 #[v] w (CheckPost l w) := by
  obtain ⟨A, c, rfl, h1, h2, ha⟩ := sl_parts h
  by_cases h8 : 8 < l.length
  · exact rcheck_long l A c w hl h8
  · cases l with
    | nil => exact rcheck_empty A c w
    | cons p l =>
      obtain ⟨b, o, rfl, hb, r⟩ := ha (by simp)
      exact rcheck_some _ b o c w (by omega) (by simp) h1 h2 hb r hn
end Go.Proofs.YtaikmgnpfbnjjaaGreatDoor.Ros
namespace Go.Proofs.YtaikmgnpfbnjjaaGreatDoor
namespace Sum
def poly : Nat := 2197175160
/-- a step of the register -/
def step1 (r : Nat) : Nat := if r % 2 = 1 then r / 2 ^^^ poly else r / 2
def stepN : Nat → Nat → Nat
  | 0, r => r
  | n + 1, r => stepN n (step1 r)

/-- the register behind a byte -/
def byteStep (r : Nat) (b : UInt8) : Nat := stepN 8 (r ^^^ b.toNat)
def fold (r : Nat) (l : List UInt8) : Nat := l.foldl byteStep r
def upd (c : Nat) (l : List UInt8) : Nat := 4294967295 - fold (4294967295 - c) l
/-- FNV-1a -/
def fnv1 (h : Nat) (b : UInt8) : Nat := (h ^^^ b.toNat) * 1099511628211 % 18446744073709551616
def fnv (h : Nat) (l : List UInt8) : Nat := l.foldl fnv1 h
end Sum
end Go.Proofs.YtaikmgnpfbnjjaaGreatDoor
namespace Go.Proofs.YtaikmgnpfbnjjaaGreatDoor
open Go.ChangeShapes Go.WideShapes Go.ChangeAt Go.RowKit
namespace Sum

/-- an array of sixteen numbers -/
@[reducible] def arr16 (p : Nat → Int) : Array Value := #[.int .u32 (p 0), .int .u32 (p 1), .int .u32 (p 2), .int .u32 (p 3), .int .u32 (p 4), .int .u32 (p 5), .int .u32 (p 6), .int .u32 (p 7), .int .u32 (p 8), .int .u32 (p 9), .int .u32 (p 10), .int .u32 (p 11), .int .u32 (p 12), .int .u32 (p 13), .int .u32 (p 14), .int .u32 (p 15)]
theorem lt16 {k : Nat} (h : k < 16) : k = 0 ∨ k = 1 ∨ k = 2 ∨ k = 3 ∨ k = 4 ∨ k = 5 ∨ k = 6 ∨ k = 7 ∨ k = 8 ∨ k = 9 ∨ k = 10 ∨ k = 11 ∨ k = 12 ∨ k = 13 ∨ k = 14 ∨ k = 15 := by omega
structure Box16 (w : World) (b : Nat) (p : Nat → Int) : Prop where
  blk : ∃ T, w.heap[b]? = some (.cells (arr16 p) T (0, 0))
theorem Box16.cell {w : World} {b : Nat} {p : Nat → Int} (h : Box16 w b p) (k : Nat) (hk : k < 16) : w.cell? ⟨b, k, none⟩ = some (.int .u32 (p k)) := by
  obtain ⟨T, h⟩ := h.blk
  rw [cell_of_row w b k _ T _ h]
  rcases lt16 hk with rfl | rfl | rfl | rfl | rfl | rfl | rfl | rfl | rfl | rfl | rfl | rfl | rfl | rfl | rfl | rfl
  all_goals rfl
theorem Box16.free {w : World} {b : Nat} {p : Nat → Int} (h : Box16 w b p) (k : Nat) : w.frozen? ⟨b, k, none⟩ = false := by
  obtain ⟨T, h⟩ := h.blk
  exact frozen_of_row w b k _ T h
theorem Box16.lt {w : World} {b : Nat} {p : Nat → Int} (h : Box16 w b p) : b < w.heap.size := block_lt_of_cell (h.cell 0 (by omega))
theorem Box16.below {B : Nat} {w w1 : World} {b : Nat} {p : Nat → Int} (h : Box16 w b p) (hb : Below B w w1) (hB : b < B) : Box16 w1 b p := by
  obtain ⟨T, h⟩ := h.blk
  exact ⟨T, by rw [hb.block b hB]; exact h⟩
theorem Box16.other {w : World} {b c k : Nat} {p : Nat → Int} (h : Box16 w b p) (hn : b ≠ c) (v : Value) : Box16 (w.setCell ⟨c, k, none⟩ v) b p := by
  obtain ⟨T, h⟩ := h.blk
  exact ⟨T, by rw [heap_setCell_other _ _ _ _ hn]; exact h⟩
theorem Box16.set {w : World} {b : Nat} {p : Nat → Int} (h : Box16 w b p) (k : Nat) (hk : k < 16) (x : Int) : Box16 (w.setCell ⟨b, k, none⟩ (.int .u32 x)) b (fun j => if j = k then x else p j) := by
  obtain ⟨T, h⟩ := h.blk
  refine ⟨T, ?_⟩
  rw [heap_setCell_same w b k _ T _ h]
  rcases lt16 hk with rfl | rfl | rfl | rfl | rfl | rfl | rfl | rfl | rfl | rfl | rfl | rfl | rfl | rfl | rfl | rfl
  all_goals simp [arr16]
theorem Box16.congr {w : World} {b : Nat} {p q : Nat → Int} (h : Box16 w b p) (he : ∀ k, k < 16 → p k = q k) : Box16 w b q := by
  obtain ⟨T, h⟩ := h.blk
  refine ⟨T, ?_⟩
  rw [h]
  simp [arr16, he]
theorem Box16.alloc {w : World} {b : Nat} {p : Nat → Int} (h : Box16 w b p) (o : Obj) : Box16 (w.alloc o) b p := h.below (below_new w o) h.lt

end Sum
end Go.Proofs.YtaikmgnpfbnjjaaGreatDoor
namespace Go.Proofs.YtaikmgnpfbnjjaaGreatDoor
open Go.ChangeShapes Go.WideShapes Go.ChangeAt Go.RowKit
namespace Sum

theorem take_snoc (s : ByteArray) (k : Nat) (h : k < s.size) : s.data.toList.take (k + 1) = s.data.toList.take k ++ [s[k]] := by
  rw [List.take_succ_eq_append_getElem (by simpa using h)]; rfl
theorem take_all (s : ByteArray) (k : Nat) (h : s.size ≤ k) : s.data.toList.take k = s.data.toList := List.take_of_length_le (by simpa using h)

end Sum
end Go.Proofs.YtaikmgnpfbnjjaaGreatDoor
namespace Go.Proofs.YtaikmgnpfbnjjaaGreatDoor
open Go.ChangeShapes Go.WideShapes Go.ChangeAt Go.RowKit
namespace Sum

/-- the hash behind k bytes -/
def hsh (s : ByteArray) (k : Nat) : Nat := fnv 14695981039346656037 (s.data.toList.take k)
theorem conv_new (w : World) (xs : List Int) :
    (convert 106 9 (.slice (some ⟨w.heap.size, 0, none⟩) xs.length xs.length)).run Tryz.prog (w.alloc (.cells (xs.map (Value.int .u8)).toArray 5)) = .ok (.string (strOfNums xs)) (w.alloc (.cells (xs.map (Value.int .u8)).toArray 5)) := by
  refine run_convert_bytes_arg (P := Tryz.prog) _ 106 5 (by kernel_rfl) (by kernel_rfl) _ _ _ _ xs rfl ?_ 9 (by kernel_rfl)
  intro i hi
  rw [Nat.zero_add, World.cell?_alloc_new]
  simp [hi]

end Sum
end Go.Proofs.YtaikmgnpfbnjjaaGreatDoor
namespace Go.Proofs.YtaikmgnpfbnjjaaGreatDoor
open Go.ChangeShapes Go.WideShapes Go.ChangeAt Go.RowKit
attribute [local go_sem] later_cell
namespace Sum

theorem size_append (a b : ByteArray) : (a ++ b).size = a.size + b.size := ByteArray.size_append

end Sum
end Go.Proofs.YtaikmgnpfbnjjaaGreatDoor
