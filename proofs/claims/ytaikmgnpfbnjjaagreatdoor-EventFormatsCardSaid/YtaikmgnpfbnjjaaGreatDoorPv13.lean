/- Contracts of Check of both. Printed by gen_ros.py. Plain numbers: the register of CRC-32C, by bits, by four bits, by bytes; FNV-1a. Contracts of the checksum's small functions. Contracts of Update and CRC. Contracts of Hash, low, bytes. Contracts of Chain, Seal and Open and their references. -/
import Derived.Test.YtaikmgnpfbnjjaaGreatDoorPv12
import Derived.Test.YtaikmgnpfbnjjaaGreatDoorRows
import Derived.Test.YtaikmgnpfbnjjaaGreatDoorPv00
import Derived.Laws.BitsAllLaws
import Derived.Laws.BytesArg
import Derived.Laws.Concat
namespace Go.Proofs.YtaikmgnpfbnjjaaGreatDoor.Ros
open Go.ChangeShapes Go.WideShapes Go.ChangeAt Go.RowKit Gn Cat Lex
set_option linter.unusedVariables false
set_option linter.unusedSimpArgs false
abbrev CheckPost (l : List Bid) (w : World) : Ending → World → Prop := fun e w' => e = .returned (.int .i64 (rosE l)) ∧ Below w.heap.size w w'
theorem check_empty (A : Option Addr) (c : Nat) (w : World) : Calls Tryz.prog 74 #[.slice A 0 c] w (CheckPost [] w) := by
  have HE : Hid (rosE [] = 1) := rfl
  go_enter Tryz.func74, Tryz.ntmps74
  go_wp2_with fail
  go_ret
  exact ⟨by rw [HE.out]; rfl, Below.refl _ _⟩
theorem check_long (l : List Bid) (A : Option Addr) (c : Nat) (w : World) (hl : l.length ≤ 5000) (h : 8 < l.length) : Calls Tryz.prog 74 #[.slice A l.length c] w (CheckPost l w) := by
  have HE := Lib.hid (show rosE l = 3 by unfold rosE; simp [h, show ¬ l.length = 0 by omega])
  have d0 : ((l.length : Int) == 0) = false := beq_eq_false_iff_ne.2 (by omega)
  have d1 : decide ((8 : Int) < (l.length : Int)) = true := by simp; omega
  go_enter Tryz.func74, Tryz.ntmps74
  go_wp2_with fail
  go_ret
  exact ⟨by rw [HE.out]; rfl, Below.refl _ _⟩
theorem rcheck_empty (A : Option Addr) (c : Nat) (w : World) : Calls Tryz.prog 65 #[.slice A 0 c] w (CheckPost [] w) := by
  have HE : Hid (rosE [] = 1) := rfl
  go_enter Tryz.func65, Tryz.ntmps65
  go_wp2_with fail
  go_ret
  exact ⟨by rw [HE.out]; rfl, Below.refl _ _⟩
theorem rcheck_long (l : List Bid) (A : Option Addr) (c : Nat) (w : World) (hl : l.length ≤ 5000) (h : 8 < l.length) : Calls Tryz.prog 65 #[.slice A l.length c] w (CheckPost l w) := by
  have HE := Lib.hid (show rosE l = 3 by unfold rosE; simp [h, show ¬ l.length = 0 by omega])
  have d0 : ((l.length : Int) == 0) = false := beq_eq_false_iff_ne.2 (by omega)
  have d1 : decide ((8 : Int) < (l.length : Int)) = true := by simp; omega
  go_enter Tryz.func65, Tryz.ntmps65
  go_wp2_with fail
  go_ret
  exact ⟨by rw [HE.out]; rfl, Below.refl _ _⟩
set_option maxHeartbeats 800000 in
set_option maxRecDepth 100000 in
theorem check_some (l : List Bid) (b1 o1 c1 : Nat) (w : World) (h8 : l.length ≤ 8) (h0 : 0 < l.length) (hc : l.length ≤ c1) (_hm : c1 ≤ maxLen) (hb1 : b1 < w.heap.size) (h1 : BidRow w b1 o1 l) (hn : ∀ p ∈ l, p.name.size ≤ maxLen) :
    Calls Tryz.prog 74 #[.slice (some ⟨b1, o1, none⟩) l.length c1] w (CheckPost l w) := by
  have HN := Lib.hid fun k (h : k < l.length) => hn l[k] (List.getElem_mem h)
  have HR := Lib.hid fun w' => h1.below (w' := w') hb1
  have HE := Lib.hid (rosE_mid h0 h8)
  have HD := Lib.hid (fun k (h : k < l.length) => rosGo_drop (l := l) (k := k) h)
  unfold maxLen at _hm
  clear hn h1
  have d0 : ((l.length : Int) == 0) = false := beq_eq_false_iff_ne.2 (by omega)
  have d1 : decide ((8 : Int) < (l.length : Int)) = false := by simp; omega
  go_enter Tryz.func74, Tryz.ntmps74
  go_wp2_with fail
  go_loopw [17] (fun i wr => ∃ k : Nat, k ≤ l.length ∧ i = .int .i64 (k : Int) ∧ Hid (rosGo l (l.drop k) k = rosGo l l 0) ∧ Hid (Below w.heap.size w wr)) (fun i _ => l.length - (intOf i).toNat)
  case atStart => exact ⟨0, by omega, rfl, rfl, Below.refl _ _⟩
  case round =>
    clear d0 d1
    obtain ⟨k, hk, rfl, HX, HB0⟩ := hrel
    by_cases hlt : k < l.length
    · have hd : decide ((k : Int) < (l.length : Int)) = true := by simp; omega
      have hi0 : (0 : Int) ≤ (k : Int) := by omega
      have et := BidRow.at_ (HR.out _ HB0.out) k hlt
      have hbr : b1 < wr.heap.size := by have := HB0.out.size; omega
      have HST := Lib.hid (HX.out.symm.trans (HD.out k hlt))
      have hsz := HN.out k hlt
      clear HX
      have htk := HR.out
      generalize hp : l[k] = p at *
      have HP := Lib.hid hp
      clear hp
      have hc1 : 0 < c1 := by omega
      have hkc : k ≤ c1 := by omega
      cases hnm : nameOk p.name with
      | false =>
        have HF := Lib.hid (show rosGo l l 0 = 5 by rw [HST.out, hnm]; rfl)
        go_wp2_with fail
        refine (isName_any p.name _ hsz).mono ?_
        rintro e w1 ⟨rfl, rfl⟩
        rw [hnm]
        go_wp2_with fail
        go_ret
        exact ⟨by rw [HE.out, HF.out]; rfl, HB0.out.alloc HB0.out.size _⟩
      | true =>
        have HST1 := Lib.hid (show rosGo l l 0 = if (findB (l.take k) p.name).isSome then 7 else if bidOk p then rosGo l (l.drop (k + 1)) (k + 1) else 4 by rw [HST.out, hnm]; rfl)
        clear HST
        go_wp2_with fail
        refine (isName_any p.name _ hsz).mono ?_
        rintro e w1 ⟨rfl, rfl⟩
        rw [hnm]
        clear et htk
        have K1 := Lib.hid (Blk.new wr 67 #[.string p.name, .int .i64 p.cls, .int .i64 p.budget, .int .i64 p.points])
        have B1 := Lib.hid (HB0.out.alloc HB0.out.size (.cells #[.string p.name, .int .i64 p.cls, .int .i64 p.budget, .int .i64 p.points] 67))
        have hg := K1.out.lt
        have e1 := K1.out.c4
        generalize wr.alloc _ = W at *
        generalize wr.heap.size = g at *
        cases hf : findOk (l.take k) p.name with
        | true =>
          have HF := Lib.hid (show rosGo l l 0 = 7 by rw [HST1.out]; unfold findOk at hf; rw [hf]; rfl)
          go_wp2_with fail
          go_region_held3 (fun w' => w'.cell? ⟨g, 0, none⟩ = some (.string p.name)) (go_keep) ((go_at_call 87; refine (find_take l b1 o1 c1 k p.name _ (by omega) hk (Nat.lt_of_lt_of_le hb1 (chain0 B1.out (Below.refl _ _).drew).size) (HR.out _ (chain0 B1.out (Below.refl _ _).drew))).mono ?_; rintro r w2 ⟨rfl, b2⟩; have B2 := Lib.hid (chain0 (chain0 B1.out (Below.refl _ _).drew) b2); rw [hf]; have e2 := (K1.out.drew.below' b2).c4; clear b2))
          go_wp2_with fail
          go_ret
          exact ⟨by rw [HE.out, HF.out]; rfl, B2.out⟩
        | false =>
          have HST2 := Lib.hid (show rosGo l l 0 = if bidOk p then rosGo l (l.drop (k + 1)) (k + 1) else 4 by rw [HST1.out]; unfold findOk at hf; rw [hf]; rfl)
          clear HST1
          go_wp2_with fail
          go_region_held3 (fun w' => w'.cell? ⟨g, 0, none⟩ = some (.string p.name)) (go_keep) ((go_at_call 87; refine (find_take l b1 o1 c1 k p.name _ (by omega) hk (Nat.lt_of_lt_of_le hb1 (chain0 B1.out (Below.refl _ _).drew).size) (HR.out _ (chain0 B1.out (Below.refl _ _).drew))).mono ?_; rintro r w2 ⟨rfl, b2⟩; have B2 := Lib.hid (chain0 (chain0 B1.out (Below.refl _ _).drew) b2); rw [hf]; have e2 := (K1.out.drew.below' b2).c4; clear b2))
          clear e1
          by_cases q0 : p.cls < 0
          · have t0 : decide (p.cls < (0 : Int)) = true := decide_eq_true q0
            have HF := Lib.hid (show rosGo l l 0 = 4 by rw [HST2.out, if_neg (fun h => by have := bidOk_iff.1 h; omega)])
            clear q0
            go_wp2_with fail
            go_ret
            exact ⟨by rw [HE.out, HF.out]; rfl, B2.out⟩
          · have t0 : decide (p.cls < (0 : Int)) = false := decide_eq_false q0
            by_cases q1 : 4 < p.cls
            · have t1 : decide ((4 : Int) < p.cls) = true := decide_eq_true q1
              have HF := Lib.hid (show rosGo l l 0 = 4 by rw [HST2.out, if_neg (fun h => by have := bidOk_iff.1 h; omega)])
              clear q0
              clear q1
              go_wp2_with fail
              go_ret
              exact ⟨by rw [HE.out, HF.out]; rfl, B2.out⟩
            · have t1 : decide ((4 : Int) < p.cls) = false := decide_eq_false q1
              by_cases q2 : p.budget < 0
              · have t2 : decide (p.budget < (0 : Int)) = true := decide_eq_true q2
                have HF := Lib.hid (show rosGo l l 0 = 4 by rw [HST2.out, if_neg (fun h => by have := bidOk_iff.1 h; omega)])
                clear q0
                clear q1
                clear q2
                go_wp2_with fail
                go_ret
                exact ⟨by rw [HE.out, HF.out]; rfl, B2.out⟩
              · have t2 : decide (p.budget < (0 : Int)) = false := decide_eq_false q2
                by_cases q3 : 1000000 < p.budget
                · have t3 : decide ((1000000 : Int) < p.budget) = true := decide_eq_true q3
                  have HF := Lib.hid (show rosGo l l 0 = 4 by rw [HST2.out, if_neg (fun h => by have := bidOk_iff.1 h; omega)])
                  clear q0
                  clear q1
                  clear q2
                  clear q3
                  go_wp2_with fail
                  go_ret
                  exact ⟨by rw [HE.out, HF.out]; rfl, B2.out⟩
                · have t3 : decide ((1000000 : Int) < p.budget) = false := decide_eq_false q3
                  by_cases q4 : p.points < 0
                  · have t4 : decide (p.points < (0 : Int)) = true := decide_eq_true q4
                    have HF := Lib.hid (show rosGo l l 0 = 4 by rw [HST2.out, if_neg (fun h => by have := bidOk_iff.1 h; omega)])
                    clear q0
                    clear q1
                    clear q2
                    clear q3
                    clear q4
                    go_wp2_with fail
                    go_ret
                    exact ⟨by rw [HE.out, HF.out]; rfl, B2.out⟩
                  · have t4 : decide (p.points < (0 : Int)) = false := decide_eq_false q4
                    by_cases q5 : 24000 < p.points
                    · have t5 : decide ((24000 : Int) < p.points) = true := decide_eq_true q5
                      have HF := Lib.hid (show rosGo l l 0 = 4 by rw [HST2.out, if_neg (fun h => by have := bidOk_iff.1 h; omega)])
                      clear q0
                      clear q1
                      clear q2
                      clear q3
                      clear q4
                      clear q5
                      go_wp2_with fail
                      go_ret
                      exact ⟨by rw [HE.out, HF.out]; rfl, B2.out⟩
                    · have t5 : decide ((24000 : Int) < p.points) = false := decide_eq_false q5
                      have HF := Lib.hid (show rosGo l (l.drop (k + 1)) (k + 1) = rosGo l l 0 by rw [HST2.out, if_pos (bidOk_iff.2 (by omega))])
                      clear q0
                      clear q1
                      clear q2
                      clear q3
                      clear q4
                      clear q5
                      go_wp2_with fail
                      go_roundw
                      case rel => exact ⟨k + 1, by omega, by go_num, HF, B2.out⟩
                      case measure => simp [intOf]; omega
    · obtain rfl : k = l.length := by omega
      have hd : decide ((l.length : Int) < (l.length : Int)) = false := by simp
      have HZ : Hid (rosGo l l 0 = 0) := by
        rw [← HX.out, List.drop_length]
        rfl
      go_wp2_with fail
      go_ret
      exact ⟨by rw [HE.out, HZ.out]; rfl, HB0.out⟩
set_option maxHeartbeats 800000 in
set_option maxRecDepth 100000 in
theorem rcheck_some (l : List Bid) (b1 o1 c1 : Nat) (w : World) (h8 : l.length ≤ 8) (h0 : 0 < l.length) (hc : l.length ≤ c1) (_hm : c1 ≤ maxLen) (hb1 : b1 < w.heap.size) (h1 : BidRow w b1 o1 l) (hn : ∀ p ∈ l, p.name.size ≤ maxLen) :
    Calls Tryz.prog 65 #[.slice (some ⟨b1, o1, none⟩) l.length c1] w (CheckPost l w) := by
  have HN := Lib.hid fun k (h : k < l.length) => hn l[k] (List.getElem_mem h)
  have HR := Lib.hid fun w' => h1.below (w' := w') hb1
  have HE := Lib.hid (rosE_mid h0 h8)
  have HD := Lib.hid (fun k (h : k < l.length) => rosGo_drop (l := l) (k := k) h)
  unfold maxLen at _hm
  clear hn h1
  have d0 : ((l.length : Int) == 0) = false := beq_eq_false_iff_ne.2 (by omega)
  have d1 : decide ((8 : Int) < (l.length : Int)) = false := by simp; omega
  go_enter Tryz.func65, Tryz.ntmps65
  go_wp2_with fail
  go_loopw [3] (fun i wr => ∃ k : Nat, k ≤ l.length ∧ i = .int .i64 (k : Int) ∧ Hid (rosGo l (l.drop k) k = rosGo l l 0) ∧ Hid (Below w.heap.size w wr)) (fun i _ => l.length - (intOf i).toNat)
  case atStart => exact ⟨0, by omega, rfl, rfl, Below.refl _ _⟩
  case round =>
    clear d0 d1
    obtain ⟨k, hk, rfl, HX, HB0⟩ := hrel
    by_cases hlt : k < l.length
    · have hd : decide ((k : Int) < (l.length : Int)) = true := by simp; omega
      have hi0 : (0 : Int) ≤ (k : Int) := by omega
      have et := BidRow.at_ (HR.out _ HB0.out) k hlt
      have hbr : b1 < wr.heap.size := by have := HB0.out.size; omega
      have HST := Lib.hid (HX.out.symm.trans (HD.out k hlt))
      have hsz := HN.out k hlt
      clear HX
      have HAT := Lib.hid (find_at hlt)
      have HLT := Lib.hid (fun j (h : findB (l.take k) l[k].name = some j) => find_take_lt h)
      generalize hp : l[k] = p at *
      have HP := Lib.hid hp
      clear hp
      cases hnm : nameOk p.name with
      | false =>
        have HF := Lib.hid (show rosGo l l 0 = 5 by rw [HST.out, hnm]; rfl)
        go_wp2_with fail
        refine (refIsName_any p.name _ hsz).mono ?_
        rintro e w1 ⟨rfl, b1⟩
        rw [hnm]
        have B1 := Lib.hid (chain0 HB0.out b1)
        clear b1
        go_wp2_with fail
        go_ret
        exact ⟨by rw [HE.out, HF.out]; rfl, B1.out⟩
      | true =>
        have HST1 := Lib.hid (show rosGo l l 0 = if (findB (l.take k) p.name).isSome then 7 else if bidOk p then rosGo l (l.drop (k + 1)) (k + 1) else 4 by rw [HST.out, hnm]; rfl)
        clear HST
        go_wp2_with fail
        refine (refIsName_any p.name _ hsz).mono ?_
        rintro e w1 ⟨rfl, b1⟩
        rw [hnm]
        have B1 := Lib.hid (chain0 HB0.out b1)
        clear b1 et
        have et := BidRow.at_ (HR.out _ B1.out) k hlt
        rw [HP.out] at et
        have hbx : b1 < w1.heap.size := by have := B1.out.size; omega
        go_wp2_with fail
        refine (rfind_some l b1 o1 c1 p.name _ (by omega) hbx (HR.out _ B1.out)).mono ?_
        rintro e w2 ⟨rfl, b2⟩
        have HB1 := Lib.hid (chain0 B1.out b2)
        clear b2 et
        have et := BidRow.at_ (HR.out _ HB1.out) k hlt
        rw [HP.out] at et
        have hby : b1 < w2.heap.size := by have := HB1.out.size; omega
        have HI : Hid (findI l p.name = (((findB (l.take k) p.name).getD k : Nat) : Int)) := by show _ = _; unfold findI; rw [HAT.out]; rfl
        have hio : findOk l p.name = true := by unfold findOk; rw [HAT.out]; rfl
        rw [HI.out, hio]
        cases hf : findB (l.take k) p.name with
        | some j =>
          have hj := HLT.out j hf
          have HF := Lib.hid (show rosGo l l 0 = 7 by rw [HST1.out, hf]; rfl)
          have z : ((j : Int) != (k : Int)) = true := by simp; omega
          rw [show (some j).getD k = j from rfl]
          go_wp2_with fail
          go_ret
          exact ⟨by rw [HE.out, HF.out]; rfl, HB1.out⟩
        | none =>
          have z : ((k : Int) != (k : Int)) = false := by simp
          rw [show (none : Option Nat).getD k = k from rfl]
          have HST2 := Lib.hid (show rosGo l l 0 = if bidOk p then rosGo l (l.drop (k + 1)) (k + 1) else 4 by rw [HST1.out, hf]; rfl)
          clear HST1 hf HAT HLT HI hio
          by_cases q0 : p.cls < 0
          · have t0 : decide (p.cls < (0 : Int)) = true := decide_eq_true q0
            have HF := Lib.hid (show rosGo l l 0 = 4 by rw [HST2.out, if_neg (fun h => by have := bidOk_iff.1 h; omega)])
            clear q0
            go_wp2_with fail
            go_ret
            exact ⟨by rw [HE.out, HF.out]; rfl, HB1.out⟩
          · have t0 : decide (p.cls < (0 : Int)) = false := decide_eq_false q0
            by_cases q1 : 4 < p.cls
            · have t1 : decide ((4 : Int) < p.cls) = true := decide_eq_true q1
              have HF := Lib.hid (show rosGo l l 0 = 4 by rw [HST2.out, if_neg (fun h => by have := bidOk_iff.1 h; omega)])
              clear q0
              clear q1
              go_wp2_with fail
              go_ret
              exact ⟨by rw [HE.out, HF.out]; rfl, HB1.out⟩
            · have t1 : decide ((4 : Int) < p.cls) = false := decide_eq_false q1
              by_cases q2 : p.budget < 0
              · have t2 : decide (p.budget < (0 : Int)) = true := decide_eq_true q2
                have HF := Lib.hid (show rosGo l l 0 = 4 by rw [HST2.out, if_neg (fun h => by have := bidOk_iff.1 h; omega)])
                clear q0
                clear q1
                clear q2
                go_wp2_with fail
                go_ret
                exact ⟨by rw [HE.out, HF.out]; rfl, HB1.out⟩
              · have t2 : decide (p.budget < (0 : Int)) = false := decide_eq_false q2
                by_cases q3 : 1000000 < p.budget
                · have t3 : decide ((1000000 : Int) < p.budget) = true := decide_eq_true q3
                  have HF := Lib.hid (show rosGo l l 0 = 4 by rw [HST2.out, if_neg (fun h => by have := bidOk_iff.1 h; omega)])
                  clear q0
                  clear q1
                  clear q2
                  clear q3
                  go_wp2_with fail
                  go_ret
                  exact ⟨by rw [HE.out, HF.out]; rfl, HB1.out⟩
                · have t3 : decide ((1000000 : Int) < p.budget) = false := decide_eq_false q3
                  by_cases q4 : p.points < 0
                  · have t4 : decide (p.points < (0 : Int)) = true := decide_eq_true q4
                    have HF := Lib.hid (show rosGo l l 0 = 4 by rw [HST2.out, if_neg (fun h => by have := bidOk_iff.1 h; omega)])
                    clear q0
                    clear q1
                    clear q2
                    clear q3
                    clear q4
                    go_wp2_with fail
                    go_ret
                    exact ⟨by rw [HE.out, HF.out]; rfl, HB1.out⟩
                  · have t4 : decide (p.points < (0 : Int)) = false := decide_eq_false q4
                    by_cases q5 : 24000 < p.points
                    · have t5 : decide ((24000 : Int) < p.points) = true := decide_eq_true q5
                      have HF := Lib.hid (show rosGo l l 0 = 4 by rw [HST2.out, if_neg (fun h => by have := bidOk_iff.1 h; omega)])
                      clear q0
                      clear q1
                      clear q2
                      clear q3
                      clear q4
                      clear q5
                      go_wp2_with fail
                      go_ret
                      exact ⟨by rw [HE.out, HF.out]; rfl, HB1.out⟩
                    · have t5 : decide ((24000 : Int) < p.points) = false := decide_eq_false q5
                      have HF := Lib.hid (show rosGo l (l.drop (k + 1)) (k + 1) = rosGo l l 0 by rw [HST2.out, if_pos (bidOk_iff.2 (by omega))])
                      clear q0
                      clear q1
                      clear q2
                      clear q3
                      clear q4
                      clear q5
                      go_wp2_with fail
                      go_roundw
                      case rel => exact ⟨k + 1, by omega, by go_num, HF, HB1.out⟩
                      case measure => simp [intOf]; omega
    · obtain rfl : k = l.length := by omega
      have hd : decide ((l.length : Int) < (l.length : Int)) = false := by simp
      have HZ : Hid (rosGo l l 0 = 0) := by
        rw [← HX.out, List.drop_length]
        rfl
      go_wp2_with fail
      go_ret
      exact ⟨by rw [HE.out, HZ.out]; rfl, HB0.out⟩
theorem check_any (l : List Bid) (v : Value) (w : World) (hl : l.length ≤ 5000) (h : BidS w v l) (hn : ∀ p ∈ l, p.name.size ≤ maxLen) : Calls Tryz.prog 74 #[v] w (CheckPost l w) := by
  obtain ⟨A, c, rfl, h1, h2, ha⟩ := sl_parts h
  by_cases h8 : 8 < l.length
  · exact check_long l A c w hl h8
  · cases l with
    | nil => exact check_empty A c w
    | cons p l =>
      obtain ⟨b, o, rfl, hb, r⟩ := ha (by simp)
      exact check_some _ b o c w (by omega) (by simp) h1 h2 hb r hn
theorem rcheck_any (l : List Bid) (v : Value) (w : World) (hl : l.length ≤ 5000) (h : BidS w v l) (hn : ∀ p ∈ l, p.name.size ≤ maxLen) : Calls Tryz.prog 65 #[v] w (CheckPost l w) := by
  obtain ⟨A, c, rfl, h1, h2, ha⟩ := sl_parts h
  by_cases h8 : 8 < l.length
  · exact rcheck_long l A c w hl h8
  · cases l with
    | nil => exact rcheck_empty A c w
    | cons p l =>
      obtain ⟨b, o, rfl, hb, r⟩ := ha (by simp)
      exact rcheck_some _ b o c w (by omega) (by simp) h1 h2 hb r hn
end Go.Proofs.YtaikmgnpfbnjjaaGreatDoor.Ros
namespace Go.Proofs.YtaikmgnpfbnjjaaGreatDoor
namespace Sum
def poly : Nat := 2197175160
/-- a step of the register -/
def step1 (r : Nat) : Nat := if r % 2 = 1 then r / 2 ^^^ poly else r / 2
def stepN : Nat → Nat → Nat
  | 0, r => r
  | n + 1, r => stepN n (step1 r)

theorem xor_cancel {a b c : Nat} (h : a ^^^ c = b ^^^ c) : a = b := by
  have : (a ^^^ c) ^^^ c = (b ^^^ c) ^^^ c := by rw [h]
  simpa [Nat.xor_assoc] using this
theorem xor_cancel_left {a b c : Nat} (h : c ^^^ a = c ^^^ b) : a = b :=
  xor_cancel (c := c) (by rw [Nat.xor_comm a, Nat.xor_comm b]; exact h)

theorem step1_xor (a b : Nat) : step1 (a ^^^ b) = step1 a ^^^ step1 b := by
  unfold step1
  have h := @Nat.xor_mod_two_eq_one a b
  rw [Nat.xor_div_two]
  by_cases ha : a % 2 = 1 <;> by_cases hb : b % 2 = 1
  · rw [if_neg (by rw [h]; simp [ha, hb]), if_pos ha, if_pos hb]
    rw [Nat.xor_assoc, Nat.xor_comm poly, Nat.xor_assoc (b / 2), Nat.xor_self]
    simp
  · rw [if_pos (by rw [h]; simp [ha, hb]), if_pos ha, if_neg hb]
    rw [Nat.xor_assoc, Nat.xor_assoc, Nat.xor_comm poly]
  · rw [if_pos (by rw [h]; simp [ha, hb]), if_neg ha, if_pos hb, Nat.xor_assoc]
  · rw [if_neg (by rw [h]; simp [ha, hb]), if_neg ha, if_neg hb]
theorem step1_lt {r : Nat} (h : r < 4294967296) : step1 r < 4294967296 := by
  unfold step1 poly
  split
  · exact Nat.xor_lt_two_pow (n := 32) (by omega) (by decide)
  · omega
theorem stepN_lt : ∀ (n r : Nat), r < 4294967296 → stepN n r < 4294967296
  | 0, _, h => h
  | n + 1, _, h => stepN_lt n _ (step1_lt h)
theorem stepN_xor : ∀ (n a b : Nat), stepN n (a ^^^ b) = stepN n a ^^^ stepN n b
  | 0, _, _ => rfl
  | n + 1, a, b => by
    show stepN n (step1 (a ^^^ b)) = _
    rw [step1_xor, stepN_xor n]
    rfl
theorem step1_double (m : Nat) : step1 (2 * m) = m := by
  unfold step1
  rw [if_neg (by omega)]
  omega
theorem stepN_mul : ∀ (n m : Nat), stepN n (2 ^ n * m) = m
  | 0, m => by simp [stepN]
  | n + 1, m => by
    show stepN n (step1 (2 ^ (n + 1) * m)) = m
    rw [show 2 ^ (n + 1) * m = 2 * (2 ^ n * m) by rw [Nat.pow_succ, Nat.mul_comm (2 ^ n) 2, Nat.mul_assoc], step1_double]
    exact stepN_mul n m
theorem stepN_add : ∀ (n m r : Nat), stepN (n + m) r = stepN m (stepN n r)
  | 0, m, _ => by rw [Nat.zero_add]; rfl
  | n + 1, m, r => by
    rw [show n + 1 + m = (n + m) + 1 by omega]
    exact stepN_add n m (step1 r)
/-- a number is its upper bits, xor its lower four -/
theorem split16 (r : Nat) : r = 2 ^ 4 * (r / 16) ^^^ r % 16 := by
  have h1 : 2 ^ 4 * (r / 16) ^^^ r % 16 = 2 ^ 4 * (r / 16) + r % 16 := by
    have hb : r % 16 < 2 ^ 4 := by omega
    apply Nat.eq_of_testBit_eq
    intro i
    rw [Nat.testBit_xor, Nat.two_pow_add_eq_or_of_lt hb, Nat.testBit_or]
    by_cases hi : i < 4
    · have : (2 ^ 4 * (r / 16)).testBit i = false := by
        rw [Nat.testBit_two_pow_mul]; simp; omega
      rw [this]; simp
    · have : (r % 16).testBit i = false := Nat.testBit_lt_two_pow (Nat.lt_of_lt_of_le hb (Nat.pow_le_pow_right (by decide) (by omega)))
      rw [this]; simp
  rw [h1]
  omega
/-- four steps at once -/
theorem nibble (r : Nat) : stepN 4 r = r / 16 ^^^ stepN 4 (r % 16) := by
  have h := congrArg (stepN 4) (split16 r)
  rw [h, stepN_xor, stepN_mul]
/-- a step can be undone -/
theorem step1_inj {a b : Nat} (ha : a < 4294967296) (hb : b < 4294967296) (h : step1 a = step1 b) : a = b := by
  have key : ∀ x : Nat, x < 4294967296 → (step1 x).testBit 31 = decide (x % 2 = 1) := by
    intro x hx
    have hd : (x / 2).testBit 31 = false := Nat.testBit_lt_two_pow (by omega)
    unfold step1
    split
    · rename_i h1
      rw [Nat.testBit_xor, hd, show poly.testBit 31 = true from by decide]
      simp [h1]
    · rename_i h1
      rw [hd]; simp [h1]
  have k1 := key a ha
  rw [h, key b hb] at k1
  have hp : (b % 2 = 1) ↔ (a % 2 = 1) := by simpa using k1
  unfold step1 at h
  by_cases h1 : a % 2 = 1
  · rw [if_pos h1, if_pos (hp.2 h1)] at h
    have := xor_cancel h
    have := hp.2 h1
    omega
  · rw [if_neg h1, if_neg (fun h2 => h1 (hp.1 h2))] at h
    have : ¬ b % 2 = 1 := fun h2 => h1 (hp.1 h2)
    omega
theorem stepN_inj : ∀ (n : Nat) {a b : Nat}, a < 4294967296 → b < 4294967296 → stepN n a = stepN n b → a = b
  | 0, _, _, _, _, h => h
  | n + 1, _, _, ha, hb, h => step1_inj ha hb (stepN_inj n (step1_lt ha) (step1_lt hb) h)

/-- the register behind a byte -/
def byteStep (r : Nat) (b : UInt8) : Nat := stepN 8 (r ^^^ b.toNat)
theorem xorb_lt {r : Nat} (b : UInt8) (h : r < 4294967296) : r ^^^ b.toNat < 4294967296 :=
  Nat.xor_lt_two_pow (n := 32) h (by have := b.toNat_lt; omega)
theorem byteStep_lt {r : Nat} (b : UInt8) (h : r < 4294967296) : byteStep r b < 4294967296 := stepN_lt 8 _ (xorb_lt b h)
theorem byteStep_nib (r : Nat) (b : UInt8) : byteStep r b = stepN 4 (stepN 4 (r ^^^ b.toNat)) := stepN_add 4 4 _
theorem foldl_snoc {α β : Type} (f : α → β → α) (a : α) (l : List β) (b : β) : (l ++ [b]).foldl f a = f (l.foldl f a) b := by simp
theorem foldl_app {α β : Type} (f : α → β → α) (a : α) (l m : List β) : (l ++ m).foldl f a = m.foldl f (l.foldl f a) := by simp
def fold (r : Nat) (l : List UInt8) : Nat := l.foldl byteStep r
theorem fold_lt : ∀ (l : List UInt8) {r : Nat}, r < 4294967296 → fold r l < 4294967296
  | [], _, h => h
  | b :: l, _, h => fold_lt l (byteStep_lt b h)
theorem fold_snoc (r : Nat) (l : List UInt8) (b : UInt8) : fold r (l ++ [b]) = byteStep (fold r l) b := by simp [fold]
theorem fold_append (r : Nat) (l m : List UInt8) : fold r (l ++ m) = fold (fold r l) m := by simp [fold]
theorem fold_inj : ∀ (l : List UInt8) {a b : Nat}, a < 4294967296 → b < 4294967296 → fold a l = fold b l → a = b
  | [], _, _, _, _, h => h
  | x :: l, _, _, ha, hb, h => xor_cancel (stepN_inj 8 (xorb_lt x ha) (xorb_lt x hb) (fold_inj l (byteStep_lt x ha) (byteStep_lt x hb) h))
theorem byteStep_inj {r : Nat} {x y : UInt8} (h : r < 4294967296) (he : byteStep r x = byteStep r y) : x = y :=
  UInt8.toNat_inj.1 (xor_cancel_left (stepN_inj 8 (xorb_lt x h) (xorb_lt y h) he))
def upd (c : Nat) (l : List UInt8) : Nat := 4294967295 - fold (4294967295 - c) l
theorem upd_lt (c : Nat) (l : List UInt8) : upd c l < 4294967296 := by unfold upd; omega
theorem upd_append {c : Nat} (l m : List UInt8) : upd (upd c l) m = upd c (l ++ m) := by
  unfold upd
  have := fold_lt l (r := 4294967295 - c) (by omega)
  rw [fold_append, show 4294967295 - (4294967295 - fold (4294967295 - c) l) = fold (4294967295 - c) l by omega]
theorem upd_nil {c : Nat} (h : c < 4294967296) : upd c [] = c := by
  unfold upd fold
  simp only [List.foldl_nil]
  omega
/-- a change of one byte changes the checksum -/
theorem upd_change {c : Nat} (l m : List UInt8) {x y : UInt8} (h : x ≠ y) : upd c (l ++ x :: m) ≠ upd c (l ++ y :: m) := by
  intro he
  unfold upd at he
  have hl := fold_lt l (r := 4294967295 - c) (by omega)
  have h1 := fold_lt (l ++ x :: m) (r := 4294967295 - c) (by omega)
  have h2 := fold_lt (l ++ y :: m) (r := 4294967295 - c) (by omega)
  have h3 : fold (4294967295 - c) (l ++ x :: m) = fold (4294967295 - c) (l ++ y :: m) := by omega
  rw [fold_append, fold_append] at h3
  exact h (byteStep_inj hl (fold_inj m (byteStep_lt x hl) (byteStep_lt y hl) h3))

/-- FNV-1a -/
def fnv1 (h : Nat) (b : UInt8) : Nat := (h ^^^ b.toNat) * 1099511628211 % 18446744073709551616
def fnv (h : Nat) (l : List UInt8) : Nat := l.foldl fnv1 h
theorem fnv1_lt (h : Nat) (b : UInt8) : fnv1 h b < 18446744073709551616 := by
  unfold fnv1
  exact Nat.mod_lt _ (by omega)
theorem fnv_lt : ∀ (l : List UInt8) {h : Nat}, h < 18446744073709551616 → fnv h l < 18446744073709551616
  | [], _, h => h
  | b :: l, _, _ => fnv_lt l (fnv1_lt _ b)
theorem fnv_snoc (h : Nat) (l : List UInt8) (b : UInt8) : fnv h (l ++ [b]) = fnv1 (fnv h l) b := foldl_snoc fnv1 h l b
theorem fnv_append (h : Nat) (l m : List UInt8) : fnv h (l ++ m) = fnv (fnv h l) m := foldl_app fnv1 h l m
theorem xorb64_lt {r : Nat} (b : UInt8) (h : r < 18446744073709551616) : r ^^^ b.toNat < 18446744073709551616 :=
  Nat.xor_lt_two_pow (n := 64) h (by have := b.toNat_lt; omega)
/-- multiplication by the prime can be undone -/
theorem mul_inj {a b : Nat} (ha : a < 18446744073709551616) (hb : b < 18446744073709551616) (h : a * 1099511628211 % 18446744073709551616 = b * 1099511628211 % 18446744073709551616) : a = b := by
  have key : ∀ x : Nat, x < 18446744073709551616 → (x * 1099511628211 % 18446744073709551616) * 14886173955864302971 % 18446744073709551616 = x := by
    intro x hx
    rw [Nat.mod_mul_mod, Nat.mul_assoc, show 1099511628211 * 14886173955864302971 = 887285111055 * 18446744073709551616 + 1 by decide]
    rw [Nat.mul_add, Nat.mul_one, ← Nat.mul_assoc, Nat.add_comm, Nat.add_mul_mod_self_right, Nat.mod_eq_of_lt hx]
  rw [← key a ha, ← key b hb, h]
theorem fnv1_inj_left {a b : Nat} (x : UInt8) (ha : a < 18446744073709551616) (hb : b < 18446744073709551616) (h : fnv1 a x = fnv1 b x) : a = b :=
  xor_cancel (mul_inj (xorb64_lt x ha) (xorb64_lt x hb) h)
theorem fnv1_inj_right {a : Nat} {x y : UInt8} (ha : a < 18446744073709551616) (h : fnv1 a x = fnv1 a y) : x = y :=
  UInt8.toNat_inj.1 (xor_cancel_left (mul_inj (xorb64_lt x ha) (xorb64_lt y ha) h))
theorem fnv_inj : ∀ (l : List UInt8) {a b : Nat}, a < 18446744073709551616 → b < 18446744073709551616 → fnv a l = fnv b l → a = b
  | [], _, _, _, _, h => h
  | x :: l, _, _, ha, hb, h => fnv1_inj_left x ha hb (fnv_inj l (fnv1_lt _ x) (fnv1_lt _ x) h)
theorem fnv_change {c : Nat} (hc : c < 18446744073709551616) (l m : List UInt8) {x y : UInt8} (h : x ≠ y) : fnv c (l ++ x :: m) ≠ fnv c (l ++ y :: m) := by
  intro he
  rw [fnv_append, fnv_append] at he
  have hl := fnv_lt l hc
  exact h (fnv1_inj_right hl (fnv_inj m (fnv1_lt _ x) (fnv1_lt _ y) he))
end Sum
end Go.Proofs.YtaikmgnpfbnjjaaGreatDoor
namespace Go.Proofs.YtaikmgnpfbnjjaaGreatDoor
open Go.ChangeShapes Go.WideShapes Go.ChangeAt Go.RowKit
namespace Sum

theorem bx32 {a : Int} {n : Nat} {b : Int} {m : Nat} (ha : a = (n : Int)) (hb : b = (m : Int)) (hn : n < 4294967296) (hm : m < 4294967296) : bits .xor .u32 a b = ((n ^^^ m : Nat) : Int) := by
  subst ha hb; exact u32_xor_nat n m hn hm
theorem bxb (r : Nat) (b : UInt8) (hr : r < 4294967296) : bits .xor .u32 (r : Int) ((b.toNat : Int) % 4294967296) = ((r ^^^ b.toNat : Nat) : Int) :=
  bx32 rfl (by have := b.toNat_lt; omega) hr (by have := b.toNat_lt; omega)
theorem bxp (x : Nat) (hx : x < 4294967296) : bits .xor .u32 ((x : Int) / 2) 2197175160 = ((x / 2 ^^^ poly : Nat) : Int) :=
  bx32 (by omega) (by rfl) (by omega) (by decide)
theorem step1_odd {x : Nat} (h : x % 2 = 1) : step1 x = x / 2 ^^^ poly := by unfold step1; rw [if_pos h]
theorem step1_even {x : Nat} (h : ¬ x % 2 = 1) : step1 x = x / 2 := by unfold step1; rw [if_neg h]

/-- an array of sixteen numbers -/
@[reducible] def arr16 (p : Nat → Int) : Array Value := #[.int .u32 (p 0), .int .u32 (p 1), .int .u32 (p 2), .int .u32 (p 3), .int .u32 (p 4), .int .u32 (p 5), .int .u32 (p 6), .int .u32 (p 7), .int .u32 (p 8), .int .u32 (p 9), .int .u32 (p 10), .int .u32 (p 11), .int .u32 (p 12), .int .u32 (p 13), .int .u32 (p 14), .int .u32 (p 15)]
theorem lt16 {k : Nat} (h : k < 16) : k = 0 ∨ k = 1 ∨ k = 2 ∨ k = 3 ∨ k = 4 ∨ k = 5 ∨ k = 6 ∨ k = 7 ∨ k = 8 ∨ k = 9 ∨ k = 10 ∨ k = 11 ∨ k = 12 ∨ k = 13 ∨ k = 14 ∨ k = 15 := by omega
structure Box16 (w : World) (b : Nat) (p : Nat → Int) : Prop where
  blk : ∃ T, w.heap[b]? = some (.cells (arr16 p) T (0, 0))
theorem Box16.cell {w : World} {b : Nat} {p : Nat → Int} (h : Box16 w b p) (k : Nat) (hk : k < 16) : w.cell? ⟨b, k, none⟩ = some (.int .u32 (p k)) := by
  obtain ⟨T, h⟩ := h.blk
  rw [cell_of_row w b k _ T _ h]
  rcases lt16 hk with rfl | rfl | rfl | rfl | rfl | rfl | rfl | rfl | rfl | rfl | rfl | rfl | rfl | rfl | rfl | rfl
  all_goals rfl
theorem Box16.free {w : World} {b : Nat} {p : Nat → Int} (h : Box16 w b p) (k : Nat) : w.frozen? ⟨b, k, none⟩ = false := by
  obtain ⟨T, h⟩ := h.blk
  exact frozen_of_row w b k _ T h
theorem Box16.lt {w : World} {b : Nat} {p : Nat → Int} (h : Box16 w b p) : b < w.heap.size := block_lt_of_cell (h.cell 0 (by omega))
theorem Box16.below {B : Nat} {w w1 : World} {b : Nat} {p : Nat → Int} (h : Box16 w b p) (hb : Below B w w1) (hB : b < B) : Box16 w1 b p := by
  obtain ⟨T, h⟩ := h.blk
  exact ⟨T, by rw [hb.block b hB]; exact h⟩
theorem Box16.other {w : World} {b c k : Nat} {p : Nat → Int} (h : Box16 w b p) (hn : b ≠ c) (v : Value) : Box16 (w.setCell ⟨c, k, none⟩ v) b p := by
  obtain ⟨T, h⟩ := h.blk
  exact ⟨T, by rw [heap_setCell_other _ _ _ _ hn]; exact h⟩
theorem Box16.set {w : World} {b : Nat} {p : Nat → Int} (h : Box16 w b p) (k : Nat) (hk : k < 16) (x : Int) : Box16 (w.setCell ⟨b, k, none⟩ (.int .u32 x)) b (fun j => if j = k then x else p j) := by
  obtain ⟨T, h⟩ := h.blk
  refine ⟨T, ?_⟩
  rw [heap_setCell_same w b k _ T _ h]
  rcases lt16 hk with rfl | rfl | rfl | rfl | rfl | rfl | rfl | rfl | rfl | rfl | rfl | rfl | rfl | rfl | rfl | rfl
  all_goals simp [arr16]
theorem Box16.congr {w : World} {b : Nat} {p q : Nat → Int} (h : Box16 w b p) (he : ∀ k, k < 16 → p k = q k) : Box16 w b q := by
  obtain ⟨T, h⟩ := h.blk
  refine ⟨T, ?_⟩
  rw [h]
  simp [arr16, he]
theorem box16_new (w : World) (p : Nat → Int) (T : TypeId) : Box16 (w.alloc (.cells (arr16 p) T)) w.heap.size p := ⟨T, by show (w.heap.push _)[w.heap.size]? = _; simp⟩
theorem Box16.alloc {w : World} {b : Nat} {p : Nat → Int} (h : Box16 w b p) (o : Obj) : Box16 (w.alloc o) b p := h.below (below_new w o) h.lt

theorem Box16.fill {w : World} {b : Nat} {p : Nat → Int} (h : Box16 w b p) (q : Nat → Int) : Box16 ((((((((((((((((w.setCell ⟨b, 0, none⟩ (.int .u32 (q 0))).setCell ⟨b, 1, none⟩ (.int .u32 (q 1))).setCell ⟨b, 2, none⟩ (.int .u32 (q 2))).setCell ⟨b, 3, none⟩ (.int .u32 (q 3))).setCell ⟨b, 4, none⟩ (.int .u32 (q 4))).setCell ⟨b, 5, none⟩ (.int .u32 (q 5))).setCell ⟨b, 6, none⟩ (.int .u32 (q 6))).setCell ⟨b, 7, none⟩ (.int .u32 (q 7))).setCell ⟨b, 8, none⟩ (.int .u32 (q 8))).setCell ⟨b, 9, none⟩ (.int .u32 (q 9))).setCell ⟨b, 10, none⟩ (.int .u32 (q 10))).setCell ⟨b, 11, none⟩ (.int .u32 (q 11))).setCell ⟨b, 12, none⟩ (.int .u32 (q 12))).setCell ⟨b, 13, none⟩ (.int .u32 (q 13))).setCell ⟨b, 14, none⟩ (.int .u32 (q 14))).setCell ⟨b, 15, none⟩ (.int .u32 (q 15))) b q :=
  ((((((((((((((((h.set 0 (by omega) (q 0)).set 1 (by omega) (q 1)).set 2 (by omega) (q 2)).set 3 (by omega) (q 3)).set 4 (by omega) (q 4)).set 5 (by omega) (q 5)).set 6 (by omega) (q 6)).set 7 (by omega) (q 7)).set 8 (by omega) (q 8)).set 9 (by omega) (q 9)).set 10 (by omega) (q 10)).set 11 (by omega) (q 11)).set 12 (by omega) (q 12)).set 13 (by omega) (q 13)).set 14 (by omega) (q 14)).set 15 (by omega) (q 15)).congr (by
    intro k hk
    rcases lt16 hk with rfl | rfl | rfl | rfl | rfl | rfl | rfl | rfl | rfl | rfl | rfl | rfl | rfl | rfl | rfl | rfl
    all_goals rfl)

/-- the table -/
def tab (k : Nat) : Int := (stepN 4 k : Nat)

end Sum
end Go.Proofs.YtaikmgnpfbnjjaaGreatDoor
namespace Go.Proofs.YtaikmgnpfbnjjaaGreatDoor
open Go.ChangeShapes Go.WideShapes Go.ChangeAt Go.RowKit
namespace Sum

theorem band (x : Nat) (hx : x < 4294967296) : bits .and .u32 (x : Int) 15 = ((x % 16 : Nat) : Int) := by
  rw [show (15 : Int) = ((15 : Nat) : Int) from rfl, u32_and_nat x 15 hx (by omega), nat_mask4]
theorem bnib (x : Nat) (hx : x < 4294967296) : bits .xor .u32 ((x : Int) / 16) (tab (x % 16)) = ((stepN 4 x : Nat) : Int) := by
  rw [nibble x]
  exact bx32 (by omega) rfl (by omega) (stepN_lt 4 _ (by omega))
theorem not32 (c : Nat) (hc : c < 4294967296) : 4294967295 ^^^ c = 4294967295 - c := by
  apply Nat.eq_of_testBit_eq
  intro i
  rw [Nat.testBit_xor, show (4294967295 : Nat) = 2 ^ 32 - 1 from rfl, Nat.testBit_two_pow_sub_one, show 2 ^ 32 - 1 - c = 2 ^ 32 - (c + 1) by omega, Nat.testBit_two_pow_sub_succ hc]
  by_cases h : i < 32
  · simp [h]
  · have : c.testBit i = false := Nat.testBit_lt_two_pow (Nat.lt_of_lt_of_le hc (show 2 ^ 32 ≤ 2 ^ i from Nat.pow_le_pow_right (by decide) (by omega)))
    simp [h, this]
theorem bnot (c : Nat) (hc : c < 4294967296) : bits .xor .u32 IntKind.u32.max (c : Int) = ((4294967295 - c : Nat) : Int) := by
  rw [show IntKind.u32.max = ((4294967295 : Nat) : Int) from rfl, u32_xor_nat _ _ (by omega) hc, not32 c hc]
theorem ret_int {k : IntKind} {a b : Int} (h : a = b) : Ending.returned (.int k a) = .returned (.int k b) := by rw [h]
theorem take_snoc (s : ByteArray) (k : Nat) (h : k < s.size) : s.data.toList.take (k + 1) = s.data.toList.take k ++ [s[k]] := by
  rw [List.take_succ_eq_append_getElem (by simpa using h)]; rfl
theorem take_all (s : ByteArray) (k : Nat) (h : s.size ≤ k) : s.data.toList.take k = s.data.toList := List.take_of_length_le (by simpa using h)

/-- the register behind k bytes -/
def reg (c : Nat) (s : ByteArray) (k : Nat) : Nat := fold (4294967295 - c) (s.data.toList.take k)
theorem reg_lt (c : Nat) (s : ByteArray) (k : Nat) : reg c s k < 4294967296 := fold_lt _ (by omega)
theorem reg_snoc (c : Nat) (s : ByteArray) (k : Nat) (h : k < s.size) : reg c s (k + 1) = byteStep (reg c s k) s[k] := by
  unfold reg; rw [take_snoc s k h, fold_snoc]
theorem reg_end (c : Nat) (s : ByteArray) (k : Nat) (h : s.size ≤ k) : upd c s.data.toList = 4294967295 - reg c s k := by
  unfold reg upd; rw [take_all s k h]

end Sum
end Go.Proofs.YtaikmgnpfbnjjaaGreatDoor
namespace Go.Proofs.YtaikmgnpfbnjjaaGreatDoor
open Go.ChangeShapes Go.WideShapes Go.ChangeAt Go.RowKit
namespace Sum

theorem bx64 {a : Int} {n : Nat} {b : Int} {m : Nat} (ha : a = (n : Int)) (hb : b = (m : Int)) (hn : n < 18446744073709551616) (hm : m < 18446744073709551616) : bits .xor .u64 a b = ((n ^^^ m : Nat) : Int) := by
  subst ha hb; exact u64_xor_nat n m hn hm
theorem fnv_wrap (y : Nat) (b : UInt8) (hy : y < 18446744073709551616) : IntKind.u64.wrap (bits BinOp.xor IntKind.u64 (↑y) (IntKind.u64.wrap ↑b.toNat) * 1099511628211) = ((fnv1 y b : Nat) : Int) := by
  have hb := b.toNat_lt
  have e1 : IntKind.u64.wrap (b.toNat : Int) = ((b.toNat : Nat) : Int) := by rw [IntKind.wrap_u64]; omega
  rw [bx64 rfl e1 hy (by omega), IntKind.wrap_u64]
  unfold fnv1
  generalize y ^^^ b.toNat = z
  omega
/-- the hash behind k bytes -/
def hsh (s : ByteArray) (k : Nat) : Nat := fnv 14695981039346656037 (s.data.toList.take k)
theorem hsh_lt (s : ByteArray) (k : Nat) : hsh s k < 18446744073709551616 := fnv_lt _ (by omega)
theorem hsh_snoc (s : ByteArray) (k : Nat) (h : k < s.size) : hsh s (k + 1) = fnv1 (hsh s k) s[k] := by
  unfold hsh; rw [take_snoc s k h, fnv_snoc]
theorem hsh_end (s : ByteArray) (k : Nat) (h : s.size ≤ k) : fnv 14695981039346656037 s.data.toList = hsh s k := by
  unfold hsh; rw [take_all s k h]
theorem hsh_zero (s : ByteArray) : hsh s 0 = 14695981039346656037 := rfl

/-- the n low-order bytes, least significant first -/
def lowL (x n : Nat) : List UInt8 := (List.range n).map fun i => UInt8.ofNat (x / 256 ^ i % 256)
theorem lowL_length (x n : Nat) : (lowL x n).length = n := by simp [lowL]
theorem lowL_succ (x n : Nat) : lowL x (n + 1) = lowL x n ++ [UInt8.ofNat (x / 256 ^ n % 256)] := by simp [lowL, List.range_succ]
def lowS (x n : Nat) : ByteArray := ⟨(lowL x n).toArray⟩
theorem lowS_size (x n : Nat) : (lowS x n).size = n := by simp [lowS, ByteArray.size, lowL_length]
theorem lowS_succ (x n : Nat) : lowS x n ++ strOfNums [((x / 256 ^ n : Nat) : Int) % 256] = lowS x (n + 1) := by
  unfold lowS
  rw [lowL_succ]
  unfold strOfNums
  rw [ByteArray.mk_append_mk]
  simp
  have : (((x / 256 ^ n : Nat) : Int) % 256).toNat = x / 256 ^ n % 256 := by omega
  simpa using congrArg UInt8.ofNat this

theorem conv_new (w : World) (xs : List Int) :
    (convert 106 9 (.slice (some ⟨w.heap.size, 0, none⟩) xs.length xs.length)).run Tryz.prog (w.alloc (.cells (xs.map (Value.int .u8)).toArray 5)) = .ok (.string (strOfNums xs)) (w.alloc (.cells (xs.map (Value.int .u8)).toArray 5)) := by
  refine run_convert_bytes_arg (P := Tryz.prog) _ 106 5 (by kernel_rfl) (by kernel_rfl) _ _ _ _ xs rfl ?_ 9 (by kernel_rfl)
  intro i hi
  rw [Nat.zero_add, World.cell?_alloc_new]
  simp [hi]

theorem low4_num (x : Nat) : strOfNums [(x : Int) % 256, (x : Int) / 256 % 256, (x : Int) / 65536 % 256, (x : Int) / 16777216 % 256] = lowS x 4 := by
  unfold strOfNums lowS
  congr 2
  simp only [List.map_cons, List.map_nil, lowL, List.range, List.range.loop]
  have h : ∀ (n : Nat), (((x : Int) / ((256 ^ n : Nat) : Int)) % 256).toNat = x / 256 ^ n % 256 := fun n => by
    have e : (x : Int) / ((256 ^ n : Nat) : Int) = ((x / 256 ^ n : Nat) : Int) := by simp
    rw [e]; omega
  have h0 : ((x : Int) % 256).toNat = x / 256 ^ 0 % 256 := by rw [Nat.pow_zero, Nat.div_one]; omega
  have h1 : ((x : Int) / 256 % 256).toNat = x / 256 ^ 1 % 256 := h 1
  have h2 : ((x : Int) / 65536 % 256).toNat = x / 256 ^ 2 % 256 := h 2
  have h3 : ((x : Int) / 16777216 % 256).toNat = x / 256 ^ 3 % 256 := h 3
  rw [h0, h1, h2, h3]
theorem low8_num (x : Nat) : strOfNums [(x : Int) % 256, (x : Int) / 256 % 256, (x : Int) / 65536 % 256, (x : Int) / 16777216 % 256, (x : Int) / 4294967296 % 256, (x : Int) / 1099511627776 % 256, (x : Int) / 281474976710656 % 256, (x : Int) / 72057594037927936 % 256] = lowS x 8 := by
  unfold strOfNums lowS
  congr 2
  simp only [List.map_cons, List.map_nil, lowL, List.range, List.range.loop]
  have h : ∀ (n : Nat), (((x : Int) / ((256 ^ n : Nat) : Int)) % 256).toNat = x / 256 ^ n % 256 := fun n => by
    have e : (x : Int) / ((256 ^ n : Nat) : Int) = ((x / 256 ^ n : Nat) : Int) := by simp
    rw [e]; omega
  have h0 : ((x : Int) % 256).toNat = x / 256 ^ 0 % 256 := by rw [Nat.pow_zero, Nat.div_one]; omega
  have h1 : ((x : Int) / 256 % 256).toNat = x / 256 ^ 1 % 256 := h 1
  have h2 : ((x : Int) / 65536 % 256).toNat = x / 256 ^ 2 % 256 := h 2
  have h3 : ((x : Int) / 16777216 % 256).toNat = x / 256 ^ 3 % 256 := h 3
  have h4 : ((x : Int) / 4294967296 % 256).toNat = x / 256 ^ 4 % 256 := h 4
  have h5 : ((x : Int) / 1099511627776 % 256).toNat = x / 256 ^ 5 % 256 := h 5
  have h6 : ((x : Int) / 281474976710656 % 256).toNat = x / 256 ^ 6 % 256 := h 6
  have h7 : ((x : Int) / 72057594037927936 % 256).toNat = x / 256 ^ 7 % 256 := h 7
  rw [h0, h1, h2, h3, h4, h5, h6, h7]
end Sum
end Go.Proofs.YtaikmgnpfbnjjaaGreatDoor
namespace Go.Proofs.YtaikmgnpfbnjjaaGreatDoor
open Go.ChangeShapes Go.WideShapes Go.ChangeAt Go.RowKit
attribute [local go_sem] later_cell
namespace Sum

/-- what a chained hash hashes -/
def chS (p : Nat) (s : ByteArray) : ByteArray := lowS p 8 ++ lowS s.size 8 ++ s
def chain (p : Nat) (s : ByteArray) : Nat := fnv 14695981039346656037 (chS p s).data.toList
theorem chain_lt (p : Nat) (s : ByteArray) : chain p s < 18446744073709551616 := fnv_lt _ (by omega)
theorem size_append (a b : ByteArray) : (a ++ b).size = a.size + b.size := ByteArray.size_append

/-- the sealed string -/
def sealS (s : ByteArray) : ByteArray := lowS (upd 0 s.data.toList) 4 ++ s
theorem beqS (a b : ByteArray) : (a.toList == b.toList) = decide (a = b) := by
  rw [ByteArray.toList_eq, ByteArray.toList_eq]
  obtain ⟨⟨x⟩⟩ := a
  obtain ⟨⟨y⟩⟩ := b
  by_cases h : x = y
  · subst h; simp
  · have h2 : ¬ (⟨⟨x⟩⟩ : ByteArray) = ⟨⟨y⟩⟩ := fun e => h (by injection e with e; injection e)
    simp [h, h2]
theorem cut4 (s : ByteArray) (_h4 : 4 ≤ s.size) : s.extract 0 4 ++ s.extract 4 s.size = s := by
  rw [ByteArray.extract_append_extract]
  simp
theorem append_inj {a b c : ByteArray} (hs : a.size = b.size) : a ++ c = b ++ c ↔ a = b := by
  constructor
  · intro h
    have h1 := congrArg (fun x : ByteArray => x.extract 0 a.size) h
    have e1 : (a ++ c).extract 0 a.size = a := ByteArray.extract_append_eq_left rfl
    have e2 : (b ++ c).extract 0 a.size = b := ByteArray.extract_append_eq_left hs
    rw [e1, e2] at h1
    exact h1
  · intro h; rw [h]
theorem seal_iff (s : ByteArray) (h4 : 4 ≤ s.size) : sealS (s.extract 4 s.size) = s ↔ lowS (upd 0 (s.extract 4 s.size).data.toList) 4 = s.extract 0 4 := by
  unfold sealS
  have e := cut4 s h4
  constructor
  · intro h
    rw [← append_inj (c := s.extract 4 s.size) (by rw [lowS_size]; simp; omega), h, e]
  · intro h
    rw [h, e]
end Sum
end Go.Proofs.YtaikmgnpfbnjjaaGreatDoor
