/- Contracts of Few and of the law's few. Printed by gen_pr2.py. The examples of the chapter: the setup, the sellers, what Divide answers. -/
import Derived.Test.YtfopmaeaclbknaaDoorPk28
import Derived.Test.YtfopmaeaclbknaaDoorPk40
namespace Go.Proofs.YtfopmaeaclbknaaDoor.Pr
open Go.ChangeShapes Go.WideShapes Go.ChangeAt Go.RowKit Gn Cat Lex
set_option linter.unusedVariables false
set_option linter.unusedSimpArgs false
def smallSel (x : Sel) : Bool := decide (x.name.size ≤ 100) && decide (x.ps.length ≤ 12)
def fewB (l : List Sel) : Bool := decide (l.length ≤ 12) && l.all smallSel
set_option maxHeartbeats 1000000 in
set_option maxRecDepth 100000 in
theorem refFew_any (l : List Sel) (v : Value) (w : World) (hv : SelOk w l) (h : SelS w v l) : Calls Tryd.prog 41 #[v] w fun e w' => e = .returned (.bool (fewB l)) ∧ Below w.heap.size w w' := by
  obtain ⟨A, c, rfl, _, _, hr⟩ := sl_parts h
  have HR := Lib.hid hr
  have HV := Lib.hid (fun (k : Nat) (hk : k < l.length) => sl_parts (hv _ (List.getElem_mem hk)).2)
  clear h hr hv
  by_cases hL : 12 < l.length
  · have hd1 : decide (12 < l.length) = true := decide_eq_true hL
    have hd2 : decide ((12 : Int) < (l.length : Int)) = true := decide_eq_true (by omega)
    have HF : Hid (fewB l = false) := by show fewB l = false; simp [fewB, show ¬ l.length ≤ 12 by omega]
    clear hL HR HV
    go_enter Tryd.func41, Tryd.ntmps41
    go_wp2_with fail
    go_ret
    exact ⟨by rw [HF.out]; rfl, Below.refl _ _⟩
  have hL2 : l.length ≤ 12 := by omega
  have hd1 : decide (12 < l.length) = false := decide_eq_false hL
  have hd2 : decide ((12 : Int) < (l.length : Int)) = false := decide_eq_false (by omega)
  have HF : Hid (fewB l = l.all smallSel) := by show fewB l = l.all smallSel; simp [fewB, hL2]
  clear hL
  go_enter Tryd.func41, Tryd.ntmps41
  go_wp2_with fail
  go_loopw [3] (fun iv wr => ∃ k : Nat, k ≤ l.length ∧ iv = .int .i64 (k : Int) ∧ Hid ((l.take k).all smallSel = true) ∧ Hid (Below w.heap.size w wr)) (fun iv _ => l.length - (intOf iv).toNat)
  case atStart => exact ⟨0, Nat.zero_le _, rfl, rfl, Below.refl _ _⟩
  case round =>
    obtain ⟨k, hk, rfl, HA, HB⟩ := hrel
    clear hd1 hd2
    have hk0 : (0 : Int) ≤ (k : Int) := by omega
    have hk5 : (k : Int) ≤ 12 := by omega
    by_cases hkn : k < l.length
    · have hd1 : decide (k < l.length) = true := decide_eq_true hkn
      have hd2 : decide ((k : Int) < (l.length : Int)) = true := decide_eq_true (by omega)
      have hkn1 : (k : Int) < (l.length : Int) := by omega
      obtain ⟨b, o, e1, hb, hrow⟩ := HR.out (by omega)
      subst e1
      have hat := sel_at (hrow.below hb HB.out) k hkn
      obtain ⟨Av, cv, hvf, _⟩ := HV.out k hkn
      have HALL : Hid (∀ r, smallSel l[k] = r → (l.take (k + 1)).all smallSel = r) := by
        intro r hr
        rw [List.take_succ_eq_append_getElem hkn, List.all_append, HA.out]
        simp [hr]
      have HNO : Hid (smallSel l[k] = false → l.all smallSel = false) := by
        intro hr
        rw [List.all_eq_false]
        exact ⟨l[k], List.getElem_mem hkn, by simp [hr]⟩
      rw [hvf] at hat
      obtain ⟨pn, hpn⟩ : ∃ pn, pn = l[k].name := ⟨_, rfl⟩
      obtain ⟨pn2, hpn2⟩ : ∃ pn, pn = l[k].ps.length := ⟨_, rfl⟩
      rw [← hpn, ← hpn2] at hat
      have HSM : Hid (smallSel l[k] = (decide (pn.size ≤ 100) && decide (pn2 ≤ 12))) := by rw [hpn, hpn2]; rfl
      clear hpn hpn2 hvf hrow hb
      by_cases q1 : 100 < pn.size
      · have y1 : decide (100 < pn.size) = true := decide_eq_true q1
        have y2 : decide ((100 : Int) < (pn.size : Int)) = true := decide_eq_true (by omega)
        have HF2 := Lib.hid (HNO.out (by rw [HSM.out, decide_eq_false (by omega)]; rfl))
        clear q1
        go_wp2_with fail
        go_ret
        exact ⟨by rw [HF.out, HF2.out]; rfl, HB.out⟩
      · have y1 : decide (100 < pn.size) = false := decide_eq_false q1
        have y2 : decide ((100 : Int) < (pn.size : Int)) = false := decide_eq_false (by omega)
        by_cases q2 : 12 < pn2
        · have y3 : decide (12 < pn2) = true := decide_eq_true q2
          have y4 : decide ((12 : Int) < (pn2 : Int)) = true := decide_eq_true (by omega)
          have HF2 := Lib.hid (HNO.out (by rw [HSM.out, decide_eq_true (show pn.size ≤ 100 by omega), decide_eq_false (show ¬ pn2 ≤ 12 by omega)]; rfl))
          clear q1 q2
          go_wp2_with fail
          go_ret
          exact ⟨by rw [HF.out, HF2.out]; rfl, HB.out⟩
        · have y3 : decide (12 < pn2) = false := decide_eq_false q2
          have y4 : decide ((12 : Int) < (pn2 : Int)) = false := decide_eq_false (by omega)
          have HF2 := Lib.hid (HALL.out true (by rw [HSM.out, decide_eq_true (show pn.size ≤ 100 by omega), decide_eq_true (show pn2 ≤ 12 by omega)]; rfl))
          clear q1 q2
          go_wp2_with fail
          go_roundw
          case rel => exact ⟨k + 1, hkn, by go_num, HF2.out, HB.out⟩
          case measure => simp [intOf]; omega
    · obtain rfl : k = l.length := by omega
      have hd1 : decide (l.length < l.length) = false := decide_eq_false (Nat.lt_irrefl _)
      have hd2 : decide ((l.length : Int) < (l.length : Int)) = false := decide_eq_false (Int.lt_irrefl _)
      have HA2 : Hid (l.all smallSel = true) := by have := HA.out; rw [List.take_length] at this; exact this
      go_wp2_with fail
      go_ret
      exact ⟨by rw [HF.out, HA2.out]; rfl, HB.out⟩
theorem fewB_len {l : List Sel} (h : fewB l = true) : l.length ≤ 12 ∧ ∀ x ∈ l, x.name.size ≤ 100 ∧ x.ps.length ≤ 12 := by
  simp only [fewB, Bool.and_eq_true, decide_eq_true_eq, List.all_eq_true, smallSel] at h
  exact h
/-- the law's few -/
def fewS (n1 n2 : Nat) (l : List Sel) (m : Nat) : Bool := decide (n1 ≤ 8) && (decide (n2 ≤ 10) && (fewB l && decide (m ≤ 20)))
theorem few_any (A1 A2 : Option Addr) (n1 n2 c1 c2 : Nat) (v3 v4 : Value) (l : List Sel) (v : Value) (AX : Option Addr) (m cX : Nat) (w : World) (hl : l.length * 40 ≤ 140737488355328) (hv : SelOk w l) (h : SelS w v l) : Calls Tryd.prog 29 #[.agg #[.slice A1 n1 c1, .slice A2 n2 c2, v3, v4], v, .slice AX m cX] w fun e w' => e = .returned (.bool (fewS n1 n2 l m)) ∧ Below w.heap.size w w' := by
  have C1 := Lib.hid (fun W (b : Below w.heap.size w W) => sellers_any l v W hl (hv.keep b) (h.keep b))
  have C2 := Lib.hid (fun W v' (b : Below w.heap.size w W) (k : SelS W v' l) => refFew_any l v' W (hv.keep b) k)
  obtain ⟨A, c, rfl, _⟩ := sl_parts h
  have BX := Lib.hid (below_new w (.cells #[.slice A1 n1 c1, .slice A2 n2 c2, v3, v4] 48))
  clear h hl hv
  by_cases q0 : n1 ≤ 8
  case neg =>
    have y1 : decide (n1 ≤ 8) = false := decide_eq_false q0
    have y2 : decide ((n1 : Int) ≤ 8) = false := decide_eq_false (by omega)
    have HF : Hid (fewS n1 n2 l m = false) := by show fewS n1 n2 l m = false; simp [fewS, q0]
    clear q0
    go_enter Tryd.func29, Tryd.ntmps29
    go_wp2_with fail
    go_ret
    exact ⟨by rw [HF.out]; rfl, BX.out⟩
  have t0 : decide (n1 ≤ 8) = true := decide_eq_true q0
  have u0 : decide ((n1 : Int) ≤ 8) = true := decide_eq_true (by omega)
  by_cases q1 : n2 ≤ 10
  case neg =>
    have y1 : decide (n2 ≤ 10) = false := decide_eq_false q1
    have y2 : decide ((n2 : Int) ≤ 10) = false := decide_eq_false (by omega)
    have HF : Hid (fewS n1 n2 l m = false) := by show fewS n1 n2 l m = false; simp [fewS, q1]
    clear q1
    go_enter Tryd.func29, Tryd.ntmps29
    go_wp2_with fail
    go_ret
    exact ⟨by rw [HF.out]; rfl, BX.out⟩
  have t1 : decide (n2 ≤ 10) = true := decide_eq_true q1
  have u1 : decide ((n2 : Int) ≤ 10) = true := decide_eq_true (by omega)
  cases hF : fewB l with
  | false =>
    have HF : Hid (fewS n1 n2 l m = false) := by show fewS n1 n2 l m = false; simp [fewS, hF]
    clear q0 q1
    go_enter Tryd.func29, Tryd.ntmps29
    go_wp2_with fail
    refine (C1.out _ BX.out).mono ?_
    rintro e w1 ⟨v', rfl, k1, d1⟩
    have B1 := Lib.hid (chain0 BX.out d1)
    have K1 := Lib.hid k1
    clear d1 k1
    go_wp2_with fail
    refine (C2.out _ _ B1.out K1.out).mono ?_
    rintro e w2 ⟨rfl, d2⟩
    have B2 := Lib.hid (chain0 B1.out d2)
    clear d2
    try rw [hF]
    go_wp2_with fail
    go_ret
    exact ⟨by rw [HF.out]; rfl, B2.out⟩
  | true =>
    by_cases q2 : m ≤ 20
    · have t2 : decide (m ≤ 20) = true := decide_eq_true q2
      have u2 : decide ((m : Int) ≤ 20) = true := decide_eq_true (by omega)
      have HF : Hid (fewS n1 n2 l m = true) := by show fewS n1 n2 l m = true; simp [fewS, hF, q0, q1, q2]
      clear q0 q1 q2
      go_enter Tryd.func29, Tryd.ntmps29
      go_wp2_with fail
      refine (C1.out _ BX.out).mono ?_
      rintro e w1 ⟨v', rfl, k1, d1⟩
      have B1 := Lib.hid (chain0 BX.out d1)
      have K1 := Lib.hid k1
      clear d1 k1
      go_wp2_with fail
      refine (C2.out _ _ B1.out K1.out).mono ?_
      rintro e w2 ⟨rfl, d2⟩
      have B2 := Lib.hid (chain0 B1.out d2)
      clear d2
      try rw [hF]
      go_wp2_with fail
      go_ret
      exact ⟨by rw [HF.out]; rfl, B2.out⟩
    · have t2 : decide (m ≤ 20) = false := decide_eq_false q2
      have u2 : decide ((m : Int) ≤ 20) = false := decide_eq_false (by omega)
      have HF : Hid (fewS n1 n2 l m = false) := by show fewS n1 n2 l m = false; simp [fewS, q2]
      clear q0 q1 q2
      go_enter Tryd.func29, Tryd.ntmps29
      go_wp2_with fail
      refine (C1.out _ BX.out).mono ?_
      rintro e w1 ⟨v', rfl, k1, d1⟩
      have B1 := Lib.hid (chain0 BX.out d1)
      have K1 := Lib.hid k1
      clear d1 k1
      go_wp2_with fail
      refine (C2.out _ _ B1.out K1.out).mono ?_
      rintro e w2 ⟨rfl, d2⟩
      have B2 := Lib.hid (chain0 B1.out d2)
      clear d2
      try rw [hF]
      go_wp2_with fail
      go_ret
      exact ⟨by rw [HF.out]; rfl, B2.out⟩
end Go.Proofs.YtfopmaeaclbknaaDoor.Pr
namespace Go.Proofs.YtfopmaeaclbknaaDoor.Pr
open Go.ChangeShapes Go.WideShapes Go.ChangeAt Go.RowKit Go.Maps Go.WideMaps Gn Cat Lex So
set_option linter.unusedVariables false
set_option linter.unusedSimpArgs false
def saleL : List Prod := [⟨⟨#[97]⟩, 1, 1, 0, 0⟩, ⟨⟨#[98]⟩, 1, 3, 0, 0⟩]
def selA (g : Nat) : Sel := ⟨⟨#[117]⟩, .slice (some ⟨g, 0, none⟩) 1 1, [0]⟩
def selB (g : Nat) : Sel := ⟨⟨#[118]⟩, .slice (some ⟨g, 0, none⟩) 1 1, [1]⟩
theorem ps_of_blk {w : World} {g n : Nat} {t : TypeId} {l : List Prod} (h : Blk w g t (prodCells l).toArray) (hn : l.length = n) (hm : n ≤ 100) : PS w (.slice (some ⟨g, 0, none⟩) n n) l := by
  subst hn
  refine ⟨prodCells_len l, some ⟨g, 0, none⟩, l.length, rfl, Nat.le_refl _, by unfold maxLen; omega, fun _ => ⟨g, 0, rfl, h.lt, fun j u hu => ?_⟩⟩
  rw [Nat.zero_add, h.cell]
  simpa using hu
theorem sl_of_cells {w : World} {g n K : Nat} {t : TypeId} {cs : List Value} (h : Blk w g t cs.toArray) (hl : cs.length = n * K) (hm : n ≤ 1000) : Sl w K (.slice (some ⟨g, 0, none⟩) n n) n cs := by
  refine ⟨hl, some ⟨g, 0, none⟩, n, rfl, Nat.le_refl _, by unfold maxLen; omega, fun _ => ⟨g, 0, rfl, h.lt, fun j u hu => ?_⟩⟩
  rw [Nat.zero_add, h.cell]
  simpa using hu
theorem sale_names : ∀ p ∈ saleL, p.name.size ≤ maxLen := by
  intro p hp
  simp only [saleL, List.mem_cons, List.not_mem_nil, or_false] at hp
  rcases hp with rfl | rfl <;> (show 1 ≤ maxLen; unfold maxLen; omega)
theorem sale_any (w : World) : Calls Tryd.prog 59 #[] w fun e w' => ∃ v1 g2, e = .returned (.agg #[v1, .slice (some ⟨g2, 0, none⟩) 1 1, .slice none 0 0, .slice none 0 0]) ∧ SetP w' v1 saleL ∧ Below w.heap.size w w' := by
  have e1 : (w.alloc (.cells #[.slice (some ⟨w.heap.size + 1, 0, none⟩) 2 2, .slice (some ⟨w.heap.size + 1 + 1, 0, none⟩) 1 1, .slice none 0 0, .slice none 0 0] 48)).heap.size = w.heap.size + 1 := World.size_alloc _ _
  have K := ((Blk.new w 48 #[.slice (some ⟨w.heap.size + 1, 0, none⟩) 2 2, .slice (some ⟨w.heap.size + 1 + 1, 0, none⟩) 1 1, .slice none 0 0, .slice none 0 0]).alloc (.cells (prodCells saleL).toArray 108)).alloc (.cells #[.string ⟨#[120]⟩, .int .i64 0, .int .i64 0, .int .i64 0] 130)
  have HP := Lib.hid ((ps_of_blk (l := saleL) (n := 2) (Blk.new (w.alloc (.cells #[.slice (some ⟨w.heap.size + 1, 0, none⟩) 2 2, .slice (some ⟨w.heap.size + 1 + 1, 0, none⟩) 1 1, .slice none 0 0, .slice none 0 0] 48)) 108 (prodCells saleL).toArray) rfl (by omega)).keep (below_new _ (.cells #[.string ⟨#[120]⟩, .int .i64 0, .int .i64 0, .int .i64 0] 130)))
  rw [e1] at HP
  have HK := Lib.hid K
  have HB : Hid (Below w.heap.size w (((w.alloc (.cells #[.slice (some ⟨w.heap.size + 1, 0, none⟩) 2 2, .slice (some ⟨w.heap.size + 1 + 1, 0, none⟩) 1 1, .slice none 0 0, .slice none 0 0] 48)).alloc (.cells (prodCells saleL).toArray 108)).alloc (.cells #[.string ⟨#[120]⟩, .int .i64 0, .int .i64 0, .int .i64 0] 130))) := ((below_new _ _).alloc (below_new _ _).size _).alloc ((below_new _ _).alloc (below_new _ _).size _).size _
  clear K e1
  go_enter Tryd.func59, Tryd.ntmps59
  go_wp2_with fail
  exact bodyPost_ret (v := .agg #[.slice (some ⟨w.heap.size + 1, 0, none⟩) 2 2, .slice (some ⟨w.heap.size + 1 + 1, 0, none⟩) 1 1, .slice none 0 0, .slice none 0 0]) (results_blk rfl rfl HK.out Tryd.underlying48 rfl (by kernel_rfl)) rfl ⟨_, _, rfl, ⟨HP.out, by decide, sale_names⟩, HB.out⟩
theorem one_int (w : World) (x : Int) : IS (w.alloc (.cells #[.int .i64 x] 3)) (.slice (some ⟨w.heap.size, 0, none⟩) 1 1) [x] := is_of_blk (m := 1) (f := fun _ => x) (Blk.new w 3 #[.int .i64 x]) (by unfold maxLen; omega)
theorem two_any (w : World) : Calls Tryd.prog 60 #[] w fun e w' => ∃ g a b, e = .returned (.slice (some ⟨g, 0, none⟩) 2 2) ∧ SellP w' (.slice (some ⟨g, 0, none⟩) 2 2) [selA a, selB b] ∧ SellP w' (.slice (some ⟨g, 0, none⟩) 1 2) [selA a] ∧ Below w.heap.size w w' := by
  obtain ⟨W1, hW1⟩ : ∃ W1, W1 = w.alloc (.cells #[.int .i64 0] 3) := ⟨_, rfl⟩
  obtain ⟨W2, hW2⟩ : ∃ W2, W2 = W1.alloc (.cells #[.int .i64 1] 3) := ⟨_, rfl⟩
  obtain ⟨W3, hW3⟩ : ∃ W3, W3 = W2.alloc (.cells #[.string ⟨#[117]⟩, .slice (some ⟨w.heap.size, 0, none⟩) 1 1, .string ⟨#[118]⟩, .slice (some ⟨w.heap.size + 1, 0, none⟩) 1 1] 102) := ⟨_, rfl⟩
  have z1 : W1.heap.size = w.heap.size + 1 := by rw [hW1, World.size_alloc]
  have z2 : W2.heap.size = w.heap.size + 1 + 1 := by rw [hW2, World.size_alloc, z1]
  have b1 : Below w.heap.size w W1 := by rw [hW1]; exact below_new _ _
  have b2 : Below W1.heap.size W1 W2 := by rw [hW2]; exact below_new _ _
  have b3 : Below W2.heap.size W2 W3 := by rw [hW3]; exact below_new _ _
  have i1 : IS W1 (.slice (some ⟨w.heap.size, 0, none⟩) 1 1) [0] := by rw [hW1]; exact one_int w 0
  have i2 : IS W2 (.slice (some ⟨w.heap.size + 1, 0, none⟩) 1 1) [1] := by rw [hW2, ← z1]; exact one_int W1 1
  have kb : Blk W3 (w.heap.size + 1 + 1) 102 #[.string ⟨#[117]⟩, .slice (some ⟨w.heap.size, 0, none⟩) 1 1, .string ⟨#[118]⟩, .slice (some ⟨w.heap.size + 1, 0, none⟩) 1 1] := by rw [hW3, ← z2]; exact Blk.new _ _ _
  have hi1 := i1.keep (chain0 b2 b3)
  have hi2 := i2.keep b3
  have nm1 : (selA w.heap.size).name.size ≤ maxLen := by show 1 ≤ maxLen; unfold maxLen; omega
  have nm2 : (selB (w.heap.size + 1)).name.size ≤ maxLen := by show 1 ≤ maxLen; unfold maxLen; omega
  have s2 : SellP W3 (.slice (some ⟨w.heap.size + 1 + 1, 0, none⟩) 2 2) [selA w.heap.size, selB (w.heap.size + 1)] := ⟨sl_of_cells (n := 2) kb rfl (by omega), fun x hx => by
    simp only [List.mem_cons, List.not_mem_nil, or_false] at hx
    rcases hx with rfl | rfl
    · exact ⟨nm1, hi1⟩
    · exact ⟨nm2, hi2⟩, fun x hx => by
    simp only [List.mem_cons, List.not_mem_nil, or_false] at hx
    rcases hx with rfl | rfl <;> (show 1 ≤ 1000; omega), by show 2 * 40 ≤ _; omega⟩
  have s1 : SellP W3 (.slice (some ⟨w.heap.size + 1 + 1, 0, none⟩) 1 2) [selA w.heap.size] := ⟨⟨rfl, some ⟨w.heap.size + 1 + 1, 0, none⟩, 2, rfl, by show 1 ≤ 2; omega, by unfold maxLen; omega, fun _ => ⟨_, 0, rfl, kb.lt, fun j u hu => by
    rw [Nat.zero_add, kb.cell]
    match j, hu with
    | 0, hu => exact hu
    | 1, hu => exact hu
    | j + 2, hu => simp [selA] at hu⟩⟩, fun x hx => by
    simp only [List.mem_cons, List.not_mem_nil, or_false] at hx
    rw [hx]
    exact ⟨nm1, hi1⟩, fun x hx => by
    simp only [List.mem_cons, List.not_mem_nil, or_false] at hx
    rw [hx]; show 1 ≤ 1000; omega, by show 1 * 40 ≤ _; omega⟩
  have H : Hid (SellP W3 (.slice (some ⟨w.heap.size + 1 + 1, 0, none⟩) 2 2) [selA w.heap.size, selB (w.heap.size + 1)] ∧ SellP W3 (.slice (some ⟨w.heap.size + 1 + 1, 0, none⟩) 1 2) [selA w.heap.size] ∧ Below w.heap.size w W3) := ⟨s2, s1, chain0 b1 (chain0 b2 b3)⟩
  rw [hW3, hW2, hW1] at H
  clear s2 s1 nm1 nm2 hi1 hi2 kb i1 i2 b1 b2 b3 z1 z2 hW3 hW2 hW1
  go_enter Tryd.func60, Tryd.ntmps60
  go_wp2_with fail
  go_ret
  exact ⟨_, _, _, rfl, H.out.1, H.out.2.1, H.out.2.2⟩
/-- the examples' invoices -/
def w11 : Nat → Int := fun i => if i < 2 then 1 else 0
def w10 : Nat → Int := fun i => if i < 1 then 1 else 0
def inv1 : Inv := ⟨0, w11, 4, 7, 11⟩
def inv2 : Inv := ⟨0, w10, 4, 7, 11⟩
def o12 : Own := Own.put (Own.put (fun _ => none) 0 0) 1 1
theorem sel_ok (a b : Nat) : selR saleL [selA a, selB b] = .ok o12 := by kernel_rfl
theorem sel_no (a : Nat) : selR saleL [selA a] = .error 6 := by kernel_rfl
theorem err1 : divErr saleL 1 [inv1] = 0 := by decide +kernel
theorem err2 : divErr saleL 1 [inv2] = 2 := by decide +kernel
theorem wgts1 : wgts o12 saleL w11 2 = [2, 4] := by decide +kernel
theorem order72 : IsOrder 7 [2, 4] 6 [1, 0] := ⟨by decide, by decide⟩
theorem share72 : shareL 7 [2, 4] = [2, 5] := (shareL_of (T := 7) (W := [2, 4]) (order := [1, 0]) order72).symm.trans (by decide)
theorem gotR1 : gotR o12 saleL [inv1] 0 = 1 ∧ gotR o12 saleL [inv1] 1 = 3 := by decide +kernel
theorem netP1 (i : Nat) : netP o12 saleL 2 inv1 i = ((([2, 5] : List Nat).getD i 0 : Nat) : Int) := by
  unfold netP
  rw [show inv1.want = w11 from rfl, wgts1, show inv1.net.toNat = 7 from rfl, share72]
theorem gotN1 : gotN o12 saleL 2 [inv1] 0 = 2 ∧ gotN o12 saleL 2 [inv1] 1 = 5 := by
  unfold gotN
  simp only [List.map_cons, List.map_nil, List.sum_cons, List.sum_nil, netP1]
  decide
theorem div1 (a b : Nat) : divR saleL 1 [selA a, selB b] [inv1] = .ok [⟨0, 1, 2⟩, ⟨1, 3, 5⟩] := by
  rw [divR_ok (sel_ok a b), if_pos err1]
  show Except.ok (shrL 2 _ _ _) = _
  have e : shrL 2 (fun i => (i : Int)) (gotR o12 saleL [inv1]) (gotN o12 saleL 2 [inv1]) = [⟨0, gotR o12 saleL [inv1] 0, gotN o12 saleL 2 [inv1] 0⟩, ⟨1, gotR o12 saleL [inv1] 1, gotN o12 saleL 2 [inv1] 1⟩] := rfl
  rw [show ([selA a, selB b] : List Sel).length = 2 from rfl, e, gotR1.1, gotR1.2, gotN1.1, gotN1.2]
theorem div2 (a : Nat) : divR saleL 1 [selA a] [inv1] = .error 6 := divR_err (sel_no a)
theorem div3 (a b : Nat) : divR saleL 1 [selA a, selB b] [inv2] = .error 2 := by
  rw [divR_ok (sel_ok a b), if_neg (by rw [err2]; decide), err2]
theorem fee1 : feeV 199 10 = .tuple #[.int .i64 19, .int .i64 180, .int .i64 0] := by unfold feeV; rw [if_pos (by decide)]; rfl
theorem fee2 : feeV 1 101 = .tuple #[.int .i64 0, .int .i64 0, .int .i64 4] := by unfold feeV; rw [if_neg (by decide)]
end Go.Proofs.YtfopmaeaclbknaaDoor.Pr
