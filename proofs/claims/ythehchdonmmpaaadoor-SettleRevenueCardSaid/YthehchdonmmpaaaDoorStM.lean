/- The law SettleRevenue: walk. Printed by gen_stm.py. -/
import Derived.Test.YthehchdonmmpaaaDoorStL
import Derived.Test.YthehchdonmmpaaaDoorSt6
namespace Go.Proofs.YthehchdonmmpaaaDoor.St
open Go.ChangeShapes Go.WideShapes Go.ChangeAt Go.RowKit Gn Cat Lex Pr Ros Fr
set_option linter.unusedVariables false
set_option linter.unusedSimpArgs false
theorem rinv_info : (Tryd.prog.info? 51).map (fun i => (i.zero, i.size, i.bytes)) = some (some (.agg #[.int .i64 0, .int .i64 0, .int .i64 0, .int .i64 0, .int .i64 0, .int .i64 0, .int .i64 0, .int .i64 0, .int .i64 0, .int .i64 0]), 10, 80) := by kernel_rfl
set_option maxHeartbeats 4000000 in
set_option maxRecDepth 100000 in
theorem law_revenue (vs : List Inv) (v : Value) (w : World) (hv : InvS w v vs) (ht : Am.Tab w) : Calls Tryd.prog 4 #[v] w (TruePost w) := by
  have CL := Lib.hid (fun W (b : Below w.heap.size w W) => lives_any W (tab_keep ht b))
  by_cases hl : vs.length ≤ 100
  case neg =>
    obtain ⟨A, c, rfl, _⟩ := sl_parts hv
    have d1 : decide ((100 : Int) < (vs.length : Int)) = true := decide_eq_true (by omega)
    have d1n : decide (100 < vs.length) = true := decide_eq_true (by omega)
    clear hv ht hl
    generalize vs.length = n at *
    go_enter Tryd.func4, Tryd.ntmps4
    go_wp2_with fail
    refine (CL.out w (Below.refl _ _)).mono ?_
    rintro e w1 ⟨rfl, d⟩
    go_wp2_with fail
    go_ret
    exact ⟨rfl, d⟩
  have CR := Lib.hid (fun W (b : Below w.heap.size w W) => revenue_any vs v W hl (hv.keep b))
  have CRR := Lib.hid (fun W vz (h : InvS W vz vs) => rrevenue_any vs vz W hl h)
  obtain ⟨A, c, rfl, _, _, hr⟩ := sl_parts hv
  have HR : Hid (∀ W, Below w.heap.size w W → 0 < vs.length → ∃ b o, A = some ⟨b, o, none⟩ ∧ b < w.heap.size ∧ Row W b o (vs.flatMap Inv.cells)) := fun W bw h0 => by
    obtain ⟨b, o, e, hb, hr⟩ := hr h0
    exact ⟨b, o, e, hb, hr.below hb bw⟩
  obtain ⟨j0, hj0, hy0, hy1, hy2⟩ := info_parts rinv_info
  have d1 : decide ((100 : Int) < (vs.length : Int)) = false := decide_eq_false (by omega)
  have d1n : decide (100 < vs.length) = false := decide_eq_false (by omega)
  have HL : Hid (vs.length ≤ 100) := hl
  have HT := Lib.hid (fun k (hk : k < vs.length) => flat_take (c := Inv.cells) vs k hk)
  have q : ((dues vs).sum == (dues vs).sum) = true := beq_self_eq_true _
  generalize (dues vs).sum = tot at *
  clear hv ht hl hr
  go_enter Tryd.func4, Tryd.ntmps4
  go_wp2_with fail
  go_loopw [4, 3] (fun iv ov wr => ∃ (k : Nat) (A2 : Option Addr) (c2 : Nat), k ≤ vs.length ∧ iv = .int .i64 (k : Int) ∧ ov = .slice A2 k c2 ∧ Hid (wr.ownsRow w.heap.size 51 10 (.slice A2 k c2) k ((vs.take k).flatMap Inv.cells)) ∧ Hid (Below w.heap.size w wr)) (fun iv _ _ => vs.length - (intOf iv).toNat)
  case atStart => exact ⟨0, none, 0, Nat.zero_le _, rfl, rfl, World.ownsRow_nil _ _ _ _, Below.refl _ _⟩
  case round =>
    obtain ⟨k, A2, c2, hk, rfl, rfl, HO, HB⟩ := hrel
    have hk0 : (0 : Int) ≤ (k : Int) := by omega
    have hk5 : (k : Int) ≤ 100 := by have := HL.out; omega
    by_cases hkn : k < vs.length
    · have hd2 : decide ((k : Int) < (vs.length : Int)) = true := decide_eq_true (by omega)
      have hkn1 : (k : Int) < (vs.length : Int) := by omega
      obtain ⟨b, o, e1, hb, hrow⟩ := HR.out wr HB.out (by omega)
      subst e1
      have hx := inv_at hrow k hkn
      have hbl : b < wr.heap.size := Nat.lt_of_lt_of_le hb HB.out.size
      have HTK := Lib.hid (HT.out k hkn)
      have HK : Hid (k ≤ 100) := by have := HL.out; show k ≤ 100; omega
      clear hrow
      generalize vs[k] = x at *
      go_wp2_with (at_builtin; refine wpList_append_own _ rfl _ _ 50 rfl w.heap.size 51 j0 _ 10 80 Tryd.underlying50 hj0 hy0 hy1 hy2 rfl (by decide) (.slice A2 k c2) k _ rfl (HO.out.alloc _) ⟨wr.heap.size, 0, none⟩ 1 1 x.cells rfl rfl (cells_new wr x.cells _) (fun u hu => inv_one1 x u hu) (by unfold maxLen; have := HK.out; omega) (by have := HK.out; omega) (by have := HB.out.size; simp; omega) ?_)
      intro v' w4 hown hgr _
      obtain ⟨A5, c5, rfl⟩ := Gn.own_form hown
      have O5 : Hid (w4.ownsRow w.heap.size 51 10 (.slice A5 (k + 1) c5) (k + 1) ((vs.take (k + 1)).flatMap Inv.cells)) := by show World.ownsRow _ _ _ _ _ _ _; rw [HTK.out]; exact hown
      have B5 : Hid (Below w.heap.size w w4) := (HB.out.alloc HB.out.size _).grown hgr (by have := HB.out.size; simp; omega) (fun q hq => (HO.out.lt q hq).1)
      clear hown hgr HO HB HTK hx
      go_wp2_with fail
      go_roundw
      case rel => exact ⟨k + 1, A5, c5, hkn, by go_num, rfl, O5.out, B5.out⟩
      case measure => simp [intOf]; omega
    · obtain rfl : k = vs.length := by omega
      have hd2 : decide ((vs.length : Int) < (vs.length : Int)) = false := decide_eq_false (Int.lt_irrefl _)
      have hs := Sl.of_own HO.out
      rw [List.take_length] at hs
      have HS := Lib.hid hs
      clear hs
      go_wp2_with fail
      refine (CR.out wr HB.out).mono ?_
      rintro e w5 ⟨rfl, d5⟩
      have B5 := Lib.hid (chain0 HB.out d5)
      have HS5 := Lib.hid (HS.out.keep d5)
      clear d5
      go_wp2_with fail
      refine (CRR.out w5 _ HS5.out).mono ?_
      rintro e w6 ⟨rfl, d6⟩
      have B6 := Lib.hid (chain0 B5.out d6)
      clear d6
      go_wp2_with fail
      refine (CL.out w6 B6.out).mono ?_
      rintro e w7 ⟨rfl, d7⟩
      have B7 := Lib.hid (chain0 B6.out d7)
      clear d7
      go_wp2_with fail
      go_ret
      exact ⟨rfl, B7.out⟩
end Go.Proofs.YthehchdonmmpaaaDoor.St
