/- The reference's numbers. Printed by gen_seM.py. -/
import Derived.Test.YtjjlhihocllgjaaGreatDoorSeK
namespace Go.Proofs.YtjjlhihocllgjaaGreatDoor.Se
open Go.ChangeShapes Go.WideShapes Go.ChangeAt Go.RowKit Gn Cat Lex Ros
set_option linter.unusedVariables false
set_option linter.unusedSimpArgs false
theorem int64_info : (Tryz.prog.info? 2).map (fun i => (i.zero, i.size, i.bytes)) = some (some (.int .i64 0), 1, 8) := by kernel_rfl
abbrev RNumsPost (ws : List ByteArray) (w : World) (e : Ending) (w' : World) : Prop := ∃ (A : Option Addr) (n c : Nat), e = .returned (.tuple #[.slice A n c, .int .i64 (numsE ws)]) ∧ (numsE ws = 0 → n = ws.length ∧ w'.ownsRow w.heap.size 2 1 (.slice A n c) n (intsC (ws.map numV))) ∧ Below w.heap.size w w'
set_option maxHeartbeats 2000000 in
set_option maxRecDepth 100000 in
theorem rnumbers_any (ws : List ByteArray) (f : Nat) (v : Value) (w : World) (h : StrS w v ws) (hf : f ≤ ws.length) (hl : ws.length ≤ 5000) (hs : ∀ x ∈ ws, x.size ≤ 5000) : Calls Tryz.prog 113 #[v, .int .i64 (f : Int)] w (RNumsPost (ws.drop f) w) := by
  obtain ⟨j0, hj0, hy0, hy1, hy2⟩ := info_parts int64_info
  obtain ⟨A, c, rfl, k1, k2, hr⟩ := sl_parts h
  have HR := Lib.hid hr
  have HS := Lib.hid (fun k (hk : k < ws.length) => hs ws[k] (List.getElem_mem hk))
  obtain ⟨us, hus⟩ : ∃ us, us = ws.drop f := ⟨_, rfl⟩
  have hul : us.length = ws.length - f := by rw [hus, List.length_drop]
  have HU : Hid (∀ k (hk : k < us.length) (h2 : f + k < ws.length), us[k] = ws[f + k]) := by
    intro k hk h2
    subst hus
    rw [List.getElem_drop]
  have HD := Lib.hid (fun k (hk : k < us.length) => numsE_drop (ws := us) hk)
  have HTK := Lib.hid (fun k (hk : k < (us.map numV).length) => intsC_succ (l := us.map numV) hk)
  have hll : (ws.length : Int) ≤ 5000 := by omega
  rw [← hus]
  obtain ⟨R, hR⟩ : ∃ R, R = numsE us := ⟨_, rfl⟩
  have HRR := Lib.hid hR
  unfold RNumsPost
  rw [← hR]
  have HUL := Lib.hid hul
  clear h hr hs hR hus hul
  go_enter Tryz.func113, Tryz.ntmps113
  go_wp2_with fail
  go_loopw [7, 6] (fun iv ov wr => ∃ (q k : Nat) (A2 : Option Addr) (c2 : Nat), q ≤ ws.length ∧ q = f + k ∧ iv = .int .i64 (q : Int) ∧ ov = .slice A2 k c2 ∧ Hid (R = numsE (us.drop k)) ∧ Hid (wr.ownsRow w.heap.size 2 1 (.slice A2 k c2) k (intsC ((us.map numV).take k))) ∧ Hid (Below w.heap.size w wr)) (fun iv _ _ => ws.length - (intOf iv).toNat)
  case atStart => exact ⟨f, 0, none, 0, hf, rfl, rfl, rfl, HRR.out, ⟨rfl, .inl ⟨rfl, rfl⟩⟩, Below.refl _ _⟩
  case round =>
    obtain ⟨q, k, A2, c2, hq, hqk, rfl, rfl, HX, HO, HB⟩ := hrel
    have hk0 : (0 : Int) ≤ (q : Int) := by omega
    by_cases hkn : q < ws.length
    · have hd1 : decide (q < ws.length) = true := decide_eq_true hkn
      have hd2 : decide ((q : Int) < (ws.length : Int)) = true := decide_eq_true (by omega)
      have hkn1 : (q : Int) < (ws.length : Int) := by omega
      have hku : k < us.length := by rw [HUL.out]; omega
      obtain ⟨b, o, e1, hb, hrow⟩ := HR.out (by omega)
      subst e1
      have hat : wr.cell? ⟨b, o + q, none⟩ = some (.string ws[q]) := (HB.out.cell (p := ⟨b, o + q, none⟩) hb).trans (hrow q _ (by rw [List.getElem?_map, List.getElem?_eq_getElem hkn]; rfl))
      have hbr := Nat.lt_of_lt_of_le hb HB.out.size
      have HDK := Lib.hid (HX.out.trans (HD.out k hku))
      have HTK1 := Lib.hid (HTK.out k (by simpa using hku))
      have HM : Hid ((us.map numV)[k]'(by simpa using hku) = numV us[k]) := by show _ = _; simp
      rw [HM.out] at HTK1
      have CN := Lib.hid (fun W => rdig_any ws[q] W (HS.out q hkn))
      have hxe : us[k] = ws[q] := by
        have h2 := HU.out k hku (by omega)
        rw [h2]
        congr 1
        exact hqk.symm
      rw [hxe] at HDK HTK1
      have HQK := Lib.hid hqk
      generalize ws[q] = s at *
      clear HX HM hxe hqk
      unfold NumPost numR at CN
      by_cases hz : numE s = 0
      · rw [if_pos hz] at CN
        have HV := Lib.hid (HDK.out.trans (if_neg (fun e => e hz)))
        have t1 : (numE s != 0) = false := by rw [hz]; rfl
        generalize numV s = x at *
        clear hz HDK
        go_wp2_with fail
        refine (CN.out _).mono ?_
        rintro e w3 ⟨rfl, d3⟩
        have HO3 := Lib.hid (own_below HO.out d3)
        have HB3 := Lib.hid (chain0 HB.out d3)
        have hk5 : Hid (k ≤ 5000) := by show k ≤ 5000; have := HQK.out; omega
        clear d3 HO HB hat hbr CN hku
        go_wp2_with (at_builtin; refine wpList_append_own _ rfl _ _ 142 rfl w.heap.size 2 j0 _ 1 8 Tryz.underlying142 hj0 hy0 hy1 hy2 rfl (by decide) (.slice A2 k c2) k _ rfl (HO3.out.alloc _) ⟨w3.heap.size, 0, none⟩ 1 1 [.int .i64 x] rfl rfl (cells_new w3 _ _) (by intro u hu; simp at hu; subst hu; rfl) (by have := hk5.out; unfold maxLen; omega) (by have := hk5.out; omega) (by have := HB3.out.size; simp; omega) ?_)
        intro v' w4 hown hgr _
        obtain ⟨A5, c5, rfl⟩ := Gn.own_form hown
        have O5 : Hid (w4.ownsRow w.heap.size 2 1 (.slice A5 (k + 1) c5) (k + 1) (intsC ((us.map numV).take (k + 1)))) := by show World.ownsRow _ _ _ _ _ _ _; rw [HTK1.out]; exact hown
        have B5 : Hid (Below w.heap.size w w4) := (HB3.out.alloc HB3.out.size _).grown hgr (by have := HB3.out.size; simp; omega) (fun q hq => (HO3.out.lt q hq).1)
        clear hown hgr HO3 HB3
        go_wp2_with fail
        go_roundw
        case rel => exact ⟨q + 1, k + 1, A5, c5, hkn, by have := HQK.out; omega, by go_num, rfl, HV.out, O5.out, B5.out⟩
        case measure => simp [intOf]; omega
      · rw [if_neg hz] at CN
        have HV := Lib.hid (HDK.out.trans (if_pos hz))
        have t1 : (numE s != 0) = true := by simpa using hz
        clear hz HDK hku
        go_wp2_with fail
        refine (CN.out _).mono ?_
        rintro e w3 ⟨rfl, d3⟩
        have HB3 := Lib.hid (chain0 HB.out d3)
        clear d3
        go_wp2_with fail
        go_ret2
        exact ⟨none, 0, 0, by rw [HV.out]; rfl, fun e => absurd (HV.out.symm.trans e) (by simpa using t1), HB3.out⟩
    · obtain rfl : q = ws.length := by omega
      have hd1 : decide (ws.length < ws.length) = false := decide_eq_false (Nat.lt_irrefl _)
      have hd2 : decide ((ws.length : Int) < (ws.length : Int)) = false := decide_eq_false (Int.lt_irrefl _)
      have hke : k = us.length := by rw [HUL.out]; omega
      have HV : Hid (R = 0) := by show R = 0; rw [HX.out, hke, List.drop_length]; rfl
      have HO2 : Hid (wr.ownsRow w.heap.size 2 1 (.slice A2 k c2) k (intsC (us.map numV))) := by
        have h := HO.out
        rw [show (us.map numV).take k = us.map numV by rw [hke, show us.length = (us.map numV).length by simp, List.take_length]] at h
        exact h
      have HKE := Lib.hid hke
      clear hke hqk
      go_wp2_with fail
      go_ret2
      exact ⟨A2, k, c2, by rw [HV.out]; rfl, fun _ => ⟨HKE.out, HO2.out⟩, HB.out⟩
end Go.Proofs.YtjjlhihocllgjaaGreatDoor.Se
