/- The law SettleFormats: walk. Printed by gen_str.py. -/
import Derived.Test.YthehchdonmmpaaaDoorStM
import Derived.Test.YthehchdonmmpaaaDoorStQ
import Derived.Test.YthehchdonmmpaaaDoorStW
namespace Go.Proofs.YthehchdonmmpaaaDoor.St
open Go.ChangeShapes Go.WideShapes Go.ChangeAt Go.RowKit Gn Cat Lex Pr Ros Fr
set_option linter.unusedVariables false
set_option linter.unusedSimpArgs false
theorem bids_cases {w : World} {v : Value} {l : List Bid} (h : BidS w v l) : ∃ A c, v = .slice A l.length c := by
  obtain ⟨A, c, rfl, _⟩ := sl_parts h
  exact ⟨A, c, rfl⟩
set_option maxHeartbeats 8000000 in
set_option maxRecDepth 100000 in
theorem law_formats (ps : List Prod) (bs : List Bid) (vs : List Inv) (v1 v2 v3 v4 v : Value) (w : World) (hs : PS w v1 ps) (hn1 : ∀ p ∈ ps, p.name.size ≤ maxLen) (hb : BidS w v2 bs) (hn2 : ∀ p ∈ bs, p.name.size ≤ maxLen) (hv : InvS w v vs) (ht : Am.Tab w) : Calls Tryd.prog 6 #[.agg #[v1, v2, v3, v4], v] w (TruePost w) := by
  obtain ⟨A1, c1, rfl, _⟩ := ps_cases hs
  obtain ⟨A2, c2, rfl⟩ := bids_cases hb
  obtain ⟨A, c, rfl, _, _, hr⟩ := sl_parts hv
  have CL := Lib.hid (fun W (b : Below w.heap.size w W) => lives_any W (tab_keep ht b))
  have CG : Hid (∀ W, Below w.heap.size w W → Calls Tryd.prog 7 #[.agg #[.slice A1 ps.length c1, .slice A2 bs.length c2, v3, v4], .slice none 0 0, .slice none 0 0] W (LightPost ps bs 0 [] W)) := fun W b => light_any ps bs 0 [] A1 A2 none c1 c2 0 v3 v4 (.slice none 0 0) W (hs.keep b) (hb.keep b) (Sl.nil W 3) (fun f hf => by cases hf)
  have HSP : Hid (LightP ps bs 0 [] → SaleP w (.slice A1 ps.length c1) (.slice A2 bs.length c2) ps bs) := fun h => ⟨⟨hs, by have := h.1; omega, hn1⟩, hb, by have := h.2.1; omega, hn2⟩
  have CF := Lib.hid (fun (h : SaleP w (.slice A1 ps.length c1) (.slice A2 bs.length c2) ps bs) (hl : vs.length ≤ 20) W (b : Below w.heap.size w W) => setfmt_any ps bs vs A1 A2 c1 c2 v3 v4 _ W (h.keep b) (hv.keep b) hl (tab_keep ht b))
  have CRF := Lib.hid (fun (h : SaleP w (.slice A1 ps.length c1) (.slice A2 bs.length c2) ps bs) (hl : vs.length ≤ 20) W (b : Below w.heap.size w W) vz (hz : InvS W vz vs) => rsetfmt_any ps bs vs A1 A2 c1 c2 v3 v4 vz W (h.keep b) hz hl)
  have HR : Hid (∀ W, Below w.heap.size w W → 0 < vs.length → ∃ b o, A = some ⟨b, o, none⟩ ∧ b < w.heap.size ∧ Row W b o (vs.flatMap Inv.cells)) := fun W bw h0 => by
    obtain ⟨b, o, e, hb, hr⟩ := hr h0
    exact ⟨b, o, e, hb, hr.below hb bw⟩
  obtain ⟨j0, hj0, hy0, hy1, hy2⟩ := info_parts rinv_info
  have HT := Lib.hid (fun k (hk : k < vs.length) => flat_take (c := Inv.cells) vs k hk)
  have b0 := below_new w (.cells #[.slice A1 ps.length c1, .slice A2 bs.length c2, v3, v4] 27)
  have HAT := Lib.hid (setup_cells w 27 (.slice A1 ps.length c1) (.slice A2 bs.length c2) v3 v4)
  obtain ⟨w0, hw0⟩ : ∃ W, W = w.alloc (.cells #[.slice A1 ps.length c1, .slice A2 bs.length c2, v3, v4] 27) := ⟨_, rfl⟩
  have HW0 := Lib.hid hw0.symm
  rw [← hw0] at HAT b0
  have B0 := Lib.hid b0
  have L0 : Hid (w.heap.size < w0.heap.size) := by show _ < _; rw [hw0, World.size_alloc]; omega
  clear hw0 b0 hs hb hv ht hr hn1 hn2
  go_enter Tryd.func6, Tryd.ntmps6
  go_upto_region 1 with fail
  rw [HW0.out]
  have hat := HAT.out w0 (Below.refl _ _)
  have l0 := L0.out
  go_wp2_with fail
  refine (CG.out w0 B0.out).mono ?_
  rintro e w1 ⟨lb, rfl, hlb, d1⟩
  have E1 := Lib.hid d1
  have B1 := Lib.hid (chain0 B0.out d1)
  have HLB := Lib.hid hlb
  clear hat l0 d1 hlb CG
  cases lb with
  | false =>
    clear HSP CF CRF HR HT HLB
    generalize vs.length = nn at *
    go_wp2_with fail
    refine (CL.out w1 B1.out).mono ?_
    rintro e w2 ⟨rfl, d⟩
    have B2 := Lib.hid (chain0 B1.out d)
    clear d
    go_wp2_with fail
    go_ret
    exact ⟨rfl, B2.out⟩
  | true =>
  by_cases hl : vs.length ≤ 12
  case neg =>
    have d1 : decide ((12 : Int) < (vs.length : Int)) = true := decide_eq_true (by omega)
    have d1n : decide (12 < vs.length) = true := decide_eq_true (by omega)
    clear HSP CF CRF HR HT HLB hl
    generalize vs.length = nn at *
    go_wp2_with fail
    refine (CL.out w1 B1.out).mono ?_
    rintro e w2 ⟨rfl, d⟩
    have B2 := Lib.hid (chain0 B1.out d)
    clear d
    go_wp2_with fail
    go_ret
    exact ⟨rfl, B2.out⟩
  have hsp := HSP.out (HLB.out rfl)
  replace CF := Lib.hid (CF.out hsp (by omega))
  replace CRF := Lib.hid (CRF.out hsp (by omega))
  have HL : Hid (vs.length ≤ 12) := hl
  have d1 : decide ((12 : Int) < (vs.length : Int)) = false := decide_eq_false (by omega)
  have d1n : decide (12 < vs.length) = false := decide_eq_false (by omega)
  clear HSP HLB hsp hl
  obtain ⟨R, hR⟩ : ∃ R, R = setFmt ps bs vs := ⟨_, rfl⟩
  rw [← hR] at CF CRF
  clear hR
  have q2 : (R.toList == R.toList) = true := beq_self_eq_true _
  go_wp2_with fail
  go_loopw [6, 5] (fun iv ov wr => ∃ (k : Nat) (A7 : Option Addr) (c7 : Nat), k ≤ vs.length ∧ iv = .int .i64 (k : Int) ∧ ov = .slice A7 k c7 ∧ Hid (wr.ownsRow w1.heap.size 51 10 (.slice A7 k c7) k ((vs.take k).flatMap Inv.cells)) ∧ Hid (Below w1.heap.size w1 wr)) (fun iv _ _ => vs.length - (intOf iv).toNat)
  case atStart => exact ⟨0, none, 0, Nat.zero_le _, rfl, rfl, World.ownsRow_nil _ _ _ _, Below.refl _ _⟩
  case round =>
    obtain ⟨k, A7, c7, hk, rfl, rfl, HO, HB⟩ := hrel
    have hk0 : (0 : Int) ≤ (k : Int) := by omega
    have hk5 : (k : Int) ≤ 100 := by have := HL.out; omega
    by_cases hkn : k < vs.length
    · have hd2 : decide ((k : Int) < (vs.length : Int)) = true := decide_eq_true (by omega)
      have hkn1 : (k : Int) < (vs.length : Int) := by omega
      obtain ⟨b, o, e1, hb, hrow⟩ := HR.out wr (chain0 B1.out HB.out) (by omega)
      subst e1
      have hx := inv_at hrow k hkn
      have hbl : b < wr.heap.size := Nat.lt_of_lt_of_le hb (chain0 B1.out HB.out).size
      have HTK := Lib.hid (HT.out k hkn)
      have HK : Hid (k ≤ 100) := by have := HL.out; show k ≤ 100; omega
      clear hrow
      generalize vs[k] = x at *
      go_wp2_with (at_builtin; refine wpList_append_own _ rfl _ _ 50 rfl w1.heap.size 51 j0 _ 10 80 Tryd.underlying50 hj0 hy0 hy1 hy2 rfl (by decide) (.slice A7 k c7) k _ rfl (HO.out.alloc _) ⟨wr.heap.size, 0, none⟩ 1 1 x.cells rfl rfl (cells_new wr x.cells _) (fun u hu => inv_one1 x u hu) (by unfold maxLen; have := HK.out; omega) (by have := HK.out; omega) (by have := HB.out.size; simp; omega) ?_)
      intro v' w4 hown hgr _
      obtain ⟨A5, c5, rfl⟩ := Gn.own_form hown
      have O5 : Hid (w4.ownsRow w1.heap.size 51 10 (.slice A5 (k + 1) c5) (k + 1) ((vs.take (k + 1)).flatMap Inv.cells)) := by show World.ownsRow _ _ _ _ _ _ _; rw [HTK.out]; exact hown
      have B5 : Hid (Below w1.heap.size w1 w4) := (HB.out.alloc HB.out.size _).grown hgr (by have := HB.out.size; simp; omega) (fun q hq => (HO.out.lt q hq).1)
      clear hown hgr HO HB HTK hx
      go_wp2_with fail
      go_roundw
      case rel => exact ⟨k + 1, A5, c5, hkn, by go_num, rfl, O5.out, B5.out⟩
      case measure => simp [intOf]; omega
    · obtain rfl : k = vs.length := by omega
      have hd2 : decide ((vs.length : Int) < (vs.length : Int)) = false := decide_eq_false (Int.lt_irrefl _)
      have hs := Sl.of_own HO.out
      rw [List.take_length] at hs
      have HS := Lib.hid hs
      clear hs HT HR
      have BW := Lib.hid (chain0 B1.out HB.out)
      have EW := Lib.hid (chain0 E1.out HB.out)
      have hat := HAT.out wr EW.out
      have l0 := Nat.lt_of_lt_of_le L0.out EW.out.size
      have ED := Lib.hid (Below.refl wr.heap.size wr).drew
      go_wp2_with fail
      clear hat
      go_region_held3 (fun w' => w'.cell? ⟨w.heap.size, 0, none⟩ = some (.slice A1 ps.length c1) ∧ w'.cell? ⟨w.heap.size, 1, none⟩ = some (.slice A2 bs.length c2) ∧ w'.cell? ⟨w.heap.size, 2, none⟩ = some v3 ∧ w'.cell? ⟨w.heap.size, 3, none⟩ = some v4) (first | with_reducible exact HAT.out _ (chain0 EW.out ED.out) | exact HAT.out _ (chain0 EW.out ED.out) | go_keep) (first
          | (go_at_call 20; with_reducible refine (CF.out _ (chain0 BW.out ED.out)).mono ?_; rintro e w9 ⟨rfl, dd⟩; replace ED := Lib.hid (chain0 ED.out dd); clear dd)
          | (go_at_call 21; with_reducible refine (CRF.out _ (chain0 BW.out ED.out) _ (HS.out.keep ED.out)).mono ?_; rintro e w9 ⟨rfl, dd⟩; replace ED := Lib.hid (chain0 ED.out dd); clear dd)
          | (go_at_call 8; with_reducible refine (CL.out _ (chain0 BW.out ED.out)).mono ?_; rintro e w9 ⟨rfl, dd⟩; replace ED := Lib.hid (chain0 ED.out dd); clear dd)
          )
      go_wp2_with fail
      go_ret
      exact ⟨rfl, chain0 BW.out ED.out⟩
end Go.Proofs.YthehchdonmmpaaaDoor.St
