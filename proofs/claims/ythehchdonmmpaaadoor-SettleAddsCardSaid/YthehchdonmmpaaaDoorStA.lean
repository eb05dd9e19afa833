/- The law SettleAdds: walk. Printed by gen_sta.py. -/
import Derived.Test.YthehchdonmmpaaaDoorStU
import Derived.Test.YthehchdonmmpaaaDoorStL
import Derived.Test.YthehchdonmmpaaaDoorStW
import Derived.Test.YthehchdonmmpaaaDoorStE
import Derived.Deep.RegionHeld3
import Derived.Deep.QuietTactic
import Derived.BigQuiet
namespace Go.Proofs.YthehchdonmmpaaaDoor.St
open Go.ChangeShapes Go.WideShapes Go.ChangeAt Go.RowKit Gn Cat Lex Pr Ros Fr
set_option linter.unusedVariables false
set_option linter.unusedSimpArgs false
attribute [local go_sem] later_cell
theorem bids_form {w : World} {v : Value} {l : List Bid} (h : BidS w v l) : ∃ A c, v = .slice A l.length c := by
  obtain ⟨A, c, rfl, _⟩ := sl_parts h
  exact ⟨A, c, rfl⟩
theorem rsum_take {L : List Inv} {k : Nat} (h : k < L.length) : rsum (L.take (k + 1)) = rsum (L.take k) + L[k].reserve.toNat := by
  rw [List.take_succ_eq_append_getElem h, rsum_snoc]
theorem dues_step {L : List Inv} {k : Nat} (h : k < L.length) (h0 : 0 ≤ L[k].due) (h1 : L[k].due ≤ 1000000) : (dues (L.take (k + 1))).sum = (dues (L.take k)).sum + L[k].due := by
  rw [dues_take h, if_pos ⟨h0, h1⟩, List.sum_append]
  simp
theorem digs_two {l : List Nat} {n : Nat} (h : l = digs n) (hl : l.length ≤ 2) : n ≤ B * B := by
  have h1 : nat l = n := by rw [h, nat_digs]
  have h2 : Dg l := by rw [h]; exact Dg.digs n
  have h3 := nat_lt h2
  rw [h1] at h3
  have h4 : B ^ l.length ≤ B ^ 2 := Nat.pow_le_pow_right (by decide) hl
  rw [show B ^ 2 = B * B by rw [Nat.pow_succ, Nat.pow_one]] at h4
  omega
set_option maxHeartbeats 16000000 in
set_option maxRecDepth 100000 in
theorem law_adds (ps : List Prod) (bs : List Bid) (won : List (Nat → Int)) (net : List Frc) (v1 v2 v3 v4 vw vn : Value) (w : World) (hs : PS w v1 ps) (hn1 : ∀ p ∈ ps, p.name.size ≤ maxLen) (hb : BidS w v2 bs) (hn2 : ∀ p ∈ bs, p.name.size ≤ maxLen) (hw : BunS w vw won) (hn : FrcS w vn net) (hf : FrcOk w net) (ht : Am.Tab w) : Calls Tryd.prog 3 #[.agg #[v1, v2, v3, v4], vw, vn] w (TruePost w) := by
  obtain ⟨A1, c1, rfl, _⟩ := ps_cases hs
  obtain ⟨A2, c2, rfl⟩ := bids_form hb
  obtain ⟨Aw, cw, rfl, _, _, hwr⟩ := sl_parts hw
  obtain ⟨An, cn, rfl, _, _, hnr⟩ := sl_parts hn
  have CL := Lib.hid (fun W (b : Below w.heap.size w W) => lives_any W (tab_keep ht b))
  have CG : Hid (∀ W, Below w.heap.size w W → Calls Tryd.prog 7 #[.agg #[.slice A1 ps.length c1, .slice A2 bs.length c2, v3, v4], .slice Aw won.length cw, .slice An net.length cn] W (LightPost ps bs won.length net W)) := fun W b => light_any ps bs won.length net A1 A2 Aw c1 c2 cw v3 v4 _ W (hs.keep b) (hb.keep b) (hn.keep b) (hf.keep b)
  have HSP : Hid (LightP ps bs won.length net → SaleP w (.slice A1 ps.length c1) (.slice A2 bs.length c2) ps bs) := fun h => ⟨⟨hs, by have := h.1; omega, hn1⟩, hb, by have := h.2.1; omega, hn2⟩
  have CV := Lib.hid (fun (h : SaleP w (.slice A1 ps.length c1) (.slice A2 bs.length c2) ps bs) (h2 : LightP ps bs won.length net) W (b : Below w.heap.size w W) => invoices_any ps bs won net A1 A2 c1 c2 v3 v4 _ _ W (h.keep b) (hw.keep b) (hn.keep b) (hf.keep b) (fun f hf => by have := h2.2.2.2.2 f hf; omega) (by have := h2.2.2.1; omega) (by have := h2.2.2.2.1; omega))
  have CR : Hid (∀ p, (h : ps.length ≤ 5000) → ∀ W, Below w.heap.size w W → Calls Tryd.prog 12 #[.slice A1 ps.length c1, .agg (arr p)] W fun e w' => e = .returned (.int .i64 (sumE Prod.reserve p ps)) ∧ Below W.heap.size W w') := fun p h W b => reserve_any ps (.slice A1 ps.length c1) p W h (hs.keep b) hn1
  have HWR : Hid (∀ W, Below w.heap.size w W → ∀ k (hk : k < won.length), ∃ b o, Aw = some ⟨b, o, none⟩ ∧ b < w.heap.size ∧ W.cell? ⟨b, o + k * 6, none⟩ = some (.int .i64 (won[k] 0)) ∧ W.cell? ⟨b, o + k * 6 + 1, none⟩ = some (.int .i64 (won[k] 1)) ∧ W.cell? ⟨b, o + k * 6 + 2, none⟩ = some (.int .i64 (won[k] 2)) ∧ W.cell? ⟨b, o + k * 6 + 3, none⟩ = some (.int .i64 (won[k] 3)) ∧ W.cell? ⟨b, o + k * 6 + 4, none⟩ = some (.int .i64 (won[k] 4)) ∧ W.cell? ⟨b, o + k * 6 + 5, none⟩ = some (.int .i64 (won[k] 5))) := fun W bw k hk => by
    obtain ⟨b, o, e, hb, hr⟩ := hwr (by omega)
    exact ⟨b, o, e, hb, bun_at (hr.below hb bw) k hk⟩
  have HNR : Hid (∀ k (hk : k < net.length), net[k].neg = false → net[k].num = digs (nnK net k) → net[k].den = digs (ddK net k) → ∃ b o A5 c5 A6 c6, An = some ⟨b, o, none⟩ ∧ b < w.heap.size ∧ ∀ W, Below w.heap.size w W → (W.cell? ⟨b, o + k * 3, none⟩ = some (.bool false) ∧ W.cell? ⟨b, o + k * 3 + 1, none⟩ = some (.slice A5 (digs (nnK net k)).length c5) ∧ W.cell? ⟨b, o + k * 3 + 2, none⟩ = some (.slice A6 (digs (ddK net k)).length c6)) ∧ NS W (.slice A5 (digs (nnK net k)).length c5) (digs (nnK net k)) ∧ NS W (.slice A6 (digs (ddK net k)).length c6) (digs (ddK net k))) := fun k hk e0 e1 e2 => by
    obtain ⟨b, o, e4, hlt, hr⟩ := hnr (by omega)
    have hg := hf _ (List.getElem_mem hk)
    obtain ⟨A5, c5, g5, _⟩ := ns_cases hg.1
    obtain ⟨A6, c6, g6, _⟩ := ns_cases hg.2.1
    refine ⟨b, o, A5, c5, A6, c6, e4, hlt, fun W bw => ?_⟩
    obtain ⟨x0, x1, x2⟩ := frc_at (hr.below hlt bw) k hk
    have h1 := hg.1.keep bw
    have h2 := hg.2.1.keep bw
    rw [g5] at x1 h1
    rw [g6] at x2 h2
    rw [e0] at x0
    rw [e1] at x1 h1
    rw [e2] at x2 h2
    exact ⟨⟨x0, x1, x2⟩, h1, h2⟩
  have b0 := below_new w (.cells #[.slice A1 ps.length c1, .slice A2 bs.length c2, v3, v4] 27)
  have HAT := Lib.hid (setup_cells w 27 (.slice A1 ps.length c1) (.slice A2 bs.length c2) v3 v4)
  obtain ⟨w0, hw0⟩ : ∃ W, W = w.alloc (.cells #[.slice A1 ps.length c1, .slice A2 bs.length c2, v3, v4] 27) := ⟨_, rfl⟩
  have HW0 := Lib.hid hw0.symm
  rw [← hw0] at HAT b0
  have B0 := Lib.hid b0
  have L0 : Hid (w.heap.size < w0.heap.size) := by show _ < _; rw [hw0, World.size_alloc]; omega
  clear hw0 b0 hs hb hw hn hf hwr hnr ht hn1 hn2
  obtain ⟨nwon, hnwon⟩ : ∃ n, n = won.length := ⟨_, rfl⟩
  have HNW := Lib.hid hnwon
  rw [← hnwon] at CG HSP CV
  go_enter Tryd.func3, Tryd.ntmps3
  go_upto_region 1 with fail
  rw [HW0.out, ← hnwon]
  clear hnwon
  have hat := HAT.out w0 (Below.refl _ _)
  have l0 := L0.out
  go_wp2_with fail
  refine (CG.out w0 B0.out).mono ?_
  rintro e w1 ⟨lb, rfl, hlb, d1⟩
  have E1 := Lib.hid d1
  have B1 := Lib.hid (chain0 B0.out d1)
  have HLB := Lib.hid hlb
  clear hat l0 d1 hlb CG
  cases lb with
  | false =>
    clear HSP CV CR HWR HNR HLB
    go_wp2_with fail
    refine (CL.out w1 B1.out).mono ?_
    rintro e w2 ⟨rfl, d⟩
    have B2 := Lib.hid (chain0 B1.out d)
    clear d
    go_wp2_with fail
    go_ret
    exact ⟨rfl, B2.out⟩
  | true =>
  have hlp := HLB.out rfl
  have hsp := HSP.out hlp
  replace CV := Lib.hid (CV.out hsp hlp)
  replace CR := Lib.hid (fun p => CR.out p (by have := hlp.1; omega))
  have HLG := Lib.hid hlp.2.2.2.2
  have HLP := Lib.hid hlp
  clear HSP HLB hsp hlp
  have hat := HAT.out w1 E1.out
  have l0 := Nat.lt_of_lt_of_le L0.out E1.out.size
  go_wp2_with fail
  refine (CV.out w1 B1.out).mono ?_
  rintro e w2 ⟨v', rfl, hI, d2⟩
  have E2 := Lib.hid (chain0 E1.out d2)
  have B2 := Lib.hid (chain0 B1.out d2)
  clear hat l0 d2 CV
  cases hR : invsR ps bs won net with
  | error c =>
    have hc : (c != 0) = true := by have := invsR_ne hR; simpa using this
    rw [hR] at hI
    obtain ⟨Al, cl, rfl, _⟩ := sl_parts hI
    clear hI hR HNR HWR CR
    dsimp only [okI, erI, List.length_nil]
    have q0 : ((0 : Int) == 0) = true := rfl
    go_wp2_with fail
    refine (CL.out w2 B2.out).mono ?_
    rintro e w3 ⟨rfl, d⟩
    have B3 := Lib.hid (chain0 B2.out d)
    clear d
    go_wp2_with fail
    go_ret
    exact ⟨rfl, B3.out⟩
  | ok L =>
  rw [hR] at hI
  obtain ⟨hro, hwl, hnl, hgo⟩ := invsR_parts hR
  have HF := Lib.hid (add_facts hgo)
  have hm8 := (rosE_zero hro).2.1
  have HM8 : Hid (bs.length ≤ 8) := hm8
  have HLL : Hid (L.length ≤ 8) := by have := invsGo_len hgo; show _ ≤ _; omega
  have HWL := Lib.hid hwl
  have HNL := Lib.hid hnl
  dsimp only [okI, erI] at hI ⊢
  have HIS := Lib.hid hI
  obtain ⟨Al, cl, rfl, _, _, hlr⟩ := sl_parts hI
  have HLR : Hid (∀ W, Below w2.heap.size w2 W → 0 < L.length → ∃ b o, Al = some ⟨b, o, none⟩ ∧ b < w2.heap.size ∧ Row W b o (L.flatMap Inv.cells)) := fun W bw h0 => by
    obtain ⟨b, o, e, hb, hr⟩ := hlr h0
    exact ⟨b, o, e, hb, hr.below hb bw⟩
  have CRV := Lib.hid (fun W (b : Below w2.heap.size w2 W) => revenue_any L _ W (by have := HLL.out; omega) (HIS.out.keep b))
  obtain ⟨z, hz⟩ : ∃ z : Nat, z = 0 := ⟨_, rfl⟩
  obtain ⟨u, hu⟩ : ∃ u : Nat, u = 1 := ⟨_, rfl⟩
  have CI0 : Hid (∀ W, Calls Tryd.prog 10 #[.int .i64 0] W (PosPost z u W)) := fun W => by rw [hz, hu]; exact int_pos 0 W (by omega)
  have HP0 : Hid (Paid net 0 0 z u) := by rw [hz, hu]; exact paid_zero net
  have HRL := Lib.hid (rsum_le (L := L) fun x hx => by obtain ⟨_, h1, h2, h3, h4, h5⟩ := HF.out.all x hx; have := sum_range0 (p := x.want) (ps := ps); omega)
  have HDR := Lib.hid (dues_rs (L := L) fun x hx => by obtain ⟨_, h1, h2, h3, h4, h5⟩ := HF.out.all x hx; have := sum_range0 (p := x.want) (ps := ps); omega)
  clear hI hR hro hwl hnl hgo hm8 hlr hz hu HLP
  go_wp2_with fail
  refine (CI0.out w2).mono ?_
  rintro e w3 ⟨Ai, ci, Aj, cj, rfl, i1, i2, d3⟩
  have E3 := Lib.hid (chain0 E2.out d3)
  have B3 := Lib.hid (chain0 B2.out d3)
  have D3 := Lib.hid d3
  have PS0 := Lib.hid (PSt.new w3 i1 i2)
  have HP1 : Hid (Paid net (rsum (L.take 0)) 0 z u) := HP0.out
  have HDS : Hid ((dues (L.take 0)).sum = 0) := rfl
  clear CI0 d3 i1 i2 HP0
  have l3 := PS0.out.blk.lt
  go_wp2_with fail
  go_loopw [11, 9] (fun iv sv wr => ∃ (k N D : Nat) (A5 A6 : Option Addr) (c5 c6 : Nat), k ≤ L.length ∧ iv = .int .i64 (k : Int) ∧ sv = .int .i64 (dues (L.take k)).sum ∧ Hid (Paid net (rsum (L.take k)) 0 N D) ∧ Hid (PSt w3 w3.heap.size N D A5 A6 c5 c6 wr)) (fun iv _ _ => L.length - (intOf iv).toNat)
  case atStart => exact ⟨0, z, u, Ai, Aj, ci, cj, Nat.zero_le _, rfl, by rw [HDS.out], HP1.out, PS0.out⟩
  case round =>
    clear PS0 HP1 HDS l3
    obtain ⟨k, N, D, A5, A6, c5, c6, hk, rfl, rfl, HP, PS⟩ := hrel
    have hk0 : (0 : Int) ≤ (k : Int) := by omega
    have hk5 : (k : Int) ≤ 8 := by have := HLL.out; omega
    by_cases hkn : k < L.length
    · have hd2 : decide ((k : Int) < (L.length : Int)) = true := decide_eq_true (by omega)
      have hkn1 : (k : Int) < (L.length : Int) := by omega
      have b2r := chain0 D3.out PS.out.bel
      obtain ⟨b, o, eA, hbb, hrow⟩ := HLR.out wr b2r (by omega)
      subst eA
      have hx := inv_at hrow k hkn
      have hbl : b < wr.heap.size := Nat.lt_of_lt_of_le hbb b2r.size
      obtain ⟨⟨i, him, hx1, hx2⟩, hx3, hx4, hx5, hx6, hx7⟩ := HF.out.all _ (List.getElem_mem hkn)
      have hsr := sum_range0 (p := L[k].want) (ps := ps)
      have hst := dues_step hkn (by omega) hx7
      have hrt := rsum_take hkn
      have hdr := sum_range_of (M := 1000000000) (by omega) (dues (L.take k)) (dues_range _)
      have hdl := dues_len (L.take k)
      rw [List.length_take] at hdl
      have hdm : (dues (L.take k)).sum ≤ 8000000000 := by
        have h1 : ((dues (L.take k)).length : Int) * 1000000000 ≤ 8 * 1000000000 := Int.mul_le_mul_of_nonneg_right (by omega) (by omega)
        omega
      have hd0 := hdr.1
      clear hrow hdr hdl b2r
      generalize L[k] = x at *
      obtain ⟨bd, p, rs, nt, du⟩ := x
      dsimp only at hx hx1 hx2 hx3 hx4 hx5 hx6 hx7 hst hrt hsr
      subst hx1
      obtain ⟨r, rfl⟩ : ∃ r : Nat, rs = (r : Int) := ⟨rs.toNat, by omega⟩
      have hiw : i < nwon := by rw [HNW.out]; have := HWL.out; omega
      have hpw : p = won[i]'(by rw [← HNW.out]; exact hiw) := by rw [hx2]; simp [List.getD, show i < won.length by rw [← HNW.out]; exact hiw]
      have r1 : r ≤ 24000000 := by omega
      have g1 : decide (du < 0) = false := decide_eq_false (by omega)
      have g2 : decide (1000000 < du) = false := decide_eq_false (by omega)
      have hi0 : (0 : Int) ≤ (i : Int) := by omega
      have g3 : decide ((i : Int) < 0) = false := decide_eq_false (by omega)
      have g4 : decide ((nwon : Int) ≤ (i : Int)) = false := decide_eq_false (by omega)
      have g6 : (i : Int) < (nwon : Int) := by omega
      have hq : ∀ W, (Op.equalIn 10000 42 (.agg (arr p)) (.agg (arr p))).run Tryd.prog W = .ok true W := fun W => by rw [eq27 p p W, show eq6 p p = true by rw [eq6_iff]; exact fun _ _ => rfl]
      unfold arr at hq
      have w1s : IntKind.i64.wrap ((dues (L.take k)).sum + du) = (dues (L.take k)).sum + du := IntWalk.i64_in _ (by omega)
      have HST := Lib.hid hst
      have HRT : Hid (rsum (L.take (k + 1)) = rsum (L.take k) + r) := by show _ = _; rw [hrt, Int.toNat_natCast]
      have CRp : Hid (∀ W, Below w.heap.size w W → Calls Tryd.prog 12 #[.slice A1 ps.length c1, .agg (arr p)] W fun e w' => e = .returned (.int .i64 (r : Int)) ∧ Below W.heap.size W w') := by rw [hx3]; exact CR.out p
      unfold arr at CRp
      have CIr := Lib.hid (fun W => int_pos r W (by omega))
      have HLEN := Lib.hid (paid_len HP.out (by omega) (show rsum (L.take k) ≤ 1000000000 by have := HRL.out.1; have := HLL.out; have h9 := rsum_le (L := L.take k) (fun x hx => by obtain ⟨_, h1, h2, h3, h4, h5⟩ := HF.out.all x (List.mem_of_mem_take hx); have := sum_range0 (p := x.want) (ps := ps); omega); rw [List.length_take] at h9; omega))
      have HPN := Lib.hid (paid_int (r := r) HP.out)
      have HRs : Hid ((digs r).length ≤ 1000) := by show _ ≤ _; have := digs_small (m := r) (by omega); omega
      have CA : Hid (∀ (A7 A8 : Option Addr) (c7 c8 : Nat) W, PSt w3 w3.heap.size N D A5 A6 c5 c6 W → NS W (.slice A7 (digs r).length c7) (digs r) → NS W (.slice A8 (digs 1).length c8) (digs 1) → Calls Tryd.prog 11 #[.agg #[.bool false, .slice A5 (digs N).length c5, .slice A6 (digs D).length c6], .agg #[.bool false, .slice A7 (digs r).length c7, .slice A8 (digs 1).length c8]] W (PosPost ((N * 1 + r * D) / Nat.gcd (N * 1 + r * D) (D * 1)) ((D * 1) / Nat.gcd (N * 1 + r * D) (D * 1)) W)) := fun A7 A8 c7 c8 W h h7 h8 => add_pos A5 A6 A7 A8 c5 c6 c7 c8 N D r 1 _ _ W (by have := HLEN.out.1; omega) (by have := HLEN.out.2; omega) HRs.out (by decide) HP.out.d0 (by decide) rfl rfl h.n1 h.n2 h7 h8
      generalize ((N * 1 + r * D) / Nat.gcd (N * 1 + r * D) (D * 1)) = N' at *
      generalize ((D * 1) / Nat.gcd (N * 1 + r * D) (D * 1)) = D' at *
      obtain ⟨one, hone⟩ : ∃ n : Nat, n = 1 := ⟨_, rfl⟩
      rw [← hone] at CIr CA
      have PX := Lib.hid (PS.out.keep (below_new wr (.cells #[.int .i64 (i : Int), .int .i64 (p 0), .int .i64 (p 1), .int .i64 (p 2), .int .i64 (p 3), .int .i64 (p 4), .int .i64 (p 5), .int .i64 (r : Int), .int .i64 nt, .int .i64 du] 44)))
      have KX := Lib.hid (Blk.new wr 44 #[.int .i64 (i : Int), .int .i64 (p 0), .int .i64 (p 1), .int .i64 (p 2), .int .i64 (p 3), .int .i64 (p 4), .int .i64 (p 5), .int .i64 (r : Int), .int .i64 nt, .int .i64 du])
      generalize (dues (L.take k)).sum = sm at *
      have HPW := Lib.hid hpw
      clear hone hst hrt hsr hx2 hx3 hx4 hx5 hx6 hx7 hdm hd0 HLEN HRs HP hpw
      go_upto_region 11 with fail
      clear hx PS
      generalize wr.alloc (.cells #[.int .i64 (i : Int), .int .i64 (p 0), .int .i64 (p 1), .int .i64 (p 2), .int .i64 (p 3), .int .i64 (p 4), .int .i64 (p 5), .int .i64 (r : Int), .int .i64 nt, .int .i64 du] 44) = wx at *
      obtain ⟨gx, hgx⟩ : ∃ g, g = wr.heap.size := ⟨_, rfl⟩
      rw [← hgx] at KX
      rw [← hgx]
      clear hgx
      have BX := Lib.hid (chain0 B3.out PX.out.bel)
      have EX := Lib.hid (chain0 E3.out PX.out.bel)
      obtain ⟨bw, ow, eW, hbw, hww⟩ := HWR.out wx BX.out i (by rw [← HNW.out]; exact hiw)
      subst eW
      rw [← HPW.out] at hww
      have hbw2 : bw < wx.heap.size := Nat.lt_of_lt_of_le hbw BX.out.size
      have hxx := inv_cells (x := ⟨(i : Int), p, (r : Int), nt, du⟩) KX.out
      dsimp only at hxx
      have lgx := KX.out.lt
      refine wp_region_later (by kernel_rfl) (by kernel_rfl) ?_
      repeat (first | go_big_quiet_step (fail) | quiet_step (fail))
      refine wpQuiet_nil ?_
      rintro _ ⟨y, rfl⟩
      clear hxx lgx hww hbw2
      have PY := Lib.hid (PX.out.keep (later_below wx y))
      have KY := Lib.hid (KX.out.below' (later_below wx y))
      clear PX KX BX EX
      generalize later wx y = wy at *
      have EY := Lib.hid (chain0 E3.out PY.out.bel)
      have hxx := inv_cells (x := ⟨(i : Int), p, (r : Int), nt, du⟩) KY.out
      dsimp only at hxx
      have lgx := KY.out.lt
      have kp := PY.out.blk.c3
      have lgp := PY.out.blk.lt
      have hat := HAT.out wy EY.out
      have l0 := Nat.lt_of_lt_of_le L0.out EY.out.size
      clear hq g1 g2 g3 g4
      go_upto_region 14 with fail
      clear hat hxx kp lgx lgp
      have PD := Lib.hid PY.out.drew
      have KD := Lib.hid KY.out.drew
      have kp := PD.out.blk.c3
      have lgp := PD.out.blk.lt
      clear PY KY
      have hxx := inv_cells (x := ⟨(i : Int), p, (r : Int), nt, du⟩) KD.out
      dsimp only at hxx
      have lgx := KD.out.lt
      have hat := HAT.out _ (chain0 E3.out PD.out.bel)
      go_region_with (first
          | (go_at_call 12; refine (CRp.out _ (chain0 B3.out PD.out.bel)).mono ?_; rintro e w9 ⟨rfl, dd⟩; replace PD := Lib.hid (PD.out.keep dd); replace KD := Lib.hid (KD.out.below' dd); clear dd; replace kp := PD.out.blk.c3; replace lgp := PD.out.blk.lt; replace hxx := inv_cells (x := ⟨(i : Int), p, (r : Int), nt, du⟩) KD.out; dsimp only at hxx; replace lgx := KD.out.lt; replace hat := HAT.out _ (chain0 E3.out PD.out.bel); replace l0 := Nat.lt_of_lt_of_le L0.out (chain0 E3.out PD.out.bel).size)
          | (go_at_call 10; refine (CIr.out _).mono ?_; rintro e w9 ⟨A7, c7, A8, c8, rfl, i7, i8, dd⟩; have I7 := Lib.hid i7; have I8 := Lib.hid i8; replace PD := Lib.hid (PD.out.keep dd); replace KD := Lib.hid (KD.out.below' dd); clear dd i7 i8; replace kp := PD.out.blk.c3; replace lgp := PD.out.blk.lt; replace hxx := inv_cells (x := ⟨(i : Int), p, (r : Int), nt, du⟩) KD.out; dsimp only at hxx; replace lgx := KD.out.lt; replace hat := HAT.out _ (chain0 E3.out PD.out.bel); replace l0 := Nat.lt_of_lt_of_le L0.out (chain0 E3.out PD.out.bel).size)
          | (go_at_call 11; refine (CA.out _ _ _ _ _ PD.out I7.out I8.out).mono ?_; rintro e w9 ⟨A9, c9, Aa, ca, rfl, i9, ia, dd⟩; have I9 := Lib.hid i9; have Ia := Lib.hid ia; replace PD := Lib.hid (PD.out.keep dd); replace KD := Lib.hid (KD.out.below' dd); clear dd i9 ia; replace kp := PD.out.blk.c3; replace lgp := PD.out.blk.lt; replace hxx := inv_cells (x := ⟨(i : Int), p, (r : Int), nt, du⟩) KD.out; dsimp only at hxx; replace lgx := KD.out.lt; replace hat := HAT.out _ (chain0 E3.out PD.out.bel); replace l0 := Nat.lt_of_lt_of_le L0.out (chain0 E3.out PD.out.bel).size)
          )
      all_goals go_wp2_with fail
      all_goals go_roundw
      all_goals first
        | exact ⟨k + 1, N', D', A9, Aa, c9, ca, hkn, by go_num, by rw [HST.out], by rw [HRT.out]; exact HPN.out, PD.out.put (Nat.le_refl _) I9.out Ia.out⟩
        | (simp [intOf]; omega)

    · obtain rfl : k = L.length := by omega
      have hd2 : decide ((L.length : Int) < (L.length : Int)) = false := decide_eq_false (Int.lt_irrefl _)
      rw [List.take_length] at HP
      have HDX : Hid ((dues (L.take L.length)).sum = ((rsum L + usum L : Nat) : Int)) := by show _ = _; rw [List.take_length]; exact HDR.out
      rw [HDX.out]
      rw [HDR.out] at CRV
      have HRB : Hid (rsum L + usum L ≤ 16000000) := by show _ ≤ _; have := HRL.out; have := HLL.out; omega
      have HRS : Hid (rsum L ≤ 1000000000) := by show _ ≤ _; have := HRB.out; omega
      have HLO := Lib.hid (fun N D (h : Paid net (rsum L) bs.length N D) => over_lo HF.out h)
      have HHI := Lib.hid (fun N D (h : Paid net (rsum L) bs.length N D) (hL : L ≠ []) => over_hi HF.out h hL)
      clear HDX HDR HRL
      have HP0 : Hid (Paid net (rsum L) 0 N D) := HP.out
      clear HP
      generalize rsum L + usum L = rr at *
      go_wp2_with fail
      go_loopw [13] (fun iv wr => ∃ (k N D : Nat) (A5 A6 : Option Addr) (c5 c6 : Nat), k ≤ net.length ∧ iv = .int .i64 (k : Int) ∧ Hid (Paid net (rsum L) k N D) ∧ Hid (PSt w3 w3.heap.size N D A5 A6 c5 c6 wr)) (fun iv _ => net.length - (intOf iv).toNat)
      case atStart => exact ⟨0, N, D, A5, A6, c5, c6, Nat.zero_le _, rfl, HP0.out, PS.out⟩
      case round =>
      clear PS HP0
      obtain ⟨k, N, D, A5, A6, c5, c6, hk, rfl, HP, PS⟩ := hrel
      have hk0 : (0 : Int) ≤ (k : Int) := by omega
      have hk5 : (k : Int) ≤ 8 := by have := HM8.out; have := HNL.out; omega
      by_cases hkn : k < net.length
      · have hd2 : decide ((k : Int) < (net.length : Int)) = true := decide_eq_true (by omega)
        have hkn1 : (k : Int) < (net.length : Int) := by omega
        obtain ⟨f1, f2, f3, f4⟩ := HF.out.frc k (by have := HNL.out; omega)
        have egd : net.getD k Frc.none = net[k] := by simp [List.getD, hkn]
        rw [egd] at f1 f2 f3
        obtain ⟨b, o, A7, c7, A8, c8, eA, hbb, hnn⟩ := HNR.out k hkn f1 f2 f3
        subst eA
        have h2 := HLG.out net[k] (List.getElem_mem hkn)
        have n1 : nnK net k ≤ B * B := digs_two f2 h2.1
        have n2 : ddK net k ≤ B * B := digs_two f3 h2.2
        rw [f2, f3] at h2
        have HLEN := Lib.hid (paid_len HP.out (by omega) HRS.out)
        have HPN := Lib.hid (paid_step HP.out f4 n1 n2)
        have H2 := Lib.hid h2
        have HD0 := Lib.hid HP.out.d0
        have HD1 := Lib.hid f4
        clear f1 f2 f3 f4 egd h2 n1 n2 HP
        generalize nnK net k = n at *
        generalize ddK net k = d at *
        have CA : Hid (∀ W, PSt w3 w3.heap.size N D A5 A6 c5 c6 W → NS W (.slice A7 (digs n).length c7) (digs n) → NS W (.slice A8 (digs d).length c8) (digs d) → Calls Tryd.prog 11 #[.agg #[.bool false, .slice A5 (digs N).length c5, .slice A6 (digs D).length c6], .agg #[.bool false, .slice A7 (digs n).length c7, .slice A8 (digs d).length c8]] W (PosPost ((N * d + n * D) / Nat.gcd (N * d + n * D) (D * d)) ((D * d) / Nat.gcd (N * d + n * D) (D * d)) W)) := fun W h h7 h8 => add_pos A5 A6 A7 A8 c5 c6 c7 c8 N D n d _ _ W (by have := HLEN.out.1; omega) (by have := HLEN.out.2; omega) (by have := H2.out.1; omega) (by have := H2.out.2; omega) HD0.out HD1.out rfl rfl h.n1 h.n2 h7 h8
        generalize ((N * d + n * D) / Nat.gcd (N * d + n * D) (D * d)) = N' at *
        generalize ((D * d) / Nat.gcd (N * d + n * D) (D * d)) = D' at *
        have HNN := Lib.hid hnn
        have kp := PS.out.blk.c3
        have lgp := PS.out.blk.lt
        have br := chain0 B3.out PS.out.bel
        have hbl : b < wr.heap.size := Nat.lt_of_lt_of_le hbb br.size
        have hc := (hnn wr br).1
        clear hnn HLEN H2 HD0 HD1
        go_upto_region 18 with fail
        clear hc kp lgp br
        have PD := Lib.hid PS.out.drew
        have kp := PD.out.blk.c3
        have lgp := PD.out.blk.lt
        clear PS
        have hcd := (HNN.out _ (chain0 B3.out PD.out.bel)).1
        go_region_with (first
          | (go_at_call 11; refine (CA.out _ PD.out (HNN.out _ (chain0 B3.out PD.out.bel)).2.1 (HNN.out _ (chain0 B3.out PD.out.bel)).2.2).mono ?_; rintro e w9 ⟨A9, c9, Aa, ca, rfl, i9, ia, dd⟩; have I9 := Lib.hid i9; have Ia := Lib.hid ia; replace PD := Lib.hid (PD.out.keep dd); replace kp := PD.out.blk.c3; replace lgp := PD.out.blk.lt; clear dd i9 ia)
          )
        all_goals go_wp2_with fail
        all_goals go_roundw
        all_goals first
          | exact ⟨k + 1, N', D', A9, Aa, c9, ca, hkn, by go_num, HPN.out, PD.out.put (Nat.le_refl _) I9.out Ia.out⟩
          | (simp [intOf]; omega)

      obtain rfl : k = net.length := by omega
      clear hd2
      have hd2 : decide ((net.length : Int) < (net.length : Int)) = false := decide_eq_false (Int.lt_irrefl _)
      rw [HNL.out] at HP
      have HLEN := Lib.hid (paid_len HP.out HM8.out HRS.out)
      have HO1 := Lib.hid (HLO.out N D HP.out)
      have HO2 := Lib.hid (HHI.out N D HP.out)
      have HD0 := Lib.hid HP.out.d0
      have CIr := Lib.hid (fun W => int_pos rr W (by have := HRB.out; omega))
      have CS : Hid (∀ (A7 A8 : Option Addr) (c7 c8 : Nat) W, PSt w3 w3.heap.size N D A5 A6 c5 c6 W → NS W (.slice A7 (digs rr).length c7) (digs rr) → NS W (.slice A8 (digs 1).length c8) (digs 1) → Calls Tryd.prog 14 #[.agg #[.bool false, .slice A7 (digs rr).length c7, .slice A8 (digs 1).length c8], .agg #[.bool false, .slice A5 (digs N).length c5, .slice A6 (digs D).length c6]] W (PosPost ((rr * D - N * 1) / Nat.gcd (rr * D - N * 1) (1 * D)) ((1 * D) / Nat.gcd (rr * D - N * 1) (1 * D)) W)) := fun A7 A8 c7 c8 W h h7 h8 => sub_pos A7 A8 A5 A6 c7 c8 c5 c6 rr 1 N D _ _ W (by have := digs_small (m := rr) (by have := HRB.out; omega); omega) (by decide) (by have := HLEN.out.1; omega) (by have := HLEN.out.2; omega) (by decide) HD0.out HO1.out rfl rfl h7 h8 h.n1 h.n2
      have HOV : Hid (L ≠ [] → ((rr * D - N * 1) / Nat.gcd (rr * D - N * 1) (1 * D)) * 1 < L.length * ((1 * D) / Nat.gcd (rr * D - N * 1) (1 * D))) := fun hL => over_lt rfl HD0.out (by have := HO2.out hL; have := HO1.out; omega)
      have HOL : Hid ((digs ((rr * D - N * 1) / Nat.gcd (rr * D - N * 1) (1 * D))).length ≤ 1000 ∧ (digs ((1 * D) / Nat.gcd (rr * D - N * 1) (1 * D))).length ≤ 1000 ∧ (1 * D) / Nat.gcd (rr * D - N * 1) (1 * D) ≠ 0) := over_len HP.out HD0.out HM8.out HRB.out
      generalize ((rr * D - N * 1) / Nat.gcd (rr * D - N * 1) (1 * D)) = N' at *
      generalize ((1 * D) / Nat.gcd (rr * D - N * 1) (1 * D)) = D' at *
      obtain ⟨one, hone⟩ : ∃ n : Nat, n = 1 := ⟨_, rfl⟩
      rw [← hone] at CIr CS
      have HONE := Lib.hid hone
      have hrr0 : (0 : Int) ≤ (rr : Int) := by omega
      clear hone HLO HHI HP HO1 HO2 HLEN HD0
      go_wp2_with fail
      refine (CRV.out wr (chain0 D3.out PS.out.bel)).mono ?_
      rintro e wv ⟨rfl, dd⟩
      have PV := Lib.hid (PS.out.keep dd)
      clear PS dd CRV
      go_upto_region 20 with fail
      have PD := Lib.hid PV.out.drew
      have kp := PD.out.blk.c3
      have lgp := PD.out.blk.lt
      go_region_held3 (fun w' => w'.cell? ⟨w3.heap.size, 0, none⟩ = some (.bool false) ∧ w'.cell? ⟨w3.heap.size, 1, none⟩ = some (.slice A5 (digs N).length c5) ∧ w'.cell? ⟨w3.heap.size, 2, none⟩ = some (.slice A6 (digs D).length c6)) (first | with_reducible exact PD.out.cells | with_reducible exact ((PV.out.keep (below_new _ (.cells #[.bool false, .slice none 0 0, .slice none 0 0] 39))).drew).cells | with_reducible exact (PD.out.keep (below_new _ (.cells #[.bool false, .slice none 0 0, .slice none 0 0] 39))).cells | with_reducible exact (PD.out.keep (below_new _ (.cells #[.bool false, .slice A9 (digs N').length c9, .slice Aa (digs D').length ca] 39))).cells | with_reducible exact far_cells PD.out GZ.out _ _ _ | go_keep) (first
          | (go_at_call 10; with_reducible refine (CIr.out _).mono ?_; rintro e w8 ⟨A7, c7, A8, c8, rfl, i7, i8, dd⟩; have PE := Lib.hid (PD.out.keep dd); clear PD; have PD := PE; clear PE; have I7 := Lib.hid i7; have I8 := Lib.hid i8; clear dd i7 i8)
          | (go_at_call 10; with_reducible refine (CIr.out _).mono ?_; rintro e w8 ⟨A7, c7, A8, c8, rfl, i7, i8, dd⟩; have KZ := Lib.hid (((Blk.new _ 39 #[.bool false, .slice none 0 0, .slice none 0 0]).drew).below' dd); have GZ := Lib.hid PV.out.blk.lt; have kz := KZ.out.c3; have lz := KZ.out.lt; have PE := Lib.hid ((PV.out.keep (below_new _ _)).drew.keep dd); clear PD; have PD := PE; clear PE; have I7 := Lib.hid i7; have I8 := Lib.hid i8; clear dd i7 i8)
          | (go_at_call 14; with_reducible refine (CS.out _ _ _ _ _ PD.out I7.out I8.out).mono ?_; rintro e w9 ⟨A9, c9, Aa, ca, rfl, i9, ia, dd⟩; have PE := Lib.hid (PD.out.keep dd); clear PD; have PD := PE; clear PE; (try (have KY := Lib.hid (KZ.out.below' dd); clear KZ; have KZ := KY; clear KY; replace kz := KZ.out.c3; replace lz := KZ.out.lt)); have I9 := Lib.hid i9; have Ia := Lib.hid ia; clear dd i9 ia)
          | (go_at_call 14; with_reducible refine (CS.out _ _ _ _ _ (PD.out.keep (below_new _ _)) (I7.out.keep (below_new _ _)) (I8.out.keep (below_new _ _))).mono ?_; rintro e w9 ⟨A9, c9, Aa, ca, rfl, i9, ia, dd⟩; have KZ := Lib.hid ((Blk.new _ 39 #[.bool false, .slice none 0 0, .slice none 0 0]).below' dd); have GZ := Lib.hid PD.out.blk.lt; have kz := KZ.out.c3; have lz := KZ.out.lt; have PE := Lib.hid (PD.out.keep (chain0 (below_new _ _) dd)); clear PD; have PD := PE; clear PE; have I9 := Lib.hid i9; have Ia := Lib.hid ia; clear dd i9 ia)
          )
      · have PZ := Lib.hid (PD.out.over_new I9.out Ia.out)
        clear PD PV kp lgp
        generalize w9.alloc (.cells #[.bool false, .slice A9 (digs N').length c9, .slice Aa (digs D').length ca] 39) = wf at *
        generalize w9.heap.size = gz at *
        clear I9 Ia I7 I8 CIr CS
        have BZ := Lib.hid (chain0 B3.out PZ.out.bel)
        have kz := PZ.out.cells
        have lz := PZ.out.blk.lt
        obtain ⟨sg, hsg⟩ : ∃ x : Int, x = signI false (digs N').length := ⟨_, rfl⟩
        have CSg := Lib.hid (fun W => rsign_any false A9 c9 (digs N').length (.slice Aa (digs D').length ca) W)
        rw [← hsg] at CSg
        have sg0 : decide (0 ≤ sg) = true := decide_eq_true (by rw [hsg]; exact sign_ge _)
        have qr : ((rr : Int) == (rr : Int)) = true := beq_self_eq_true _
        clear hsg
        by_cases hL : L.length = 0
        · have ql : ((L.length : Int) == 0) = true := by rw [hL]; rfl
          have FS := Lib.hid (fun y => CSg.out (later wf y))
          have FL := Lib.hid (fun y => CL.out (later wf y) (chain0 BZ.out (later_below wf y)))
          clear hL HOV HOL
          go_upto_region 21 with fail
          refine wp_region_later (by kernel_rfl) (by kernel_rfl) ?_
          repeat (first | go_big_quiet_step (first | (go_at_call 15; exact calls_later (FS.out _)) | (go_at_call 8; exact calls_later (FL.out _))) | quiet_step (first | (go_at_call 15; exact calls_later (FS.out _)) | (go_at_call 8; exact calls_later (FL.out _))))
          refine wpQuiet_nil ?_
          rintro _ ⟨y, rfl⟩
          go_wp2_with fail
          go_ret
          exact ⟨rfl, chain0 BZ.out (later_below _ _)⟩
        · have ql : ((L.length : Int) == 0) = false := beq_eq_false_iff_ne.2 (by omega)
          have m1 : decide ((-1 : Int) < 0) = true := rfl
          have CIl := Lib.hid (fun W => int_pos L.length W (by have := HLL.out; omega))
          have CC : Hid (∀ (A7 A8 : Option Addr) (c7 c8 : Nat) W, PSt w3 gz N' D' A9 Aa c9 ca W → NS W (.slice A7 (digs L.length).length c7) (digs L.length) → NS W (.slice A8 (digs 1).length c8) (digs 1) → Calls Tryd.prog 16 #[.agg #[.bool false, .slice A9 (digs N').length c9, .slice Aa (digs D').length ca], .agg #[.bool false, .slice A7 (digs L.length).length c7, .slice A8 (digs 1).length c8]] W fun e w' => e = .returned (.int .i64 (-1)) ∧ Below W.heap.size W w') := fun A7 A8 c7 c8 W h h7 h8 => cmp_neg A9 Aa A7 A8 c9 ca c7 c8 N' D' L.length 1 W HOL.out.1 HOL.out.2.1 (by have := digs_small (m := L.length) (by have := HLL.out; omega); omega) (by decide) HOL.out.2.2 (by decide) (HOV.out (fun h => hL (by rw [h]; rfl))) h.n1 h.n2 h7 h8
          rw [← HONE.out] at CIl CC
          clear hL HOV HOL
          have l20 : (0 : Int) ≤ (L.length : Int) := by omega
          go_upto_region 21 with fail
          have PW := Lib.hid PZ.out.drew
          go_region_held3 (fun w' => w'.cell? ⟨gz, 0, none⟩ = some (.bool false) ∧ w'.cell? ⟨gz, 1, none⟩ = some (.slice A9 (digs N').length c9) ∧ w'.cell? ⟨gz, 2, none⟩ = some (.slice Aa (digs D').length ca)) (first | with_reducible exact PW.out.cells | go_keep) (first
            | (go_at_call 15; with_reducible refine (CSg.out _).mono ?_; rintro e w7 ⟨rfl, dd⟩; replace PW := Lib.hid (PW.out.keep dd); clear dd)
            | (go_at_call 10; with_reducible refine (CIl.out _).mono ?_; rintro e w7 ⟨A7, c7, A8, c8, rfl, i7, i8, dd⟩; replace PW := Lib.hid (PW.out.keep dd); have I7 := Lib.hid i7; have I8 := Lib.hid i8; clear dd i7 i8)
            | (go_at_call 16; with_reducible refine (CC.out _ _ _ _ _ PW.out I7.out I8.out).mono ?_; rintro e w7 ⟨rfl, dd⟩; replace PW := Lib.hid (PW.out.keep dd); clear dd)
            | (go_at_call 8; with_reducible refine (CL.out _ (chain0 B3.out PW.out.bel)).mono ?_; rintro e w7 ⟨rfl, dd⟩; replace PW := Lib.hid (PW.out.keep dd); clear dd)
            )
          go_wp2_with fail
          go_ret
          exact ⟨rfl, chain0 B3.out PW.out.bel⟩
      · have PZ := Lib.hid (PD.out.over_put KZ.out (Nat.le_refl _) GZ.out I9.out Ia.out)
        clear PD PV KZ GZ kz lz kp lgp
        generalize (((w9.setCell ⟨w8.heap.size, 0, none⟩ (.bool false)).setCell ⟨w8.heap.size, 1, none⟩ (.slice A9 (digs N').length c9)).setCell ⟨w8.heap.size, 2, none⟩ (.slice Aa (digs D').length ca)) = wf at *
        generalize w8.heap.size = gz at *
        clear I9 Ia I7 I8 CIr CS
        have BZ := Lib.hid (chain0 B3.out PZ.out.bel)
        have kz := PZ.out.cells
        have lz := PZ.out.blk.lt
        obtain ⟨sg, hsg⟩ : ∃ x : Int, x = signI false (digs N').length := ⟨_, rfl⟩
        have CSg := Lib.hid (fun W => rsign_any false A9 c9 (digs N').length (.slice Aa (digs D').length ca) W)
        rw [← hsg] at CSg
        have sg0 : decide (0 ≤ sg) = true := decide_eq_true (by rw [hsg]; exact sign_ge _)
        have qr : ((rr : Int) == (rr : Int)) = true := beq_self_eq_true _
        clear hsg
        by_cases hL : L.length = 0
        · have ql : ((L.length : Int) == 0) = true := by rw [hL]; rfl
          have FS := Lib.hid (fun y => CSg.out (later wf y))
          have FL := Lib.hid (fun y => CL.out (later wf y) (chain0 BZ.out (later_below wf y)))
          clear hL HOV HOL
          go_upto_region 21 with fail
          refine wp_region_later (by kernel_rfl) (by kernel_rfl) ?_
          repeat (first | go_big_quiet_step (first | (go_at_call 15; exact calls_later (FS.out _)) | (go_at_call 8; exact calls_later (FL.out _))) | quiet_step (first | (go_at_call 15; exact calls_later (FS.out _)) | (go_at_call 8; exact calls_later (FL.out _))))
          refine wpQuiet_nil ?_
          rintro _ ⟨y, rfl⟩
          go_wp2_with fail
          go_ret
          exact ⟨rfl, chain0 BZ.out (later_below _ _)⟩
        · have ql : ((L.length : Int) == 0) = false := beq_eq_false_iff_ne.2 (by omega)
          have m1 : decide ((-1 : Int) < 0) = true := rfl
          have CIl := Lib.hid (fun W => int_pos L.length W (by have := HLL.out; omega))
          have CC : Hid (∀ (A7 A8 : Option Addr) (c7 c8 : Nat) W, PSt w3 gz N' D' A9 Aa c9 ca W → NS W (.slice A7 (digs L.length).length c7) (digs L.length) → NS W (.slice A8 (digs 1).length c8) (digs 1) → Calls Tryd.prog 16 #[.agg #[.bool false, .slice A9 (digs N').length c9, .slice Aa (digs D').length ca], .agg #[.bool false, .slice A7 (digs L.length).length c7, .slice A8 (digs 1).length c8]] W fun e w' => e = .returned (.int .i64 (-1)) ∧ Below W.heap.size W w') := fun A7 A8 c7 c8 W h h7 h8 => cmp_neg A9 Aa A7 A8 c9 ca c7 c8 N' D' L.length 1 W HOL.out.1 HOL.out.2.1 (by have := digs_small (m := L.length) (by have := HLL.out; omega); omega) (by decide) HOL.out.2.2 (by decide) (HOV.out (fun h => hL (by rw [h]; rfl))) h.n1 h.n2 h7 h8
          rw [← HONE.out] at CIl CC
          clear hL HOV HOL
          have l20 : (0 : Int) ≤ (L.length : Int) := by omega
          go_upto_region 21 with fail
          have PW := Lib.hid PZ.out.drew
          go_region_held3 (fun w' => w'.cell? ⟨gz, 0, none⟩ = some (.bool false) ∧ w'.cell? ⟨gz, 1, none⟩ = some (.slice A9 (digs N').length c9) ∧ w'.cell? ⟨gz, 2, none⟩ = some (.slice Aa (digs D').length ca)) (first | with_reducible exact PW.out.cells | go_keep) (first
            | (go_at_call 15; with_reducible refine (CSg.out _).mono ?_; rintro e w7 ⟨rfl, dd⟩; replace PW := Lib.hid (PW.out.keep dd); clear dd)
            | (go_at_call 10; with_reducible refine (CIl.out _).mono ?_; rintro e w7 ⟨A7, c7, A8, c8, rfl, i7, i8, dd⟩; replace PW := Lib.hid (PW.out.keep dd); have I7 := Lib.hid i7; have I8 := Lib.hid i8; clear dd i7 i8)
            | (go_at_call 16; with_reducible refine (CC.out _ _ _ _ _ PW.out I7.out I8.out).mono ?_; rintro e w7 ⟨rfl, dd⟩; replace PW := Lib.hid (PW.out.keep dd); clear dd)
            | (go_at_call 8; with_reducible refine (CL.out _ (chain0 B3.out PW.out.bel)).mono ?_; rintro e w7 ⟨rfl, dd⟩; replace PW := Lib.hid (PW.out.keep dd); clear dd)
            )
          go_wp2_with fail
          go_ret
          exact ⟨rfl, chain0 B3.out PW.out.bel⟩
      · have PZ := Lib.hid (PD.out.over_put KZ.out (Nat.le_refl _) GZ.out I9.out Ia.out)
        clear PD PV KZ GZ kz lz kp lgp
        generalize (((w9.setCell ⟨wv.heap.size, 0, none⟩ (.bool false)).setCell ⟨wv.heap.size, 1, none⟩ (.slice A9 (digs N').length c9)).setCell ⟨wv.heap.size, 2, none⟩ (.slice Aa (digs D').length ca)) = wf at *
        generalize wv.heap.size = gz at *
        clear I9 Ia I7 I8 CIr CS
        have BZ := Lib.hid (chain0 B3.out PZ.out.bel)
        have kz := PZ.out.cells
        have lz := PZ.out.blk.lt
        obtain ⟨sg, hsg⟩ : ∃ x : Int, x = signI false (digs N').length := ⟨_, rfl⟩
        have CSg := Lib.hid (fun W => rsign_any false A9 c9 (digs N').length (.slice Aa (digs D').length ca) W)
        rw [← hsg] at CSg
        have sg0 : decide (0 ≤ sg) = true := decide_eq_true (by rw [hsg]; exact sign_ge _)
        have qr : ((rr : Int) == (rr : Int)) = true := beq_self_eq_true _
        clear hsg
        by_cases hL : L.length = 0
        · have ql : ((L.length : Int) == 0) = true := by rw [hL]; rfl
          have FS := Lib.hid (fun y => CSg.out (later wf y))
          have FL := Lib.hid (fun y => CL.out (later wf y) (chain0 BZ.out (later_below wf y)))
          clear hL HOV HOL
          go_upto_region 21 with fail
          refine wp_region_later (by kernel_rfl) (by kernel_rfl) ?_
          repeat (first | go_big_quiet_step (first | (go_at_call 15; exact calls_later (FS.out _)) | (go_at_call 8; exact calls_later (FL.out _))) | quiet_step (first | (go_at_call 15; exact calls_later (FS.out _)) | (go_at_call 8; exact calls_later (FL.out _))))
          refine wpQuiet_nil ?_
          rintro _ ⟨y, rfl⟩
          go_wp2_with fail
          go_ret
          exact ⟨rfl, chain0 BZ.out (later_below _ _)⟩
        · have ql : ((L.length : Int) == 0) = false := beq_eq_false_iff_ne.2 (by omega)
          have m1 : decide ((-1 : Int) < 0) = true := rfl
          have CIl := Lib.hid (fun W => int_pos L.length W (by have := HLL.out; omega))
          have CC : Hid (∀ (A7 A8 : Option Addr) (c7 c8 : Nat) W, PSt w3 gz N' D' A9 Aa c9 ca W → NS W (.slice A7 (digs L.length).length c7) (digs L.length) → NS W (.slice A8 (digs 1).length c8) (digs 1) → Calls Tryd.prog 16 #[.agg #[.bool false, .slice A9 (digs N').length c9, .slice Aa (digs D').length ca], .agg #[.bool false, .slice A7 (digs L.length).length c7, .slice A8 (digs 1).length c8]] W fun e w' => e = .returned (.int .i64 (-1)) ∧ Below W.heap.size W w') := fun A7 A8 c7 c8 W h h7 h8 => cmp_neg A9 Aa A7 A8 c9 ca c7 c8 N' D' L.length 1 W HOL.out.1 HOL.out.2.1 (by have := digs_small (m := L.length) (by have := HLL.out; omega); omega) (by decide) HOL.out.2.2 (by decide) (HOV.out (fun h => hL (by rw [h]; rfl))) h.n1 h.n2 h7 h8
          rw [← HONE.out] at CIl CC
          clear hL HOV HOL
          have l20 : (0 : Int) ≤ (L.length : Int) := by omega
          go_upto_region 21 with fail
          have PW := Lib.hid PZ.out.drew
          go_region_held3 (fun w' => w'.cell? ⟨gz, 0, none⟩ = some (.bool false) ∧ w'.cell? ⟨gz, 1, none⟩ = some (.slice A9 (digs N').length c9) ∧ w'.cell? ⟨gz, 2, none⟩ = some (.slice Aa (digs D').length ca)) (first | with_reducible exact PW.out.cells | go_keep) (first
            | (go_at_call 15; with_reducible refine (CSg.out _).mono ?_; rintro e w7 ⟨rfl, dd⟩; replace PW := Lib.hid (PW.out.keep dd); clear dd)
            | (go_at_call 10; with_reducible refine (CIl.out _).mono ?_; rintro e w7 ⟨A7, c7, A8, c8, rfl, i7, i8, dd⟩; replace PW := Lib.hid (PW.out.keep dd); have I7 := Lib.hid i7; have I8 := Lib.hid i8; clear dd i7 i8)
            | (go_at_call 16; with_reducible refine (CC.out _ _ _ _ _ PW.out I7.out I8.out).mono ?_; rintro e w7 ⟨rfl, dd⟩; replace PW := Lib.hid (PW.out.keep dd); clear dd)
            | (go_at_call 8; with_reducible refine (CL.out _ (chain0 B3.out PW.out.bel)).mono ?_; rintro e w7 ⟨rfl, dd⟩; replace PW := Lib.hid (PW.out.keep dd); clear dd)
            )
          go_wp2_with fail
          go_ret
          exact ⟨rfl, chain0 B3.out PW.out.bel⟩
end Go.Proofs.YthehchdonmmpaaaDoor.St
