/- The law SettleInvoices: walk. Printed by gen_stz.py. SettleInvoices: for every input the law returns true and leaves its arguments as they were; and the tied card. -/
import Derived.Test.YthehchdonmmpaaaGreatDoorStV
import Derived.Test.YthehchdonmmpaaaGreatDoorStL
import Derived.Test.YthehchdonmmpaaaGreatDoorStW
import Derived.Test.YthehchdonmmpaaaGreatDoorStE
import Derived.Test.YthehchdonmmpaaaGreatDoorRows
import Derived.Test.YthehchdonmmpaaaGreatDoorCards
import Derived.Test.YthehchdonmmpaaaGreatDoorTie
import Derived.Test.YthehchdonmmpaaaGreatDoorPs17
import Derived.Test.YthehchdonmmpaaaGreatDoorOpenRz
import Derived.WalkKit
import Derived.ProofKit
import Derived.OpenShut
import Derived.Below
import Derived.Lay
import Derived.MakeChecks
import Derived.SevenTiedAt
namespace Go.Proofs.YthehchdonmmpaaaGreatDoor.St
open Go.ChangeShapes Go.WideShapes Go.ChangeAt Go.RowKit Gn Cat Lex Pr Ros Fr
set_option linter.unusedVariables false
set_option linter.unusedSimpArgs false
theorem bids_form {w : World} {v : Value} {l : List Bid} (h : BidS w v l) : ∃ A c, v = .slice A l.length c := by
  obtain ⟨A, c, rfl, _⟩ := sl_parts h
  exact ⟨A, c, rfl⟩
theorem eqI_self (x : Inv) : eqI x x = true := by
  unfold eqI
  have h : eq6 x.want x.want = true := by rw [eq6_iff]; exact fun _ _ => rfl
  simp [h]
set_option maxHeartbeats 8000000 in
set_option maxRecDepth 100000 in
theorem law_invoices (ps : List Prod) (bs : List Bid) (won : List (Nat → Int)) (net : List Frc) (v1 v2 v3 v4 vw vn : Value) (w : World) (hs : PS w v1 ps) (hn1 : ∀ p ∈ ps, p.name.size ≤ maxLen) (hb : BidS w v2 bs) (hn2 : ∀ p ∈ bs, p.name.size ≤ maxLen) (hw : BunS w vw won) (hn : FrcS w vn net) (hf : FrcOk w net) (ht : Am.Tab w) : Calls Tryz.prog 3 #[.agg #[v1, v2, v3, v4], vw, vn] w (TruePost w) := by
  obtain ⟨A1, c1, rfl, _⟩ := ps_cases hs
  obtain ⟨A2, c2, rfl⟩ := bids_form hb
  obtain ⟨Aw, cw, rfl, _⟩ := sl_parts hw
  obtain ⟨An, cn, rfl, _⟩ := sl_parts hn
  have CL := Lib.hid (fun W (b : Below w.heap.size w W) => lives_any W (tab_keep ht b))
  have CG : Hid (∀ W, Below w.heap.size w W → Calls Tryz.prog 4 #[.agg #[.slice A1 ps.length c1, .slice A2 bs.length c2, v3, v4], .slice Aw won.length cw, .slice An net.length cn] W (LightPost ps bs won.length net W)) := fun W b => light_any ps bs won.length net A1 A2 Aw c1 c2 cw v3 v4 _ W (hs.keep b) (hb.keep b) (hn.keep b) (hf.keep b)
  have HSP : Hid (LightP ps bs won.length net → SaleP w (.slice A1 ps.length c1) (.slice A2 bs.length c2) ps bs) := fun h => ⟨⟨hs, by have := h.1; omega, hn1⟩, hb, by have := h.2.1; omega, hn2⟩
  have CV := Lib.hid (fun (h : SaleP w (.slice A1 ps.length c1) (.slice A2 bs.length c2) ps bs) (h2 : LightP ps bs won.length net) W (b : Below w.heap.size w W) => invoices_any ps bs won net A1 A2 c1 c2 v3 v4 _ _ W (h.keep b) (hw.keep b) (hn.keep b) (hf.keep b) (fun f hf => by have := h2.2.2.2.2 f hf; omega) (by have := h2.2.2.1; omega) (by have := h2.2.2.2.1; omega))
  have CRV := Lib.hid (fun (h : SaleP w (.slice A1 ps.length c1) (.slice A2 bs.length c2) ps bs) (h2 : LightP ps bs won.length net) W (b : Below w.heap.size w W) => rinvoices_any ps bs won net A1 A2 c1 c2 v3 v4 _ _ W (h.keep b) (hw.keep b) (hn.keep b) (hf.keep b) (fun f hf => by have := h2.2.2.2.2 f hf; omega) (by have := h2.2.2.1; omega) (by have := h2.2.2.2.1; omega))
  have b0 := below_new w (.cells #[.slice A1 ps.length c1, .slice A2 bs.length c2, v3, v4] 27)
  have HAT := Lib.hid (setup_cells w 27 (.slice A1 ps.length c1) (.slice A2 bs.length c2) v3 v4)
  obtain ⟨w0, hw0⟩ : ∃ W, W = w.alloc (.cells #[.slice A1 ps.length c1, .slice A2 bs.length c2, v3, v4] 27) := ⟨_, rfl⟩
  have HW0 := Lib.hid hw0.symm
  rw [← hw0] at HAT b0
  have B0 := Lib.hid b0
  have L0 : Hid (w.heap.size < w0.heap.size) := by show _ < _; rw [hw0, World.size_alloc]; omega
  clear hw0 b0 hs hb hw hn hf ht hn1 hn2
  go_enter Tryz.func3, Tryz.ntmps3
  go_upto_region 1 with fail
  rw [HW0.out]
  have hat := HAT.out w0 (Below.refl _ _)
  have l0 := L0.out
  go_wp2_with fail
  refine (CG.out w0 B0.out).mono ?_
  rintro e w1 ⟨lb, rfl, hlb, d1⟩
  have E1 := Lib.hid d1
  have B1 := Lib.hid (chain0 B0.out d1)
  have HLB := Lib.hid hlb
  clear hat l0 d1 hlb CG
  cases lb with
  | false =>
    clear HSP CV CRV HLB
    go_wp2_with fail
    refine (CL.out w1 B1.out).mono ?_
    rintro e w2 ⟨rfl, d⟩
    have B2 := Lib.hid (chain0 B1.out d)
    clear d
    go_wp2_with fail
    go_ret
    exact ⟨rfl, B2.out⟩
  | true =>
  have hlp := HLB.out rfl
  have hsp := HSP.out hlp
  replace CV := Lib.hid (CV.out hsp hlp)
  replace CRV := Lib.hid (CRV.out hsp hlp)
  have HBL := Lib.hid hlp.2.1
  clear HSP HLB hsp hlp
  have hat := HAT.out w1 E1.out
  have l0 := Nat.lt_of_lt_of_le L0.out E1.out.size
  go_wp2_with fail
  refine (CV.out w1 B1.out).mono ?_
  rintro e w2 ⟨va, rfl, hA, d2⟩
  have E2 := Lib.hid (chain0 E1.out d2)
  have B2 := Lib.hid (chain0 B1.out d2)
  have HA := Lib.hid hA
  obtain ⟨Aa, ca, rfl, _⟩ := sl_parts hA
  clear hat l0 d2 CV hA
  have hat := HAT.out w2 E2.out
  have l0 := Nat.lt_of_lt_of_le L0.out E2.out.size
  go_wp2_with fail
  refine (CRV.out w2 B2.out).mono ?_
  rintro e w3 ⟨vb, rfl, hB, d3⟩
  have B3 := Lib.hid (chain0 B2.out d3)
  have HA3 := Lib.hid (HA.out.keep d3)
  have HB3 := Lib.hid hB
  obtain ⟨Ab, cb, rfl, _⟩ := sl_parts hB
  clear hat l0 d3 CRV hB HA
  generalize erI (invsR ps bs won net) = er at *
  generalize okI (invsR ps bs won net) = L at *
  have q0 : (er != er) = false := by simp
  have q1 : ((L.length : Int) != (L.length : Int)) = false := by simp
  obtain ⟨_, _, ea, hm1, hm2, hra⟩ := sl_parts HA3.out
  have HML : Hid (L.length ≤ maxLen) := Nat.le_trans hm1 hm2
  obtain ⟨_, _, eb, _, _, hrb⟩ := sl_parts HB3.out
  injection ea with ea1 ea2 ea3
  injection eb with eb1 eb2 eb3
  subst ea1 eb1
  have HRA := Lib.hid hra
  have HRB := Lib.hid hrb
  clear hra hrb HA3 HB3 hm1 hm2
  go_wp2_with fail
  go_loopw [11] (fun iv wr => ∃ k : Nat, k ≤ L.length ∧ iv = .int .i64 (k : Int) ∧ Hid (Below w3.heap.size w3 wr)) (fun iv _ => L.length - (intOf iv).toNat)
  case atStart => exact ⟨0, Nat.zero_le _, rfl, Below.refl _ _⟩
  case round =>
    obtain ⟨k, hk, rfl, HE⟩ := hrel
    have hk0 : (0 : Int) ≤ (k : Int) := by omega
    by_cases hkn : k < L.length
    · have hd2 : decide ((k : Int) < (L.length : Int)) = true := decide_eq_true (by omega)
      have hkn1 : (k : Int) < (L.length : Int) := by omega
      have hk5 : (k : Int) ≤ 9223372036854775806 := by have := HML.out; unfold maxLen at this; omega
      obtain ⟨ba, oa, e1, hba, hxa⟩ := HRA.out (by omega)
      obtain ⟨bb, ob, e2, hbb, hxb⟩ := HRB.out (by omega)
      subst e1 e2
      have ha := inv_at (hxa.below hba HE.out) k hkn
      have hb := inv_at (hxb.below hbb HE.out) k hkn
      have hal : ba < wr.heap.size := Nat.lt_of_lt_of_le hba HE.out.size
      have hbl : bb < wr.heap.size := Nat.lt_of_lt_of_le hbb HE.out.size
      clear hxa hxb
      generalize L[k] = x at *
      have hq : ∀ W, (Op.equalIn 10000 42 (.agg (invA x)) (.agg (invA x))).run Tryz.prog W = .ok true W := fun W => by rw [eq_inv, eqI_self]
      dsimp only [invA] at hq
      go_wp2_with fail
      go_quiet (fail)
      go_wp2_with fail
      go_roundw
      case rel => exact ⟨k + 1, hkn, by go_num, chain0 HE.out (Fr.drewN_below _ _)⟩
      case measure => simp [intOf]; omega
    · obtain rfl : k = L.length := by omega
      have hd2 : decide ((L.length : Int) < (L.length : Int)) = false := decide_eq_false (Int.lt_irrefl _)
      go_wp2_with fail
      refine (CL.out wr (chain0 B3.out HE.out)).mono ?_
      rintro e w7 ⟨rfl, d7⟩
      have B7 := Lib.hid (chain0 (chain0 B3.out HE.out) d7)
      clear d7
      go_wp2_with fail
      go_ret
      exact ⟨rfl, B7.out⟩
end Go.Proofs.YthehchdonmmpaaaGreatDoor.St
namespace Go.Proofs.YthehchdonmmpaaaGreatDoor.settleInvoicesLaw
open Go Go.ChangeShapes Go.WideShapes Go.ChangeAt Go.RowKit
open Go.ChangeMaps (open_string shut_string)
open AmT (laid3)
set_option linter.unusedVariables false


theorem own : ownKnob Tryz.prog.godebug = none := by kernel_rfl
theorem laidOut : laidOutB Tryz.prog = true := by kernel_rfl

set_option maxRecDepth 100000 in
theorem lifted (os : Os) (started : os.Started) (H : Type) (enc : TypeId × Value → H) :
    ReturnsInHanded {} Tryz.checked os 3 .any (fun w args => (Rows.settleInvoicesSpec.pre enc Tryz.prog Tryz.f3 [] false w args ∧ laidMetH Tryz.prog laid3 w) ∧ sizedMet enc Tryz.prog Tryz.f3 (OpenSpec.ofChange Rows.settleInvoicesSpec) false w args)
      (Rows.settleInvoicesSpec.post enc Tryz.prog Tryz.f3 false true false false) := by
  refine returnsInHanded_of_change_and (C := Tryz.checked) (X := fun w _ => laidMetH Tryz.prog laid3 w) (fun _ _ _ hh h => h.of_heap hh) own started (by kernel_rfl) Tryz.func3
    (ChangeSpec.witness_shaped (enc := enc) (C := Tryz.checked) (os := os) (X := fun w _ => laidMetH Tryz.prog laid3 w) false (World.laidAll Tryz.prog os laid3) #[.agg #[.slice none 0 0, .slice none 0 0, .slice none 0 0, .slice none 0 0], .slice none 0 0, .slice none 0 0] 8 (World.laidAll_os _ _ _)
      (World.shaped_of_ZipB (by kernel_rfl) (by kernel_rfl)) (by kernel_rfl) (by kernel_rfl) (by kernel_rfl)
      (by rw [MakeChecks.laidMetH_plain _ _ _ (by kernel_rfl)]; exact laidMet_laidAll _ (by kernel_rfl) (by kernel_rfl))) ?_
  intro W base args ds gs before hval0 hW _ hZ hL _
  have hT := AmT.tab_of hL
  have hval : ∀ (j : Nat) t v, Tryz.f3.params[j]? = some t → args[j]? = some v → Value.okWide Tryz.prog W .any base t v := hval0
  have hW' := hW
  obtain ⟨p, q, hA0, hV, rfl, hfz, hnd⟩ := hW
  have hA : DataW.TrodAll enc Tryz.prog W 0 (fun _ => true) true Tryz.f3.params.toList args.toList ds p := hA0
  rw [Tryz.params3] at hA hval
  obtain ⟨v0, vs0, d0, ds0, p0, q0, hargs, rfl, rfl, h0, r0⟩ := trodAll_cons hA
  obtain ⟨v1, vs1, d1, ds1, p1, q1, rfl, rfl, rfl, h1, r1⟩ := trodAll_cons r0
  obtain ⟨v2, vs2, d2, ds2, p2, q2, rfl, rfl, rfl, h2, r2⟩ := trodAll_cons r1
  obtain ⟨rfl, rfl, rfl⟩ := trodAll_nil r2
  obtain rfl : args = #[v0, v1, v2] := by cases args; simp_all
  obtain ⟨rfl, rfl⟩ := trodVars_none hV
  have k0 := h0
  have lt0 : ∀ x ∈ p0, x.block < W.heap.size := by obtain ⟨m, hm⟩ := k0; exact DataW.trod_lt m _ _ _ hm
  have o0 := hval 0 27 v0 rfl rfl
  have k1 := h1
  have lt1 : ∀ x ∈ p1, x.block < W.heap.size := by obtain ⟨m, hm⟩ := k1; exact DataW.trod_lt m _ _ _ hm
  have o1 := hval 1 28 v1 rfl rfl
  have k2 := h2
  have lt2 : ∀ x ∈ p2, x.block < W.heap.size := by obtain ⟨m, hm⟩ := k2; exact DataW.trod_lt m _ _ _ hm
  have o2 := hval 2 29 v2 rfl rfl
  obtain ⟨v1x0, v2x0, v3x0, v4x0, ps0, bs0, rfl, sf0⟩ := OpenR.open_sale o0 k0
  obtain ⟨l1, bn1, wf1⟩ := OpenR.open_buns o1 k1
  obtain ⟨l2, fr2, fo2⟩ := OpenR.open_fracs o2 k2
  clear hA0 hval0 hL
  refine (St.law_invoices ps0 bs0 l1 l2 v1x0 v2x0 v3x0 v4x0 v1 v2 W sf0.prods sf0.names sf0.bids sf0.bnames bn1 fr2 fo2 hT).mono fun e W' ⟨he, bel⟩ => ?_
  subst he
  exact ⟨_, rfl, _, _, _, [], _, [], hW', trodAll_mk1 (shut_bool Tryz.underlying4 _), (trodAll_cons_mk (Below.trod laidOut (by kernel_rfl) (of_decide_eq_true (by kernel_rfl)) k0 bel lt0) (trodAll_cons_mk (Below.trod laidOut (by kernel_rfl) (of_decide_eq_true (by kernel_rfl)) k1 bel lt1) (trodAll_cons_mk (Below.trod laidOut (by kernel_rfl) (of_decide_eq_true (by kernel_rfl)) k2 bel lt2) trodAll_mk0))), rfl, bel.frame _, fun h => by cases h⟩

theorem over : Rows.settleInvoicesRow.holds Tryz.pinned (OpenSpec.ofChange Rows.settleInvoicesSpec) :=
  OpenClaim.holds_of_wide 3 Tryz.f3 rfl rfl rfl rfl rfl rfl rfl ⟨rfl, rfl, rfl, rfl, rfl⟩ rfl rfl rfl rfl rfl (by kernel_rfl) Tryz.func3 (by kernel_rfl)
    (of_decide_eq_true (by kernel_rfl)) (by unfold Func.isWrapper; first | (rw [if_pos (by decide +kernel)]; kernel_rfl) | (rw [if_neg (by decide +kernel)]; exact ⟨rfl, rfl⟩))
    (fun os started H enc _ => lifted os started H enc)

theorem proved : Rows.SettleInvoicesCardSaid :=
  Claim7.holds_tied_plain_at .later [] _ _ _ _ over (fun _ h => by cases h) (by kernel_rfl) (fun _ h => by cases h) settleInvoices_row_tie rfl ⟨rfl, rfl⟩ (by kernel_rfl) rfl
    (fun f fn hf hfn => by
      obtain rfl : f = 3 := Option.some.inj ((show Tryz.prog.funcNamed "saleroom/saleroomlaw33.SettleInvoices" = some 3 by kernel_rfl).symm.trans hf) |>.symm
      obtain rfl : fn = Tryz.f3 := (Option.some.inj (Tryz.func3.symm.trans hfn)).symm
      exact ⟨by kernel_rfl, fun j t ht => by
        rw [Tryz.params3] at ht
        have hm : t ∈ [27, 28, 29] := by simpa using Array.mem_of_getElem? ht
        have hall : ([27, 28, 29].all fun u => !Tryz.prog.wantsStandIn u) = true := by kernel_rfl
        exact (show Tryz.prog.wantsStandIn t = false by simpa using List.all_eq_true.1 hall t hm)⟩)
    (by kernel_rfl)
end Go.Proofs.YthehchdonmmpaaaGreatDoor.settleInvoicesLaw
