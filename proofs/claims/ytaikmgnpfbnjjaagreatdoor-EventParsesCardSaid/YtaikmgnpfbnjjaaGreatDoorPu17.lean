/- Contracts of setup.checkCaps, checkAsides and Check. Printed by gen_se1.py. -/
import Derived.Test.YtaikmgnpfbnjjaaGreatDoorPu16
import Derived.Test.YtaikmgnpfbnjjaaGreatDoorPu13
import Derived.Deep.RegionHeld3
namespace Go.Proofs.YtaikmgnpfbnjjaaGreatDoor.Se
open Go.ChangeShapes Go.WideShapes Go.ChangeAt Go.RowKit Gn Cat Lex Ros
set_option linter.unusedVariables false
set_option linter.unusedSimpArgs false
/-- a setup in memory -/
structure SetW (w : World) (v1 v2 v3 v4 : Value) (S : SetD) : Prop where
  p : PS w v1 S.ps
  b : BidS w v2 S.bs
  c : CapS w v3 S.cs
  a : AsdS w v4 S.ad
  lp : S.ps.length ≤ 5000
  lb : S.bs.length ≤ 5000
  lc : S.cs.length ≤ 5000
  la : S.ad.length ≤ 5000
  np : ∀ p ∈ S.ps, p.name.size ≤ maxLen
  nb : ∀ p ∈ S.bs, p.name.size ≤ maxLen
theorem SetW.keep {w w' : World} {v1 v2 v3 v4 : Value} {S : SetD} (h : SetW w v1 v2 v3 v4 S) (b : Below w.heap.size w w') : SetW w' v1 v2 v3 v4 S := ⟨h.p.keep b, h.b.keep b, h.c.keep b, h.a.keep b, h.lp, h.lb, h.lc, h.la, h.np, h.nb⟩
abbrev ErrPost (x : Int) (w : World) : Ending → World → Prop := fun e w' => e = .returned (.int .i64 x) ∧ Below w.heap.size w w'
theorem Row3.at_ {w : World} {b o : Nat} {T : Type} {f : T → List Value} {l : List T} {a c d : T → Value} (hf : ∀ t, f t = [a t, c t, d t]) (h : Row w b o (l.flatMap f)) (k : Nat) (hk : k < l.length) :
    w.cell? ⟨b, o + k * 3, none⟩ = some (a l[k]) ∧ w.cell? ⟨b, o + k * 3 + 1, none⟩ = some (c l[k]) ∧ w.cell? ⟨b, o + k * 3 + 2, none⟩ = some (d l[k]) :=
  ⟨h.elem0 (fun t => by rw [hf]; rfl) k hk (by omega) _ (by rw [hf]; rfl), h.elem (fun t => by rw [hf]; rfl) k hk 1 (by omega) _ (by rw [hf]; rfl), h.elem (fun t => by rw [hf]; rfl) k hk 2 (by omega) _ (by rw [hf]; rfl)⟩
theorem cap_at {w : World} {b o : Nat} {l : List Cp} (h : Row w b o (l.flatMap Cp.cells)) (k : Nat) (hk : k < l.length) : w.cell? ⟨b, o + k * 3, none⟩ = some (.int .i64 l[k].bidder) ∧ w.cell? ⟨b, o + k * 3 + 1, none⟩ = some (.int .i64 l[k].group) ∧ w.cell? ⟨b, o + k * 3 + 2, none⟩ = some (.int .i64 l[k].units) := Row3.at_ (a := fun x : Cp => .int .i64 x.bidder) (c := fun x => .int .i64 x.group) (d := fun x => .int .i64 x.units) (fun _ => rfl) h k hk
theorem asd_at {w : World} {b o : Nat} {l : List Asd} (h : Row w b o (l.flatMap Asd.cells)) (k : Nat) (hk : k < l.length) : w.cell? ⟨b, o + k * 3, none⟩ = some (.int .i64 l[k].prod) ∧ w.cell? ⟨b, o + k * 3 + 1, none⟩ = some (.int .i64 l[k].cls) ∧ w.cell? ⟨b, o + k * 3 + 2, none⟩ = some (.int .i64 l[k].units) := Row3.at_ (a := fun x : Asd => .int .i64 x.prod) (c := fun x => .int .i64 x.cls) (d := fun x => .int .i64 x.units) (fun _ => rfl) h k hk
theorem any_take {T : Type} {p : T → Bool} {l : List T} {k : Nat} (hk : k ≤ l.length) (h : ∀ j (hj : j < k), p (l[j]'(by omega)) = false) : (l.take k).any p = false := by
  rw [List.any_eq_false]
  intro x hx
  obtain ⟨j, hj, rfl⟩ := List.getElem_of_mem hx
  rw [List.getElem_take]
  have hj2 : j < k := by rw [List.length_take] at hj; omega
  rw [h j hj2]
  simp
theorem any_hit {T : Type} {p : T → Bool} {l : List T} {k j : Nat} (hk : k ≤ l.length) (hj : j < k) (h : p (l[j]'(by omega)) = true) : (l.take k).any p = true := by
  rw [List.any_eq_true]
  exact ⟨l[j]'(by omega), by rw [List.mem_take_iff_getElem]; exact ⟨j, by omega, rfl⟩, h⟩
set_option maxHeartbeats 2000000 in
set_option maxRecDepth 100000 in
theorem caps_any (nb : Nat) (cs : List Cp) (A1 A2 A4 A : Option Addr) (n1 c1 c2 n4 c4 cc : Nat) (w : World) (hl : cs.length ≤ 5000) (hnb : nb ≤ 5000) (h : CapS w (.slice A cs.length cc) cs) :
    Calls Tryz.prog 75 #[.agg #[.slice A1 n1 c1, .slice A2 nb c2, .slice A cs.length cc, .slice A4 n4 c4]] w (ErrPost (capsE nb cs) w) := by
  obtain ⟨A', c', e', k1, k2, hr⟩ := sl_parts h
  injection e' with e1 e2 e3
  subst e1 e3
  unfold maxLen at k2
  have HR := Lib.hid hr
  clear hr h
  have BX := Lib.hid (below_new w (.cells #[.slice A1 n1 c1, .slice A2 nb c2, .slice A cs.length cc, .slice A4 n4 c4] 42))
  have KX := Lib.hid (Blk.new w 42 #[.slice A1 n1 c1, .slice A2 nb c2, .slice A cs.length cc, .slice A4 n4 c4])
  have cx := KX.out.c4
  have l5 : (cs.length : Int) ≤ 5000 := by omega
  by_cases h16 : 16 < cs.length
  · have d1 : decide ((16 : Int) < (cs.length : Int)) = true := decide_eq_true (by omega)
    have HE := Lib.hid (show capsE nb cs = 3 by unfold capsE; rw [if_pos h16])
    clear h16 HR
    go_enter Tryz.func75, Tryz.ntmps75
    go_wp2_with fail
    go_ret
    exact ⟨by rw [HE.out]; rfl, BX.out⟩
  have d1 : decide ((16 : Int) < (cs.length : Int)) = false := decide_eq_false (by omega)
  have HE := Lib.hid (show capsE nb cs = firstE (fun i => capOne nb cs i (cs.getD i ⟨0, 0, 0⟩)) 0 cs.length by unfold capsE; rw [if_neg h16])
  have HF := Lib.hid (fun i (hi : i < cs.length) => (show (cs.getD i ⟨0, 0, 0⟩) = cs[i] by simp [List.getD, hi]))
  obtain ⟨R, hR⟩ : ∃ R, R = capsE nb cs := ⟨_, rfl⟩
  rw [← hR] at HE
  rw [← hR]
  clear hR h16
  go_enter Tryz.func75, Tryz.ntmps75
  go_wp2_with fail
  generalize w.alloc _ = w0 at *
  go_loopw [14] (fun iv wr => ∃ k : Nat, k ≤ cs.length ∧ iv = .int .i64 (k : Int) ∧ Hid (R = firstE (fun i => capOne nb cs i (cs.getD i ⟨0, 0, 0⟩)) k (cs.length - k)) ∧ Hid (Below w.heap.size w wr) ∧ Hid (Blk wr w.heap.size 42 #[.slice A1 n1 c1, .slice A2 nb c2, .slice A cs.length cc, .slice A4 n4 c4])) (fun iv _ => cs.length - (intOf iv).toNat)
  case atStart => exact ⟨0, Nat.zero_le _, rfl, by show _ = _; rw [HE.out]; rfl, BX.out, KX.out⟩
  case round =>
    clear HE BX KX cx d1
    obtain ⟨k, hk, rfl, HX, HB, HK⟩ := hrel
    have hk0 : (0 : Int) ≤ (k : Int) := by omega
    have hk5 : (k : Int) ≤ 5000 := by omega
    by_cases hkn : k < cs.length
    · have hd1 : decide (k < cs.length) = true := decide_eq_true hkn
      have hd2 : decide ((k : Int) < (cs.length : Int)) = true := decide_eq_true (by omega)
      have hkn1 : (k : Int) < (cs.length : Int) := by omega
      have hkc : k ≤ cc := by omega
      obtain ⟨b, o, e1, hb, hrow⟩ := HR.out (by omega)
      subst e1
      have HAT := Lib.hid (fun W (bw : Below w.heap.size w W) => fun j (hj : j < cs.length) => cap_at (hrow.below hb bw) j hj)
      have hat := HAT.out _ HB.out k hkn
      have cx := HK.out.c4
      have hgx := HK.out.lt
      have HST : Hid (capOne nb cs k cs[k] ≠ 0 → R = capOne nb cs k cs[k]) := by
        intro h2
        have e2 := HX.out
        rw [show cs.length - k = (cs.length - (k + 1)) + 1 by omega, firstE_stop (by show capOne nb cs k (cs.getD k ⟨0, 0, 0⟩) ≠ 0; rw [HF.out k hkn]; exact h2)] at e2
        rw [e2]
        show capOne nb cs k (cs.getD k ⟨0, 0, 0⟩) = _
        rw [HF.out k hkn]
      have HGO : Hid (capOne nb cs k cs[k] = 0 → R = firstE (fun i => capOne nb cs i (cs.getD i ⟨0, 0, 0⟩)) (k + 1) (cs.length - (k + 1))) := by
        intro h2
        have e2 := HX.out
        rw [show cs.length - k = (cs.length - (k + 1)) + 1 by omega, firstE_step (by show capOne nb cs k (cs.getD k ⟨0, 0, 0⟩) = 0; rw [HF.out k hkn]; exact h2)] at e2
        exact e2
      obtain ⟨x, hx⟩ : ∃ x, x = cs[k] := ⟨_, rfl⟩
      rw [← hx] at hat HST HGO
      have HXX := Lib.hid hx
      clear hx hrow
      by_cases q0 : x.bidder < -1
      · have t0 : decide (x.bidder < (-1 : Int)) = true := decide_eq_true q0
        have e2 : capOne nb cs k x = 6 := by unfold capOne; rw [if_pos (by omega)]
        have HV := Lib.hid (show R = 6 by rw [HST.out (by rw [e2]; decide), e2])
        clear e2
        clear q0 HST HGO
        have K1 := Lib.hid (Blk.new wr 94 #[.int .i64 x.bidder, .int .i64 x.group, .int .i64 x.units])
        have B1 := Lib.hid (HB.out.alloc HB.out.size (.cells #[.int .i64 x.bidder, .int .i64 x.group, .int .i64 x.units] 94))
        have KX1 := Lib.hid (HK.out.alloc (.cells #[.int .i64 x.bidder, .int .i64 x.group, .int .i64 x.units] 94))
        go_wp2_with fail
        go_ret
        exact ⟨by rw [HV.out]; rfl, B1.out⟩
      · have t0 : decide (x.bidder < (-1 : Int)) = false := decide_eq_false q0
        by_cases q1 : (nb : Int) ≤ x.bidder
        · have t1 : decide ((nb : Int) ≤ x.bidder) = true := decide_eq_true q1
          have e2 : capOne nb cs k x = 6 := by unfold capOne; rw [if_pos (by omega)]
          have HV := Lib.hid (show R = 6 by rw [HST.out (by rw [e2]; decide), e2])
          clear e2
          clear q0 q1 HST HGO
          have K1 := Lib.hid (Blk.new wr 94 #[.int .i64 x.bidder, .int .i64 x.group, .int .i64 x.units])
          have B1 := Lib.hid (HB.out.alloc HB.out.size (.cells #[.int .i64 x.bidder, .int .i64 x.group, .int .i64 x.units] 94))
          have KX1 := Lib.hid (HK.out.alloc (.cells #[.int .i64 x.bidder, .int .i64 x.group, .int .i64 x.units] 94))
          go_wp2_with fail
          go_ret
          exact ⟨by rw [HV.out]; rfl, B1.out⟩
        · have t1 : decide ((nb : Int) ≤ x.bidder) = false := decide_eq_false q1
          by_cases q2 : x.group < 0
          · have t2 : decide (x.group < (0 : Int)) = true := decide_eq_true q2
            have e2 : capOne nb cs k x = 4 := by unfold capOne; rw [if_neg (by omega), if_pos (by omega)]
            have HV := Lib.hid (show R = 4 by rw [HST.out (by rw [e2]; decide), e2])
            clear e2
            clear q0 q1 q2 HST HGO
            have K1 := Lib.hid (Blk.new wr 94 #[.int .i64 x.bidder, .int .i64 x.group, .int .i64 x.units])
            have B1 := Lib.hid (HB.out.alloc HB.out.size (.cells #[.int .i64 x.bidder, .int .i64 x.group, .int .i64 x.units] 94))
            have KX1 := Lib.hid (HK.out.alloc (.cells #[.int .i64 x.bidder, .int .i64 x.group, .int .i64 x.units] 94))
            go_wp2_with fail
            go_ret
            exact ⟨by rw [HV.out]; rfl, B1.out⟩
          · have t2 : decide (x.group < (0 : Int)) = false := decide_eq_false q2
            by_cases q3 : 4 < x.group
            · have t3 : decide ((4 : Int) < x.group) = true := decide_eq_true q3
              have e2 : capOne nb cs k x = 4 := by unfold capOne; rw [if_neg (by omega), if_pos (by omega)]
              have HV := Lib.hid (show R = 4 by rw [HST.out (by rw [e2]; decide), e2])
              clear e2
              clear q0 q1 q2 q3 HST HGO
              have K1 := Lib.hid (Blk.new wr 94 #[.int .i64 x.bidder, .int .i64 x.group, .int .i64 x.units])
              have B1 := Lib.hid (HB.out.alloc HB.out.size (.cells #[.int .i64 x.bidder, .int .i64 x.group, .int .i64 x.units] 94))
              have KX1 := Lib.hid (HK.out.alloc (.cells #[.int .i64 x.bidder, .int .i64 x.group, .int .i64 x.units] 94))
              go_wp2_with fail
              go_ret
              exact ⟨by rw [HV.out]; rfl, B1.out⟩
            · have t3 : decide ((4 : Int) < x.group) = false := decide_eq_false q3
              by_cases q4 : x.units < 0
              · have t4 : decide (x.units < (0 : Int)) = true := decide_eq_true q4
                have e2 : capOne nb cs k x = 4 := by unfold capOne; rw [if_neg (by omega), if_pos (by omega)]
                have HV := Lib.hid (show R = 4 by rw [HST.out (by rw [e2]; decide), e2])
                clear e2
                clear q0 q1 q2 q3 q4 HST HGO
                have K1 := Lib.hid (Blk.new wr 94 #[.int .i64 x.bidder, .int .i64 x.group, .int .i64 x.units])
                have B1 := Lib.hid (HB.out.alloc HB.out.size (.cells #[.int .i64 x.bidder, .int .i64 x.group, .int .i64 x.units] 94))
                have KX1 := Lib.hid (HK.out.alloc (.cells #[.int .i64 x.bidder, .int .i64 x.group, .int .i64 x.units] 94))
                go_wp2_with fail
                go_ret
                exact ⟨by rw [HV.out]; rfl, B1.out⟩
              · have t4 : decide (x.units < (0 : Int)) = false := decide_eq_false q4
                by_cases q5 : 24 < x.units
                · have t5 : decide ((24 : Int) < x.units) = true := decide_eq_true q5
                  have e2 : capOne nb cs k x = 4 := by unfold capOne; rw [if_neg (by omega), if_pos (by omega)]
                  have HV := Lib.hid (show R = 4 by rw [HST.out (by rw [e2]; decide), e2])
                  clear e2
                  clear q0 q1 q2 q3 q4 q5 HST HGO
                  have K1 := Lib.hid (Blk.new wr 94 #[.int .i64 x.bidder, .int .i64 x.group, .int .i64 x.units])
                  have B1 := Lib.hid (HB.out.alloc HB.out.size (.cells #[.int .i64 x.bidder, .int .i64 x.group, .int .i64 x.units] 94))
                  have KX1 := Lib.hid (HK.out.alloc (.cells #[.int .i64 x.bidder, .int .i64 x.group, .int .i64 x.units] 94))
                  go_wp2_with fail
                  go_ret
                  exact ⟨by rw [HV.out]; rfl, B1.out⟩
                · have t5 : decide ((24 : Int) < x.units) = false := decide_eq_false q5
                  have HT : Hid (capOne nb cs k x = if (cs.take k).any (fun d => d.bidder == x.bidder && d.group == x.group) = true then 7 else 0) := by show _ = _; unfold capOne; rw [if_neg (by omega), if_neg (by omega)]
                  clear q0 q1 q2 q3 q4 q5
                  have K1 := Lib.hid (Blk.new wr 94 #[.int .i64 x.bidder, .int .i64 x.group, .int .i64 x.units])
                  have B1 := Lib.hid (HB.out.alloc HB.out.size (.cells #[.int .i64 x.bidder, .int .i64 x.group, .int .i64 x.units] 94))
                  have KX1 := Lib.hid (HK.out.alloc (.cells #[.int .i64 x.bidder, .int .i64 x.group, .int .i64 x.units] 94))
                  go_wp2_with fail
                  generalize wr.alloc _ = W0 at *
                  have hgc := K1.out.lt
                  generalize wr.heap.size = gc at *
                  obtain ⟨W, hW⟩ : ∃ W, W = W0 := ⟨_, rfl⟩
                  subst hW
                  go_loopw [53] (fun jv ws => ∃ j : Nat, j ≤ k ∧ jv = .int .i64 (j : Int) ∧ Hid (∀ j2 (h2 : j2 < j) (h3 : j2 < cs.length), (fun d => d.bidder == x.bidder && d.group == x.group) cs[j2] = false) ∧ Hid (Below W.heap.size W ws)) (fun jv _ => k - (intOf jv).toNat)
                  case atStart => exact ⟨0, Nat.zero_le _, rfl, (fun j2 h2 => absurd h2 (Nat.not_lt_zero _)), Below.refl _ _⟩
                  case round =>
                    obtain ⟨j, hj, rfl, HJ, HBJ⟩ := hrel
                    have hj0 : (0 : Int) ≤ (j : Int) := by omega
                    by_cases hjk : j < k
                    · have hdj : decide ((j : Int) < (k : Int)) = true := decide_eq_true (by omega)
                      have hjk1 : (j : Int) < (k : Int) := by omega
                      have hjl : j < cs.length := by omega
                      have B2 := Lib.hid (chain0 B1.out HBJ.out)
                      have haj := HAT.out _ B2.out j hjl
                      have hbs := Nat.lt_of_lt_of_le hb B2.out.size
                      have kc := (K1.out.below' HBJ.out).c3
                      have hgs := (K1.out.below' HBJ.out).lt
                      obtain ⟨y, hy⟩ : ∃ y, y = cs[j] := ⟨_, rfl⟩
                      rw [← hy] at haj
                      have HY := Lib.hid hy
                      clear hy
                      have B3 := Lib.hid (HBJ.out.alloc HBJ.out.size (.cells #[.int .i64 y.bidder, .int .i64 y.group, .int .i64 y.units] 94))
                      have B4 := Lib.hid (B2.out.alloc B2.out.size (.cells #[.int .i64 y.bidder, .int .i64 y.group, .int .i64 y.units] 94))
                      cases hm : (y.bidder == x.bidder) with
                      | true =>
                        cases hm2 : (y.group == x.group) with
                        | true =>
                          have HV : Hid (R = 7) := by
                            have e2 : capOne nb cs k x = 7 := by rw [HT.out, if_pos (any_hit (j := j) (by omega) hjk (by rw [← HY.out]; show (y.bidder == x.bidder && y.group == x.group) = true; rw [hm, hm2]; rfl))]
                            show R = 7
                            rw [HST.out (by rw [e2]; decide), e2]
                          go_wp2_with fail
                          go_ret
                          exact ⟨by rw [HV.out]; rfl, B4.out⟩
                        | false =>
                          have HJ2 : Hid (∀ j2 (h2 : j2 < j + 1) (h3 : j2 < cs.length), (fun d => d.bidder == x.bidder && d.group == x.group) cs[j2] = false) := by
                            intro j2 h2 h3
                            by_cases e : j2 = j
                            · subst e; rw [← HY.out]; show (y.bidder == x.bidder && y.group == x.group) = false; rw [hm, hm2]; rfl
                            · exact HJ.out j2 (by omega) h3
                          go_wp2_with fail
                          go_roundw
                          case rel => exact ⟨j + 1, hjk, by go_num, HJ2.out, B3.out⟩
                          case measure => simp [intOf]; omega
                      | false =>
                        have HJ2 : Hid (∀ j2 (h2 : j2 < j + 1) (h3 : j2 < cs.length), (fun d => d.bidder == x.bidder && d.group == x.group) cs[j2] = false) := by
                          intro j2 h2 h3
                          by_cases e : j2 = j
                          · subst e; rw [← HY.out]; show (y.bidder == x.bidder && y.group == x.group) = false; rw [hm]; rfl
                          · exact HJ.out j2 (by omega) h3
                        go_wp2_with fail
                        go_roundw
                        case rel => exact ⟨j + 1, hjk, by go_num, HJ2.out, B3.out⟩
                        case measure => simp [intOf]; omega
                    · obtain rfl : j = k := by omega
                      have hdj : decide ((j : Int) < (j : Int)) = false := decide_eq_false (by omega)
                      have B2 := Lib.hid (chain0 B1.out HBJ.out)
                      have KX2 := Lib.hid (KX1.out.below' HBJ.out)
                      have HV : Hid (R = firstE (fun i => capOne nb cs i (cs.getD i ⟨0, 0, 0⟩)) (j + 1) (cs.length - (j + 1))) := HGO.out (by rw [HT.out, if_neg]; rw [Bool.not_eq_true]; exact any_take (by omega) fun j2 h2 => HJ.out j2 h2 (by omega))
                      go_wp2_with fail
                      go_roundw
                      case rel => exact ⟨j + 1, hkn, by go_num, HV.out, B2.out, KX2.out⟩
                      case measure => simp [intOf]; omega
    · obtain rfl : k = cs.length := by omega
      have hd1 : decide (cs.length < cs.length) = false := decide_eq_false (Nat.lt_irrefl _)
      have hd2 : decide ((cs.length : Int) < (cs.length : Int)) = false := decide_eq_false (Int.lt_irrefl _)
      have HV : Hid (R = 0) := by show R = 0; rw [HX.out, Nat.sub_self]; rfl
      go_wp2_with fail
      go_ret
      exact ⟨by rw [HV.out]; rfl, HB.out⟩
set_option maxHeartbeats 2000000 in
set_option maxRecDepth 100000 in
theorem asds_any (ps : List Prod) (ad : List Asd) (A1 A2 A3 A : Option Addr) (c1 n2 c2 n3 c3 cc : Nat) (w : World) (hl : ad.length ≤ 5000) (hp : ps.length ≤ 5000) (h1 : PS w (.slice A1 ps.length c1) ps) (h : AsdS w (.slice A ad.length cc) ad) :
    Calls Tryz.prog 76 #[.agg #[.slice A1 ps.length c1, .slice A2 n2 c2, .slice A3 n3 c3, .slice A ad.length cc]] w (ErrPost (asdsE ps ad) w) := by
  obtain ⟨A', c', e', k1, k2, hr⟩ := sl_parts h
  injection e' with e1 e2 e3
  subst e1 e3
  unfold maxLen at k2
  have HR := Lib.hid hr
  clear hr h
  obtain ⟨A', c', e', _, _, hq⟩ := ps_cases h1
  injection e' with e1 e2 e3
  subst e1 e3
  have HQ := Lib.hid hq
  clear hq h1
  have BX := Lib.hid (below_new w (.cells #[.slice A1 ps.length c1, .slice A2 n2 c2, .slice A3 n3 c3, .slice A ad.length cc] 42))
  have KX := Lib.hid (Blk.new w 42 #[.slice A1 ps.length c1, .slice A2 n2 c2, .slice A3 n3 c3, .slice A ad.length cc])
  have cx := KX.out.c4
  have l5 : (ad.length : Int) ≤ 5000 := by omega
  by_cases h16 : 6 < ad.length
  · have d1 : decide ((6 : Int) < (ad.length : Int)) = true := decide_eq_true (by omega)
    have HE := Lib.hid (show asdsE ps ad = 3 by unfold asdsE; rw [if_pos h16])
    clear h16 HR
    go_enter Tryz.func76, Tryz.ntmps76
    go_wp2_with fail
    go_ret
    exact ⟨by rw [HE.out]; rfl, BX.out⟩
  have d1 : decide ((6 : Int) < (ad.length : Int)) = false := decide_eq_false (by omega)
  have HE := Lib.hid (show asdsE ps ad = firstE (fun i => asdOne ps ad i (ad.getD i ⟨0, 0, 0⟩)) 0 ad.length by unfold asdsE; rw [if_neg h16])
  have HF := Lib.hid (fun i (hi : i < ad.length) => (show (ad.getD i ⟨0, 0, 0⟩) = ad[i] by simp [List.getD, hi]))
  obtain ⟨R, hR⟩ : ∃ R, R = asdsE ps ad := ⟨_, rfl⟩
  rw [← hR] at HE
  rw [← hR]
  clear hR h16
  go_enter Tryz.func76, Tryz.ntmps76
  go_wp2_with fail
  generalize w.alloc _ = w0 at *
  go_loopw [14] (fun iv wr => ∃ k : Nat, k ≤ ad.length ∧ iv = .int .i64 (k : Int) ∧ Hid (R = firstE (fun i => asdOne ps ad i (ad.getD i ⟨0, 0, 0⟩)) k (ad.length - k)) ∧ Hid (Below w.heap.size w wr) ∧ Hid (Blk wr w.heap.size 42 #[.slice A1 ps.length c1, .slice A2 n2 c2, .slice A3 n3 c3, .slice A ad.length cc])) (fun iv _ => ad.length - (intOf iv).toNat)
  case atStart => exact ⟨0, Nat.zero_le _, rfl, by show _ = _; rw [HE.out]; rfl, BX.out, KX.out⟩
  case round =>
    clear HE BX KX cx d1
    obtain ⟨k, hk, rfl, HX, HB, HK⟩ := hrel
    have hk0 : (0 : Int) ≤ (k : Int) := by omega
    have hk5 : (k : Int) ≤ 5000 := by omega
    by_cases hkn : k < ad.length
    · have hd1 : decide (k < ad.length) = true := decide_eq_true hkn
      have hd2 : decide ((k : Int) < (ad.length : Int)) = true := decide_eq_true (by omega)
      have hkn1 : (k : Int) < (ad.length : Int) := by omega
      have hkc : k ≤ cc := by omega
      obtain ⟨b, o, e1, hb, hrow⟩ := HR.out (by omega)
      subst e1
      have HAT := Lib.hid (fun W (bw : Below w.heap.size w W) => fun j (hj : j < ad.length) => asd_at (hrow.below hb bw) j hj)
      have hat := HAT.out _ HB.out k hkn
      have cx := HK.out.c4
      have hgx := HK.out.lt
      have HST : Hid (asdOne ps ad k ad[k] ≠ 0 → R = asdOne ps ad k ad[k]) := by
        intro h2
        have e2 := HX.out
        rw [show ad.length - k = (ad.length - (k + 1)) + 1 by omega, firstE_stop (by show asdOne ps ad k (ad.getD k ⟨0, 0, 0⟩) ≠ 0; rw [HF.out k hkn]; exact h2)] at e2
        rw [e2]
        show asdOne ps ad k (ad.getD k ⟨0, 0, 0⟩) = _
        rw [HF.out k hkn]
      have HGO : Hid (asdOne ps ad k ad[k] = 0 → R = firstE (fun i => asdOne ps ad i (ad.getD i ⟨0, 0, 0⟩)) (k + 1) (ad.length - (k + 1))) := by
        intro h2
        have e2 := HX.out
        rw [show ad.length - k = (ad.length - (k + 1)) + 1 by omega, firstE_step (by show asdOne ps ad k (ad.getD k ⟨0, 0, 0⟩) = 0; rw [HF.out k hkn]; exact h2)] at e2
        exact e2
      obtain ⟨x, hx⟩ : ∃ x, x = ad[k] := ⟨_, rfl⟩
      rw [← hx] at hat HST HGO
      have HXX := Lib.hid hx
      clear hx hrow
      by_cases q0 : x.prod < 0
      · have t0 : decide (x.prod < (0 : Int)) = true := decide_eq_true q0
        have e2 : asdOne ps ad k x = 6 := by unfold asdOne; rw [if_pos (by omega)]
        have HV := Lib.hid (show R = 6 by rw [HST.out (by rw [e2]; decide), e2])
        clear e2
        clear q0 HST HGO
        have K1 := Lib.hid (Blk.new wr 96 #[.int .i64 x.prod, .int .i64 x.cls, .int .i64 x.units])
        have B1 := Lib.hid (HB.out.alloc HB.out.size (.cells #[.int .i64 x.prod, .int .i64 x.cls, .int .i64 x.units] 96))
        have KX1 := Lib.hid (HK.out.alloc (.cells #[.int .i64 x.prod, .int .i64 x.cls, .int .i64 x.units] 96))
        go_wp2_with fail
        go_ret
        exact ⟨by rw [HV.out]; rfl, B1.out⟩
      · have t0 : decide (x.prod < (0 : Int)) = false := decide_eq_false q0
        by_cases q1 : (ps.length : Int) ≤ x.prod
        · have t1 : decide ((ps.length : Int) ≤ x.prod) = true := decide_eq_true q1
          have e2 : asdOne ps ad k x = 6 := by unfold asdOne; rw [if_pos (by omega)]
          have HV := Lib.hid (show R = 6 by rw [HST.out (by rw [e2]; decide), e2])
          clear e2
          clear q0 q1 HST HGO
          have K1 := Lib.hid (Blk.new wr 96 #[.int .i64 x.prod, .int .i64 x.cls, .int .i64 x.units])
          have B1 := Lib.hid (HB.out.alloc HB.out.size (.cells #[.int .i64 x.prod, .int .i64 x.cls, .int .i64 x.units] 96))
          have KX1 := Lib.hid (HK.out.alloc (.cells #[.int .i64 x.prod, .int .i64 x.cls, .int .i64 x.units] 96))
          go_wp2_with fail
          go_ret
          exact ⟨by rw [HV.out]; rfl, B1.out⟩
        · have t1 : decide ((ps.length : Int) ≤ x.prod) = false := decide_eq_false q1
          by_cases q2 : x.cls < 1
          · have t2 : decide (x.cls < (1 : Int)) = true := decide_eq_true q2
            have e2 : asdOne ps ad k x = 4 := by unfold asdOne; rw [if_neg (by omega), if_pos (by omega)]
            have HV := Lib.hid (show R = 4 by rw [HST.out (by rw [e2]; decide), e2])
            clear e2
            clear q0 q1 q2 HST HGO
            have K1 := Lib.hid (Blk.new wr 96 #[.int .i64 x.prod, .int .i64 x.cls, .int .i64 x.units])
            have B1 := Lib.hid (HB.out.alloc HB.out.size (.cells #[.int .i64 x.prod, .int .i64 x.cls, .int .i64 x.units] 96))
            have KX1 := Lib.hid (HK.out.alloc (.cells #[.int .i64 x.prod, .int .i64 x.cls, .int .i64 x.units] 96))
            go_wp2_with fail
            go_quiet (fail)
            go_wp2_with fail
            go_ret
            exact ⟨by rw [HV.out]; rfl, chain0 B1.out (drewN_below _ _)⟩
          · have t2 : decide (x.cls < (1 : Int)) = false := decide_eq_false q2
            by_cases q3 : 4 < x.cls
            · have t3 : decide ((4 : Int) < x.cls) = true := decide_eq_true q3
              have e2 : asdOne ps ad k x = 4 := by unfold asdOne; rw [if_neg (by omega), if_pos (by omega)]
              have HV := Lib.hid (show R = 4 by rw [HST.out (by rw [e2]; decide), e2])
              clear e2
              clear q0 q1 q2 q3 HST HGO
              have K1 := Lib.hid (Blk.new wr 96 #[.int .i64 x.prod, .int .i64 x.cls, .int .i64 x.units])
              have B1 := Lib.hid (HB.out.alloc HB.out.size (.cells #[.int .i64 x.prod, .int .i64 x.cls, .int .i64 x.units] 96))
              have KX1 := Lib.hid (HK.out.alloc (.cells #[.int .i64 x.prod, .int .i64 x.cls, .int .i64 x.units] 96))
              go_wp2_with fail
              go_quiet (fail)
              go_wp2_with fail
              go_ret
              exact ⟨by rw [HV.out]; rfl, chain0 B1.out (drewN_below _ _)⟩
            · have t3 : decide ((4 : Int) < x.cls) = false := decide_eq_false q3
              by_cases q4 : x.units < 1
              · have t4 : decide (x.units < (1 : Int)) = true := decide_eq_true q4
                have e2 : asdOne ps ad k x = 4 := by unfold asdOne; rw [if_neg (by omega), if_pos (by omega)]
                have HV := Lib.hid (show R = 4 by rw [HST.out (by rw [e2]; decide), e2])
                clear e2
                clear q0 q1 q2 q3 q4 HST HGO
                have K1 := Lib.hid (Blk.new wr 96 #[.int .i64 x.prod, .int .i64 x.cls, .int .i64 x.units])
                have B1 := Lib.hid (HB.out.alloc HB.out.size (.cells #[.int .i64 x.prod, .int .i64 x.cls, .int .i64 x.units] 96))
                have KX1 := Lib.hid (HK.out.alloc (.cells #[.int .i64 x.prod, .int .i64 x.cls, .int .i64 x.units] 96))
                go_wp2_with fail
                go_quiet (fail)
                go_wp2_with fail
                go_ret
                exact ⟨by rw [HV.out]; rfl, chain0 B1.out (drewN_below _ _)⟩
              · have t4 : decide (x.units < (1 : Int)) = false := decide_eq_false q4
                obtain ⟨n, hn⟩ : ∃ n : Nat, x.prod = (n : Int) := ⟨x.prod.toNat, by omega⟩
                have hnp : n < ps.length := by omega
                have HN := Lib.hid hn
                have hpp := show (ps.getD x.prod.toNat Prod.none) = ps[n] by rw [hn, Int.toNat_natCast]; exact getD_prod ps n hnp
                obtain ⟨bp, op, e1, hbp, hprow⟩ := HQ.out (by omega)
                subst e1
                have HPT := Lib.hid (fun W (bw : Below w.heap.size w W) => ((hprow.below hbp bw).at_ n hnp).2.1)
                have hpt := HPT.out _ HB.out
                have hbpr : bp < wr.heap.size := by have := HB.out.size; omega
                have hsup : ∃ u : Int, u = ps[n].supply := ⟨_, rfl⟩
                obtain ⟨u, hu⟩ := hsup
                rw [← hu] at hpt HPT
                have HU : Hid ((ps.getD x.prod.toNat Prod.none).supply = u) := by show _ = _; rw [hpp, hu]
                have hn0 : (0 : Int) ≤ (n : Int) := by omega
                have hn5 : (n : Int) < (ps.length : Int) := by omega
                have hpl : (ps.length : Int) ≤ 5000 := by omega
                clear hpp hu hprow
                by_cases q5 : u < x.units
                · have t5 : decide (u < x.units) = true := decide_eq_true q5
                  have e2 : asdOne ps ad k x = 4 := by unfold asdOne; rw [if_neg (by omega), if_pos (by rw [HU.out]; omega)]
                  have HV := Lib.hid (show R = 4 by rw [HST.out (by rw [e2]; decide), e2])
                  clear e2
                  clear q0 q1 q2 q3 q4 q5 HST HGO
                  have K1 := Lib.hid (Blk.new wr 96 #[.int .i64 x.prod, .int .i64 x.cls, .int .i64 x.units])
                  have B1 := Lib.hid (HB.out.alloc HB.out.size (.cells #[.int .i64 x.prod, .int .i64 x.cls, .int .i64 x.units] 96))
                  have KX1 := Lib.hid (HK.out.alloc (.cells #[.int .i64 x.prod, .int .i64 x.cls, .int .i64 x.units] 96))
                  obtain ⟨xp, xc, xu⟩ := x
                  dsimp only at *
                  subst hn
                  go_wp2_with fail
                  go_quiet (fail)
                  go_wp2_with fail
                  go_ret
                  exact ⟨by rw [HV.out]; rfl, chain0 B1.out (drewN_below _ _)⟩
                have t5 : decide (u < x.units) = false := decide_eq_false q5
                have HT : Hid (asdOne ps ad k x = if (ad.take k).any (fun d => d.prod == x.prod) = true then 7 else 0) := by show _ = _; unfold asdOne; rw [if_neg (by omega), if_neg (by rw [HU.out]; omega)]
                clear q0 q1 q2 q3 q4 q5
                have K1 := Lib.hid (Blk.new wr 96 #[.int .i64 x.prod, .int .i64 x.cls, .int .i64 x.units])
                have B1 := Lib.hid (HB.out.alloc HB.out.size (.cells #[.int .i64 x.prod, .int .i64 x.cls, .int .i64 x.units] 96))
                have KX1 := Lib.hid (HK.out.alloc (.cells #[.int .i64 x.prod, .int .i64 x.cls, .int .i64 x.units] 96))
                obtain ⟨xp, xc, xu⟩ := x
                dsimp only at *
                subst hn
                go_wp2_with fail
                generalize wr.alloc _ = W0 at *
                have hgc := K1.out.lt
                generalize wr.heap.size = gc at *
                have kc0 := K1.out.c3
                have cx0 := KX1.out.c4
                have hgx0 := KX1.out.lt
                have hpt0 := HPT.out _ B1.out
                have hbpw : bp < W0.heap.size := by have := B1.out.size; omega
                go_quiet (fail)
                replace K1 := Lib.hid (K1.out.drewN nq)
                replace KX1 := Lib.hid (KX1.out.drewN nq)
                replace B1 := Lib.hid (chain0 B1.out (drewN_below W0 nq))
                clear kc0 cx0 hgx0 hpt0 hbpw hgc
                generalize W0.drewN nq = W at *
                have hgc := K1.out.lt
                have kc1 := K1.out.c3
                have cx1 := KX1.out.c4
                have hgx1 := KX1.out.lt
                go_wp2_with fail
                go_loopw [60] (fun jv ws => ∃ j : Nat, j ≤ k ∧ jv = .int .i64 (j : Int) ∧ Hid (∀ j2 (h2 : j2 < j) (h3 : j2 < ad.length), (fun d => d.prod == (n : Int)) ad[j2] = false) ∧ Hid (Below W.heap.size W ws)) (fun jv _ => k - (intOf jv).toNat)
                case atStart => exact ⟨0, Nat.zero_le _, rfl, (fun j2 h2 => absurd h2 (Nat.not_lt_zero _)), Below.refl _ _⟩
                case round =>
                  obtain ⟨j, hj, rfl, HJ, HBJ⟩ := hrel
                  have hj0 : (0 : Int) ≤ (j : Int) := by omega
                  by_cases hjk : j < k
                  · have hdj : decide ((j : Int) < (k : Int)) = true := decide_eq_true (by omega)
                    have hjk1 : (j : Int) < (k : Int) := by omega
                    have hjl : j < ad.length := by omega
                    have B2 := Lib.hid (chain0 B1.out HBJ.out)
                    have haj := HAT.out _ B2.out j hjl
                    have hbs := Nat.lt_of_lt_of_le hb B2.out.size
                    have kc := (K1.out.below' HBJ.out).c3
                    have hgs := (K1.out.below' HBJ.out).lt
                    obtain ⟨y, hy⟩ : ∃ y, y = ad[j] := ⟨_, rfl⟩
                    rw [← hy] at haj
                    have HY := Lib.hid hy
                    clear hy
                    have B3 := Lib.hid (HBJ.out.alloc HBJ.out.size (.cells #[.int .i64 y.prod, .int .i64 y.cls, .int .i64 y.units] 96))
                    have B4 := Lib.hid (B2.out.alloc B2.out.size (.cells #[.int .i64 y.prod, .int .i64 y.cls, .int .i64 y.units] 96))
                    cases hm : (y.prod == (n : Int)) with
                    | true =>
                      have HV : Hid (R = 7) := by
                        have e2 : asdOne ps ad k ⟨(n : Int), xc, xu⟩ = 7 := by rw [HT.out, if_pos (any_hit (j := j) (by omega) hjk (by rw [← HY.out]; exact hm))]
                        show R = 7
                        rw [HST.out (by rw [e2]; decide), e2]
                      go_wp2_with fail
                      go_ret
                      exact ⟨by rw [HV.out]; rfl, B4.out⟩
                    | false =>
                      have HJ2 : Hid (∀ j2 (h2 : j2 < j + 1) (h3 : j2 < ad.length), (fun d => d.prod == (n : Int)) ad[j2] = false) := by
                        intro j2 h2 h3
                        by_cases e : j2 = j
                        · subst e; rw [← HY.out]; exact hm
                        · exact HJ.out j2 (by omega) h3
                      go_wp2_with fail
                      go_roundw
                      case rel => exact ⟨j + 1, hjk, by go_num, HJ2.out, B3.out⟩
                      case measure => simp [intOf]; omega
                  · obtain rfl : j = k := by omega
                    have hdj : decide ((j : Int) < (j : Int)) = false := decide_eq_false (by omega)
                    have B2 := Lib.hid (chain0 B1.out HBJ.out)
                    have KX2 := Lib.hid (KX1.out.below' HBJ.out)
                    have HV : Hid (R = firstE (fun i => asdOne ps ad i (ad.getD i ⟨0, 0, 0⟩)) (j + 1) (ad.length - (j + 1))) := HGO.out (by rw [HT.out, if_neg]; rw [Bool.not_eq_true]; exact any_take (by omega) fun j2 h2 => HJ.out j2 h2 (by omega))
                    go_wp2_with fail
                    go_roundw
                    case rel => exact ⟨j + 1, hkn, by go_num, HV.out, B2.out, KX2.out⟩
                    case measure => simp [intOf]; omega
    · obtain rfl : k = ad.length := by omega
      have hd1 : decide (ad.length < ad.length) = false := decide_eq_false (Nat.lt_irrefl _)
      have hd2 : decide ((ad.length : Int) < (ad.length : Int)) = false := decide_eq_false (Int.lt_irrefl _)
      have HV : Hid (R = 0) := by show R = 0; rw [HX.out, Nat.sub_self]; rfl
      go_wp2_with fail
      go_ret
      exact ⟨by rw [HV.out]; rfl, HB.out⟩
end Go.Proofs.YtaikmgnpfbnjjaaGreatDoor.Se
