/- The walk of SetupShrinks. Printed by gen_seSk.py. -/
import Derived.Test.YtjjlhihocllgjaaDoorSeMo
import Derived.Test.YtjjlhihocllgjaaDoorSeC
import Derived.Test.YtjjlhihocllgjaaDoorPd05
namespace Go.Proofs.YtjjlhihocllgjaaDoor.Se
open Go.ChangeShapes Go.WideShapes Go.ChangeAt Go.RowKit Gn Cat Lex Ros
set_option linter.unusedVariables false
set_option linter.unusedSimpArgs false
theorem bunC_at (p : Nat → Int) (r : Nat) (hr : r < 6) : (bunCells p)[r]? = some (.int .i64 (p r)) := by
  obtain rfl | rfl | rfl | rfl | rfl | rfl : r = 0 ∨ r = 1 ∨ r = 2 ∨ r = 3 ∨ r = 4 ∨ r = 5 := by omega
  all_goals rfl
theorem bun_one (l : List (Nat → Int)) : ∀ u ∈ l.flatMap bunCells, u.oneCell' = true := flat_one (c := bunCells) (fun p u hu => by simp [bunCells] at hu; rcases hu with rfl | rfl | rfl | rfl | rfl | rfl <;> rfl) l
theorem bun_get (m : List (Nat → Int)) (i j : Nat) (hi : i < m.length) (hj : j < 6) : (m.flatMap bunCells)[i * 6 + j]? = some (.int .i64 (m.getD i zero6 j)) := by
  rw [flat_get bun_len m i j hi hj, bunC_at _ _ hj, getD_at m i hi]
theorem bun_set (m : List (Nat → Int)) (i j : Nat) (hi : i < m.length) (hj : j < 6) (v : Int) : (m.flatMap bunCells).set (i * 6 + j) (.int .i64 v) = (m.set i (upd (m.getD i zero6) j v)).flatMap bunCells := by
  have hl := flat_len (c := bunCells) bun_len m
  have hl2 := flat_len (c := bunCells) bun_len (m.set i (upd (m.getD i zero6) j v))
  rw [List.length_set] at hl2
  apply List.ext_getElem?
  intro q
  by_cases hq : q < m.length * 6
  · have ha : q / 6 < m.length := by omega
    have hr : q % 6 < 6 := by omega
    have e : q = (q / 6) * 6 + q % 6 := by omega
    have h2 : ((m.set i (upd (m.getD i zero6) j v)).flatMap bunCells)[q]? = some (.int .i64 ((m.set i (upd (m.getD i zero6) j v)).getD (q / 6) zero6 (q % 6))) := by
      have := bun_get (m.set i (upd (m.getD i zero6) j v)) (q / 6) (q % 6) (by rw [List.length_set]; exact ha) hr
      rwa [← e] at this
    have h1 : (m.flatMap bunCells)[q]? = some (.int .i64 (m.getD (q / 6) zero6 (q % 6))) := by
      have := bun_get m (q / 6) (q % 6) ha hr
      rwa [← e] at this
    rw [h2, List.getElem?_set]
    by_cases hqi : i * 6 + j = q
    · rw [if_pos hqi, if_pos (by omega)]
      have e1 : q / 6 = i := by omega
      have e2 : q % 6 = j := by omega
      rw [e1, e2, show (m.set i (upd (m.getD i zero6) j v)).getD i zero6 = upd (m.getD i zero6) j v by simp [List.getD, hi]]
      unfold upd
      rw [if_pos rfl]
    · rw [if_neg hqi, h1]
      by_cases e1 : q / 6 = i
      · have e2 : q % 6 ≠ j := by omega
        rw [e1, show (m.set i (upd (m.getD i zero6) j v)).getD i zero6 = upd (m.getD i zero6) j v by simp [List.getD, hi]]
        unfold upd
        rw [if_neg e2]
      · rw [show (m.set i (upd (m.getD i zero6) j v)).getD (q / 6) zero6 = m.getD (q / 6) zero6 by simp [List.getD, List.getElem?_set, Ne.symm e1]]
  · rw [List.getElem?_eq_none (by rw [List.length_set, hl]; omega), List.getElem?_eq_none (by rw [hl2]; omega)]
theorem le_set {m l : List (Nat → Int)} (h : LeL m l) {i j : Nat} (hi : i < l.length) {v : Int} (h0 : 0 ≤ v) (hv : v ≤ m.getD i zero6 j) : LeL (m.set i (upd (m.getD i zero6) j v)) l := by
  refine ⟨by rw [List.length_set]; exact h.1, fun a ha k hk => ?_⟩
  have h1 := h.2 a ha k hk
  by_cases e : a = i
  · subst e
    rw [show (m.set a (upd (m.getD a zero6) j v)).getD a zero6 = upd (m.getD a zero6) j v by have := h.1; simp [List.getD, show a < m.length by omega]]
    unfold upd
    by_cases e2 : k = j
    · subst e2; rw [if_pos rfl]; omega
    · rw [if_neg e2]; exact h1
  · rw [show (m.set i (upd (m.getD i zero6) j v)).getD a zero6 = m.getD a zero6 by simp [List.getD, List.getElem?_set, Ne.symm e]]
    exact h1
theorem bunI : (Tryd.prog.info? 24).map (fun i => (i.zero, i.size, i.bytes)) = some (some (.agg #[.int .i64 0, .int .i64 0, .int .i64 0, .int .i64 0, .int .i64 0, .int .i64 0]), 6, 48) := by kernel_rfl
theorem bunO_at {w : World} {g c n base : Nat} {m : List (Nat → Int)} (h : w.ownsRow base 24 6 (.slice (some ⟨g, 0, none⟩) n c) n (m.flatMap bunCells)) (hn : m.length = n) {i j : Nat} (hi : i < n) (hj : j < 6) : w.cell? ⟨g, i * 6 + j, none⟩ = some (.int .i64 (m.getD i zero6 j)) := by
  rw [h.cellAt (i * 6 + j) (by omega), bun_get m i j (by omega) hj]
theorem own_pos2 {w : World} {base e s n : Nat} {A : Option Addr} {c : Nat} {xs : List Value} (h : w.ownsRow base e s (.slice A n c) n xs) (h0 : 0 < n) : ∃ g, A = some ⟨g, 0, none⟩ := by
  rcases h.2 with ⟨e1, e2⟩ | ⟨g, cap, cur, e1, _⟩
  · omega
  · injection e1 with e1 _ _
    exact ⟨g, e1⟩
theorem below_of_drew1 (w : World) : Below w.heap.size w w.drew := (Below.refl _ _).drew
set_option maxHeartbeats 8000000 in
set_option maxRecDepth 100000 in
theorem law_shrinks (S : SetD) (v1 v2 v3 v4 v u : Value) (l less : List (Nat → Int)) (w : World) (h : SetO w v1 v2 v3 v4 S) (hb : BunS w v l) (hc : BunS w u less) (ht : Env w) : Calls Tryd.prog 7 #[.agg #[v1, v2, v3, v4], v, u] w (TrueP w) := by
  have HEN := Lib.hid (fun W (d : Below w.heap.size w W) => awake_any W (ht.keep d))
  have HO0 := Lib.hid h
  have HBS := Lib.hid hb
  obtain ⟨A1, c1, A2, c2, A3, c3, A4, c4, rfl, rfl, rfl, rfl⟩ := h.forms
  obtain ⟨A, c, rfl, k1, k2, _⟩ := sl_parts hb
  obtain ⟨A', c', rfl, k3, k4, hrc⟩ := sl_parts hc
  have HRC := Lib.hid hrc
  have CG := Lib.hid (great_any A1 A2 A3 A4 S.ps.length S.bs.length S.cs.length S.ad.length c1 c2 c3 c4)
  have CV := Lib.hid (fun p W => valid_any p W)
  have BX := Lib.hid (below_new w (.cells #[.slice A1 S.ps.length c1, .slice A2 S.bs.length c2, .slice A3 S.cs.length c3, .slice A4 S.ad.length c4] 43))
  have KX := Lib.hid (Blk.new w 43 #[.slice A1 S.ps.length c1, .slice A2 S.bs.length c2, .slice A3 S.cs.length c3, .slice A4 S.ad.length c4])
  obtain ⟨gr, hgr⟩ : ∃ gr, gr = greatB S.ps.length S.bs.length S.cs.length S.ad.length := ⟨_, rfl⟩
  rw [← hgr] at CG
  have HG := Lib.hid hgr
  obtain ⟨i0, hi0', hz0, hz1, hz2⟩ := info_parts bunI
  clear h hb hc hgr k1 k2 k3 k4 hrc
  go_enter Tryd.func7, Tryd.ntmps7
  have z0 := KX.out.c4
  go_wp2_with fail
  refine (CG.out _).mono ?_
  rintro e w1 ⟨rfl, d⟩
  have B1 := Lib.hid (chain0 BX.out d)
  have K1 := Lib.hid (KX.out.below' d)
  clear d BX KX z0 CG
  cases gr with
  | true =>
    go_wp2_with fail
    refine (HEN.out _ B1.out).mono ?_
    rintro e wz ⟨rfl, d⟩
    have BZ := Lib.hid (chain0 B1.out d)
    clear d
    go_wp2_with fail
    go_ret
    exact ⟨rfl, BZ.out⟩
  | false =>
  by_cases hl : 50 < l.length
  · have t1 : decide ((50 : Int) < (l.length : Int)) = true := decide_eq_true (by omega)
    go_wp2_with fail
    refine (HEN.out _ B1.out).mono ?_
    rintro e wz ⟨rfl, d⟩
    have BZ := Lib.hid (chain0 B1.out d)
    clear d
    go_wp2_with fail
    go_ret
    exact ⟨rfl, BZ.out⟩
  have t1 : decide ((50 : Int) < (l.length : Int)) = false := decide_eq_false (by omega)
  have hll : (l.length : Int) ≤ 50 := by omega
  have HW := Lib.hid (HO0.out.setW (great_no HG.out.symm))
  have CF : Hid (∀ (m : List (Nat → Int)) (hm : m.length ≤ 5000) (W : World) (d : Below w.heap.size w W) {vv : Value} (hb : BunS W vv m), Calls Tryd.prog 17 #[.agg #[.slice A1 S.ps.length c1, .slice A2 S.bs.length c2, .slice A3 S.cs.length c3, .slice A4 S.ad.length c4], vv] W (ErrPost (feasE S m) W)) := fun m hm W d _ hb => feas_any S m _ _ _ _ _ W (HW.out.keep d) hb hm
  have z0 := K1.out.c4
  go_wp2_with fail
  refine (CF.out l (by omega) _ B1.out (HBS.out.keep B1.out)).mono ?_
  rintro e w2 ⟨rfl, d⟩
  have B2 := Lib.hid (chain0 B1.out d)
  have K2 := Lib.hid (K1.out.below' d)
  clear d B1 K1 z0
  by_cases hz : feasE S l = 0
  case neg =>
    have t2 : (feasE S l != 0) = true := by simpa using hz
    clear hz
    go_wp2_with fail
    refine (HEN.out _ B2.out).mono ?_
    rintro e wz ⟨rfl, d⟩
    have BZ := Lib.hid (chain0 B2.out d)
    clear d
    go_wp2_with fail
    go_ret
    exact ⟨rfl, BZ.out⟩
  have t2 : (feasE S l != 0) = false := by rw [hz]; rfl
  have HF0 := Lib.hid hz
  have HL0 : Hid (LeL l l) := by
    refine ⟨rfl, fun a ha k hk => ⟨?_, Int.le_refl _⟩⟩
    exact ((allowE_zero (allE_zero (feas_parts hz).2.2.1 a ha)).2.1 k hk).1
  have hl50 : Hid (l.length ≤ 50) := by show _ ≤ _; omega
  clear hz hl
  have HSL := Lib.hid (HBS.out.keep B2.out)
  go_wp2_with (at_builtin; refine wpList_append_sl _ rfl (.tmp 24) (.tmp 25) _ rfl w.heap.size 24 i0 _ 6 48 Tryd.underlying44 hi0' hz0 hz1 hz2 rfl (by decide) (.slice (some ⟨w2.heap.size, 0, none⟩) 0 0) 0 [] rfl (World.ownsRow_made w2 #[] 0 B2.out.size (by unfold maxLen; omega) rfl) (.slice A l.length c) l.length (l.flatMap bunCells) rfl (HSL.out.keep (below_new _ _)) (bun_one l) (by have := hl50.out; unfold maxLen; omega) (by have := hl50.out; omega) (by have := B2.out.size; simp; omega) ?_)
  intro v' w4 hown hgr
  obtain ⟨A5, c5, rfl⟩ := Gn.own_form hown
  have HO4 := Lib.hid hown
  have B4 : Hid (Below w.heap.size w w4) := (B2.out.alloc B2.out.size _).grown hgr (by have := B2.out.size; simp; omega) (fun q hq => by injection hq with hq; rw [← hq]; exact B2.out.size)
  have K4 : Hid (Blk w4 w.heap.size 43 #[.slice A1 S.ps.length c1, .slice A2 S.bs.length c2, .slice A3 S.cs.length c3, .slice A4 S.ad.length c4]) := (K2.out.alloc _).grown hgr (fun e => by injection e with e; have h := K2.out.lt; have e2 : w2.heap.size = w.heap.size := (by first | exact e | exact e.symm); omega)
  clear hown hgr B2 K2 HSL
  go_wp2_with fail
  go_loopw [8] (fun iv wr => ∃ (i : Nat) (m : List (Nat → Int)), i ≤ l.length ∧ iv = .int .i64 (i : Int) ∧ Hid (LeL m l) ∧ Hid (wr.ownsRow w.heap.size 24 6 (.slice A5 l.length c5) l.length (m.flatMap bunCells)) ∧ Hid (Blk wr w.heap.size 43 #[.slice A1 S.ps.length c1, .slice A2 S.bs.length c2, .slice A3 S.cs.length c3, .slice A4 S.ad.length c4]) ∧ Hid (Below w.heap.size w wr)) (fun iv _ => l.length - (intOf iv).toNat)
  case atStart => exact ⟨0, l, Nat.zero_le _, rfl, HL0.out, HO4.out, K4.out, B4.out⟩
  case round =>
    clear HL0 HO4 K4 B4
    obtain ⟨i, m, hi, rfl, HLE, HO, HK, HB⟩ := hrel
    have in0 : (0 : Int) ≤ (i : Int) := by omega
    by_cases hil : i < l.length
    · have hd1 : decide (i < l.length) = true := decide_eq_true hil
      have hd2 : decide ((i : Int) < (l.length : Int)) = true := decide_eq_true (by omega)
      have hil1 : (i : Int) < (l.length : Int) := by omega
      by_cases hie : i < less.length
      · have hd3 : decide (i < less.length) = true := decide_eq_true hie
        have hd4 : decide ((i : Int) < (less.length : Int)) = true := decide_eq_true (by omega)
        have hie1 : (i : Int) < (less.length : Int) := by omega
        obtain ⟨bb, o, e1, hbb, hrow⟩ := HRC.out (by omega)
        subst e1
        have hat := bun_at (hrow.below hbb HB.out) i hie
        have hbr := Nat.lt_of_lt_of_le hbb HB.out.size
        have HAT : Hid (∀ k (hk : k < 6) W, Below w.heap.size w W → W.cell? ⟨bb, o + i * 6 + k, none⟩ = some (.int .i64 (less[i] k))) := fun k hk W d => (hrow.below hbb d).elem bun_len i hie k hk _ (bunC_at _ _ hk)
        obtain ⟨p, hp⟩ : ∃ p, p = less[i] := ⟨_, rfl⟩
        rw [← hp] at hat HAT
        clear hp hrow
        have CV2 := Lib.hid (CV.out p)
        unfold arr at CV2
        go_wp2_with fail
        refine (CV2.out _).mono ?_
        rintro e w5 ⟨rfl, d5⟩
        have HK5 := Lib.hid (HK.out.below' d5)
        have HB5 := Lib.hid (chain0 HB.out d5)
        have HO5 := Lib.hid (own_below HO.out d5)
        clear d5 hat hbr HK HB HO CV2
        cases hv : validB p with
        | false =>
          clear hv
          go_wp2_with fail
          refine (HEN.out _ HB5.out).mono ?_
          rintro e wz ⟨rfl, d⟩
          have BZ := Lib.hid (chain0 HB5.out d)
          clear d
          go_wp2_with fail
          go_ret
          exact ⟨rfl, BZ.out⟩
        | true =>
          have HV := Lib.hid (validB_iff.1 hv)
          clear hv
          obtain ⟨g5, hg5⟩ := own_pos2 HO5.out (by omega)
          subst hg5
          go_wp2_with fail
          go_loopw [9] (fun jv wr => ∃ (j : Nat) (m : List (Nat → Int)), j ≤ 6 ∧ jv = .int .i64 (j : Int) ∧ Hid (LeL m l) ∧ Hid (wr.ownsRow w.heap.size 24 6 (.slice (some ⟨g5, 0, none⟩) l.length c5) l.length (m.flatMap bunCells)) ∧ Hid (Blk wr w.heap.size 43 #[.slice A1 S.ps.length c1, .slice A2 S.bs.length c2, .slice A3 S.cs.length c3, .slice A4 S.ad.length c4]) ∧ Hid (Below w.heap.size w wr)) (fun jv _ => 6 - (intOf jv).toNat)
          case atStart => exact ⟨0, m, Nat.zero_le _, rfl, HLE.out, HO5.out, HK5.out, HB5.out⟩
          case round =>
            clear HO5 HK5 HB5 HLE
            obtain ⟨j, m, hj, rfl, HLE, HO, HK, HB⟩ := hrel
            have jn0 : (0 : Int) ≤ (j : Int) := by omega
            by_cases hj6 : j < 6
            · have hd5 : decide (j < 6) = true := decide_eq_true hj6
              have hd6 : decide ((j : Int) < 6) = true := decide_eq_true (by omega)
              have hj6i : (j : Int) < 6 := by omega
              have hat := HAT.out j hj6 _ HB.out
              have hbr := Nat.lt_of_lt_of_le hbb HB.out.size
              have hmt := bunO_at HO.out HLE.out.1 hil hj6
              have hml := (HO.out.lt g5 rfl).2
              have hv1 := HV.out j hj6
              obtain ⟨x, hx⟩ : ∃ x, x = p j := ⟨_, rfl⟩
              obtain ⟨y, hy⟩ : ∃ y, y = m.getD i zero6 j := ⟨_, rfl⟩
              rw [← hx] at hat hv1
              rw [← hy] at hmt
              have HY := Lib.hid hy
              have HV1 := Lib.hid hv1
              have HX := Lib.hid hx
              clear hy hx hv1
              cases t5 : decide (x < y) with
              | false =>
                go_wp2_with fail
                go_quiet (fail)
                have N1 := Lib.hid (own_below HO.out (drewN_below wr nq))
                have N2 := Lib.hid (HK.out.below' (drewN_below wr nq))
                have N3 := Lib.hid (chain0 HB.out (drewN_below wr nq))
                clear hat hbr hmt hml
                generalize wr.drewN nq = W at *
                go_wp2_with fail
                go_roundw
                case rel => exact ⟨j + 1, m, hj6, by go_num, HLE.out, N1.out, N2.out, N3.out⟩
                case measure => simp [intOf]; omega
              | true =>
                have HL2 : Hid (LeL (m.set i (upd (m.getD i zero6) j x)) l) := le_set HLE.out hil HV1.out.1 (by rw [← HY.out]; have := of_decide_eq_true t5; omega)
                have HST := Lib.hid (bun_set m i j (by have := HLE.out.1; omega) hj6 x)
                go_wp2_with fail
                go_quiet (fail)
                have N1 := Lib.hid (own_below HO.out (drewN_below wr nq))
                have N2 := Lib.hid (HK.out.below' (drewN_below wr nq))
                have N3 := Lib.hid (chain0 HB.out (drewN_below wr nq))
                clear hat hbr hmt hml
                generalize wr.drewN nq = W at *
                have hat := HAT.out j hj6 _ N3.out
                rw [← HX.out] at hat
                have hbr := Nat.lt_of_lt_of_le hbb N3.out.size
                have hmt := bunO_at N1.out HLE.out.1 hil hj6
                have hmf := N1.out.frozenAt (i * 6 + j)
                have hml := (N1.out.lt g5 rfl).2
                go_wp2_with fail
                go_region_with (fail)
                all_goals
                  have P1 : Hid ((W.drew.setCell ⟨g5, i * 6 + j, none⟩ (.int .i64 x)).ownsRow w.heap.size 24 6 (.slice (some ⟨g5, 0, none⟩) l.length c5) l.length ((m.set i (upd (m.getD i zero6) j x)).flatMap bunCells)) := by
                    show World.ownsRow _ _ _ _ _ _ _
                    rw [← HST.out]
                    exact (World.ownsRow.stored (own_below N1.out (below_of_drew1 W)) (i * 6 + j) _).1
                  have P2 : Hid (Blk (W.drew.setCell ⟨g5, i * 6 + j, none⟩ (.int .i64 x)) w.heap.size 43 #[.slice A1 S.ps.length c1, .slice A2 S.bs.length c2, .slice A3 S.cs.length c3, .slice A4 S.ad.length c4]) := (N2.out.below' (below_of_drew1 W)).far (p := ⟨g5, i * 6 + j, none⟩) (fun e => own_apart N1.out N2.out (by decide) (by rw [show w.heap.size = g5 from e]; rfl)) _
                  have P3 : Hid (Below w.heap.size w (W.drew.setCell ⟨g5, i * 6 + j, none⟩ (.int .i64 x))) := (chain0 N3.out (below_of_drew1 W)).setCell (p := ⟨g5, i * 6 + j, none⟩) (N1.out.lt g5 rfl).1 _
                  go_wp2_with fail
                  go_roundw
                  case rel => exact ⟨j + 1, _, hj6, by go_num, HL2.out, P1.out, P2.out, P3.out⟩
                  case measure => simp [intOf]; omega
            · obtain rfl : j = 6 := by omega
              have hd5 : decide (6 < 6) = false := by decide
              have hd6 : decide (((6 : Nat) : Int) < 6) = false := by decide
              go_wp2_with fail
              go_roundw
              case rel => exact ⟨i + 1, m, hil, by go_num, HLE.out, HO.out, HK.out, HB.out⟩
              case measure => simp [intOf]; omega
      · have hd3 : decide (i < less.length) = false := decide_eq_false hie
        have hd4 : decide ((i : Int) < (less.length : Int)) = false := decide_eq_false (by omega)
        have LE := HLE.out
        have HFM : Hid (feasE S m = 0) := feas_mono HF0.out LE
        have CFM := CF.out m (by rw [LE.1]; omega) wr HB.out (by show Sl _ _ _ _ _; rw [LE.1]; exact Sl.of_own HO.out)
        have hz1 : (feasE S m == 0) = true := by rw [HFM.out]; rfl
        clear LE
        have z0 := HK.out.c4
        have zl := HK.out.lt
        go_wp2_with fail
        refine CFM.mono ?_
        rintro e wy ⟨rfl, d⟩
        have BY := Lib.hid (chain0 HB.out d)
        clear d
        go_wp2_with fail
        refine (HEN.out _ BY.out).mono ?_
        rintro e wz ⟨rfl, d⟩
        have BZ := Lib.hid (chain0 BY.out d)
        clear d
        go_wp2_with fail
        go_ret
        exact ⟨rfl, BZ.out⟩
    · obtain rfl : i = l.length := by omega
      have hd1 : decide (l.length < l.length) = false := decide_eq_false (Nat.lt_irrefl _)
      have hd2 : decide ((l.length : Int) < (l.length : Int)) = false := decide_eq_false (Int.lt_irrefl _)
      have LE := HLE.out
      have HFM : Hid (feasE S m = 0) := feas_mono HF0.out LE
      have CFM := CF.out m (by rw [LE.1]; omega) wr HB.out (by show Sl _ _ _ _ _; rw [LE.1]; exact Sl.of_own HO.out)
      have hz1 : (feasE S m == 0) = true := by rw [HFM.out]; rfl
      clear LE
      have z0 := HK.out.c4
      have zl := HK.out.lt
      go_wp2_with fail
      refine CFM.mono ?_
      rintro e wy ⟨rfl, d⟩
      have BY := Lib.hid (chain0 HB.out d)
      clear d
      go_wp2_with fail
      refine (HEN.out _ BY.out).mono ?_
      rintro e wz ⟨rfl, d⟩
      have BZ := Lib.hid (chain0 BY.out d)
      clear d
      go_wp2_with fail
      go_ret
      exact ⟨rfl, BZ.out⟩
end Go.Proofs.YtjjlhihocllgjaaDoor.Se
