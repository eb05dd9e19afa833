/- The reference's Open and Allowed. Printed by gen_seS.py. -/
import Derived.Test.YtjjlhihocllgjaaGreatDoorSe5
namespace Go.Proofs.YtjjlhihocllgjaaGreatDoor.Se
open Go.ChangeShapes Go.WideShapes Go.ChangeAt Go.RowKit Gn Cat Lex Ros
set_option linter.unusedVariables false
set_option linter.unusedSimpArgs false
attribute [local go_sem] later_cell
/-- the memory of the reference's Open at work: the setup, two results, two arrays -/
structure RoM (w wr : World) (g : Nat) (cs : Array Value) (r1 r2 p q : Nat → Int) : Prop where
  k : Blk wr g 38 cs
  c : Box wr (g + 1) r1
  d : Box wr (g + 2) r2
  a : Box wr (g + 3) p
  b : Box wr (g + 4) q
  bel : Below w.heap.size w wr
  le : w.heap.size ≤ g
theorem RoM.keep {w wr w2 : World} {g : Nat} {cs : Array Value} {r1 r2 p q : Nat → Int} (h : RoM w wr g cs r1 r2 p q) (b : Below wr.heap.size wr w2) : RoM w w2 g cs r1 r2 p q := ⟨h.k.below' b, h.c.below b h.c.lt, h.d.below b h.d.lt, h.a.below b h.a.lt, h.b.below b h.b.lt, chain0 h.bel b, h.le⟩
theorem RoM.drew {w wr : World} {g : Nat} {cs : Array Value} {r1 r2 p q : Nat → Int} (h : RoM w wr g cs r1 r2 p q) : RoM w wr.drew g cs r1 r2 p q := ⟨h.k.drew, h.c.drew, h.d.drew, h.a.drew, h.b.drew, h.bel.drew, h.le⟩
theorem RoM.seta {w wr : World} {g : Nat} {cs : Array Value} {r1 r2 p q : Nat → Int} (h : RoM w wr g cs r1 r2 p q) (k : Nat) (hk : k < 6) (v : Int) : RoM w (wr.setCell ⟨g + 3, k, none⟩ (.int .i64 v)) g cs r1 r2 (upd p k v) q :=
  ⟨h.k.far (p := ⟨g + 3, k, none⟩) (by show g ≠ g + 3; omega) _, h.c.other (by omega) _, h.d.other (by omega) _, h.a.set k hk v, h.b.other (by omega) _, h.bel.setCell (p := ⟨g + 3, k, none⟩) (by show w.heap.size ≤ g + 3; have := h.le; omega) _, h.le⟩
theorem RoM.setb {w wr : World} {g : Nat} {cs : Array Value} {r1 r2 p q : Nat → Int} (h : RoM w wr g cs r1 r2 p q) (k : Nat) (hk : k < 6) (v : Int) : RoM w (wr.setCell ⟨g + 4, k, none⟩ (.int .i64 v)) g cs r1 r2 p (upd q k v) :=
  ⟨h.k.far (p := ⟨g + 4, k, none⟩) (by show g ≠ g + 4; omega) _, h.c.other (by omega) _, h.d.other (by omega) _, h.a.other (by omega) _, h.b.set k hk v, h.bel.setCell (p := ⟨g + 4, k, none⟩) (by show w.heap.size ≤ g + 4; have := h.le; omega) _, h.le⟩
theorem RoM.fillc {w wr : World} {g : Nat} {cs : Array Value} {r1 r2 p q : Nat → Int} (h : RoM w wr g cs r1 r2 p q) (r : Nat → Int) : RoM w (fill6 wr (g + 1) r) g cs r r2 p q :=
  ⟨fill6_blk h.k (by omega) r, fill6_box h.c r, fill6_other h.d (by omega) r, fill6_other h.a (by omega) r, fill6_other h.b (by omega) r, fill6_below h.bel (by have := h.le; omega) r, h.le⟩
theorem RoM.filld {w wr : World} {g : Nat} {cs : Array Value} {r1 r2 p q : Nat → Int} (h : RoM w wr g cs r1 r2 p q) (r : Nat → Int) : RoM w (fill6 wr (g + 2) r) g cs r1 r p q :=
  ⟨fill6_blk h.k (by omega) r, fill6_other h.c (by omega) r, fill6_box h.d r, fill6_other h.a (by omega) r, fill6_other h.b (by omega) r, fill6_below h.bel (by have := h.le; omega) r, h.le⟩
theorem RoM.same {w wr : World} {g : Nat} {cs : Array Value} {r1 r2 p q p2 q2 : Nat → Int} (h : RoM w wr g cs r1 r2 p q) (h1 : ∀ k, k < 6 → p k = p2 k) (h2 : ∀ k, k < 6 → q k = q2 k) : RoM w wr g cs r1 r2 p2 q2 := ⟨h.k, h.c, h.d, h.a.congr h1, h.b.congr h2, h.bel, h.le⟩
theorem rom_new (w : World) (cs : Array Value) : RoM w (((((w.alloc (.cells cs 38)).alloc (.cells (arr zero6) 25)).alloc (.cells (arr zero6) 25)).alloc (.cells (arr zero6) 25)).alloc (.cells (arr zero6) 25)) w.heap.size cs zero6 zero6 zero6 zero6 := by
  obtain ⟨w1, hw1⟩ : ∃ w1, w1 = w.alloc (.cells cs 38) := ⟨_, rfl⟩
  have s1 : w1.heap.size = w.heap.size + 1 := by rw [hw1, World.size_alloc]
  have K1 : Blk w1 w.heap.size 38 cs := by rw [hw1]; exact Blk.new w _ cs
  have B1 : Below w.heap.size w w1 := by rw [hw1]; exact below_new w _
  rw [← hw1]
  clear hw1
  obtain ⟨w2, hw2⟩ : ∃ w2, w2 = w1.alloc (.cells (arr zero6) 25) := ⟨_, rfl⟩
  have s2 : w2.heap.size = w.heap.size + 2 := by rw [hw2, World.size_alloc, s1]
  have X2 : Box w2 (w.heap.size + 1) zero6 := by have := box_new w1 zero6 25; rw [s1] at this; rw [hw2]; exact this
  have D2 : Below w1.heap.size w1 w2 := by rw [hw2]; exact below_new w1 _
  rw [← hw2]
  clear hw2
  obtain ⟨w3, hw3⟩ : ∃ w3, w3 = w2.alloc (.cells (arr zero6) 25) := ⟨_, rfl⟩
  have s3 : w3.heap.size = w.heap.size + 3 := by rw [hw3, World.size_alloc, s2]
  have X3 : Box w3 (w.heap.size + 2) zero6 := by have := box_new w2 zero6 25; rw [s2] at this; rw [hw3]; exact this
  have D3 : Below w2.heap.size w2 w3 := by rw [hw3]; exact below_new w2 _
  rw [← hw3]
  clear hw3
  obtain ⟨w4, hw4⟩ : ∃ w4, w4 = w3.alloc (.cells (arr zero6) 25) := ⟨_, rfl⟩
  have s4 : w4.heap.size = w.heap.size + 4 := by rw [hw4, World.size_alloc, s3]
  have X4 : Box w4 (w.heap.size + 3) zero6 := by have := box_new w3 zero6 25; rw [s3] at this; rw [hw4]; exact this
  have D4 : Below w3.heap.size w3 w4 := by rw [hw4]; exact below_new w3 _
  rw [← hw4]
  clear hw4
  have X5 : Box (w4.alloc (.cells (arr zero6) 25)) (w.heap.size + 4) zero6 := by have := box_new w4 zero6 25; rw [s4] at this; exact this
  have D5 := below_new w4 (.cells (arr zero6) 25)
  have K5 := (((K1.below' D2).below' D3).below' D4).below' D5
  have Y2 := ((X2.below D3 X2.lt).below D4 (X2.below D3 X2.lt).lt)
  have Y3 := X3.below D4 X3.lt
  exact ⟨K5, Y2.below D5 Y2.lt, Y3.below D5 Y3.lt, X4.below D5 X4.lt, X5, chain0 (chain0 (chain0 (chain0 B1 D2) D3) D4) D5, Nat.le_refl _⟩

set_option maxHeartbeats 4000000 in
set_option maxRecDepth 100000 in
theorem ropen_any (S : SetD) (v1 v2 v3 v4 : Value) (w : World) (h : SetW w v1 v2 v3 v4 S) : Calls Tryz.prog 24 #[.agg #[v1, v2, v3, v4]] w (TwoPost (openS S) (clsS S) w) := by
  obtain ⟨A1, c1, A2, c2, A3, c3, A4, c4, rfl, rfl, rfl, rfl⟩ := h.forms
  obtain ⟨A', c', e', k1, k2, hr⟩ := sl_parts h.a
  injection e' with e1 e2 e3
  subst e1 e3
  have HR := Lib.hid hr
  obtain ⟨A'', c'', e', k3, k4, hrp⟩ := ps_cases h.p
  injection e' with e1 e2 e3
  subst e1 e3
  have HRP := Lib.hid hrp
  have hlp : (S.ps.length : Int) ≤ 5000 := by have := h.lp; omega
  have hla : (S.ad.length : Int) ≤ 5000 := by have := h.la; omega
  have CC := Lib.hid (fun W (b : Below w.heap.size w W) => rcheck_any S _ _ _ _ W (h.keep b))
  have M0 := Lib.hid (rom_new w #[.slice A1 S.ps.length c1, .slice A2 S.bs.length c2, .slice A3 S.cs.length c3, .slice A4 S.ad.length c4])
  obtain ⟨ro, hro⟩ : ∃ r, r = openS S := ⟨_, rfl⟩
  obtain ⟨rc, hrc⟩ : ∃ r, r = clsS S := ⟨_, rfl⟩
  rw [← hro, ← hrc]
  have HRO := Lib.hid hro
  have HRC := Lib.hid hrc
  clear h hr hrp hro hrc k1 k2 k3 k4
  go_enter Tryz.func24, Tryz.ntmps24
  have z0 := M0.out.k.c4
  go_wp2_with fail
  refine (CC.out _ M0.out.bel).mono ?_
  rintro e w1 ⟨rfl, d1⟩
  have M := Lib.hid (M0.out.keep d1)
  clear d1 M0 z0 CC
  by_cases hz : S.err = 0
  case neg =>
    have t1 : (S.err != 0) = true := by simpa using hz
    have HO := Lib.hid (show openS S = zero6 from if_neg hz)
    have HC := Lib.hid (show clsS S = zero6 from if_neg hz)
    have EO := Lib.hid (HRO.out.trans HO.out)
    have EC := Lib.hid (HRC.out.trans HC.out)
    clear hz
    have z1 := M.out.a.cells
    have z3 := M.out.a.lt
    have y1 := M.out.b.cells
    have y3 := M.out.b.lt
    have x1 := M.out.c.cells
    have u1 := M.out.d.cells
    have x2 := M.out.c.free
    have x3 := M.out.c.lt
    have u2 := M.out.d.free
    have u3 := M.out.d.lt
    go_wp2_with fail
    go_region_with (fail)
    all_goals
      have M2 := Lib.hid ((M.out.fillc zero6).filld zero6).drew
      refine (?_ : Exit.then _ _ Exit.normal _ (World.drew (fill6 (fill6 w1 (w.heap.size + 1) zero6) (w.heap.size + 2) zero6)))
      clear z1 z3 y1 y3 x1 u1 x2 x3 u2 u3
      generalize World.drew _ = wz at *
      obtain ⟨a0, a1, a2, a3, a4, a5⟩ := M2.out.c.cells
      obtain ⟨b0, b1, b2, b3, b4, b5⟩ := M2.out.d.cells
      go_wp2_with fail
      refine bodyPost_ret (v := .tuple #[.agg (arr zero6), .agg (arr zero6)]) (by simp [results, Tryz.results24, go_sem, arr, zero6, a0, a1, a2, a3, a4, a5, b0, b1, b2, b3, b4, b5]) rfl ⟨by rw [EO.out, EC.out], M2.out.bel⟩
  have t1 : (S.err != 0) = false := by rw [hz]; rfl
  have EO := Lib.hid (HRO.out.trans (show openS S = openF S.ps S.ad from if_pos hz))
  have EC := Lib.hid (HRC.out.trans (show clsS S = clsF S.ad from if_pos hz))
  obtain ⟨hzp, _, _, hda⟩ := setE_parts hz
  obtain ⟨hp0, hp6, hg⟩ := checkE_zero hzp
  obtain ⟨ha6, hall⟩ := asdsE_parts hda
  have HP6 := Lib.hid hp6
  have HP0 := Lib.hid hp0
  have HON := Lib.hid (openF_nonneg hg hda hp6)
  have HSI := Lib.hid (fun i => supI_range hg i)
  have HALL := Lib.hid hall
  have HOT := Lib.hid (fun k (hk : k < S.ad.length) => openF_take (ps := S.ps) hk)
  have HCT := Lib.hid (fun k (hk : k < S.ad.length) => clsF_take hk)
  have HO0 : Hid (openF S.ps (S.ad.take 0) = supP S.ps) := by show _ = _; rw [List.take_zero]; rfl
  have HC0 : Hid (clsF (S.ad.take 0) = zero6) := by show _ = _; rw [List.take_zero]; rfl
  have HOE : Hid (openF S.ps (S.ad.take S.ad.length) = openF S.ps S.ad) := by show _ = _; rw [List.take_length]
  have HCE : Hid (clsF (S.ad.take S.ad.length) = clsF S.ad) := by show _ = _; rw [List.take_length]
  have HST := Lib.hid (start_step (re := supI S.ps))
  have HSE : Hid (supP S.ps = startP S.ps.length (supI S.ps)) := rfl
  clear hz hzp hda hp0 hp6 hg ha6 hall HRO HRC
  have z0 := M.out.k.c4
  go_wp2_with fail
  clear z0
  go_loopw [6] (fun iv wr => ∃ k : Nat, k ≤ S.ps.length ∧ iv = .int .i64 (k : Int) ∧ Hid (RoM w wr w.heap.size #[.slice A1 S.ps.length c1, .slice A2 S.bs.length c2, .slice A3 S.cs.length c3, .slice A4 S.ad.length c4] zero6 zero6 (startP k (supI S.ps)) zero6)) (fun iv _ => S.ps.length - (intOf iv).toNat)
  case atStart => exact ⟨0, Nat.zero_le _, rfl, M.out.same (fun k _ => by unfold startP; rw [if_neg (by omega)]; rfl) (fun _ _ => rfl)⟩
  case round =>
    clear M
    obtain ⟨k, hk, rfl, M⟩ := hrel
    have hk0 : (0 : Int) ≤ (k : Int) := by omega
    have z0 := M.out.k.c4
    have zl := M.out.k.lt
    by_cases hkn : k < S.ps.length
    · have hd1 : decide (k < S.ps.length) = true := decide_eq_true hkn
      have hd2 : decide ((k : Int) < (S.ps.length : Int)) = true := decide_eq_true (by omega)
      have hkn1 : (k : Int) < (S.ps.length : Int) := by omega
      have hk6 : k < 6 := Nat.lt_of_lt_of_le hkn HP6.out
      have hk6i : (k : Int) < 6 := by omega
      obtain ⟨b, o, e1, hb, hrow⟩ := HRP.out HP0.out
      subst e1
      have hat := (ProdRow.at_ (hrow.below hb M.out.bel) k hkn).2.1
      have hbr := Nat.lt_of_lt_of_le hb M.out.bel.size
      have HSK := Lib.hid (supI_at S.ps k hkn)
      obtain ⟨x, hx⟩ : ∃ x, x = S.ps[k].supply := ⟨_, rfl⟩
      rw [← hx] at hat HSK
      have HS1 := Lib.hid (HST.out k)
      rw [HSK.out] at HS1
      clear hx hrow HSK
      have la := M.out.a.lt
      have pa := M.out.a.cell k hk6
      have fa := M.out.a.free k
      generalize startP k (supI S.ps) = p at *
      go_wp2_with fail
      go_roundw
      case rel => exact ⟨k + 1, hkn, by go_num, (M.out.seta k hk6 x).same (fun j _ => HS1.out j) (fun _ _ => rfl)⟩
      case measure => simp [intOf]; omega
    · obtain rfl : k = S.ps.length := by omega
      have hd1 : decide (S.ps.length < S.ps.length) = false := decide_eq_false (Nat.lt_irrefl _)
      have hd2 : decide ((S.ps.length : Int) < (S.ps.length : Int)) = false := decide_eq_false (Int.lt_irrefl _)
      rw [← HSE.out] at M
      go_wp2_with fail
      clear z0 zl
      go_loopw [7] (fun iv wr => ∃ k : Nat, k ≤ S.ad.length ∧ iv = .int .i64 (k : Int) ∧ Hid (RoM w wr w.heap.size #[.slice A1 S.ps.length c1, .slice A2 S.bs.length c2, .slice A3 S.cs.length c3, .slice A4 S.ad.length c4] zero6 zero6 (openF S.ps (S.ad.take k)) (clsF (S.ad.take k)))) (fun iv _ => S.ad.length - (intOf iv).toNat)
      case atStart => exact ⟨0, Nat.zero_le _, rfl, by rw [HO0.out, HC0.out]; exact M.out⟩
      case round =>
        clear M HO0 HC0
        obtain ⟨k, hk, rfl, M⟩ := hrel
        have hk0 : (0 : Int) ≤ (k : Int) := by omega
        by_cases hkn : k < S.ad.length
        · have z0 := M.out.k.c4
          have zl := M.out.k.lt
          have hd1 : decide (k < S.ad.length) = true := decide_eq_true hkn
          have hd2 : decide ((k : Int) < (S.ad.length : Int)) = true := decide_eq_true (by omega)
          have hkn1 : (k : Int) < (S.ad.length : Int) := by omega
          obtain ⟨b, o, e1, hb, hrow⟩ := HR.out (by omega)
          subst e1
          have hat := asd_at (hrow.below hb M.out.bel) k hkn
          have hbr := Nat.lt_of_lt_of_le hb M.out.bel.size
          have HO1 := Lib.hid (HOT.out k hkn)
          have HC1 := Lib.hid (HCT.out k hkn)
          obtain ⟨⟨q1, q2⟩, ⟨q3, q4⟩, ⟨q5, q6⟩, _⟩ := HALL.out k hkn
          obtain ⟨n, hn⟩ : ∃ n : Nat, S.ad[k].prod = (n : Int) := ⟨S.ad[k].prod.toNat, by omega⟩
          have hon := HON.out k (by omega) n
          have hsu : S.ad[k].units ≤ 1000 := by
            have := HSI.out S.ad[k].prod.toNat
            have h2 : supI S.ps S.ad[k].prod.toNat = (S.ps.getD S.ad[k].prod.toNat Prod.none).supply := rfl
            omega
          have hn6 : n < 6 := by have := HP6.out; omega
          have hn6i : (n : Int) < 6 := by omega
          have hn0 : (0 : Int) ≤ (n : Int) := by omega
          obtain ⟨x, hx⟩ : ∃ x, x = S.ad[k] := ⟨_, rfl⟩
          rw [← hx] at hat HO1 HC1 q3 q4 q5 hsu hn
          clear hx q1 q2 q6 hrow
          obtain ⟨xp, xc, xu⟩ := x
          dsimp only at *
          subst hn
          rw [Int.toNat_natCast] at HO1 HC1
          generalize openF S.ps (S.ad.take k) = po at *
          generalize clsF (S.ad.take k) = pc at *
          have wd : IntKind.i64.wrap (po n - xu) = po n - xu := IntWalk.i64_in _ (by omega)
          clear hon q3 q4 q5 hsu
          have M1 := Lib.hid (M.out.keep (below_new wr (.cells #[.int .i64 (n : Int), .int .i64 xc, .int .i64 xu] 80)))
          have K1 := Lib.hid (Blk.new wr 80 #[.int .i64 (n : Int), .int .i64 xc, .int .i64 xu])
          have ne1 : ¬ wr.heap.size = w.heap.size + 3 := by have := M.out.a.lt; omega
          have ne2 : ¬ wr.heap.size = w.heap.size + 4 := by have := M.out.b.lt; omega
          go_wp2_with fail
          generalize wr.alloc _ = W at *
          generalize wr.heap.size = gc at *
          have kc := K1.out.c3
          have kl := K1.out.lt
          have pa := M1.out.a.cell n hn6
          have fa := M1.out.a.free n
          have la1 := M1.out.a.lt
          have fb := M1.out.b.free n
          have pb := M1.out.b.cell n hn6
          have lb1 := M1.out.b.lt
          clear hat hbr z0 zl
          go_region_with (fail)
          all_goals go_wp2_with fail
          all_goals
            go_roundw
            case rel => exact ⟨k + 1, hkn, by go_num, by rw [HO1.out, HC1.out]; exact (M1.out.drew.seta n hn6 _).setb n hn6 _⟩
            case measure => simp [intOf]; omega
        · obtain rfl : k = S.ad.length := by omega
          have hd1 : decide (S.ad.length < S.ad.length) = false := decide_eq_false (Nat.lt_irrefl _)
          have hd2 : decide ((S.ad.length : Int) < (S.ad.length : Int)) = false := decide_eq_false (Int.lt_irrefl _)
          rw [HOE.out, HCE.out] at M
          have z0 := M.out.k.c4
          have zl := M.out.k.lt
          generalize openF S.ps S.ad = po at *
          generalize clsF S.ad = pc at *
          have z1 := M.out.a.cells
          have z3 := M.out.a.lt
          have y1 := M.out.b.cells
          have y3 := M.out.b.lt
          have x1 := M.out.c.cells
          have u1 := M.out.d.cells
          have x2 := M.out.c.free
          have x3 := M.out.c.lt
          have u2 := M.out.d.free
          have u3 := M.out.d.lt
          go_wp2_with fail
          go_region_with (fail)
          all_goals
            have M2 := Lib.hid ((M.out.fillc po).filld pc).drew
            refine (?_ : Exit.then _ _ Exit.normal _ (World.drew (fill6 (fill6 wr (w.heap.size + 1) po) (w.heap.size + 2) pc)))
            clear z1 z3 y1 y3 x1 u1 x2 x3 u2 u3
            generalize World.drew _ = wz at *
            obtain ⟨a0, a1, a2, a3, a4, a5⟩ := M2.out.c.cells
            obtain ⟨b0, b1, b2, b3, b4, b5⟩ := M2.out.d.cells
            go_wp2_with fail
            refine bodyPost_ret (v := .tuple #[.agg (arr po), .agg (arr pc)]) (by simp [results, Tryz.results24, go_sem, arr, zero6, a0, a1, a2, a3, a4, a5, b0, b1, b2, b3, b4, b5]) rfl ⟨by rw [EO.out, EC.out], M2.out.bel⟩
end Go.Proofs.YtjjlhihocllgjaaGreatDoor.Se
