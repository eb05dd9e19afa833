/- Contracts of setup.shares and outside. Printed by gen_se3.py. -/
import Derived.Test.YtjjlhihocllgjaaDoorSe1
import Derived.Deep.QuietTactic
import Derived.BigQuiet
namespace Go.Proofs.YtjjlhihocllgjaaDoor.Se
open Go.ChangeShapes Go.WideShapes Go.ChangeAt Go.RowKit Gn Cat Lex Ros
set_option linter.unusedVariables false
set_option linter.unusedSimpArgs false
/-- six stores into a block -/
def fill6 (w : World) (b : Nat) (q : Nat → Int) : World := (((((w.setCell ⟨b, 0, none⟩ (.int .i64 (q 0))).setCell ⟨b, 1, none⟩ (.int .i64 (q 1))).setCell ⟨b, 2, none⟩ (.int .i64 (q 2))).setCell ⟨b, 3, none⟩ (.int .i64 (q 3))).setCell ⟨b, 4, none⟩ (.int .i64 (q 4))).setCell ⟨b, 5, none⟩ (.int .i64 (q 5))
theorem fill6_box {w : World} {b : Nat} {p : Nat → Int} (h : Box w b p) (q : Nat → Int) : Box (fill6 w b q) b q := res_end h q
theorem fill6_other {w : World} {b c : Nat} {p : Nat → Int} (h : Box w b p) (hn : b ≠ c) (q : Nat → Int) : Box (fill6 w c q) b p := (((((h.other hn _).other hn _).other hn _).other hn _).other hn _).other hn _
theorem fill6_blk {w : World} {b c : Nat} {t : TypeId} {cs : Array Value} (h : Blk w b t cs) (hn : b ≠ c) (q : Nat → Int) : Blk (fill6 w c q) b t cs := (((((h.far (p := ⟨c, 0, none⟩) hn _).far (p := ⟨c, 1, none⟩) hn _).far (p := ⟨c, 2, none⟩) hn _).far (p := ⟨c, 3, none⟩) hn _).far (p := ⟨c, 4, none⟩) hn _).far (p := ⟨c, 5, none⟩) hn _
theorem fill6_below {B : Nat} {w w' : World} {c : Nat} (h : Below B w w') (hc : B ≤ c) (q : Nat → Int) : Below B w (fill6 w' c q) := (((((h.setCell (p := ⟨c, 0, none⟩) hc _).setCell (p := ⟨c, 1, none⟩) hc _).setCell (p := ⟨c, 2, none⟩) hc _).setCell (p := ⟨c, 3, none⟩) hc _).setCell (p := ⟨c, 4, none⟩) hc _).setCell (p := ⟨c, 5, none⟩) hc _
theorem fill6_size (w : World) (b : Nat) (q : Nat → Int) : (fill6 w b q).heap.size = w.heap.size := by simp [fill6, World.size_setCell]
/-- the memory of shares at work -/
structure ShM (w wr : World) (g : Nat) (cs : Array Value) (p q : Nat → Int) : Prop where
  k : Blk wr g 43 cs
  a : Box wr (g + 1) p
  b : Box wr (g + 2) q
  bel : Below w.heap.size w wr
  le : w.heap.size ≤ g
theorem ShM.keep {w wr w2 : World} {g : Nat} {cs : Array Value} {p q : Nat → Int} (h : ShM w wr g cs p q) (b : Below wr.heap.size wr w2) : ShM w w2 g cs p q := ⟨h.k.below' b, h.a.below b h.a.lt, h.b.below b h.b.lt, chain0 h.bel b, h.le⟩
theorem ShM.drew {w wr : World} {g : Nat} {cs : Array Value} {p q : Nat → Int} (h : ShM w wr g cs p q) : ShM w wr.drew g cs p q := ⟨h.k.drew, h.a.drew, h.b.drew, h.bel.drew, h.le⟩
theorem ShM.alloc {w wr : World} {g : Nat} {cs : Array Value} {p q : Nat → Int} (h : ShM w wr g cs p q) (o : Obj) : ShM w (wr.alloc o) g cs p q := ⟨h.k.alloc o, h.a.alloc o, h.b.alloc o, h.bel.alloc h.bel.size o, h.le⟩
theorem ShM.seta {w wr : World} {g : Nat} {cs : Array Value} {p q : Nat → Int} (h : ShM w wr g cs p q) (k : Nat) (hk : k < 6) (v : Int) : ShM w (wr.setCell ⟨g + 1, k, none⟩ (.int .i64 v)) g cs (upd p k v) q :=
  ⟨h.k.far (p := ⟨g + 1, k, none⟩) (by show g ≠ g + 1; omega) _, h.a.set k hk v, h.b.other (by omega) _, h.bel.setCell (p := ⟨g + 1, k, none⟩) (by show w.heap.size ≤ g + 1; have := h.le; omega) _, h.le⟩
theorem ShM.setb {w wr : World} {g : Nat} {cs : Array Value} {p q : Nat → Int} (h : ShM w wr g cs p q) (k : Nat) (hk : k < 6) (v : Int) : ShM w (wr.setCell ⟨g + 2, k, none⟩ (.int .i64 v)) g cs p (upd q k v) :=
  ⟨h.k.far (p := ⟨g + 2, k, none⟩) (by show g ≠ g + 2; omega) _, h.a.other (by omega) _, h.b.set k hk v, h.bel.setCell (p := ⟨g + 2, k, none⟩) (by show w.heap.size ≤ g + 2; have := h.le; omega) _, h.le⟩
theorem ShM.filla {w wr : World} {g : Nat} {cs : Array Value} {p q : Nat → Int} (h : ShM w wr g cs p q) (r : Nat → Int) : ShM w (fill6 wr (g + 1) r) g cs r q :=
  ⟨fill6_blk h.k (by omega) r, fill6_box h.a r, fill6_other h.b (by omega) r, fill6_below h.bel (by have := h.le; omega) r, h.le⟩
theorem ShM.fillb {w wr : World} {g : Nat} {cs : Array Value} {p q : Nat → Int} (h : ShM w wr g cs p q) (r : Nat → Int) : ShM w (fill6 wr (g + 2) r) g cs p r :=
  ⟨fill6_blk h.k (by omega) r, fill6_other h.a (by omega) r, fill6_box h.b r, fill6_below h.bel (by have := h.le; omega) r, h.le⟩
theorem shm_new (w : World) (cs : Array Value) : ShM w (((w.alloc (.cells cs 43)).alloc (.cells (arr zero6) 24)).alloc (.cells (arr zero6) 24)) w.heap.size cs zero6 zero6 := by
  have e1 : (w.alloc (.cells cs 43)).heap.size = w.heap.size + 1 := World.size_alloc _ _
  have e2 : ((w.alloc (.cells cs 43)).alloc (.cells (arr zero6) 24)).heap.size = w.heap.size + 2 := by rw [World.size_alloc, e1]
  refine ⟨((Blk.new w _ cs).alloc _).alloc _, ?_, ?_, (((Below.refl _ _).alloc (Nat.le_refl _) _).alloc (by rw [e1]; omega) _).alloc (by rw [e2]; omega) _, Nat.le_refl _⟩
  · have := (box_new (w.alloc (.cells cs 43)) zero6 24).alloc (.cells (arr zero6) 24)
    rw [e1] at this
    exact this
  · have := box_new ((w.alloc (.cells cs 43)).alloc (.cells (arr zero6) 24)) zero6 24
    rw [e2] at this
    exact this
abbrev TwoPost (p q : Nat → Int) (w : World) : Ending → World → Prop := fun e w' => e = .returned (.tuple #[.agg (arr p), .agg (arr q)]) ∧ Below w.heap.size w w'
set_option maxHeartbeats 4000000 in
set_option maxRecDepth 100000 in
theorem shares_any (ps : List Prod) (ad : List Asd) (A1 A2 A3 A : Option Addr) (c1 n2 c2 n3 c3 cc : Nat) (w : World) (hz : checkE ps = 0) (hd : asdsE ps ad = 0) (h1 : PS w (.slice A1 ps.length c1) ps) (h : AsdS w (.slice A ad.length cc) ad) :
    Calls Tryd.prog 35 #[.agg #[.slice A1 ps.length c1, .slice A2 n2 c2, .slice A3 n3 c3, .slice A ad.length cc]] w (TwoPost (openF ps ad) (clsF ad) w) := by
  obtain ⟨hp0, hp6, hg⟩ := checkE_zero hz
  obtain ⟨ha6, hall⟩ := asdsE_parts hd
  have HON := Lib.hid (openF_nonneg hg hd hp6)
  have HALL := Lib.hid hall
  obtain ⟨A', c', e', k1, k2, hr⟩ := sl_parts h
  injection e' with e1 e2 e3
  subst e1 e3
  unfold maxLen at k2
  have HR := Lib.hid hr
  have CS := Lib.hid (fun W (bw : Below w.heap.size w W) => supply_any ps (.slice A1 ps.length c1) W (by omega) (h1.keep bw))
  have M0 := Lib.hid (shm_new w #[.slice A1 ps.length c1, .slice A2 n2 c2, .slice A3 n3 c3, .slice A ad.length cc])
  have HOT := Lib.hid (fun k (hk : k < ad.length) => openF_take (ps := ps) hk)
  have HCT := Lib.hid (fun k (hk : k < ad.length) => clsF_take hk)
  have HO0 : Hid (openF ps (ad.take 0) = supP ps) := by show _ = _; rw [List.take_zero]; rfl
  have HC0 : Hid (clsF (ad.take 0) = zero6) := by show _ = _; rw [List.take_zero]; rfl
  have HOE : Hid (openF ps (ad.take ad.length) = openF ps ad) := by show _ = _; rw [List.take_length]
  have HCE : Hid (clsF (ad.take ad.length) = clsF ad) := by show _ = _; rw [List.take_length]
  have la : (ad.length : Int) ≤ 6 := by omega
  have HZ := Lib.hid hz
  clear hz hd hg hall h1 h hr
  go_enter Tryd.func35, Tryd.ntmps35
  go_wp2_with fail
  refine (CS.out _ M0.out.bel).mono ?_
  rintro e w1 ⟨rfl, d1⟩
  have M1 := Lib.hid (M0.out.keep d1)
  clear d1 M0
  have z0 := M1.out.k.c4
  have z1 := M1.out.a.cells
  have z2 := M1.out.a.free
  have z3 := M1.out.a.lt
  go_wp2_with fail
  have M2 := Lib.hid (M1.out.filla (supP ps))
  clear z0 z1 z2 z3
  go_loopw [12] (fun iv wr => ∃ k : Nat, k ≤ ad.length ∧ iv = .int .i64 (k : Int) ∧ Hid (ShM w wr w.heap.size #[.slice A1 ps.length c1, .slice A2 n2 c2, .slice A3 n3 c3, .slice A ad.length cc] (openF ps (ad.take k)) (clsF (ad.take k)))) (fun iv _ => ad.length - (intOf iv).toNat)
  case atStart => exact ⟨0, Nat.zero_le _, rfl, by rw [HO0.out, HC0.out]; exact M2⟩
  case round =>
    clear M1 M2 HO0 HC0 CS
    obtain ⟨k, hk, rfl, M⟩ := hrel
    have hk0 : (0 : Int) ≤ (k : Int) := by omega
    by_cases hkn : k < ad.length
    · have hd1 : decide (k < ad.length) = true := decide_eq_true hkn
      have hd2 : decide ((k : Int) < (ad.length : Int)) = true := decide_eq_true (by omega)
      have hkn1 : (k : Int) < (ad.length : Int) := by omega
      obtain ⟨b, o, e1, hb, hrow⟩ := HR.out (by omega)
      subst e1
      have hat := asd_at (hrow.below hb M.out.bel) k hkn
      have hbr := Nat.lt_of_lt_of_le hb M.out.bel.size
      have HO1 := Lib.hid (HOT.out k hkn)
      have HC1 := Lib.hid (HCT.out k hkn)
      obtain ⟨⟨q1, q2⟩, ⟨q3, q4⟩, ⟨q5, q6⟩, _⟩ := HALL.out k hkn
      obtain ⟨n, hn⟩ : ∃ n : Nat, ad[k].prod = (n : Int) := ⟨ad[k].prod.toNat, by omega⟩
      have hon := HON.out k (by omega) n
      have hsu : ad[k].units ≤ 1000 := by
        have hpl : (ps.getD ad[k].prod.toNat Prod.none).supply ≤ 1000 := by
          have := supI_range (checkE_zero HZ.out).2.2 ad[k].prod.toNat
          show supI ps _ ≤ 1000
          omega
        omega
      have hn6 : n < 6 := by omega
      have hn6i : (n : Int) < 6 := by omega
      have hn0 : (0 : Int) ≤ (n : Int) := by omega
      obtain ⟨x, hx⟩ : ∃ x, x = ad[k] := ⟨_, rfl⟩
      rw [← hx] at hat HO1 HC1 q3 q4 q5 hsu hn
      clear hx q1 q2 q6 hrow
      obtain ⟨xp, xc, xu⟩ := x
      dsimp only at *
      subst hn
      rw [Int.toNat_natCast] at HO1 HC1
      generalize openF ps (ad.take k) = po at *
      generalize clsF (ad.take k) = pc at *
      have wd : IntKind.i64.wrap (po n - xu) = po n - xu := IntWalk.i64_in _ (by omega)
      clear hon q3 q4 q5 hsu
      have M1 := Lib.hid (M.out.alloc (.cells #[.int .i64 (n : Int), .int .i64 xc, .int .i64 xu] 114))
      have K1 := Lib.hid (Blk.new wr 114 #[.int .i64 (n : Int), .int .i64 xc, .int .i64 xu])
      go_wp2_with fail
      generalize wr.alloc _ = W at *
      generalize wr.heap.size = gc at *
      have kc := K1.out.c3
      have kl := K1.out.lt
      have pa := M1.out.a.cell n hn6
      have fa := M1.out.a.free n
      have la1 := M1.out.a.lt
      have fb := M1.out.b.free n
      have pb := M1.out.b.cell n hn6
      have lb1 := M1.out.b.lt
      have ne1 : ¬ gc = w.heap.size + 1 := by rintro rfl; exact absurd K1.out (fun h => by obtain ⟨T, h2⟩ := M1.out.a.blk; unfold Blk at h; rw [h2] at h; injection h with h; injection h with h _; have := congrArg Array.size h; simp [arr] at this)
      have ne2 : ¬ gc = w.heap.size + 2 := by rintro rfl; exact absurd K1.out (fun h => by obtain ⟨T, h2⟩ := M1.out.b.blk; unfold Blk at h; rw [h2] at h; injection h with h; injection h with h _; have := congrArg Array.size h; simp [arr] at this)
      clear hat hbr
      go_region_with (fail)
      all_goals go_wp2_with fail
      all_goals
        go_roundw
        case rel => exact ⟨k + 1, hkn, by go_num, by rw [HO1.out, HC1.out]; exact (M1.out.drew.seta n hn6 _).setb n hn6 _⟩
        case measure => simp [intOf]; omega
    · obtain rfl : k = ad.length := by omega
      have hd1 : decide (ad.length < ad.length) = false := decide_eq_false (Nat.lt_irrefl _)
      have hd2 : decide ((ad.length : Int) < (ad.length : Int)) = false := decide_eq_false (Int.lt_irrefl _)
      rw [HOE.out, HCE.out] at M
      generalize openF ps ad = po at *
      generalize clsF ad = pc at *
      have z1 := M.out.a.cells
      have z2 := M.out.a.free
      have z3 := M.out.a.lt
      have y1 := M.out.b.cells
      have y2 := M.out.b.free
      have y3 := M.out.b.lt
      go_wp2_with fail
      go_region_with (fail)
      all_goals
        have M2 := Lib.hid ((M.out.filla po).fillb pc).drew
        refine (?_ : Exit.then _ _ Exit.normal _ (World.drew (fill6 (fill6 wr (w.heap.size + 1) po) (w.heap.size + 2) pc)))
        clear z1 z2 z3 y1 y2 y3
        generalize World.drew _ = wz at *
        obtain ⟨a0, a1, a2, a3, a4, a5⟩ := M2.out.a.cells
        obtain ⟨b0, b1, b2, b3, b4, b5⟩ := M2.out.b.cells
        go_wp2_with fail
        refine bodyPost_ret (v := .tuple #[.agg (arr po), .agg (arr pc)]) (by simp [results, Tryd.results35, go_sem, arr, a0, a1, a2, a3, a4, a5, b0, b1, b2, b3, b4, b5]) rfl ⟨rfl, M2.out.bel⟩
/-- the memory of outside at work -/
structure OutM (w wr : World) (g : Nat) (cs : Array Value) (k6 p q : Nat → Int) : Prop where
  k : Blk wr g 43 cs
  a : Box wr (g + 1) k6
  b : Box wr (g + 2) p
  c : Box wr (g + 3) q
  bel : Below w.heap.size w wr
  le : w.heap.size ≤ g
theorem OutM.drewN {w wr : World} {g : Nat} {cs : Array Value} {k6 p q : Nat → Int} (h : OutM w wr g cs k6 p q) (n : Nat) : OutM w (wr.drewN n) g cs k6 p q := ⟨h.k.drewN n, ⟨h.a.blk⟩, ⟨h.b.blk⟩, ⟨h.c.blk⟩, chain0 h.bel (drewN_below _ _), h.le⟩
theorem OutM.setb {w wr : World} {g : Nat} {cs : Array Value} {k6 p q : Nat → Int} (h : OutM w wr g cs k6 p q) (k : Nat) (hk : k < 6) (v : Int) : OutM w (wr.setCell ⟨g + 2, k, none⟩ (.int .i64 v)) g cs k6 (upd p k v) q :=
  ⟨h.k.far (p := ⟨g + 2, k, none⟩) (by show g ≠ g + 2; omega) _, h.a.other (by omega) _, h.b.set k hk v, h.c.other (by omega) _, h.bel.setCell (p := ⟨g + 2, k, none⟩) (by show w.heap.size ≤ g + 2; have := h.le; omega) _, h.le⟩
theorem OutM.fillc {w wr : World} {g : Nat} {cs : Array Value} {k6 p q : Nat → Int} (h : OutM w wr g cs k6 p q) (r : Nat → Int) : OutM w (fill6 wr (g + 3) r) g cs k6 p r :=
  ⟨fill6_blk h.k (by omega) r, fill6_other h.a (by omega) r, fill6_other h.b (by omega) r, fill6_box h.c r, fill6_below h.bel (by have := h.le; omega) r, h.le⟩
theorem OutM.same {w wr : World} {g : Nat} {cs : Array Value} {k6 p q p2 : Nat → Int} (h : OutM w wr g cs k6 p q) (he : ∀ k, k < 6 → p k = p2 k) : OutM w wr g cs k6 p2 q := ⟨h.k, h.a, h.b.congr he, h.c, h.bel, h.le⟩
theorem outm_new (w : World) (cs : Array Value) (k6 p : Nat → Int) : OutM w ((((w.alloc (.cells cs 43)).alloc (.cells (arr k6) 24)).alloc (.cells (arr p) 24)).alloc (.cells (arr zero6) 24)) w.heap.size cs k6 p zero6 := by
  have e1 : (w.alloc (.cells cs 43)).heap.size = w.heap.size + 1 := World.size_alloc _ _
  have e2 : ((w.alloc (.cells cs 43)).alloc (.cells (arr k6) 24)).heap.size = w.heap.size + 2 := by rw [World.size_alloc, e1]
  have e3 : (((w.alloc (.cells cs 43)).alloc (.cells (arr k6) 24)).alloc (.cells (arr p) 24)).heap.size = w.heap.size + 3 := by rw [World.size_alloc, e2]
  refine ⟨(((Blk.new w _ cs).alloc _).alloc _).alloc _, ?_, ?_, ?_, ((((Below.refl _ _).alloc (Nat.le_refl _) _).alloc (by rw [e1]; omega) _).alloc (by rw [e2]; omega) _).alloc (by rw [e3]; omega) _, Nat.le_refl _⟩
  · have := ((box_new (w.alloc (.cells cs 43)) k6 24).alloc (.cells (arr p) 24)).alloc (.cells (arr zero6) 24)
    rw [e1] at this
    exact this
  · have := (box_new ((w.alloc (.cells cs 43)).alloc (.cells (arr k6) 24)) p 24).alloc (.cells (arr zero6) 24)
    rw [e2] at this
    exact this
  · have := box_new (((w.alloc (.cells cs 43)).alloc (.cells (arr k6) 24)).alloc (.cells (arr p) 24)) zero6 24
    rw [e3] at this
    exact this
def outK (k : Nat) (k6 : Nat → Int) (c : Int) (b : Nat → Int) : Nat → Int := fun j => if j < k then outP k6 c b j else b j
theorem outK_at (k : Nat) (k6 : Nat → Int) (c : Int) (b : Nat → Int) : outK k k6 c b k = b k := by unfold outK; rw [if_neg (by omega)]
theorem outK_zero {k : Nat} {k6 : Nat → Int} {c : Int} {b : Nat → Int} (h : k6 k = 0 ∨ k6 k = c) (j : Nat) : upd (outK k k6 c b) k 0 j = outK (k + 1) k6 c b j := by
  unfold upd outK
  by_cases e : j = k
  · subst e
    rw [if_pos rfl, if_pos (by omega)]
    unfold outP
    rw [if_pos h]
  · rw [if_neg e]
    by_cases h2 : j < k
    · rw [if_pos h2, if_pos (by omega)]
    · rw [if_neg h2, if_neg (by omega)]
theorem outK_keep {k : Nat} {k6 : Nat → Int} {c : Int} {b : Nat → Int} (h : ¬ (k6 k = 0 ∨ k6 k = c)) (j : Nat) : outK k k6 c b j = outK (k + 1) k6 c b j := by
  unfold outK
  by_cases e : j = k
  · subst e
    rw [if_neg (by omega), if_pos (by omega)]
    unfold outP
    rw [if_neg h]
  · by_cases h2 : j < k
    · rw [if_pos h2, if_pos (by omega)]
    · rw [if_neg h2, if_neg (by omega)]
theorem outK_all (k6 : Nat → Int) (c : Int) (b : Nat → Int) (j : Nat) (h : j < 6) : outK 6 k6 c b j = outP k6 c b j := by unfold outK; rw [if_pos h]
set_option maxHeartbeats 4000000 in
set_option maxRecDepth 100000 in
theorem outside_any (bs : List Bid) (i : Nat) (hi : i < bs.length) (k6 p : Nat → Int) (A1 A2 A3 A4 : Option Addr) (n1 c1 c2 n3 c3 n4 c4 : Nat) (w : World) (hl : bs.length ≤ 5000) (h : BidS w (.slice A2 bs.length c2) bs) :
    Calls Tryd.prog 37 #[.agg #[.slice A1 n1 c1, .slice A2 bs.length c2, .slice A3 n3 c3, .slice A4 n4 c4], .agg (arr k6), .int .i64 (i : Int), .agg (arr p)] w fun e w' => e = .returned (.agg (arr (outP k6 (bs.getD i Bid.none).cls p))) ∧ Below w.heap.size w w' := by
  rw [show bs.getD i Bid.none = bs[i] by simp [List.getD, hi]]
  obtain ⟨A', c', e', k1, k2, hr⟩ := sl_parts h
  injection e' with e1 e2 e3
  subst e1 e3
  obtain ⟨b, o, e1, hb, hrow⟩ := hr (by omega)
  subst e1
  have HAT := Lib.hid (fun W (bw : Below w.heap.size w W) => (BidRow.at_ (show BidRow W b o bs from hrow.below hb bw) i hi).2.1)
  obtain ⟨c, hc⟩ : ∃ c, c = bs[i].cls := ⟨_, rfl⟩
  rw [← hc] at HAT
  rw [← hc]
  have M0 := Lib.hid (outm_new w #[.slice A1 n1 c1, .slice (some ⟨b, o, none⟩) bs.length c2, .slice A3 n3 c3, .slice A4 n4 c4] k6 p)
  have HZ := Lib.hid (fun k h j => outK_zero (k := k) (k6 := k6) (c := c) (b := p) h j)
  have HKP := Lib.hid (fun k h j => outK_keep (k := k) (k6 := k6) (c := c) (b := p) h j)
  have HAL := Lib.hid (outK_all k6 c p)
  have hi0 : (0 : Int) ≤ (i : Int) := by omega
  have hi5 : (i : Int) < (bs.length : Int) := by omega
  have hl5 : (bs.length : Int) ≤ 5000 := by omega
  have HBB := Lib.hid hb
  obtain ⟨r, hrr⟩ : ∃ r, r = outP k6 c p := ⟨_, rfl⟩
  rw [← hrr]
  have HRR := Lib.hid hrr
  clear hc h hr hrow hrr
  go_enter Tryd.func37, Tryd.ntmps37
  go_wp2_with fail
  go_loopw [10] (fun iv wr => ∃ k : Nat, k ≤ 6 ∧ iv = .int .i64 (k : Int) ∧ Hid (OutM w wr w.heap.size #[.slice A1 n1 c1, .slice (some ⟨b, o, none⟩) bs.length c2, .slice A3 n3 c3, .slice A4 n4 c4] k6 (outK k k6 c p) zero6)) (fun iv _ => 6 - (intOf iv).toNat)
  case atStart => exact ⟨0, Nat.zero_le _, rfl, M0.out.same fun k _ => by unfold outK; rw [if_neg (by omega)]⟩
  case round =>
    clear M0
    obtain ⟨k, hk, rfl, M⟩ := hrel
    have hk0 : (0 : Int) ≤ (k : Int) := by omega
    by_cases hk6 : k < 6
    · have hd1 : decide (k < 6) = true := decide_eq_true hk6
      have hd2 : decide ((k : Int) < 6) = true := decide_eq_true (by omega)
      have hk6i : (k : Int) < 6 := by omega
      have hat := HAT.out _ M.out.bel
      have hbr := Nat.lt_of_lt_of_le hb M.out.bel.size
      have cx := M.out.k.c4
      have lx := M.out.k.lt
      have pa := M.out.a.cell k hk6
      have la := M.out.a.lt
      have lb := M.out.b.lt
      have HZ1 := Lib.hid (HZ.out k)
      have HK1 := Lib.hid (HKP.out k)
      obtain ⟨x, hx⟩ : ∃ x, x = k6 k := ⟨_, rfl⟩
      rw [← hx] at pa HZ1 HK1
      clear hx
      cases t0 : (x == 0) with
      | true =>
        go_wp2_with fail
        go_quiet (fail)
        have N := Lib.hid (M.out.drewN nq)
        clear hat hbr cx lx pa la lb
        generalize wr.drewN nq = W at *
        have pb := N.out.b.cell k hk6
        have fb := N.out.b.free k
        have lb := N.out.b.lt
        go_wp2_with fail
        go_roundw
        case rel => exact ⟨k + 1, hk6, by go_num, (N.out.setb k hk6 0).same fun j _ => HZ1.out (.inl (by simpa using t0)) j⟩
        case measure => simp [intOf]; omega
      | false =>
        cases t1 : (x == c) with
        | true =>
          go_wp2_with fail
          go_quiet (fail)
          have N := Lib.hid (M.out.drewN nq)
          clear hat hbr cx lx pa la lb
          generalize wr.drewN nq = W at *
          have pb := N.out.b.cell k hk6
          have fb := N.out.b.free k
          have lb := N.out.b.lt
          go_wp2_with fail
          go_roundw
          case rel => exact ⟨k + 1, hk6, by go_num, (N.out.setb k hk6 0).same fun j _ => HZ1.out (.inr (by simpa using t1)) j⟩
          case measure => simp [intOf]; omega
        | false =>
          go_wp2_with fail
          go_quiet (fail)
          have N := Lib.hid (M.out.drewN nq)
          clear hat hbr cx lx pa la lb
          generalize wr.drewN nq = W at *
          go_wp2_with fail
          go_roundw
          case rel => exact ⟨k + 1, hk6, by go_num, N.out.same fun j _ => HK1.out (fun e => e.elim (fun e => by rw [e] at t0; exact absurd t0 (by decide)) (fun e => by rw [e] at t1; simp at t1)) j⟩
          case measure => simp [intOf]; omega
    · obtain rfl : k = 6 := by omega
      have hd1 : decide (6 < 6) = false := by decide
      have hd2 : decide (((6 : Nat) : Int) < 6) = false := by decide
      have N := Lib.hid (M.out.same (p2 := r) fun j hj => by rw [HRR.out]; exact HAL.out j hj)
      clear M HAL HZ HKP
      have z1 := N.out.b.cells
      have z2 := N.out.c.cells
      have z3 := N.out.c.free
      have z4 := N.out.c.lt
      have z5 := N.out.b.lt
      go_wp2_with fail
      have RE := N.out.fillc r
      obtain ⟨E0, E1, E2, E3, E4, E5⟩ := RE.c.cells
      unfold fill6 at E0 E1 E2 E3 E4 E5
      refine bodyPost_ret (v := .agg (arr r)) (by simp [results, Tryd.results37, go_sem, arr, E0, E1, E2, E3, E4, E5]) rfl ⟨rfl, RE.bel⟩
end Go.Proofs.YtjjlhihocllgjaaDoor.Se
