/- Contract of proceeds.Divide. Printed by gen_pr8.py. -/
import Derived.Test.YtfopmaeaclbknaaDoorPk33
import Derived.Test.YtfopmaeaclbknaaDoorPk11
import Derived.StillTailTactics
namespace Go.Proofs.YtfopmaeaclbknaaDoor.Pr
open Go.ChangeShapes Go.WideShapes Go.ChangeAt Go.RowKit Go.Maps Go.WideMaps Gn Cat Lex So
set_option linter.unusedVariables false
set_option linter.unusedSimpArgs false
theorem want_at {w : World} {g : Nat} {t : TypeId} {x : Inv} (h : Blk w g t #[.int .i64 x.bidder, .int .i64 (x.want 0), .int .i64 (x.want 1), .int .i64 (x.want 2), .int .i64 (x.want 3), .int .i64 (x.want 4), .int .i64 (x.want 5), .int .i64 x.reserve, .int .i64 x.net, .int .i64 x.due]) (k : Nat) (hk : k < 6) : w.cell? ⟨g, 1 + k, none⟩ = some (.int .i64 (x.want k)) := by
  rw [h.cell]
  match k, hk with
  | 0, _ => rfl
  | 1, _ => rfl
  | 2, _ => rfl
  | 3, _ => rfl
  | 4, _ => rfl
  | 5, _ => rfl
/-- the memory of Divide at work -/
structure DvSt (w wr : World) (bo g n m : Nat) (o : Own) (cs : Array Value) (S R N : Nat → Int) : Prop where
  bx : Blk wr w.heap.size 48 cs
  ow : OwMap wr bo n o
  out : Blk wr g 75 (shrA m S R N)
  below : Below w.heap.size w wr
/-- its blocks lie apart -/
structure DvAp (w : World) (bo g : Nat) : Prop where
  hg : w.heap.size < g
  hb : w.heap.size ≤ bo
  ne : bo ≠ g
section
variable {w wr w2 : World} {bo g n m : Nat} {o : Own} {cs : Array Value} {S R N : Nat → Int}
theorem DvSt.keep (h : DvSt w wr bo g n m o cs S R N) (b : Below wr.heap.size wr w2) : DvSt w w2 bo g n m o cs S R N := ⟨h.bx.below' b, h.ow.keep b, h.out.below' b, chain0 h.below b⟩
theorem DvSt.put1 (h : DvSt w wr bo g n m o cs S R N) (a : DvAp w bo g) {i : Nat} (hi : i < m) (v : Int) : DvSt w (wr.setCell ⟨g, i * 3 + 1, none⟩ (.int .i64 v)) bo g n m o cs S (upd R i v) N :=
  ⟨h.bx.far (by have := a.hg; show _ ≠ g; omega) _, h.ow.setCell a.ne _, by have := h.out.put (i * 3 + 1) (.int .i64 v); rwa [shrA_set1 hi] at this, h.below.setCell (by have := a.hg; show _ ≤ g; omega) _⟩
theorem DvSt.put2 (h : DvSt w wr bo g n m o cs S R N) (a : DvAp w bo g) {i : Nat} (hi : i < m) (v : Int) : DvSt w (wr.setCell ⟨g, i * 3 + 2, none⟩ (.int .i64 v)) bo g n m o cs S R (upd N i v) :=
  ⟨h.bx.far (by have := a.hg; show _ ≠ g; omega) _, h.ow.setCell a.ne _, by have := h.out.put (i * 3 + 2) (.int .i64 v); rwa [shrA_set2 hi] at this, h.below.setCell (by have := a.hg; show _ ≤ g; omega) _⟩
theorem DvSt.put0 (h : DvSt w wr bo g n m o cs S R N) (a : DvAp w bo g) {i : Nat} (hi : i < m) (v : Int) : DvSt w (wr.setCell ⟨g, i * 3, none⟩ (.int .i64 v)) bo g n m o cs (upd S i v) R N :=
  ⟨h.bx.far (by have := a.hg; show _ ≠ g; omega) _, h.ow.setCell a.ne _, by have := h.out.put (i * 3) (.int .i64 v); rwa [shrA_set0 hi] at this, h.below.setCell (by have := a.hg; show _ ≤ g; omega) _⟩
theorem DvSt.far (h : DvSt w wr bo g n m o cs S R N) {b j : Nat} (hb : w.heap.size < b) (h1 : bo ≠ b) (h2 : g ≠ b) (v : Value) : DvSt w (wr.setCell ⟨b, j, none⟩ v) bo g n m o cs S R N :=
  ⟨h.bx.far (by show _ ≠ b; omega) _, h.ow.setCell h1 _, h.out.far (by show _ ≠ b; exact h2) _, h.below.setCell (by show _ ≤ b; omega) _⟩
theorem DvSt.congr {S' R' N' : Nat → Int} (h : DvSt w wr bo g n m o cs S R N) (e1 : S = S') (e2 : R = R') (e3 : N = N') : DvSt w wr bo g n m o cs S' R' N' := by subst e1 e2 e3; exact h
end
/-- one invoice at work: its box, and the weights -/
structure DwSt (w wr : World) (bo g gi gw n m : Nat) (o : Own) (cs : Array Value) (S R N : Nat → Int) (x : Inv) (f : Nat → Int) : Prop where
  st : DvSt w wr bo g n m o cs S R N
  ix : Blk wr gi 79 #[.int .i64 x.bidder, .int .i64 (x.want 0), .int .i64 (x.want 1), .int .i64 (x.want 2), .int .i64 (x.want 3), .int .i64 (x.want 4), .int .i64 (x.want 5), .int .i64 x.reserve, .int .i64 x.net, .int .i64 x.due]
  wt : Blk wr gw 2 (intA m f)
structure DwAp (w : World) (bo g gi gw : Nat) : Prop where
  dv : DvAp w bo g
  hi : g < gi
  hw : gi < gw
  hb : bo < g
section
variable {w wr w2 : World} {bo g gi gw n m : Nat} {o : Own} {cs : Array Value} {S R N f : Nat → Int} {x : Inv}
theorem DwSt.keep (h : DwSt w wr bo g gi gw n m o cs S R N x f) (b : Below wr.heap.size wr w2) : DwSt w w2 bo g gi gw n m o cs S R N x f := ⟨h.st.keep b, h.ix.below' b, h.wt.below' b⟩
theorem DwSt.put1 (h : DwSt w wr bo g gi gw n m o cs S R N x f) (a : DwAp w bo g gi gw) {i : Nat} (hi : i < m) (v : Int) : DwSt w (wr.setCell ⟨g, i * 3 + 1, none⟩ (.int .i64 v)) bo g gi gw n m o cs S (upd R i v) N x f :=
  ⟨h.st.put1 a.dv hi v, h.ix.far (by have := a.hi; show _ ≠ g; omega) _, h.wt.far (by have := a.hi; have := a.hw; show _ ≠ g; omega) _⟩
theorem DwSt.putW (h : DwSt w wr bo g gi gw n m o cs S R N x f) (a : DwAp w bo g gi gw) {i : Nat} (v : Int) : DwSt w (wr.setCell ⟨gw, i, none⟩ (.int .i64 v)) bo g gi gw n m o cs S R N x (upd f i v) :=
  ⟨h.st.far (by have := a.dv.hg; have := a.hi; have := a.hw; omega) (by have := a.hb; have := a.hi; have := a.hw; omega) (by have := a.hi; have := a.hw; omega) _, h.ix.far (by have := a.hw; show _ ≠ gw; omega) _, by have := h.wt.put i (.int .i64 v); rwa [intA_set] at this⟩
theorem DwSt.congr {R' f' : Nat → Int} (h : DwSt w wr bo g gi gw n m o cs S R N x f) (e1 : R = R') (e2 : f = f') : DwSt w wr bo g gi gw n m o cs S R' N x f' := by subst e1 e2; exact h
end
set_option maxHeartbeats 16000000 in
set_option maxRecDepth 100000 in
theorem divide_some (ps : List Prod) (nb : Nat) (l : List Sel) (vs : List Inv) (A1 A2 AS AV : Option Addr) (c1 c2 cS cV : Nat) (v3 v4 : Value) (o : Own) (w : World) (hs : SetP w (.slice A1 ps.length c1) ps) (hv : InvS w (.slice AV vs.length cV) vs) (hq : vs.length ≤ 100) (hz : checkE ps = 0) (ho : OwnOk ps.length l o) (hm0 : 0 < l.length) (hm : l.length ≤ 6)
    (CC : ∀ W, Below w.heap.size w W → Calls Tryd.prog 61 #[.agg #[.slice A1 ps.length c1, .slice A2 nb c2, v3, v4], .slice AS l.length cS] W fun e w' => ∃ b, e = .returned (.tuple #[.map (some b), .int .i64 0]) ∧ OwMap w' b ps.length o ∧ W.heap.size ≤ b ∧ Below W.heap.size W w') :
    Calls Tryd.prog 31 #[.agg #[.slice A1 ps.length c1, .slice A2 nb c2, v3, v4], .slice AS l.length cS, .slice AV vs.length cV] w (DivPost (if divErr ps nb vs = 0 then .ok (shrL l.length (fun i => (i : Int)) (gotR o ps vs) (gotN o ps l.length vs)) else .error (divErr ps nb vs)) w) := by
  obtain ⟨i0, hi0, hz0, hz1, hz2⟩ := info_parts (show (Tryd.prog.info? 75).map (fun i => (i.zero, i.size, i.bytes)) = some (some (.agg #[.int .i64 0, .int .i64 0, .int .i64 0]), 3, 24) by kernel_rfl)
  obtain ⟨j0, hj0, hy0, hy1, hy2⟩ := info_parts (show (Tryd.prog.info? 2).map (fun i => (i.zero, i.size, i.bytes)) = some (some (.int .i64 0), 1, 8) by kernel_rfl)
  obtain ⟨m, hmm⟩ : ∃ m, m = l.length := ⟨_, rfl⟩
  have HMS := Lib.hid (fun W => run_make_shr (P := Tryd.prog) 52 75 i0 Tryd.underlying52 hi0 hz0 hz1 hz2 m (by omega) W)
  have HMW : Hid (∀ W, (Instr.makeSlice 22 (.int .i64 (m : Int)) (.int .i64 (m : Int))).run Tryd.prog W = .ok (.slice (some ⟨W.heap.size, 0, none⟩) m m) (W.alloc (.cells (intA m fun _ => 0) 2))) := fun W => by
    have := run_make_one (P := Tryd.prog) 22 2 j0 (.int .i64 0) Tryd.underlying22 hj0 hy0 hy1 hy2 rfl m (by omega) W
    rwa [intA_made] at this
  obtain ⟨_, _, e9, _, _, hvp⟩ := sl_parts hv
  injection e9 with e9 e10 e11
  subst e9 e11
  have HVP := Lib.hid hvp
  have hn := checkE_zero hz
  obtain ⟨_, _, e7, _, _, hpp⟩ := ps_cases hs.sl
  injection e7 with e7 e8 e6
  subst e7 e6
  obtain ⟨b1, o1, rfl, hb1, hrow⟩ := hpp hn.1
  have HPR := Lib.hid (fun W (b : Below w.heap.size w W) => (hrow.below hb1 b))
  have HS0 := Lib.hid hs
  have HZ := Lib.hid hz
  have HO := Lib.hid ho
  have HN : Hid (ps.length ≤ 6) := hn.2.1
  have hnI : (ps.length : Int) ≤ 6 := by omega
  rw [← hmm] at hm hm0 CC ⊢
  have HM : Hid (m = l.length ∧ m ≤ 6 ∧ 0 < m) := ⟨hmm, hm, hm0⟩
  have hm6 : (m : Int) ≤ 6 := by omega
  have CC := Lib.hid CC
  obtain ⟨RES, hRES⟩ : ∃ RES, RES = (if divErr ps nb vs = 0 then Except.ok (shrL m (fun i => (i : Int)) (gotR o ps vs) (gotN o ps m vs)) else .error (divErr ps nb vs)) := ⟨_, rfl⟩
  rw [← hRES]
  have HRES := Lib.hid hRES
  have HVL : Hid (vs.length ≤ 100) := hq
  have BX := Lib.hid (below_new w (.cells #[.slice (some ⟨b1, o1, none⟩) ps.length c1, .slice A2 nb c2, v3, v4] 48))
  have bx := Blk.new w 48 #[.slice (some ⟨b1, o1, none⟩) ps.length c1, .slice A2 nb c2, v3, v4]
  have HHB := Lib.hid hb1
  have hsz1 : Hid ((w.alloc (.cells #[.slice (some ⟨b1, o1, none⟩) ps.length c1, .slice A2 nb c2, v3, v4] 48)).heap.size = w.heap.size + 1) := World.size_alloc _ _
  clear hs hv hvp hpp hrow hmm hRES hn e8 e10 hz ho hm hm0 hq hb1
  go_enter Tryd.func31, Tryd.ntmps31
  go_wp2_with fail
  refine (CC.out _ BX.out).mono ?_
  rintro e w1 ⟨bo, rfl, hmap, hbo, d1⟩
  have B1 := Lib.hid (chain0 BX.out d1)
  have bx1 := bx.below' d1
  have hm1 := HMS.out w1
  have HMAP := Lib.hid hmap
  have hbo1 : w.heap.size < bo := by have := hsz1.out; omega
  have hbo2 : bo < w1.heap.size := by obtain ⟨D, h1, _⟩ := hmap; exact h1.lt
  clear d1 hmap hbo bx BX CC HMS hsz1
  have cx := bx1.c4
  go_wp2_with fail
  have ST0 : Hid (DvSt w (w1.alloc (.cells (shrA m (fun _ => 0) (fun _ => 0) fun _ => 0) 75)) bo w1.heap.size ps.length m o #[.slice (some ⟨b1, o1, none⟩) ps.length c1, .slice A2 nb c2, v3, v4] (fun _ => 0) (fun _ => 0) fun _ => 0) := ⟨bx1.alloc _, HMAP.out.keep (below_new _ _), Blk.new _ _ _, B1.out.alloc B1.out.size _⟩
  have HAP : Hid (DvAp w bo w1.heap.size) := ⟨by omega, by omega, by omega⟩
  have HBG : Hid (bo < w1.heap.size) := hbo2
  clear hm1 cx bx1 B1 HMAP hbo1 hbo2
  generalize w1.alloc (.cells (shrA m (fun _ => 0) (fun _ => 0) fun _ => 0) 75) = w2 at *
  generalize w1.heap.size = g at *
  go_loopw [37] (fun iv wr => ∃ k : Nat, k ≤ m ∧ iv = .int .i64 (k : Int) ∧ Hid (DvSt w wr bo g ps.length m o #[.slice (some ⟨b1, o1, none⟩) ps.length c1, .slice A2 nb c2, v3, v4] (fun i => if i < k then (i : Int) else 0) (fun _ => 0) fun _ => 0)) (fun iv _ => m - (intOf iv).toNat)
  case atStart => exact ⟨0, Nat.zero_le _, rfl, ST0.out.congr (by funext i; simp) rfl rfl⟩
  case round =>
    clear ST0
    obtain ⟨k, hk, rfl, HS⟩ := hrel
    have hk0 : (0 : Int) ≤ (k : Int) := by omega
    have hk5 : (k : Int) ≤ 6 := by omega
    by_cases hkm : k < m
    · have hd1 : decide (k < m) = true := decide_eq_true hkm
      have hd2 : decide ((k : Int) < (m : Int)) = true := decide_eq_true (by omega)
      have hkm1 : (k : Int) < (m : Int) := by omega
      have cf := HS.out.out.free (k * 3)
      have hgl := HS.out.out.lt
      have cc := (HS.out.out.cell (k * 3)).trans (shrA_get hkm).1
      have HS2 : Hid (DvSt w (wr.setCell ⟨g, k * 3, none⟩ (.int .i64 (k : Int))) bo g ps.length m o #[.slice (some ⟨b1, o1, none⟩) ps.length c1, .slice A2 nb c2, v3, v4] (fun i => if i < k + 1 then (i : Int) else 0) (fun _ => 0) fun _ => 0) := (HS.out.put0 HAP.out hkm (k : Int)).congr (by
        funext i
        unfold upd
        by_cases e : i = k
        · subst e; simp
        · by_cases h : i < k
          · simp [e, h, show i < k + 1 by omega]
          · simp [e, h, show ¬ i < k + 1 by omega]) rfl rfl
      go_wp2_with fail
      go_roundw
      case rel => exact ⟨k + 1, hkm, by go_num, HS2⟩
      case measure => simp [intOf]; omega
    · obtain rfl : k = m := by omega
      have hd1 : decide (k < k) = false := decide_eq_false (Nat.lt_irrefl _)
      have hd2 : decide ((k : Int) < (k : Int)) = false := decide_eq_false (Int.lt_irrefl _)
      have HQ0 : Hid (∃ R N : Nat → Int, R = gotR o ps (vs.take 0) ∧ N = gotN o ps k (vs.take 0) ∧ DvSt w wr bo g ps.length k o #[.slice (some ⟨b1, o1, none⟩) ps.length c1, .slice A2 nb c2, v3, v4] (fun i => (i : Int)) R N) := by
        refine ⟨fun _ => 0, fun _ => 0, rfl, rfl, HS.out.bx, HS.out.ow, ?_, HS.out.below⟩
        have h2 : shrA k (fun i => if i < k then (i : Int) else 0) (fun _ => 0) (fun _ => 0) = shrA k (fun i => (i : Int)) (fun _ => 0) (fun _ => 0) := by
          unfold shrA shrL
          congr 2
          refine List.map_congr_left fun j hj => ?_
          dsimp only
          rw [if_pos (List.mem_range.1 hj)]
        rw [← h2]
        exact HS.out.out
      clear HS hk hk5 hk0
      go_wp2_with fail
      clear hd1 hd2
      have HKM : Hid (0 < k ∧ k ≤ 6) := ⟨HM.out.2.2, HM.out.2.1⟩
      go_loopw [48] (fun iv wr => ∃ (q : Nat) (R N : Nat → Int), q ≤ vs.length ∧ iv = .int .i64 (q : Int) ∧ Hid (divErr ps nb (vs.drop q) = divErr ps nb vs) ∧ Hid (R = gotR o ps (vs.take q) ∧ N = gotN o ps k (vs.take q) ∧ (∀ i, 0 ≤ R i ∧ R i ≤ q * 24000000 ∧ 0 ≤ N i ∧ N i ≤ q * 1000000)) ∧ Hid (DvSt w wr bo g ps.length k o #[.slice (some ⟨b1, o1, none⟩) ps.length c1, .slice A2 nb c2, v3, v4] (fun i => (i : Int)) R N)) (fun iv _ => vs.length - (intOf iv).toNat)
      case atStart =>
        obtain ⟨R, N, e1, e2, e3⟩ := HQ0.out
        exact ⟨0, R, N, Nat.zero_le _, rfl, rfl, ⟨e1, e2, fun i => by rw [e1, e2]; simp [gotR, gotN]⟩, e3⟩
      case round =>
        clear HQ0
        obtain ⟨q, R, N, hq, rfl, HE, HRN, HS⟩ := hrel
        have hq0 : (0 : Int) ≤ (q : Int) := by omega
        have hq5 : (q : Int) ≤ 100 := by have := HVL.out; omega
        have hvl : (vs.length : Int) ≤ 100 := by have := HVL.out; omega
        by_cases hqn : q < vs.length
        · have hd1 : decide (q < vs.length) = true := decide_eq_true hqn
          have hd2 : decide ((q : Int) < (vs.length : Int)) = true := decide_eq_true (by omega)
          have hqn1 : (q : Int) < (vs.length : Int) := by omega
          obtain ⟨bv, ov, e1, hbv, hrv⟩ := HVP.out (by omega)
          subst e1
          have hat := inv_at (hrv.below hbv HS.out.below) q hqn
          have HED := Lib.hid (divErr_drop (ps := ps) (nb := nb) hqn)
          have HGR := Lib.hid (fun i => gotR_succ (o := o) (ps := ps) (i := i) hqn)
          have HGN := Lib.hid (fun i => gotN_succ (o := o) (ps := ps) (m := k) (i := i) hqn)
          generalize vs[q] = x at *
          have HS1 := Lib.hid (HS.out.keep (below_new wr (.cells #[.int .i64 x.bidder, .int .i64 (x.want 0), .int .i64 (x.want 1), .int .i64 (x.want 2), .int .i64 (x.want 3), .int .i64 (x.want 4), .int .i64 (x.want 5), .int .i64 x.reserve, .int .i64 x.net, .int .i64 x.due] 79)))
          have IX1 := Lib.hid (Blk.new wr 79 #[.int .i64 x.bidder, .int .i64 (x.want 0), .int .i64 (x.want 1), .int .i64 (x.want 2), .int .i64 (x.want 3), .int .i64 (x.want 4), .int .i64 (x.want 5), .int .i64 x.reserve, .int .i64 x.net, .int .i64 x.due])
          have hgi : g < wr.heap.size := HS.out.out.lt
          have sc := HS1.out.bx.c4
          have CV : Hid (∀ W, Below w.heap.size w W → Calls Tryd.prog 62 #[.agg #[.slice (some ⟨b1, o1, none⟩) ps.length c1, .slice A2 nb c2, v3, v4], .agg #[.int .i64 x.bidder, .int .i64 (x.want 0), .int .i64 (x.want 1), .int .i64 (x.want 2), .int .i64 (x.want 3), .int .i64 (x.want 4), .int .i64 (x.want 5), .int .i64 x.reserve, .int .i64 x.net, .int .i64 x.due]] W fun e w' => e = .returned (.bool (invOk ps nb x)) ∧ Below W.heap.size W w') := fun W b => valid_any ps nb x _ v3 v4 A2 c2 W (HS0.out.keep b)
          clear hrv hbv HS
          cases hok : invOk ps nb x with
          | false =>
            have HEE : Hid (divErr ps nb vs = 2) := by have := HE.out; rw [HED.out, hok, if_neg (by simp)] at this; exact this.symm
            have HOK := Lib.hid hok
            clear hok HED HGR HGN
            go_wp2_with fail
            refine (CV.out _ HS1.out.below).mono ?_
            rintro e w3 ⟨rfl, d3⟩
            have B3 := Lib.hid (chain0 HS1.out.below d3)
            rw [HOK.out]
            clear d3
            go_wp2_with fail
            go_ret2
            exact DivPost.err (by rw [HRES.out, HEE.out]; rfl) B3.out
          | true =>
            have HOK := Lib.hid hok
            by_cases hdue : 1000000 < x.due
            · have y1 : decide (1000000 < x.due) = true := decide_eq_true hdue
              have HEE : Hid (divErr ps nb vs = 4) := by have := HE.out; rw [HED.out, hok, if_pos rfl, if_pos hdue] at this; exact this.symm
              clear hok HED HGR HGN hdue
              go_wp2_with fail
              refine (CV.out _ HS1.out.below).mono ?_
              rintro e w3 ⟨rfl, d3⟩
              have B3 := Lib.hid (chain0 HS1.out.below d3)
              have ic := inv_cells (IX1.out.below' d3)
              have ilt := (IX1.out.below' d3).lt
              rw [HOK.out]
              clear d3 sc hat
              go_wp2_with fail
              go_ret2
              exact DivPost.err (by rw [HRES.out, HEE.out]; rfl) B3.out
            · have y1 : decide (1000000 < x.due) = false := decide_eq_false hdue
              have HE2 : Hid (divErr ps nb (vs.drop (q + 1)) = divErr ps nb vs) := by have := HE.out; rw [HED.out, hok, if_pos rfl, if_neg hdue] at this; exact this
              clear hok HED hdue
              go_wp2_with fail
              refine (CV.out _ HS1.out.below).mono ?_
              rintro e w3 ⟨rfl, d3⟩
              have HS3 := Lib.hid (HS1.out.keep d3)
              have IX3 := Lib.hid (IX1.out.below' d3)
              have ic := inv_cells IX3.out
              have ilt := IX3.out.lt
              have sc3 := HS3.out.bx.c4
              have hmw := HMW.out w3
              have hsl := HS3.out.bx.lt
              rw [HOK.out]
              clear d3 sc hat HS1 IX1 CV
              go_wp2_with fail
              have HW4 : Hid (DwSt w (w3.alloc (.cells (intA k fun _ => 0) 2)) bo g wr.heap.size w3.heap.size ps.length k o #[.slice (some ⟨b1, o1, none⟩) ps.length c1, .slice A2 nb c2, v3, v4] (fun i => (i : Int)) R N x (fun _ => 0)) := ⟨HS3.out.keep (below_new _ _), IX3.out.alloc _, Blk.new _ _ _⟩
              have HDW : Hid (DwAp w bo g wr.heap.size w3.heap.size) := ⟨HAP.out, hgi, ilt, HBG.out⟩
              have HIO := Lib.hid (invOk_iff HOK.out)
              have HFB := Lib.hid (rfits_valid (HIO.out.2.1))
              clear hmw ic ilt sc3 hsl HS3 IX3 hgi y1
              generalize w3.alloc (.cells (intA k fun _ => 0) 2) = w4 at *
              generalize wr.heap.size = gi at *
              generalize w3.heap.size = gw at *
              clear hd1 hd2
              have HW40 : Hid (DwSt w w4 bo g gi gw ps.length k o #[.slice (some ⟨b1, o1, none⟩) ps.length c1, .slice A2 nb c2, v3, v4] (fun i => (i : Int)) (fun i => R i + part o i (fR ps x.want) 0) N x (fun i => wgt o ps x.want i 0)) := HW4.out.congr (by funext i; simp [part]) (by funext i; simp only [wgt, part]; omega)
              clear HW4
              go_loopw [65] (fun iv wz => ∃ p : Nat, p ≤ ps.length ∧ iv = .int .i64 (p : Int) ∧ Hid (DwSt w wz bo g gi gw ps.length k o #[.slice (some ⟨b1, o1, none⟩) ps.length c1, .slice A2 nb c2, v3, v4] (fun i => (i : Int)) (fun i => R i + part o i (fR ps x.want) p) N x (fun i => wgt o ps x.want i p))) (fun iv _ => ps.length - (intOf iv).toNat)
              case atStart => exact ⟨0, Nat.zero_le _, rfl, HW40.out⟩
              case round =>
                clear HW40
                obtain ⟨p, hp, rfl, HW⟩ := hrel
                have hp0 : (0 : Int) ≤ (p : Int) := by omega
                have hp5 : (p : Int) ≤ 6 := by omega
                by_cases hpn : p < ps.length
                · have hd1 : decide (p < ps.length) = true := decide_eq_true hpn
                  have hd2 : decide ((p : Int) < (ps.length : Int)) = true := decide_eq_true (by omega)
                  have hpn1 : (p : Int) < (ps.length : Int) := by omega
                  have hp6 : p < 6 := by have := HN.out; omega
                  have hp6i : (p : Int) < 6 := by omega
                  have hat := (HPR.out _ HW.out.st.below).at_ p hpn
                  obtain ⟨i, him, hoi⟩ := HO.out.full p hpn
                  rw [← HM.out.1] at him
                  have hi0' : (0 : Int) ≤ (i : Int) := by omega
                  have him1 : (i : Int) < (k : Int) := by omega
                  have hrs := resv_range HZ.out hpn
                  have hwr := validB_iff.1 HFB.out.2.1 p hp6
                  have hfr := fR_range (b := x.want) HZ.out HFB.out.2.1 hpn
                  have hfw := fW_range (b := x.want) HZ.out HFB.out.2.1 hpn
                  have hRi := HRN.out.2.2 i
                  have hpr := part_range (o := o) (i := i) (f := fR ps x.want) (M := 4000000) (by omega) p fun q hq => fR_range HZ.out HFB.out.2.1 (by omega)
                  have hwi := wgt_range (o := o) (i := i) HZ.out HFB.out.2.1 hp
                  have HWS := Lib.hid (fun j => wgt_succ (o := o) (i := j) hfw.1)
                  have hrv2 : resv ps p = ps[p].reserve := by unfold resv; rw [getD_prod ps p hpn]
                  rw [← hrv2] at hat
                  generalize ps[p].name = pn at *
                  generalize ps[p].supply = psu at *
                  generalize ps[p].points = ppo at *
                  generalize ps[p].group = pgr at *
                  have HOI := Lib.hid hoi
                  have HPT : Hid (∀ j, part o j (fR ps x.want) (p + 1) = part o j (fR ps x.want) p + if o p = some j then x.want p * resv ps p else 0) := fun j => rfl
                  unfold fR at hfr
                  unfold fW at hfw HWS
                  obtain ⟨pr, hpr2⟩ : ∃ pr, pr = resv ps p := ⟨_, rfl⟩
                  obtain ⟨y, hy⟩ : ∃ y, y = x.want p := ⟨_, rfl⟩
                  have HYP : Hid (pr = resv ps p ∧ y = x.want p) := ⟨hpr2, hy⟩
                  rw [← hpr2] at hat hrs hfr hfw
                  rw [← hy] at hwr hfr hfw
                  have HW1 := Lib.hid (HW.out.keep (below_new wr (.cells #[.string pn, .int .i64 psu, .int .i64 pr, .int .i64 ppo, .int .i64 pgr] 108)))
                  have PX1 := Lib.hid (Blk.new wr 108 #[.string pn, .int .i64 psu, .int .i64 pr, .int .i64 ppo, .int .i64 pgr])
                  have HGL : Hid (gi ≠ wr.heap.size ∧ gw ≠ wr.heap.size ∧ g ≠ wr.heap.size) := ⟨by have := HW.out.ix.lt; omega, by have := HW.out.wt.lt; omega, by have := HW.out.st.out.lt; omega⟩
                  clear hrv2 hpr2 hy HW
                  go_wp2_with fail
                  have hgp : Hid (gi ≠ wr.heap.size ∧ gw ≠ wr.heap.size ∧ g ≠ wr.heap.size) := ⟨HGL.out.1, HGL.out.2.1, HGL.out.2.2⟩
                  generalize wr.alloc (.cells #[.string pn, .int .i64 psu, .int .i64 pr, .int .i64 ppo, .int .i64 pgr] 108) = wa at *
                  generalize wr.heap.size = gp at *
                  have LK := Lib.hid (fun q => (HW1.out.st.ow.keep (Fr.drewN_below wa q)).look (q := p) (by omega) HOI.out)
                  have cw := want_at HW1.out.ix p hp6
                  rw [← HYP.out.2] at cw
                  have hlk := LK.out
                  go_quiet (fail)
                  go_wp2_with fail
                  have HW2 := Lib.hid (HW1.out.keep (Fr.drewN_below wa nq))
                  have PX2 := Lib.hid (PX1.out.drewN nq)
                  clear cw hlk LK HW1 PX1
                  generalize wa.drewN nq = wb at *
                  have co := (HW2.out.st.out.cell (i * 3 + 1)).trans (shrA_get him).2.1
                  have cfo := HW2.out.st.out.free (i * 3 + 1)
                  have cpx := PX2.out.c5
                  have lgo := HW2.out.st.out.lt
                  obtain ⟨Rp, hRp⟩ : ∃ Rp, Rp = R i + part o i (fR ps x.want) p := ⟨_, rfl⟩
                  obtain ⟨wi, hwi2⟩ : ∃ wi, wi = wgt o ps x.want i p := ⟨_, rfl⟩
                  rw [← hRp] at co
                  have m1 : IntKind.i64.wrap (y * pr) = y * pr := IntWalk.i64_in _ (by omega)
                  have m2 : IntKind.i64.wrap (Rp + y * pr) = Rp + y * pr := IntWalk.i64_in _ (by omega)
                  have m3 : IntKind.i64.wrap (pr + 1) = pr + 1 := IntWalk.i64_in _ (by omega)
                  have m4 : IntKind.i64.wrap (y * (pr + 1)) = y * (pr + 1) := IntWalk.i64_in _ (by omega)
                  have m5 : IntKind.i64.wrap (wi + y * (pr + 1)) = wi + y * (pr + 1) := IntWalk.i64_in _ (by omega)
                  have HRP2 := Lib.hid hRp
                  have HWI2 := Lib.hid hwi2
                  clear hRp hwi2 hRi hpr hwi hrs hfr hfw hwr
                  go_still_tail 12, (by kernel_rfl)
                  change wpList _ _ _ _ _ wb.drew
                  have HW3 := Lib.hid (HW2.out.keep (Below.refl _ _).drew)
                  have PX3 := Lib.hid PX2.out.drew
                  have cfo2 : wb.drew.frozen? ⟨g, i * 3 + 1, none⟩ = false := cfo
                  have co2 : wb.drew.cell? ⟨g, i * 3 + 1, none⟩ = some (.int .i64 Rp) := co
                  clear co cfo cpx lgo HW2 PX2
                  generalize wb.drew = wd at *
                  go_wp2_with fail
                  have HW4 : Hid (DwSt w (wd.setCell ⟨g, i * 3 + 1, none⟩ (.int .i64 (Rp + y * pr))) bo g gi gw ps.length k o #[.slice (some ⟨b1, o1, none⟩) ps.length c1, .slice A2 nb c2, v3, v4] (fun i => (i : Int)) (fun j => R j + part o j (fR ps x.want) (p + 1)) N x (fun i => wgt o ps x.want i p)) := (HW3.out.put1 HDW.out him (Rp + y * pr)).congr (by
                    funext j
                    have hP := HPT.out j
                    rw [← HYP.out.1, ← HYP.out.2, HOI.out] at hP
                    have hRR := HRP2.out
                    unfold upd
                    rw [hP]
                    by_cases e : j = i
                    · subst e
                      rw [if_pos rfl, if_pos rfl, hRR]
                      (try dsimp only)
                      omega
                    · rw [if_neg e, if_neg (fun h => e (by injection h with h; exact h.symm))]
                      (try dsimp only)
                      omega) rfl
                  have PX4 : Hid (Blk (wd.setCell ⟨g, i * 3 + 1, none⟩ (.int .i64 (Rp + y * pr))) gp 108 #[.string pn, .int .i64 psu, .int .i64 pr, .int .i64 ppo, .int .i64 pgr]) := PX3.out.far (by show gp ≠ g; exact fun e => hgp.out.2.2 e.symm) _
                  clear cfo2 co2 HW3 PX3 m1 m2
                  generalize wd.setCell ⟨g, i * 3 + 1, none⟩ (.int .i64 (Rp + y * pr)) = we at *
                  have cw := (HW4.out.wt.cell i).trans (intA_get him)
                  rw [← HWI2.out] at cw
                  have cfw := HW4.out.wt.free i
                  have cpx := PX4.out.c5
                  have lgw := HW4.out.wt.lt
                  go_still_tail 14, (by kernel_rfl)
                  change wpList _ _ _ _ _ we.drew
                  have HW5 := Lib.hid (HW4.out.keep (Below.refl _ _).drew)
                  have cfw2 : we.drew.frozen? ⟨gw, i, none⟩ = false := cfw
                  have cw2 : we.drew.cell? ⟨gw, i, none⟩ = some (.int .i64 wi) := cw
                  clear cw cfw cpx lgw HW4 PX4
                  generalize we.drew = wf at *
                  go_wp2_with fail
                  have HW6 : Hid (DwSt w (wf.setCell ⟨gw, i, none⟩ (.int .i64 (min (wi + y * (pr + 1)) 1000000))) bo g gi gw ps.length k o #[.slice (some ⟨b1, o1, none⟩) ps.length c1, .slice A2 nb c2, v3, v4] (fun i => (i : Int)) (fun j => R j + part o j (fR ps x.want) (p + 1)) N x (fun i => wgt o ps x.want i (p + 1))) := (HW5.out.putW HDW.out (i := i) (min (wi + y * (pr + 1)) 1000000)).congr rfl (by
                    funext j
                    have hP := HWS.out j
                    rw [← HYP.out.1, ← HYP.out.2, HOI.out] at hP
                    have hWW := HWI2.out
                    unfold upd
                    rw [hP]
                    by_cases e : j = i
                    · subst e
                      rw [if_pos rfl, if_pos rfl, hWW]
                    · rw [if_neg e, if_neg (fun h => e (by injection h with h; exact h.symm))])
                  go_roundw
                  case rel => exact ⟨p + 1, hpn, by go_num, HW6.out⟩
                  case measure => simp [intOf]; omega
                · obtain rfl : p = ps.length := by omega
                  have hd1 : decide (ps.length < ps.length) = false := decide_eq_false (Nat.lt_irrefl _)
                  have hd2 : decide ((ps.length : Int) < (ps.length : Int)) = false := decide_eq_false (Int.lt_irrefl _)
                  have HIS := Lib.hid (is_of_blk HW.out.wt (by have := HKM.out.2; unfold maxLen; omega))
                  rw [← toI_wgts HZ.out HFB.out.2.1] at HIS
                  have HSP : Hid (0 < sumN (wgts o ps x.want k) (wgts o ps x.want k).length) := by rw [HM.out.1]; exact wgts_pos HZ.out HO.out HIO.out.2.1 HIO.out.1
                  obtain ⟨T, hT⟩ : ∃ T : Nat, x.net = (T : Int) := ⟨x.net.toNat, by have := HIO.out.2.2.2.1; omega⟩
                  have HT : Hid (x.net = (T : Int) ∧ T ≤ 1000000) := ⟨hT, by have := HIO.out.2.2.2.2.1; omega⟩
                  have ic := inv_cells HW.out.ix
                  rw [hT] at ic
                  have CSH := Lib.hid (share_full T (wgts o ps x.want k) (.slice (some ⟨gw, 0, none⟩) k k) wr HT.out.2 wgts_le (by rw [wgts_len]; have := HKM.out.2; omega) HSP.out (sorts_small _ (by rw [wgts_len]; have := HKM.out.2; omega)) HIS.out)
                  unfold SharePostF at CSH
                  have il := HW.out.ix.lt
                  clear hT HIS
                  go_wp2_with fail
                  refine CSH.out.mono ?_
                  rintro e w7 ⟨order, vp, rfl, ho7, is7, d7, fr7⟩
                  have hgl7 := HW.out.st.out.lt
                  rw [shareL_of ho7] at is7
                  have HS7 := Lib.hid (HW.out.st.keep d7)
                  obtain ⟨Ap, cp, rfl, _, _, hpc⟩ := is_cases is7
                  have elen : (toI (shareL T (wgts o ps x.want k))).length = k := by rw [toI_len, shareL_len, wgts_len]
                  rw [elen]
                  obtain ⟨bp, op, eA, hbp, hcp⟩ := hpc (by have := HKM.out.1; rw [elen]; exact this)
                  subst eA
                  have HPC := Lib.hid hcp
                  have HNE : Hid (bp ≠ g) := by have : wr.heap.size ≤ bp := fr7 bp rfl; show bp ≠ g; omega
                  have HNP : Hid (∀ i, i < k → (toI (shareL T (wgts o ps x.want k)))[i]? = some (netP o ps k x i)) := fun i hi => by
                    rw [toI_at (by rw [shareL_len, wgts_len]; exact hi), at_in (by rw [shareL_len, wgts_len]; exact hi)]
                    unfold netP
                    rw [HT.out.1, Int.toNat_natCast, List.getD, List.getElem?_eq_getElem (by rw [shareL_len, wgts_len]; exact hi)]
                    rfl
                  have HNR : Hid (∀ i, 0 ≤ netP o ps k x i ∧ netP o ps k x i ≤ 1000000) := fun i => by
                    have := netP_range (o := o) (ps := ps) (m := k) (v := x) i HSP.out
                    have h2 := HT.out
                    rw [h2.1] at this
                    omega
                  clear ic il CSH ho7 is7 hcp d7 HW elen hp0 hp5 hp fr7 hgl7 hpc hbp
                  go_wp2_with fail
                  clear hd1 hd2
                  have HS70 : Hid (DvSt w w7 bo g ps.length k o #[.slice (some ⟨b1, o1, none⟩) ps.length c1, .slice A2 nb c2, v3, v4] (fun i => (i : Int)) (fun j => R j + part o j (fR ps x.want) ps.length) (fun j => N j + if j < 0 then netP o ps k x j else 0)) := HS7.out.congr rfl rfl (by funext j; simp)
                  clear HS7
                  go_loopw [116] (fun iv wz => ∃ j : Nat, j ≤ k ∧ iv = .int .i64 (j : Int) ∧ Hid (wz.heap[bp]? = w7.heap[bp]?) ∧ Hid (DvSt w wz bo g ps.length k o #[.slice (some ⟨b1, o1, none⟩) ps.length c1, .slice A2 nb c2, v3, v4] (fun i => (i : Int)) (fun j => R j + part o j (fR ps x.want) ps.length) (fun i => N i + if i < j then netP o ps k x i else 0))) (fun iv _ => k - (intOf iv).toNat)
                  case atStart => exact ⟨0, Nat.zero_le _, rfl, rfl, HS70.out⟩
                  case round =>
                    clear HS70
                    obtain ⟨j, hj, rfl, HB7, HS⟩ := hrel
                    have hj0 : (0 : Int) ≤ (j : Int) := by omega
                    have hj5 : (j : Int) ≤ 6 := by have := HKM.out.2; omega
                    by_cases hjk : j < k
                    · have hd1 : decide (j < k) = true := decide_eq_true hjk
                      have hd2 : decide ((j : Int) < (k : Int)) = true := decide_eq_true (by omega)
                      have hjk1 : (j : Int) < (k : Int) := by omega
                      have ct : wr.cell? ⟨bp, op + j, none⟩ = some (.int .i64 (netP o ps k x j)) := (World.cell?_of_block (a := ⟨bp, op + j, none⟩) HB7.out).trans (HPC.out j _ (HNP.out j hjk))
                      have co := (HS.out.out.cell (j * 3 + 2)).trans (shrA_get hjk).2.2
                      have cfo := HS.out.out.free (j * 3 + 2)
                      have lgo := HS.out.out.lt
                      have hnr := HNR.out j
                      have hNj := HRN.out.2.2 j
                      rw [if_neg (Nat.lt_irrefl j), Int.add_zero] at co
                      obtain ⟨a, ha⟩ : ∃ a, a = N j := ⟨_, rfl⟩
                      obtain ⟨z, hzz⟩ : ∃ z, z = netP o ps k x j := ⟨_, rfl⟩
                      rw [← ha] at co
                      rw [← hzz] at ct hnr
                      have HAZ : Hid (a = N j ∧ z = netP o ps k x j) := ⟨ha, hzz⟩
                      have a0 : 0 ≤ a := by omega
                      have a1 : a ≤ 100000000 := by omega
                      have HS8 : Hid (DvSt w (wr.setCell ⟨g, j * 3 + 2, none⟩ (.int .i64 (a + z))) bo g ps.length k o #[.slice (some ⟨b1, o1, none⟩) ps.length c1, .slice A2 nb c2, v3, v4] (fun i => (i : Int)) (fun j => R j + part o j (fR ps x.want) ps.length) (fun i => N i + if i < j + 1 then netP o ps k x i else 0)) := (HS.out.put2 HAP.out hjk (a + z)).congr rfl rfl (by
                        funext i
                        unfold upd
                        by_cases e : i = j
                        · subst e
                          rw [if_pos rfl, if_pos (Nat.lt_succ_self _), HAZ.out.1, HAZ.out.2]
                        · by_cases h : i < j
                          · rw [if_neg e]; dsimp only; rw [if_pos h, if_pos (by omega)]
                          · rw [if_neg e]; dsimp only; rw [if_neg h, if_neg (by omega)])
                      have HB8 : Hid ((wr.setCell ⟨g, j * 3 + 2, none⟩ (.int .i64 (a + z))).heap[bp]? = w7.heap[bp]?) := (Below.heap_setCell wr ⟨g, j * 3 + 2, none⟩ _ bp HNE.out).trans HB7.out
                      clear ha hzz hNj
                      go_wp2_with fail
                      go_roundw
                      case rel => exact ⟨j + 1, hjk, by go_num, HB8.out, HS8.out⟩
                      case measure => simp [intOf]; omega
                    · obtain rfl : j = k := by omega
                      have hd1 : decide (j < j) = false := decide_eq_false (Nat.lt_irrefl _)
                      have hd2 : decide ((j : Int) < (j : Int)) = false := decide_eq_false (Int.lt_irrefl _)
                      have HFIN : Hid (∃ R2 N2 : Nat → Int, (R2 = gotR o ps (vs.take (q + 1)) ∧ N2 = gotN o ps j (vs.take (q + 1)) ∧ (∀ i, 0 ≤ R2 i ∧ R2 i ≤ (q + 1 : Nat) * 24000000 ∧ 0 ≤ N2 i ∧ N2 i ≤ (q + 1 : Nat) * 1000000)) ∧ DvSt w wr bo g ps.length j o #[.slice (some ⟨b1, o1, none⟩) ps.length c1, .slice A2 nb c2, v3, v4] (fun i => (i : Int)) R2 N2) := by
                        refine ⟨fun i => R i + part o i (fR ps x.want) ps.length, fun i => N i + netP o ps j x i, ⟨?_, ?_, fun i => ?_⟩, HS.out.bx, HS.out.ow, ?_, HS.out.below⟩
                        · funext i; rw [HGR.out, HRN.out.1]
                        · funext i; rw [HGN.out, HRN.out.2.1]
                        · have h1 := HRN.out.2.2 i
                          have h2 := HNR.out i
                          have h3 := part_range (o := o) (i := i) (f := fR ps x.want) (M := 4000000) (by omega) ps.length fun q hq => fR_range HZ.out HFB.out.2.1 hq
                          have h4 := HN.out
                          dsimp only
                          omega
                        · have h2 : shrA j (fun i => (i : Int)) (fun i => R i + part o i (fR ps x.want) ps.length) (fun i => N i + if i < j then netP o ps j x i else 0) = shrA j (fun i => (i : Int)) (fun i => R i + part o i (fR ps x.want) ps.length) (fun i => N i + netP o ps j x i) := by
                            unfold shrA shrL
                            congr 2
                            refine List.map_congr_left fun i hi => ?_
                            dsimp only
                            rw [if_pos (List.mem_range.1 hi)]
                          rw [← h2]
                          exact HS.out.out
                      clear HS HB7 hj hj0 hj5
                      go_wp2_with fail
                      go_roundw
                      case rel =>
                        obtain ⟨R2, N2, h1, h2⟩ := HFIN.out
                        exact ⟨q + 1, R2, N2, hqn, by go_num, HE2.out, h1, h2⟩
                      case measure => simp [intOf]; omega
        · obtain rfl : q = vs.length := by omega
          have hd1 : decide (vs.length < vs.length) = false := decide_eq_false (Nat.lt_irrefl _)
          have hd2 : decide ((vs.length : Int) < (vs.length : Int)) = false := decide_eq_false (Int.lt_irrefl _)
          have HZ0 : Hid (divErr ps nb vs = 0) := by have := HE.out; rw [divErr_end] at this; exact this.symm
          have HLST := Lib.hid (shrs_of_blk HS.out.out (by have := HKM.out.2; unfold maxLen; omega))
          have HRR := HRN.out
          rw [List.take_length] at HRR
          have HR2 := Lib.hid HRR
          clear HRR
          go_wp2_with fail
          go_ret2
          exact DivPost.ok (by rw [HRES.out, HZ0.out, if_pos rfl, ← HR2.out.1, ← HR2.out.2.1]) HLST.out HS.out.below
end Go.Proofs.YtfopmaeaclbknaaDoor.Pr
