/- Contract of the reference's Divide. Printed by gen_pr9.py. -/
import Derived.Test.YtfopmaeaclbknaaDoorPk33
import Derived.Test.YtfopmaeaclbknaaDoorPk36
import Derived.StillTailTactics
import Derived.Deep.CutBlock
import Derived.Deep.QuietTactic
import Derived.BigQuiet
namespace Go.Proofs.YtfopmaeaclbknaaDoor.Pr
open Go.ChangeShapes Go.WideShapes Go.ChangeAt Go.RowKit Go.Maps Go.WideMaps Gn Cat Lex So
set_option linter.unusedVariables false
set_option linter.unusedSimpArgs false
attribute [local go_sem] later_cell
/-- a list of shares, of the call's own -/
def RowS (w : World) (base g : Nat) (m cap : Nat) (S R N : Nat → Int) : Prop := w.ownsRow base 100 3 (.slice (some ⟨g, 0, none⟩) m cap) m ((shrL m S R N).flatMap Shr.cells)
section
variable {w w1 : World} {base g m cap : Nat} {S R N : Nat → Int}
theorem RowS.keep (h : RowS w base g m cap S R N) (b : Below w.heap.size w w1) : RowS w1 base g m cap S R N := own_below h b
theorem RowS.cell (h : RowS w base g m cap S R N) {i : Nat} (hi : i < m) : w.cell? ⟨g, i * 3 + 1, none⟩ = some (.int .i64 (R i)) ∧ w.cell? ⟨g, i * 3 + 2, none⟩ = some (.int .i64 (N i)) := by
  have e := shrA_get (S := S) (R := R) (N := N) hi
  unfold shrA at e
  simp only [List.getElem?_toArray] at e
  exact ⟨(World.ownsRow.cellAt h (i * 3 + 1) (by omega)).trans e.2.1, (World.ownsRow.cellAt h (i * 3 + 2) (by omega)).trans e.2.2⟩
theorem RowS.free (h : RowS w base g m cap S R N) (i : Nat) : w.frozen? ⟨g, i, none⟩ = false := World.ownsRow.frozenAt h i
theorem RowS.lt (h : RowS w base g m cap S R N) : base ≤ g ∧ g < w.heap.size := World.ownsRow.lt h g (by simp [Value.ownBlock])
theorem RowS.put1 (h : RowS w base g m cap S R N) {i : Nat} (hi : i < m) (v : Int) : RowS (w.setCell ⟨g, i * 3 + 1, none⟩ (.int .i64 v)) base g m cap S (upd R i v) N := by
  have h1 := (World.ownsRow.stored h (i * 3 + 1) (.int .i64 v)).1
  have e := congrArg Array.toList (shrA_set1 (S := S) (R := R) (N := N) hi v)
  unfold shrA at e
  simp only [List.setIfInBounds_toArray] at e
  rw [e] at h1
  exact h1
theorem RowS.put2 (h : RowS w base g m cap S R N) {i : Nat} (hi : i < m) (v : Int) : RowS (w.setCell ⟨g, i * 3 + 2, none⟩ (.int .i64 v)) base g m cap S R (upd N i v) := by
  have h1 := (World.ownsRow.stored h (i * 3 + 2) (.int .i64 v)).1
  have e := congrArg Array.toList (shrA_set2 (S := S) (R := R) (N := N) hi v)
  unfold shrA at e
  simp only [List.setIfInBounds_toArray] at e
  rw [e] at h1
  exact h1
theorem RowS.congr {S' R' N' : Nat → Int} (h : RowS w base g m cap S R N) (e1 : ∀ i, i < m → S i = S' i) (e2 : ∀ i, i < m → R i = R' i) (e3 : ∀ i, i < m → N i = N' i) : RowS w base g m cap S' R' N' := by
  have e : shrL m S R N = shrL m S' R' N' := by
    unfold shrL
    refine List.map_congr_left fun j hj => ?_
    have hj' := List.mem_range.1 hj
    rw [e1 j hj', e2 j hj', e3 j hj']
  unfold RowS at h ⊢
  rwa [e] at h
end
/-- the memory of the reference's Divide at work -/
structure RdSt (w wr : World) (g m cap : Nat) (cs : Array Value) (S R N : Nat → Int) : Prop where
  bx : Blk wr w.heap.size 48 cs
  out : RowS wr w.heap.size g m cap S R N
  below : Below w.heap.size w wr
section
variable {w wr w2 : World} {g m cap : Nat} {cs : Array Value} {S R N : Nat → Int}
theorem RdSt.keep (h : RdSt w wr g m cap cs S R N) (b : Below wr.heap.size wr w2) : RdSt w w2 g m cap cs S R N := ⟨h.bx.below' b, h.out.keep b, chain0 h.below b⟩
theorem RdSt.ne (h : RdSt w wr g m cap cs S R N) : w.heap.size ≠ g := fun e => by
  have hb := h.bx
  rw [e] at hb
  exact own_apart h.out hb (by decide) rfl
theorem RdSt.put1 (h : RdSt w wr g m cap cs S R N) {i : Nat} (hi : i < m) (v : Int) : RdSt w (wr.setCell ⟨g, i * 3 + 1, none⟩ (.int .i64 v)) g m cap cs S (upd R i v) N :=
  ⟨h.bx.far (by show _ ≠ g; exact h.ne) _, h.out.put1 hi v, h.below.setCell (by show _ ≤ g; exact h.out.lt.1) _⟩
theorem RdSt.put2 (h : RdSt w wr g m cap cs S R N) {i : Nat} (hi : i < m) (v : Int) : RdSt w (wr.setCell ⟨g, i * 3 + 2, none⟩ (.int .i64 v)) g m cap cs S R (upd N i v) :=
  ⟨h.bx.far (by show _ ≠ g; exact h.ne) _, h.out.put2 hi v, h.below.setCell (by show _ ≤ g; exact h.out.lt.1) _⟩
theorem RdSt.congr {S' R' N' : Nat → Int} (h : RdSt w wr g m cap cs S R N) (e1 : ∀ i, i < m → S i = S' i) (e2 : ∀ i, i < m → R i = R' i) (e3 : ∀ i, i < m → N i = N' i) : RdSt w wr g m cap cs S' R' N' := ⟨h.bx, h.out.congr e1 e2 e3, h.below⟩
theorem RdSt.grown {row : Option Nat} (h : RdSt w wr g m cap cs S R N) (hg : wr.grownBy w2 row) (h1 : some w.heap.size ≠ row) (h2 : some g ≠ row) (h3 : ∀ k, row = some k → w.heap.size ≤ k) : RdSt w w2 g m cap cs S R N :=
  ⟨h.bx.grown hg h1, World.ownsRow.kept h.out hg (by simpa [Value.ownBlock] using h2), h.below.grown hg h.below.size h3⟩
end
/-- the weights so far -/
def wRow (o : Own) (ps : List Prod) (b : Nat → Int) (k : Nat) : List Value := (List.range k).map fun i => Value.int .i64 (wgt o ps b i ps.length)
theorem wRow_succ {o : Own} {ps : List Prod} {b : Nat → Int} {k : Nat} : wRow o ps b (k + 1) = wRow o ps b k ++ [.int .i64 (wgt o ps b k ps.length)] := by simp [wRow, List.range_succ]
theorem shrL_succ {S : Nat → Int} {k : Nat} : (shrL (k + 1) S (fun _ => 0) (fun _ => 0)).flatMap Shr.cells = (shrL k S (fun _ => 0) (fun _ => 0)).flatMap Shr.cells ++ [.int .i64 (S k), .int .i64 0, .int .i64 0] := by simp [shrL, List.range_succ]
set_option maxHeartbeats 16000000 in
set_option maxRecDepth 100000 in
theorem rdivide_some (ps : List Prod) (nb : Nat) (l : List Sel) (vs : List Inv) (A1 A2 AS AV : Option Addr) (c1 c2 cS cV : Nat) (v3 v4 : Value) (o : Own) (w : World) (hs : SetP w (.slice A1 ps.length c1) ps) (hl : SellP w (.slice AS l.length cS) l) (hv : InvS w (.slice AV vs.length cV) vs) (hq : vs.length ≤ 100) (hz : checkE ps = 0) (ho : OwnOk ps.length l o) (hm0 : 0 < l.length) (hm : l.length ≤ 6)
    (CC : ∀ W, Below w.heap.size w W → Calls Tryd.prog 38 #[.agg #[.slice A1 ps.length c1, .slice A2 nb c2, v3, v4], .slice AS l.length cS] W fun e w' => e = .returned (.int .i64 0) ∧ Below W.heap.size W w') :
    Calls Tryd.prog 32 #[.agg #[.slice A1 ps.length c1, .slice A2 nb c2, v3, v4], .slice AS l.length cS, .slice AV vs.length cV] w (DivPost (if divErr ps nb vs = 0 then .ok (shrL l.length (fun i => (i : Int)) (gotR o ps vs) (gotN o ps l.length vs)) else .error (divErr ps nb vs)) w) := by
  obtain ⟨i0, hi0, hz0, hz1, hz2⟩ := info_parts (show (Tryd.prog.info? 100).map (fun i => (i.zero, i.size, i.bytes)) = some (some (.agg #[.int .i64 0, .int .i64 0, .int .i64 0]), 3, 24) by kernel_rfl)
  obtain ⟨j0, hj0, hy0, hy1, hy2⟩ := info_parts (show (Tryd.prog.info? 2).map (fun i => (i.zero, i.size, i.bytes)) = some (some (.int .i64 0), 1, 8) by kernel_rfl)
  obtain ⟨_, _, e9, _, _, hvp⟩ := sl_parts hv
  injection e9 with e9 e10 e11
  subst e9 e11
  have HVP := Lib.hid hvp
  have hn := checkE_zero hz
  obtain ⟨_, _, e7, _, _, hpp⟩ := ps_cases hs.sl
  injection e7 with e7 e8 e6
  subst e7 e6
  obtain ⟨b1, o1, rfl, hb1, hrow⟩ := hpp hn.1
  obtain ⟨_, _, e4, _, _, hlp⟩ := sl_parts hl.sl
  injection e4 with e4 e5 e3
  subst e4 e3
  have HSL := Lib.hid (fun W (b : Below w.heap.size w W) => by obtain ⟨bs, os, e, hbs, hrs⟩ := hlp hm0; exact (⟨bs, os, e, fun j hj => sel_at (hrs.below hbs b) j hj⟩ : ∃ bs os, AS = some ⟨bs, os, none⟩ ∧ ∀ j (hj : j < l.length), W.cell? ⟨bs, os + j * 2, none⟩ = some (.string l[j].name) ∧ W.cell? ⟨bs, os + j * 2 + 1, none⟩ = some l[j].v))
  have HSK := Lib.hid (fun j (hj : j < l.length) => (And.intro ((hl.ok _ (List.getElem_mem hj)).2) (And.intro (hl.few _ (List.getElem_mem hj)) (ho.range _ (List.getElem_mem hj)))))
  have HSUM := Lib.hid (fun f j (hj : j < l.length) => ho.sum f j hj)
  have HS0 := Lib.hid hs
  have HZ := Lib.hid hz
  have HO := Lib.hid ho
  have HN : Hid (ps.length ≤ 6) := hn.2.1
  have HM : Hid (l.length ≤ 6 ∧ 0 < l.length) := ⟨hm, hm0⟩
  have hm6 : (l.length : Int) ≤ 6 := by omega
  have CC := Lib.hid CC
  obtain ⟨RES, hRES⟩ : ∃ RES, RES = (if divErr ps nb vs = 0 then Except.ok (shrL l.length (fun i => (i : Int)) (gotR o ps vs) (gotN o ps l.length vs)) else .error (divErr ps nb vs)) := ⟨_, rfl⟩
  rw [← hRES]
  have HRES := Lib.hid hRES
  have HVL : Hid (vs.length ≤ 100) := hq
  have BX := Lib.hid (below_new w (.cells #[.slice (some ⟨b1, o1, none⟩) ps.length c1, .slice A2 nb c2, v3, v4] 48))
  have bx := Blk.new w 48 #[.slice (some ⟨b1, o1, none⟩) ps.length c1, .slice A2 nb c2, v3, v4]
  have hsz1 : Hid ((w.alloc (.cells #[.slice (some ⟨b1, o1, none⟩) ps.length c1, .slice A2 nb c2, v3, v4] 48)).heap.size = w.heap.size + 1) := World.size_alloc _ _
  clear hs hl hv hvp hpp hlp hrow hRES hn e8 e10 e5 hz ho hm hm0 hq hb1
  go_enter Tryd.func32, Tryd.ntmps32
  go_wp2_with fail
  refine (CC.out _ BX.out).mono ?_
  rintro e w1 ⟨rfl, d1⟩
  have B1 := Lib.hid (chain0 BX.out d1)
  have BX1 := Lib.hid (bx.below' d1)
  have cx := BX1.out.c4
  clear d1 bx BX CC hsz1
  go_wp2_with fail
  clear cx
  go_loopw [10, 9] (fun iv ov wr => ∃ (k : Nat) (A : Option Addr) (c : Nat), k ≤ l.length ∧ iv = .int .i64 (k : Int) ∧ ov = .slice A k c ∧ Hid (wr.ownsRow w.heap.size 100 3 (.slice A k c) k ((shrL k (fun i => (i : Int)) (fun _ => 0) (fun _ => 0)).flatMap Shr.cells)) ∧ Hid (Blk wr w.heap.size 48 #[.slice (some ⟨b1, o1, none⟩) ps.length c1, .slice A2 nb c2, v3, v4]) ∧ Hid (Below w.heap.size w wr)) (fun iv _ _ => l.length - (intOf iv).toNat)
  case atStart => exact ⟨0, none, 0, Nat.zero_le _, rfl, rfl, World.ownsRow_nil _ _ _ _, BX1.out, B1.out⟩
  case round =>
    clear BX1 B1
    obtain ⟨k, A, c, hk, rfl, rfl, HO1, HX, HB⟩ := hrel
    have hk0 : (0 : Int) ≤ (k : Int) := by omega
    have hk5 : (k : Int) ≤ 6 := by omega
    by_cases hkn : k < l.length
    · have hd1 : decide (k < l.length) = true := decide_eq_true hkn
      have hd2 : decide ((k : Int) < (l.length : Int)) = true := decide_eq_true (by omega)
      have HK1 : Hid (k ≤ 6) := by show k ≤ 6; omega
      go_wp2_with (at_builtin; refine wpList_append_own _ rfl _ _ 55 rfl w.heap.size 100 i0 _ 3 24 Tryd.underlying55 hi0 hz0 hz1 hz2 rfl (by decide) (.slice A k c) k _ rfl (HO1.out.alloc _) ⟨wr.heap.size, 0, none⟩ 1 1 [.int .i64 (k : Int), .int .i64 0, .int .i64 0] rfl rfl (cells_new wr _ _) (by intro u hu; simp at hu; (rcases hu with rfl | rfl | rfl <;> rfl)) (by have := HK1.out; unfold maxLen; omega) (by have := HK1.out; omega) (by have := HB.out.size; simp; omega) ?_)
      intro v' w2 hown hgr _
      obtain ⟨A5, c5, rfl⟩ := Gn.own_form hown
      have O5 : Hid (w2.ownsRow w.heap.size 100 3 (.slice A5 (k + 1) c5) (k + 1) ((shrL (k + 1) (fun i => (i : Int)) (fun _ => 0) (fun _ => 0)).flatMap Shr.cells)) := by show World.ownsRow _ _ _ _ _ _ _; rw [shrL_succ]; exact hown
      have B5 : Hid (Below w.heap.size w w2) := (HB.out.alloc HB.out.size _).grown hgr (by have := HB.out.size; simp; omega) (fun q hq => (HO1.out.lt q hq).1)
      have X5 : Hid (Blk w2 w.heap.size 48 #[.slice (some ⟨b1, o1, none⟩) ps.length c1, .slice A2 nb c2, v3, v4]) := (HX.out.alloc _).grown hgr (fun e => own_apart HO1.out HX.out (by decide) e.symm)
      clear hown hgr HO1 HX HB
      go_wp2_with fail
      go_roundw
      case rel => exact ⟨k + 1, A5, c5, hkn, by go_num, rfl, O5.out, X5.out, B5.out⟩
      case measure => simp [intOf]; omega
    · obtain rfl : k = l.length := by omega
      have hd1 : decide (l.length < l.length) = false := decide_eq_false (Nat.lt_irrefl _)
      have hd2 : decide ((l.length : Int) < (l.length : Int)) = false := decide_eq_false (Int.lt_irrefl _)
      have HG : Hid (∃ g, A = some ⟨g, 0, none⟩) := by
        rcases HO1.out.2 with ⟨hv, h0⟩ | ⟨g', cap, cur, hv, _⟩
        · have := HM.out.2; omega
        · injection hv with hv; exact ⟨g', hv⟩
      obtain ⟨g, rfl⟩ := HG.out
      have HQ0 : Hid (∃ R N : Nat → Int, R = gotR o ps (vs.take 0) ∧ N = gotN o ps l.length (vs.take 0) ∧ RdSt w wr g l.length c #[.slice (some ⟨b1, o1, none⟩) ps.length c1, .slice A2 nb c2, v3, v4] (fun i => (i : Int)) R N) := ⟨fun _ => 0, fun _ => 0, rfl, rfl, HX.out, HO1.out, HB.out⟩
      clear HG HO1 HX HB hk hk0 hk5
      go_wp2_with fail
      clear hd1 hd2
      go_loopw [11] (fun iv wr => ∃ (q : Nat) (R N : Nat → Int), q ≤ vs.length ∧ iv = .int .i64 (q : Int) ∧ Hid (divErr ps nb (vs.drop q) = divErr ps nb vs) ∧ Hid (R = gotR o ps (vs.take q) ∧ N = gotN o ps l.length (vs.take q) ∧ (∀ i, 0 ≤ R i ∧ R i ≤ q * 24000000 ∧ 0 ≤ N i ∧ N i ≤ q * 1000000)) ∧ Hid (RdSt w wr g l.length c #[.slice (some ⟨b1, o1, none⟩) ps.length c1, .slice A2 nb c2, v3, v4] (fun i => (i : Int)) R N)) (fun iv _ => vs.length - (intOf iv).toNat)
      case atStart =>
        obtain ⟨R, N, e1, e2, e3⟩ := HQ0.out
        exact ⟨0, R, N, Nat.zero_le _, rfl, rfl, ⟨e1, e2, fun i => by rw [e1, e2]; simp [gotR, gotN]⟩, e3⟩
      case round =>
        clear HQ0
        obtain ⟨q, R, N, hq, rfl, HE, HRN, HS⟩ := hrel
        have hq0 : (0 : Int) ≤ (q : Int) := by omega
        have hq5 : (q : Int) ≤ 100 := by have := HVL.out; omega
        have hvl : (vs.length : Int) ≤ 100 := by have := HVL.out; omega
        by_cases hqn : q < vs.length
        · have hd1 : decide (q < vs.length) = true := decide_eq_true hqn
          have hd2 : decide ((q : Int) < (vs.length : Int)) = true := decide_eq_true (by omega)
          have hqn1 : (q : Int) < (vs.length : Int) := by omega
          obtain ⟨bv, ov, e1, hbv, hrv⟩ := HVP.out (by omega)
          subst e1
          have HAT := Lib.hid (fun W (b : Below w.heap.size w W) => inv_at (hrv.below hbv b) q hqn)
          have HED := Lib.hid (divErr_drop (ps := ps) (nb := nb) hqn)
          have HGR := Lib.hid (fun i => gotR_succ (o := o) (ps := ps) (i := i) hqn)
          have HGN := Lib.hid (fun i => gotN_succ (o := o) (ps := ps) (m := l.length) (i := i) hqn)
          generalize vs[q] = x at *
          have hat := HAT.out _ HS.out.below
          have sc := HS.out.bx.c4
          have sl := HS.out.bx.lt
          have CV : Hid (∀ y, Calls Tryd.prog 63 #[.agg #[.slice (some ⟨b1, o1, none⟩) ps.length c1, .slice A2 nb c2, v3, v4], .agg #[.int .i64 x.bidder, .int .i64 (x.want 0), .int .i64 (x.want 1), .int .i64 (x.want 2), .int .i64 (x.want 3), .int .i64 (x.want 4), .int .i64 (x.want 5), .int .i64 x.reserve, .int .i64 x.net, .int .i64 x.due]] (later wr y) fun e w' => e = .returned (.bool (invOk ps nb x)) ∧ Below (later wr y).heap.size (later wr y) w') := fun y => rvalid_any ps nb x _ v3 v4 A2 c2 (later wr y) (HS0.out.keep (chain0 HS.out.below (later_below wr y)))
          clear hrv hbv
          cases hok : invOk ps nb x with
          | false =>
            have HEE : Hid (divErr ps nb vs = 2) := by have := HE.out; rw [HED.out, hok, if_neg (by simp)] at this; exact this.symm
            rw [hok] at CV
            clear hok HED HGR HGN
            go_wp2_with fail
            refine wp_region_later (by kernel_rfl) (by kernel_rfl) ?_
            repeat (first | go_big_quiet_step ((go_at_call 63; exact calls_later (CV.out _))) | quiet_step ((go_at_call 63; exact calls_later (CV.out _))))
            refine wpQuiet_nil ?_
            rintro _ ⟨y, rfl⟩
            have HS3 := Lib.hid (HS.out.keep (later_below wr y))
            clear hat sc sl HS CV
            generalize later wr y = w3 at *
            have hat := HAT.out _ HS3.out.below
            have sc := HS3.out.bx.c4
            have sl := HS3.out.bx.lt
            go_wp2_with fail
            go_ret2
            exact DivPost.err (by rw [HRES.out, HEE.out]; rfl) HS3.out.below
          | true =>
            have HIO := Lib.hid (invOk_iff hok)
            rw [hok] at CV
            by_cases hdue : 1000000 < x.due
            · have y1 : decide (1000000 < x.due) = true := decide_eq_true hdue
              have HEE : Hid (divErr ps nb vs = 4) := by have := HE.out; rw [HED.out, hok, if_pos rfl, if_pos hdue] at this; exact this.symm
              clear hok HED HGR HGN hdue
              go_wp2_with fail
              refine wp_region_later (by kernel_rfl) (by kernel_rfl) ?_
              repeat (first | go_big_quiet_step ((go_at_call 63; exact calls_later (CV.out _))) | quiet_step ((go_at_call 63; exact calls_later (CV.out _))))
              refine wpQuiet_nil ?_
              rintro _ ⟨y, rfl⟩
              have HS3 := Lib.hid (HS.out.keep (later_below wr y))
              clear hat sc sl HS CV
              generalize later wr y = w3 at *
              have hat := HAT.out _ HS3.out.below
              have sc := HS3.out.bx.c4
              have sl := HS3.out.bx.lt
              go_wp2_with fail
              go_ret2
              exact DivPost.err (by rw [HRES.out, HEE.out]; rfl) HS3.out.below
            · have y1 : decide (1000000 < x.due) = false := decide_eq_false hdue
              have HE2 : Hid (divErr ps nb (vs.drop (q + 1)) = divErr ps nb vs) := by have := HE.out; rw [HED.out, hok, if_pos rfl, if_neg hdue] at this; exact this
              clear hok HED hdue
              have HFB := Lib.hid (rfits_valid (HIO.out.2.1))
              go_wp2_with fail
              refine wp_region_later (by kernel_rfl) (by kernel_rfl) ?_
              repeat (first | go_big_quiet_step ((go_at_call 63; exact calls_later (CV.out _))) | quiet_step ((go_at_call 63; exact calls_later (CV.out _))))
              refine wpQuiet_nil ?_
              rintro _ ⟨y, rfl⟩
              have HS3 := Lib.hid (HS.out.keep (later_below wr y))
              clear hat sc sl HS CV
              generalize later wr y = w3 at *
              have hat := HAT.out _ HS3.out.below
              have sc := HS3.out.bx.c4
              have sl := HS3.out.bx.lt
              go_wp2_with fail
              clear hd1 hd2 hat sc sl y1
              have HW0 : Hid (∃ base : Nat, base = w3.heap.size ∧ g < base ∧ w.heap.size < base ∧ RdSt w w3 g l.length c #[.slice (some ⟨b1, o1, none⟩) ps.length c1, .slice A2 nb c2, v3, v4] (fun i => (i : Int)) (fun i => R i + if i < 0 then part o i (fR ps x.want) ps.length else 0) N ∧ w3.ownsRow base 2 1 (.slice none 0 0) 0 (wRow o ps x.want 0)) := ⟨_, rfl, HS3.out.out.lt.2, HS3.out.bx.lt, HS3.out.congr (fun _ _ => rfl) (fun i _ => by simp) (fun _ _ => rfl), World.ownsRow_nil _ _ _ _⟩
              obtain ⟨base, HWB⟩ : ∃ base, Hid (g < base ∧ w.heap.size < base ∧ RdSt w w3 g l.length c #[.slice (some ⟨b1, o1, none⟩) ps.length c1, .slice A2 nb c2, v3, v4] (fun i => (i : Int)) (fun i => R i + if i < 0 then part o i (fR ps x.want) ps.length else 0) N ∧ w3.ownsRow base 2 1 (.slice none 0 0) 0 (wRow o ps x.want 0) ∧ base ≤ w3.heap.size) := by
                obtain ⟨base, e, h1, h2, h3, h4⟩ := HW0.out
                exact ⟨base, h1, h2, h3, h4, Nat.le_of_eq e⟩
              have HBG : Hid (g < base ∧ w.heap.size < base) := ⟨HWB.out.1, HWB.out.2.1⟩
              clear HW0 HS3
              go_loopw [13, 12] (fun iv ov wz => ∃ (i : Nat) (A : Option Addr) (cw : Nat), i ≤ l.length ∧ iv = .int .i64 (i : Int) ∧ ov = .slice A i cw ∧ Hid (RdSt w wz g l.length c #[.slice (some ⟨b1, o1, none⟩) ps.length c1, .slice A2 nb c2, v3, v4] (fun i => (i : Int)) (fun j => R j + if j < i then part o j (fR ps x.want) ps.length else 0) N) ∧ Hid (wz.ownsRow base 2 1 (.slice A i cw) i (wRow o ps x.want i) ∧ base ≤ wz.heap.size)) (fun iv _ _ => l.length - (intOf iv).toNat)
              case atStart => exact ⟨0, none, 0, Nat.zero_le _, rfl, rfl, HWB.out.2.2.1, HWB.out.2.2.2⟩
              case round =>
                clear HWB
                obtain ⟨i, Aw, cw, hi, rfl, rfl, HS, HW⟩ := hrel
                have hi0' : (0 : Int) ≤ (i : Int) := by omega
                have hi5 : (i : Int) ≤ 6 := by omega
                by_cases hin : i < l.length
                · have hd1 : decide (i < l.length) = true := decide_eq_true hin
                  have hd2 : decide ((i : Int) < (l.length : Int)) = true := decide_eq_true (by omega)
                  have hin1 : (i : Int) < (l.length : Int) := by omega
                  have hat := HAT.out _ HS.out.below
                  have sc := HS.out.bx.c4
                  have sl := HS.out.bx.lt
                  obtain ⟨bs, os, e, hcs⟩ := HSL.out _ HS.out.below
                  subst e
                  have hct := hcs i hin
                  obtain ⟨hisl, hfew, hrange⟩ := HSK.out i hin
                  have HSUMi := Lib.hid (fun f => HSUM.out f i hin)
                  obtain ⟨Ax, cx2, hvx, _⟩ := sl_parts hisl
                  obtain ⟨y, hy⟩ : ∃ y, y = l[i] := ⟨_, rfl⟩
                  rw [← hy] at hct hisl hfew hrange HSUMi hvx
                  obtain ⟨nm, vx, px⟩ := y
                  dsimp only at hct hisl hfew hrange HSUMi hvx
                  subst hvx
                  have CR : Hid (∀ z, Calls Tryd.prog 64 #[.agg #[.slice (some ⟨b1, o1, none⟩) ps.length c1, .slice A2 nb c2, v3, v4], .agg #[.string nm, .slice Ax px.length cx2], .agg #[.int .i64 (x.want 0), .int .i64 (x.want 1), .int .i64 (x.want 2), .int .i64 (x.want 3), .int .i64 (x.want 4), .int .i64 (x.want 5)]] (later wr z) fun e w' => e = .returned (.tuple #[.int .i64 (part o i (fR ps x.want) ps.length), .int .i64 (wgt o ps x.want i ps.length)]) ∧ Below (later wr z).heap.size (later wr z) w') := fun z => by
                    have h := rreserve_any ps nm Ax px cx2 x.want (.slice (some ⟨b1, o1, none⟩) ps.length c1) (.slice A2 nb c2) v3 v4 (later wr z) (HS0.out.keep (chain0 HS.out.below (later_below wr z))) HZ.out HFB.out.2.1 (hisl.keep (chain0 HS.out.below (later_below wr z))) hrange hfew
                    rw [← HSUMi.out, ← HSUMi.out] at h
                    exact h
                  clear hy hcs hisl hfew hrange
                  go_wp2_with fail
                  refine wp_region_later (by kernel_rfl) (by kernel_rfl) ?_
                  repeat (first | go_big_quiet_step ((go_at_call 64; exact calls_later (CR.out _))) | quiet_step ((go_at_call 64; exact calls_later (CR.out _))))
                  refine wpQuiet_nil ?_
                  rintro _ ⟨y, rfl⟩
                  have HS4 := Lib.hid (HS.out.keep (later_below wr y))
                  have HW4 : Hid ((later wr y).ownsRow base 2 1 (.slice Aw i cw) i (wRow o ps x.want i) ∧ base ≤ (later wr y).heap.size) := ⟨own_below HW.out.1 (later_below wr y), Nat.le_trans HW.out.2 (later_below wr y).size⟩
                  clear hat sc sl hct HS HW CR
                  generalize later wr y = w4 at *
                  have co := (HS4.out.out.cell hin).1
                  rw [if_neg (Nat.lt_irrefl i), Int.add_zero] at co
                  have cfo := HS4.out.out.free (i * 3 + 1)
                  have lgo := HS4.out.out.lt.2
                  have hRi := HRN.out.2.2 i
                  have hpr := part_range (o := o) (i := i) (f := fR ps x.want) (M := 4000000) (by omega) ps.length fun q hq => fR_range HZ.out HFB.out.2.1 hq
                  have hps6 := HN.out
                  obtain ⟨a, ha⟩ : ∃ a, a = R i := ⟨_, rfl⟩
                  obtain ⟨z, hzz⟩ : ∃ z, z = part o i (fR ps x.want) ps.length := ⟨_, rfl⟩
                  rw [← ha] at co
                  have HAZ : Hid (a = R i ∧ z = part o i (fR ps x.want) ps.length) := ⟨ha, hzz⟩
                  have a0 : 0 ≤ a := by omega
                  have a1 : a ≤ 2400000000 := by omega
                  have z0 : 0 ≤ z := by omega
                  have z1 : z ≤ 24000000 := by omega
                  rw [← hzz]
                  have HS5 : Hid (RdSt w (w4.setCell ⟨g, i * 3 + 1, none⟩ (.int .i64 (a + z))) g l.length c #[.slice (some ⟨b1, o1, none⟩) ps.length c1, .slice A2 nb c2, v3, v4] (fun i => (i : Int)) (fun j => R j + if j < i + 1 then part o j (fR ps x.want) ps.length else 0) N) := (HS4.out.put1 hin (a + z)).congr (fun _ _ => rfl) (fun j hj => by
                    unfold Cat.upd
                    by_cases e : j = i
                    · subst e
                      rw [if_pos rfl, if_pos (Nat.lt_succ_self _), HAZ.out.1, HAZ.out.2]
                    · by_cases h : j < i
                      · rw [if_neg e]; dsimp only; rw [if_pos h, if_pos (by omega)]
                      · rw [if_neg e]; dsimp only; rw [if_neg h, if_neg (by omega)]) (fun _ _ => rfl)
                  have HW5 : Hid ((w4.setCell ⟨g, i * 3 + 1, none⟩ (.int .i64 (a + z))).ownsRow base 2 1 (.slice Aw i cw) i (wRow o ps x.want i) ∧ base ≤ (w4.setCell ⟨g, i * 3 + 1, none⟩ (.int .i64 (a + z))).heap.size) := ⟨ownsRow_setCell_below HW4.out.1 (by show g < base; exact HBG.out.1) _, by rw [World.size_setCell]; exact HW4.out.2⟩
                  have HI6 : Hid (i ≤ 6) := by show i ≤ 6; omega
                  clear ha hzz hRi hpr hps6 HS4 HW4
                  go_upto_region 22 with (fail)
                  generalize w4.setCell ⟨g, i * 3 + 1, none⟩ (.int .i64 (a + z)) = w5 at *
                  go_wp2_with (at_builtin; refine wpList_append_own _ rfl _ _ 22 rfl base 2 j0 _ 1 8 Tryd.underlying22 hj0 hy0 hy1 hy2 rfl (by decide) (.slice Aw i cw) i _ rfl (HW5.out.1.alloc _) ⟨w5.heap.size, 0, none⟩ 1 1 [.int .i64 (wgt o ps x.want i ps.length)] rfl rfl (cells_new _ _ _) (by intro u hu; simp at hu; subst hu; rfl) (by have := HI6.out; unfold maxLen; omega) (by have := HI6.out; omega) (by rw [World.size_alloc]; have := HW5.out.2; omega) ?_)
                  intro v' w6 hown hgr _
                  obtain ⟨A6, c6, rfl⟩ := Gn.own_form hown
                  have HLT := Lib.hid (fun k hk => (HW5.out.1.lt k hk).1)
                  have HS6 : Hid (RdSt w w6 g l.length c #[.slice (some ⟨b1, o1, none⟩) ps.length c1, .slice A2 nb c2, v3, v4] (fun i => (i : Int)) (fun j => R j + if j < i + 1 then part o j (fR ps x.want) ps.length else 0) N) := (HS5.out.keep (below_new _ _)).grown hgr (fun e => by have := HLT.out _ e.symm; have := HBG.out.2; omega) (fun e => by have := HLT.out _ e.symm; have := HBG.out.1; omega) (fun k hk => by have := HLT.out _ hk; have := HBG.out.2; omega)
                  have HW6 : Hid (w6.ownsRow base 2 1 (.slice A6 (i + 1) c6) (i + 1) (wRow o ps x.want (i + 1)) ∧ base ≤ w6.heap.size) := ⟨by rw [wRow_succ]; exact hown, by have h1 := hgr.size; have h2 := HW5.out.2; simp at h1 h2; omega⟩
                  clear hown hgr HS5 HW5 co cfo lgo
                  go_wp2_with fail
                  go_roundw
                  case rel => exact ⟨i + 1, A6, c6, hin, by go_num, rfl, HS6.out, HW6.out⟩
                  case measure => simp [intOf]; omega
                · obtain rfl : i = l.length := by omega
                  have hd1 : decide (l.length < l.length) = false := decide_eq_false (Nat.lt_irrefl _)
                  have hd2 : decide ((l.length : Int) < (l.length : Int)) = false := decide_eq_false (Int.lt_irrefl _)
                  have HIS : Hid (IS wr (.slice Aw l.length cw) (toI (wgts o ps x.want l.length))) := by
                    have h := Sl.of_own HW.out.1
                    have e : wRow o ps x.want l.length = (toI (wgts o ps x.want l.length)).map fun x => Value.int .i64 x := by rw [toI_wgts HZ.out HFB.out.2.1]; simp [wRow]
                    rw [e] at h
                    unfold IS
                    rw [toI_len, wgts_len]
                    exact h
                  have HSP : Hid (0 < sumN (wgts o ps x.want l.length) (wgts o ps x.want l.length).length) := wgts_pos HZ.out HO.out HIO.out.2.1 HIO.out.1
                  obtain ⟨T, hT⟩ : ∃ T : Nat, x.net = (T : Int) := ⟨x.net.toNat, by have := HIO.out.2.2.2.1; omega⟩
                  have HT : Hid (x.net = (T : Int) ∧ T ≤ 1000000) := ⟨hT, by have := HIO.out.2.2.2.2.1; omega⟩
                  have hat := HAT.out _ HS.out.below
                  rw [hT] at hat
                  have CSH := Lib.hid (rshare_full T (wgts o ps x.want l.length) _ (.slice Aw l.length cw) wr HT.out.2 wgts_le (by rw [wgts_len]; have := HM.out.1; omega) HSP.out (ordL_ok T (wgts o ps x.want l.length) _) HIS.out)
                  unfold RSharePostF at CSH
                  clear hT HIS
                  go_wp2_with fail
                  refine CSH.out.mono ?_
                  rintro e w7 ⟨vp, rfl, is7, d7, fr7⟩
                  have hgl7 := HS.out.out.lt.2
                  have is8 : IS w7 vp (toI (shareL T (wgts o ps x.want l.length))) := is7
                  have HS7 := Lib.hid (HS.out.keep d7)
                  obtain ⟨Ap, cp, rfl, _, _, hpc⟩ := is_cases is8
                  have elen : (toI (shareL T (wgts o ps x.want l.length))).length = l.length := by rw [toI_len, shareL_len, wgts_len]
                  rw [elen]
                  obtain ⟨bp, op, eA, hbp, hcp⟩ := hpc (by have := HM.out.2; rw [elen]; exact this)
                  subst eA
                  have HPC := Lib.hid hcp
                  have HNE : Hid (bp ≠ g) := by have : wr.heap.size ≤ bp := fr7 bp rfl; show bp ≠ g; omega
                  have HNP : Hid (∀ i, i < l.length → (toI (shareL T (wgts o ps x.want l.length)))[i]? = some (netP o ps l.length x i)) := fun i hi => by
                    rw [toI_at (by rw [shareL_len, wgts_len]; exact hi), at_in (by rw [shareL_len, wgts_len]; exact hi)]
                    unfold netP
                    rw [HT.out.1, Int.toNat_natCast, List.getD, List.getElem?_eq_getElem (by rw [shareL_len, wgts_len]; exact hi)]
                    rfl
                  have HNR : Hid (∀ i, 0 ≤ netP o ps l.length x i ∧ netP o ps l.length x i ≤ 1000000) := fun i => by
                    have := netP_range (o := o) (ps := ps) (m := l.length) (v := x) i HSP.out
                    have h2 := HT.out
                    rw [h2.1] at this
                    omega
                  have HS70 : Hid (RdSt w w7 g l.length c #[.slice (some ⟨b1, o1, none⟩) ps.length c1, .slice A2 nb c2, v3, v4] (fun i => (i : Int)) (fun j => R j + part o j (fR ps x.want) ps.length) (fun j => N j + if j < 0 then netP o ps l.length x j else 0)) := HS7.out.congr (fun _ _ => rfl) (fun j hj => by rw [if_pos hj]) (fun j _ => by simp)
                  clear hat CSH is7 is8 hcp d7 HW elen hi0' hi5 hi fr7 hgl7 hpc hbp HS7 HS
                  go_wp2_with fail
                  clear hd1 hd2
                  go_loopw [18] (fun iv wz => ∃ j : Nat, j ≤ l.length ∧ iv = .int .i64 (j : Int) ∧ Hid (wz.heap[bp]? = w7.heap[bp]?) ∧ Hid (RdSt w wz g l.length c #[.slice (some ⟨b1, o1, none⟩) ps.length c1, .slice A2 nb c2, v3, v4] (fun i => (i : Int)) (fun j => R j + part o j (fR ps x.want) ps.length) (fun i => N i + if i < j then netP o ps l.length x i else 0))) (fun iv _ => l.length - (intOf iv).toNat)
                  case atStart => exact ⟨0, Nat.zero_le _, rfl, rfl, HS70.out⟩
                  case round =>
                    clear HS70
                    obtain ⟨j, hj, rfl, HB7, HS⟩ := hrel
                    have hj0 : (0 : Int) ≤ (j : Int) := by omega
                    have hj5 : (j : Int) ≤ 6 := by have := HM.out.1; omega
                    by_cases hjk : j < l.length
                    · have hd1 : decide (j < l.length) = true := decide_eq_true hjk
                      have hd2 : decide ((j : Int) < (l.length : Int)) = true := decide_eq_true (by omega)
                      have hjk1 : (j : Int) < (l.length : Int) := by omega
                      have ct : wr.cell? ⟨bp, op + j, none⟩ = some (.int .i64 (netP o ps l.length x j)) := (World.cell?_of_block (a := ⟨bp, op + j, none⟩) HB7.out).trans (HPC.out j _ (HNP.out j hjk))
                      have co := (HS.out.out.cell hjk).2
                      have cfo := HS.out.out.free (j * 3 + 2)
                      have lgo := HS.out.out.lt.2
                      have hnr := HNR.out j
                      have hNj := HRN.out.2.2 j
                      rw [if_neg (Nat.lt_irrefl j), Int.add_zero] at co
                      obtain ⟨a, ha⟩ : ∃ a, a = N j := ⟨_, rfl⟩
                      obtain ⟨z, hzz⟩ : ∃ z, z = netP o ps l.length x j := ⟨_, rfl⟩
                      rw [← ha] at co
                      rw [← hzz] at ct hnr
                      have HAZ : Hid (a = N j ∧ z = netP o ps l.length x j) := ⟨ha, hzz⟩
                      have a0 : 0 ≤ a := by omega
                      have a1 : a ≤ 100000000 := by omega
                      have ws : IntKind.i64.wrap (a + z) = a + z := IntWalk.i64_in _ (by omega)
                      clear ha hzz hNj
                      go_wp2_with fail
                      go_still_tail 14, (by kernel_rfl)
                      change wpList _ _ _ _ _ wr.drew
                      have HSd := Lib.hid (HS.out.keep (Below.refl _ _).drew)
                      have HBd : Hid (wr.drew.heap[bp]? = w7.heap[bp]?) := HB7.out
                      have cfd : wr.drew.frozen? ⟨g, j * 3 + 2, none⟩ = false := cfo
                      have cod : wr.drew.cell? ⟨g, j * 3 + 2, none⟩ = some (.int .i64 a) := co
                      clear ct co cfo lgo HS HB7
                      generalize wr.drew = wd at *
                      have HS8 : Hid (RdSt w (wd.setCell ⟨g, j * 3 + 2, none⟩ (.int .i64 (a + z))) g l.length c #[.slice (some ⟨b1, o1, none⟩) ps.length c1, .slice A2 nb c2, v3, v4] (fun i => (i : Int)) (fun j => R j + part o j (fR ps x.want) ps.length) (fun i => N i + if i < j + 1 then netP o ps l.length x i else 0)) := (HSd.out.put2 hjk (a + z)).congr (fun _ _ => rfl) (fun _ _ => rfl) (fun i hi => by
                        unfold Cat.upd
                        by_cases e : i = j
                        · subst e
                          rw [if_pos rfl, if_pos (Nat.lt_succ_self _), HAZ.out.1, HAZ.out.2]
                        · by_cases h : i < j
                          · rw [if_neg e]; dsimp only; rw [if_pos h, if_pos (by omega)]
                          · rw [if_neg e]; dsimp only; rw [if_neg h, if_neg (by omega)])
                      have HB8 : Hid ((wd.setCell ⟨g, j * 3 + 2, none⟩ (.int .i64 (a + z))).heap[bp]? = w7.heap[bp]?) := (Below.heap_setCell wd ⟨g, j * 3 + 2, none⟩ _ bp HNE.out).trans HBd.out
                      go_wp2_with fail
                      go_roundw
                      case rel => exact ⟨j + 1, hjk, by go_num, HB8.out, HS8.out⟩
                      case measure => simp [intOf]; omega
                    · obtain rfl : j = l.length := by omega
                      have hd1 : decide (l.length < l.length) = false := decide_eq_false (Nat.lt_irrefl _)
                      have hd2 : decide ((l.length : Int) < (l.length : Int)) = false := decide_eq_false (Int.lt_irrefl _)
                      have HFIN : Hid (∃ R2 N2 : Nat → Int, (R2 = gotR o ps (vs.take (q + 1)) ∧ N2 = gotN o ps l.length (vs.take (q + 1)) ∧ (∀ i, 0 ≤ R2 i ∧ R2 i ≤ (q + 1 : Nat) * 24000000 ∧ 0 ≤ N2 i ∧ N2 i ≤ (q + 1 : Nat) * 1000000)) ∧ RdSt w wr g l.length c #[.slice (some ⟨b1, o1, none⟩) ps.length c1, .slice A2 nb c2, v3, v4] (fun i => (i : Int)) R2 N2) := by
                        refine ⟨fun i => R i + part o i (fR ps x.want) ps.length, fun i => N i + netP o ps l.length x i, ⟨?_, ?_, fun i => ?_⟩, HS.out.congr (fun _ _ => rfl) (fun _ _ => rfl) (fun i hi => by rw [if_pos hi])⟩
                        · funext i; rw [HGR.out, HRN.out.1]
                        · funext i; rw [HGN.out, HRN.out.2.1]
                        · have h1 := HRN.out.2.2 i
                          have h2 := HNR.out i
                          have h3 := part_range (o := o) (i := i) (f := fR ps x.want) (M := 4000000) (by omega) ps.length fun q hq => fR_range HZ.out HFB.out.2.1 hq
                          have h4 := HN.out
                          dsimp only
                          omega
                      clear HS HB7 hj hj0 hj5
                      go_wp2_with fail
                      go_roundw
                      case rel =>
                        obtain ⟨R2, N2, h1, h2⟩ := HFIN.out
                        exact ⟨q + 1, R2, N2, hqn, by go_num, HE2.out, h1, h2⟩
                      case measure => simp [intOf]; omega
        · obtain rfl : q = vs.length := by omega
          have hd1 : decide (vs.length < vs.length) = false := decide_eq_false (Nat.lt_irrefl _)
          have hd2 : decide ((vs.length : Int) < (vs.length : Int)) = false := decide_eq_false (Int.lt_irrefl _)
          have HZ0 : Hid (divErr ps nb vs = 0) := by have := HE.out; rw [divErr_end] at this; exact this.symm
          have HLST : Hid (ShrS wr (.slice (some ⟨g, 0, none⟩) l.length c) (shrL l.length (fun i => (i : Int)) R N)) := by
            have := Sl.of_own HS.out.out
            unfold ShrS
            rw [shrL_len]
            exact this
          have HRR := HRN.out
          rw [List.take_length] at HRR
          have HR2 := Lib.hid HRR
          clear HRR
          go_wp2_with fail
          go_ret2
          exact DivPost.ok (by rw [HRES.out, HZ0.out, if_pos rfl, ← HR2.out.1, ← HR2.out.2.1]) HLST.out HS.out.below
end Go.Proofs.YtfopmaeaclbknaaDoor.Pr
