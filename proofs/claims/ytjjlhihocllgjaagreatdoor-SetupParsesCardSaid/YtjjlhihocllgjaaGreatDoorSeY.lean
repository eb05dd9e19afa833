/- The reference's line. Printed by gen_seY.py. -/
import Derived.Test.YtjjlhihocllgjaaGreatDoorSeM
import Derived.Test.YtjjlhihocllgjaaGreatDoorSe9
namespace Go.Proofs.YtjjlhihocllgjaaGreatDoor.Se
open Go.ChangeShapes Go.WideShapes Go.ChangeAt Go.RowKit Gn Cat Lex Ros
set_option linter.unusedVariables false
set_option linter.unusedSimpArgs false
attribute [local go_sem] later_cell
/-- the four rows of a setup, of one's own -/
structure Rw (w : World) (base : Nat) (S : SetD) (A1 A2 A3 A4 : Option Addr) (c1 c2 c3 c4 : Nat) : Prop where
  o1 : w.ownsRow base 82 5 (.slice A1 S.ps.length c1) S.ps.length (S.ps.flatMap Prod.cells)
  o2 : w.ownsRow base 87 4 (.slice A2 S.bs.length c2) S.bs.length (S.bs.flatMap Bid.cells)
  o3 : w.ownsRow base 78 3 (.slice A3 S.cs.length c3) S.cs.length (S.cs.flatMap Cp.cells)
  o4 : w.ownsRow base 80 3 (.slice A4 S.ad.length c4) S.ad.length (S.ad.flatMap Asd.cells)
abbrev put4w (w : World) (g : Nat) (a b c d : Value) : World := (((w.setCell ⟨g, 0, none⟩ a).setCell ⟨g, 1, none⟩ b).setCell ⟨g, 2, none⟩ c).setCell ⟨g, 3, none⟩ d
theorem Rw.put4 {w : World} {base g : Nat} {S : SetD} {A1 A2 A3 A4 : Option Addr} {c1 c2 c3 c4 : Nat} {a b c d : Value} (h : Rw w base S A1 A2 A3 A4 c1 c2 c3 c4) (k : Blk w g 38 #[a, b, c, d]) (a2 b2 c2' d2 : Value) : Rw (put4w w g a2 b2 c2' d2) base S A1 A2 A3 A4 c1 c2 c3 c4 :=
  ⟨own_put4 h.o1 k (by decide), own_put4 h.o2 k (by decide), own_put4 h.o3 k (by decide), own_put4 h.o4 k (by decide)⟩
theorem Rw.keep {w w' : World} {base : Nat} {S : SetD} {A1 A2 A3 A4 : Option Addr} {c1 c2 c3 c4 : Nat} (h : Rw w base S A1 A2 A3 A4 c1 c2 c3 c4) (b : Below w.heap.size w w') : Rw w' base S A1 A2 A3 A4 c1 c2 c3 c4 := ⟨own_below h.o1 b, own_below h.o2 b, own_below h.o3 b, own_below h.o4 b⟩
theorem Rdp.rw {w : World} {base gs : Nat} {S : SetD} {A1 A2 A3 A4 : Option Addr} {c1 c2 c3 c4 : Nat} (h : Rdp w base gs S A1 A2 A3 A4 c1 c2 c3 c4) : Rw w base S A1 A2 A3 A4 c1 c2 c3 c4 := ⟨h.o1, h.o2, h.o3, h.o4⟩
/-- what a world keeps of an older one: rows of strings, setups -/
structure Kp (w w' : World) : Prop where
  s : ∀ wb v n xs, w.ownsRow wb 9 1 v n xs → w'.ownsRow wb 9 1 v n xs
  t : ∀ k cs, Blk w k 38 cs → Blk w' k 38 cs
theorem Kp.of_below {w w' : World} (b : Below w.heap.size w w') : Kp w w' := ⟨fun _ _ _ _ h => own_below h b, fun _ _ h => h.below' b⟩
theorem Kp.trans {w w1 w2 : World} (h : Kp w w1) (k : Kp w1 w2) : Kp w w2 := ⟨fun a b c d e => k.s a b c d (h.s a b c d e), fun a b e => k.t a b (h.t a b e)⟩
theorem Kp.put4 {w wr : World} {g : Nat} {a b c d : Value} (h : Kp w wr) (k : Blk wr g 38 #[a, b, c, d]) (hg : w.heap.size ≤ g) (a2 b2 c2 d2 : Value) : Kp w (put4w wr g a2 b2 c2 d2) :=
  ⟨fun wb v n xs e => own_put4 (h.s wb v n xs e) k (by decide), fun q cs e => by
    have hn : q ≠ g := by have := e.lt; omega
    exact ((((h.t q cs e).far (p := ⟨g, 0, none⟩) hn _).far (p := ⟨g, 1, none⟩) hn _).far (p := ⟨g, 2, none⟩) hn _).far (p := ⟨g, 3, none⟩) hn _⟩
theorem Kp.put {w wr : World} {g i : Nat} {cs0 : Array Value} {u : Value} (h : Kp w wr) (k : Blk wr g 38 cs0) (hg : w.heap.size ≤ g) : Kp w (wr.setCell ⟨g, i, none⟩ u) :=
  ⟨fun wb v n xs e => own_put (h.s wb v n xs e) k (by decide), fun q cs e => (h.t q cs e).far (p := ⟨g, i, none⟩) (by have := e.lt; show q ≠ g; omega) _⟩
theorem Kp.grow {w W w2 : World} {base e s n : Nat} {v : Value} {xs : List Value} (h : Kp w W) (ho : W.ownsRow base e s v n xs) (h1 : 9 ≠ e) (h2 : e ≠ 38) (hgr : W.grownBy w2 v.ownBlock) : Kp w w2 :=
  ⟨fun wb v' n' xs' e' => own_grown (h.s wb v' n' xs' e') ho h1 hgr, fun q cs e' => (h.t q cs e').grown hgr (fun e => own_apart ho (h.t q cs e') h2 e.symm)⟩
def RLinePost (S : SetD) (ws : List ByteArray) (base : Nat) (w : World) (e : Ending) (w' : World) : Prop := ∃ (A1 A2 A3 A4 : Option Addr) (n1 n2 n3 n4 c1 c2 c3 c4 : Nat), e = .returned (.tuple #[.agg #[.slice A1 n1 c1, .slice A2 n2 c2, .slice A3 n3 c3, .slice A4 n4 c4], .int .i64 (lineE S ws)]) ∧ Below base w w' ∧ Kp w w' ∧ (lineE S ws = 0 → n1 = (stepW S ws).ps.length ∧ n2 = (stepW S ws).bs.length ∧ n3 = (stepW S ws).cs.length ∧ n4 = (stepW S ws).ad.length ∧ Rw w' base (stepW S ws) A1 A2 A3 A4 c1 c2 c3 c4)
theorem name_any : nameOk wAny = false := by decide +kernel
theorem after_app2 {wn W w2 : World} {base base9 wb e s n n9 nb : Nat} {v v9 vb : Value} {xs xs9 xsb : List Value} (bW : Below wn.heap.size wn W) (ho : wn.ownsRow base e s v n xs) (hb : wn.ownsRow wb 9 1 vb nb xsb) (hi : wn.ownsRow base9 2 1 v9 n9 xs9) (h1 : 9 ≠ e) (h2 : 2 ≠ e) (hgr : W.grownBy w2 v.ownBlock) : w2.ownsRow wb 9 1 vb nb xsb ∧ w2.ownsRow base9 2 1 v9 n9 xs9 :=
  ⟨own_grown (own_below hb bW) (own_below ho bW) h1 hgr, own_grown (own_below hi bW) (own_below ho bW) h2 hgr⟩

theorem lit_any (s : ByteArray) : eqB s wAny = (s.toList == [42]) := by
  show (s.toList == wAny.toList) = _
  rw [show wAny.toList = [42] by decide +kernel]
set_option maxHeartbeats 8000000 in
set_option maxRecDepth 100000 in
theorem rline_1 (S : SetD) (ws : List ByteArray) (base wb b c : Nat) (A1 A2 A3 A4 : Option Addr) (c1 c2x c3x c4x : Nat) (w : World) (h : Rw w base S A1 A2 A3 A4 c1 c2x c3x c4x) (hw : w.ownsRow wb 9 1 (.slice (some ⟨b, 0, none⟩) ws.length c) ws.length (ws.map Value.string)) (hbase : base ≤ w.heap.size) (h0 : 0 < ws.length) (hs : ∀ x ∈ ws, x.size ≤ 5000) (hl : S.ps.length ≤ 4500 ∧ S.bs.length ≤ 4500 ∧ S.cs.length ≤ 4500 ∧ S.ad.length ≤ 4500) (hok : ∀ p ∈ S.bs, nameOk p.name = true) (hll : ws.length ≤ 5000) (h1 : eqB (wd ws 0) wProd = true) : Calls Tryz.prog 56 #[.agg #[.slice A1 S.ps.length c1, .slice A2 S.bs.length c2x, .slice A3 S.cs.length c3x, .slice A4 S.ad.length c4x], .slice (some ⟨b, 0, none⟩) ws.length c] w (RLinePost S ws base w) := by
  have HL := Lib.hid hl
  have HROW := Lib.hid hw
  obtain ⟨w0, hw0⟩ : ∃ w0, w0 = wd ws 0 := ⟨_, rfl⟩
  rw [← hw0] at h1
  have HW0 : Hid (wd ws 0 = w0) := hw0.symm
  have hl5 : (ws.length : Int) ≤ 5000 := by omega
  have hl0 : (0 : Int) < (ws.length : Int) := by omega
  have hc0 : w.cell? ⟨b, 0, none⟩ = some (.string w0) := by
    have := hw.cellAt 0 (by omega)
    rw [this, hw0, List.getElem?_map, List.getElem?_eq_getElem h0]
    simp [wd, List.getD, h0]
  have hb : b < w.heap.size := (hw.lt b rfl).2
  have L1 := Lib.hid (line_1 (S := S) (ws := ws))
  have L2 := Lib.hid (line_2 (S := S) (ws := ws))
  have L3 := Lib.hid (line_3 (S := S) (ws := ws))
  have L4 := Lib.hid (line_4 (S := S) (ws := ws))
  obtain ⟨gs, hgs0⟩ : ∃ gs, gs = w.heap.size := ⟨_, rfl⟩
  have HGS := Lib.hid hgs0
  have hgs : Hid (w.heap.size ≤ gs) := by show _ ≤ _; omega
  have hz1 : (w.alloc (.cells #[.slice A1 S.ps.length c1, .slice A2 S.bs.length c2x, .slice A3 S.cs.length c3x, .slice A4 S.ad.length c4x] 38)).heap.size = w.heap.size + 1 := World.size_alloc _ _
  have KA : Hid (Blk ((w.alloc (.cells #[.slice A1 S.ps.length c1, .slice A2 S.bs.length c2x, .slice A3 S.cs.length c3x, .slice A4 S.ad.length c4x] 38)).alloc (.cells #[.slice A1 S.ps.length c1, .slice A2 S.bs.length c2x, .slice A3 S.cs.length c3x, .slice A4 S.ad.length c4x] 38)) (w.heap.size + 1) 38 #[.slice A1 S.ps.length c1, .slice A2 S.bs.length c2x, .slice A3 S.cs.length c3x, .slice A4 S.ad.length c4x]) := by
    have h := Blk.new (w.alloc (.cells #[.slice A1 S.ps.length c1, .slice A2 S.bs.length c2x, .slice A3 S.cs.length c3x, .slice A4 S.ad.length c4x] 38)) 38 #[.slice A1 S.ps.length c1, .slice A2 S.bs.length c2x, .slice A3 S.cs.length c3x, .slice A4 S.ad.length c4x]
    rw [hz1] at h
    exact h
  have BA := Lib.hid ((below_new w (.cells #[.slice A1 S.ps.length c1, .slice A2 S.bs.length c2x, .slice A3 S.cs.length c3x, .slice A4 S.ad.length c4x] 38)).alloc (below_new w (.cells #[.slice A1 S.ps.length c1, .slice A2 S.bs.length c2x, .slice A3 S.cs.length c3x, .slice A4 S.ad.length c4x] 38)).size (.cells #[.slice A1 S.ps.length c1, .slice A2 S.bs.length c2x, .slice A3 S.cs.length c3x, .slice A4 S.ad.length c4x] 38))
  obtain ⟨w1, hw1⟩ : ∃ w1, w1 = (w.alloc (.cells #[.slice A1 S.ps.length c1, .slice A2 S.bs.length c2x, .slice A3 S.cs.length c3x, .slice A4 S.ad.length c4x] 38)).alloc (.cells nil4 38) := ⟨_, rfl⟩
  have HW1 := Lib.hid hw1
  have D0 : Hid (Below w.heap.size w w1) := by show Below _ _ _; rw [hw1]; exact (below_new w (.cells #[.slice A1 S.ps.length c1, .slice A2 S.bs.length c2x, .slice A3 S.cs.length c3x, .slice A4 S.ad.length c4x] 38)).alloc (below_new w (.cells #[.slice A1 S.ps.length c1, .slice A2 S.bs.length c2x, .slice A3 S.cs.length c3x, .slice A4 S.ad.length c4x] 38)).size (.cells nil4 38)
  have K0 : Hid (Blk w1 (gs + 1) 38 nil4) := by
    have h := Blk.new (w.alloc (.cells #[.slice A1 S.ps.length c1, .slice A2 S.bs.length c2x, .slice A3 S.cs.length c3x, .slice A4 S.ad.length c4x] 38)) 38 nil4
    rw [hz1] at h
    show Blk _ _ _ _
    rw [hw1, hgs0]
    exact h
  have R0 : Hid (Rdp w1 base gs S A1 A2 A3 A4 c1 c2x c3x c4x) := by
    have h2 := h.keep D0.out
    refine ⟨?_, h2.o1, h2.o2, h2.o3, h2.o4, by omega⟩
    rw [hw1, hgs0]
    exact (Blk.new w 38 #[.slice A1 S.ps.length c1, .slice A2 S.bs.length c2x, .slice A3 S.cs.length c3x, .slice A4 S.ad.length c4x]).alloc _
  clear h hw hl hll hgs0 hw1 hz1
  obtain ⟨j0, hj0, hj1, hj2, hj3⟩ := info_parts prod_info
  have HWD : Hid (widthW w0 = 6) := by show _ = _; unfold widthW; rw [h1]; rfl
  have HH := Lib.hid (show eqB w0 wProd = true from h1)
  have h1l := h1
  rw [lit_p] at h1l
  clear h1
  by_cases hlen : ws.length = 6
  case neg =>
    have t2 : ((ws.length : Int) != 6) = true := by simpa using (show ¬ (ws.length : Int) = 6 by omega)
    have HV := Lib.hid (L2.out (by rw [HW0.out, HWD.out]; decide) (by rw [HW0.out, HWD.out]; exact hlen))
    clear HROW L1 L2 L3 L4 hlen hw0
    go_enter Tryz.func56, Tryz.ntmps56
    go_wp2_with fail
    exact bodyPost_ret (v := .tuple #[.agg #[.slice A1 S.ps.length c1, .slice A2 S.bs.length c2x, .slice A3 S.cs.length c3x, .slice A4 S.ad.length c4x], .int .i64 2]) (results_blk_tmp rfl rfl KA.out Tryz.underlying38 rfl (by kernel_rfl) rfl) rfl ⟨_, _, _, _, _, _, _, _, _, _, _, _, by rw [HV.out]; first | done | rfl, BA.out.mono hbase, Kp.of_below BA.out, fun e => absurd (HV.out.symm.trans e) (by decide)⟩
  obtain ⟨a0, a1, a2, a3, a4, a5, rfl⟩ : ∃ a0 a1 a2 a3 a4 a5 : ByteArray, ws = [a0, a1, a2, a3, a4, a5] := len6 hlen
  clear hlen KA BA
  obtain rfl : w0 = a0 := hw0
  have L3 := Lib.hid (fun h => L3.out (by rw [HW0.out, HWD.out]; decide) (by rw [HW0.out, HWD.out]; rfl) h)
  have L4 := Lib.hid (fun h => L4.out (by rw [HW0.out, HWD.out]; decide) (by rw [HW0.out, HWD.out]; rfl) h)
  have HCW : Hid (∀ W, Kp w W → W.cell? ⟨b, 0, none⟩ = some (.string w0) ∧ W.cell? ⟨b, 1, none⟩ = some (.string a1) ∧ b < W.heap.size) := fun W kp => by
    have h := kp.s _ _ _ _ HROW.out
    exact ⟨h.cellAt 0 (by simp), h.cellAt 1 (by simp), (h.lt b rfl).2⟩
  have ha1 : Hid (a1.size ≤ 5000) := hs a1 (by simp)
  have CNU : Hid (∀ W (bw : Below w.heap.size w W), Calls Tryz.prog 113 #[.slice (some ⟨b, 0, none⟩) 6 c, .int .i64 2] W (RNumsPost [a2, a3, a4, a5] W)) := by
    intro W bw
    exact rnumbers_any [w0, a1, a2, a3, a4, a5] 2 (.slice (some ⟨b, 0, none⟩) 6 c) W (Sl.of_own (own_below HROW.out bw)) (by simp) (by simp) hs
  have hc := HCW.out _ ⟨fun _ _ _ _ h => h, fun _ _ h => h⟩
  change Calls _ _ #[_, .slice (some ⟨b, 0, none⟩) 6 c] _ _
  clear L1 L2
  go_enter Tryz.func56, Tryz.ntmps56
  go_wp2_with fail
  rw [← HW1.out, ← HGS.out]
  have hc1 := HCW.out _ (Kp.of_below D0.out)
  clear hc HW1 HGS
  refine (isName8_any a1 _ (Nat.le_trans ha1.out (by decide))).mono ?_
  rintro e w9 ⟨rfl, dd⟩
  have R1 := Lib.hid (R0.out.keep dd)
  have KR := Lib.hid (K0.out.below' dd)
  have B := Lib.hid (chain0 D0.out dd)
  clear dd R0 K0 D0 hc1
  have hc1 := HCW.out _ (Kp.of_below B.out)
  have gk := R1.out.k.c4
  have gl := R1.out.k.lt
  have kr := KR.out.c4
  have krl := KR.out.lt
  have HNE : Hid (nameE S w0 a1 = if nameOk a1 then 0 else 5) := by show _ = _; unfold nameE; rw [if_pos HH.out]
  cases hn : nameOk a1 with
  | false =>
    rw [hn] at HNE
    have HV : Hid (lineE S [w0, a1, a2, a3, a4, a5] = 5) := (L3.out (show nameE S w0 a1 ≠ 0 by rw [HNE.out]; decide)).trans HNE.out
    have HQ : Hid ((5 : Int) ≠ 0) := by show (5 : Int) ≠ 0; decide
    clear hn
    go_wp2_with fail
    exact bodyPost_ret (v := .tuple #[.agg #[.slice A1 S.ps.length c1, .slice A2 S.bs.length c2x, .slice A3 S.cs.length c3x, .slice A4 S.ad.length c4x], .int .i64 5]) (results_blk_tmp rfl rfl (put4b KR.out) Tryz.underlying38 rfl (by kernel_rfl) rfl) rfl ⟨_, _, _, _, _, _, _, _, _, _, _, _, by rw [HV.out]; first | done | rfl, below4b (B.out.mono hbase) (by have := hgs.out; omega) _ _ _ _, (Kp.of_below B.out).put4 KR.out (by have := hgs.out; omega) _ _ _ _, fun e => absurd (HV.out.symm.trans e) HQ.out⟩
  | true =>
  rw [hn] at HNE
  have HN0 : Hid (nameE S w0 a1 = 0) := HNE.out
  clear hn HNE
  go_wp2_with fail
  have HV4 := Lib.hid (L4.out HN0.out)
  try clear HN0 L3
  refine (CNU.out _ B.out).mono ?_
  rintro e wn ⟨A6, n6, c6, rfl, HNI0, dd⟩
  have HNI := Lib.hid HNI0
  have R2 := Lib.hid (R1.out.keep dd)
  have KR2 := Lib.hid (KR.out.below' dd)
  have B2 := Lib.hid (chain0 B.out dd)
  have hc9 := HCW.out _ (Kp.of_below B2.out)
  clear dd HNI0 R1 KR B
  try clear gk gl kr krl hc1
  try clear hc2
  have gk := R2.out.k.c4
  have gl := R2.out.k.lt
  have kr := KR2.out.c4
  have krl := KR2.out.lt
  by_cases hnz : numsE [a2, a3, a4, a5] = 0
  case neg =>
    have t6 : (numsE [a2, a3, a4, a5] != 0) = true := by simpa using hnz
    have HQ : Hid (numsE [a2, a3, a4, a5] ≠ 0) := hnz
    have HV := HV4
    have KR := KR2
    have B := B2
    clear hnz
    go_wp2_with fail
    exact bodyPost_ret (v := .tuple #[.agg #[.slice A1 S.ps.length c1, .slice A2 S.bs.length c2x, .slice A3 S.cs.length c3x, .slice A4 S.ad.length c4x], .int .i64 (numsE [a2, a3, a4, a5])]) (results_blk_tmp rfl rfl (put4b KR.out) Tryz.underlying38 rfl (by kernel_rfl) rfl) rfl ⟨_, _, _, _, _, _, _, _, _, _, _, _, by rw [HV.out]; first | done | rfl, below4b (B.out.mono hbase) (by have := hgs.out; omega) _ _ _ _, (Kp.of_below B.out).put4 KR.out (by have := hgs.out; omega) _ _ _ _, fun e => absurd (HV.out.symm.trans e) HQ.out⟩
  have t6 : (numsE [a2, a3, a4, a5] != 0) = false := by rw [hnz]; rfl
  obtain ⟨hn6, hoi⟩ := HNI.out hnz
  have HZ : Hid (lineE S [w0, a1, a2, a3, a4, a5] = 0) := HV4.out.trans hnz
  clear hnz HNI
  obtain rfl : n6 = 4 := hn6
  obtain ⟨g6, c6x, e6⟩ := own_pos hoi (by decide)
  injection e6 with e61 e62 e63
  subst e61 e63
  have HOI := Lib.hid hoi
  have n0 : wn.cell? ⟨g6, 0, none⟩ = some (.int .i64 (numV a2)) := hoi.cellAt 0 (by decide)
  have n1 : wn.cell? ⟨g6, 1, none⟩ = some (.int .i64 (numV a3)) := hoi.cellAt 1 (by decide)
  have n2 : wn.cell? ⟨g6, 2, none⟩ = some (.int .i64 (numV a4)) := hoi.cellAt 2 (by decide)
  have n3 : wn.cell? ⟨g6, 3, none⟩ = some (.int .i64 (numV a5)) := hoi.cellAt 3 (by decide)
  have hg6 := (hoi.lt g6 rfl).2
  have HWB : Hid (wn.ownsRow wb 9 1 (.slice (some ⟨b, 0, none⟩) 6 c) 6 ([w0, a1, a2, a3, a4, a5].map Value.string)) := own_below HROW.out B2.out
  have hgi : gs ≠ g6 := fun e => own_apart HOI.out R2.out.k (by decide) (by rw [e]; rfl)
  have hgb : gs ≠ b := fun e => own_apart HWB.out R2.out.k (by decide) (by rw [e]; rfl)
  clear hoi
  obtain ⟨y0, hy0_⟩ : ∃ y, y = numV a2 := ⟨_, rfl⟩
  rw [← hy0_] at n0
  have HY0 := Lib.hid hy0_
  clear hy0_
  obtain ⟨y1, hy1_⟩ : ∃ y, y = numV a3 := ⟨_, rfl⟩
  rw [← hy1_] at n1
  have HY1 := Lib.hid hy1_
  clear hy1_
  obtain ⟨y2, hy2_⟩ : ∃ y, y = numV a4 := ⟨_, rfl⟩
  rw [← hy2_] at n2
  have HY2 := Lib.hid hy2_
  clear hy2_
  obtain ⟨y3, hy3_⟩ : ∃ y, y = numV a5 := ⟨_, rfl⟩
  rw [← hy3_] at n3
  have HY3 := Lib.hid hy3_
  clear hy3_
  have HB9 := Lib.hid hbase
  go_wp2_with fail
  have HKP : Hid (∀ W : World, W.ownsRow wb 9 1 (.slice (some ⟨b, 0, none⟩) 6 c) 6 ([w0, a1, a2, a3, a4, a5].map Value.string) → W.ownsRow w9.heap.size 2 1 (.slice (some ⟨g6, 0, none⟩) 4 c6) 4 (intsC ([a2, a3, a4, a5].map numV)) → W.cell? ⟨b, 1, none⟩ = some (.string a1) ∧ W.cell? ⟨g6, 0, none⟩ = some (.int .i64 y0) ∧ W.cell? ⟨g6, 1, none⟩ = some (.int .i64 y1) ∧ W.cell? ⟨g6, 2, none⟩ = some (.int .i64 y2) ∧ W.cell? ⟨g6, 3, none⟩ = some (.int .i64 y3)) := fun W k1 k2 => ⟨k1.cellAt 1 (by decide), by rw [HY0.out]; exact k2.cellAt 0 (by decide), by rw [HY1.out]; exact k2.cellAt 1 (by decide), by rw [HY2.out]; exact k2.cellAt 2 (by decide), by rw [HY3.out]; exact k2.cellAt 3 (by decide)⟩
  refine wp_region_held_drew (S := fun W => W.cell? ⟨b, 1, none⟩ = some (.string a1) ∧ W.cell? ⟨g6, 0, none⟩ = some (.int .i64 y0) ∧ W.cell? ⟨g6, 1, none⟩ = some (.int .i64 y1) ∧ W.cell? ⟨g6, 2, none⟩ = some (.int .i64 y2) ∧ W.cell? ⟨g6, 3, none⟩ = some (.int .i64 y3)) (by kernel_rfl) ?_ (fun hHeld => ?_)
  · (try dsimp only)
    first | done | go_keep
  refine wpAnyH_take (i := 0) (v := ?v0_1001) rfl (by kernel_rfl) (by kernel_rfl) (by kernel_rfl) (fun _ _ _ h => h) (Or.inl ⟨by rfl, ?h0_1001⟩) (by assumption) ?r0_1001
  case h0_1001 => intro w hSw; (try dsimp only at hSw); go_simp; try with_reducible rfl
  try simp only [Act.put, List.setIfInBounds_toArray, List.set_cons_zero, List.set_cons_succ]
  refine wpAnyH_take (i := 2) (v := ?v2_1002) rfl (by kernel_rfl) (by kernel_rfl) (by kernel_rfl) (fun _ _ _ h => h) (Or.inl ⟨by rfl, ?h2_1002⟩) (by assumption) ?r2_1002
  case h2_1002 => intro w hSw; (try dsimp only at hSw); go_simp; try with_reducible rfl
  try simp only [Act.put, List.setIfInBounds_toArray, List.set_cons_zero, List.set_cons_succ]
  refine wpAnyH_take (i := 3) (v := ?v3_1003) rfl (by kernel_rfl) (by kernel_rfl) (by kernel_rfl) (fun _ _ _ h => h) (Or.inl ⟨by rfl, ?h3_1003⟩) (by assumption) ?r3_1003
  case h3_1003 => intro w hSw; (try dsimp only at hSw); go_simp; try with_reducible rfl
  try simp only [Act.put, List.setIfInBounds_toArray, List.set_cons_zero, List.set_cons_succ]
  refine wpAnyH_take (i := 4) (v := ?v4_1004) rfl (by kernel_rfl) (by kernel_rfl) (by kernel_rfl) (fun _ _ _ h => h) (Or.inl ⟨by rfl, ?h4_1004⟩) (by assumption) ?r4_1004
  case h4_1004 => intro w hSw; (try dsimp only at hSw); go_simp; try with_reducible rfl
  try simp only [Act.put, List.setIfInBounds_toArray, List.set_cons_zero, List.set_cons_succ]
  refine wpAnyH_take (i := 5) (v := ?v5_1005) rfl (by kernel_rfl) (by kernel_rfl) (by kernel_rfl) (fun _ _ _ h => h) (Or.inl ⟨by rfl, ?h5_1005⟩) (by assumption) ?r5_1005
  case h5_1005 => intro w hSw; (try dsimp only at hSw); go_simp; try with_reducible rfl
  try simp only [Act.put, List.setIfInBounds_toArray, List.set_cons_zero, List.set_cons_succ]
  refine wpAnyH_take (i := 6) (v := ?v6_1006) rfl (by kernel_rfl) (by kernel_rfl) (by kernel_rfl) (fun _ _ _ h => h) (Or.inl ⟨by rfl, ?h6_1006⟩) (by assumption) ?r6_1006
  case h6_1006 => intro w hSw; (try dsimp only at hSw); go_simp; try with_reducible rfl
  try simp only [Act.put, List.setIfInBounds_toArray, List.set_cons_zero, List.set_cons_succ]
  refine wpAnyH_take (i := 7) (v := ?v7_1007) rfl (by kernel_rfl) (by kernel_rfl) (by kernel_rfl) (fun _ _ _ h => h) (Or.inl ⟨by rfl, ?h7_1007⟩) (by assumption) ?r7_1007
  case h7_1007 => intro w hSw; (try dsimp only at hSw); go_simp; try with_reducible rfl
  try simp only [Act.put, List.setIfInBounds_toArray, List.set_cons_zero, List.set_cons_succ]
  refine wpAnyH_take (i := 8) (v := ?v8_1008) rfl (by kernel_rfl) (by kernel_rfl) (by kernel_rfl) (fun _ _ _ h => h) (Or.inl ⟨by rfl, ?h8_1008⟩) (by assumption) ?r8_1008
  case h8_1008 => intro w hSw; (try dsimp only at hSw); go_simp; try with_reducible rfl
  try simp only [Act.put, List.setIfInBounds_toArray, List.set_cons_zero, List.set_cons_succ]
  refine wpAnyH_take (i := 9) (v := ?v9_1009) rfl (by kernel_rfl) (by kernel_rfl) (by kernel_rfl) (fun _ _ _ h => h) (Or.inl ⟨by rfl, ?h9_1009⟩) (by assumption) ?r9_1009
  case h9_1009 => intro w hSw; (try dsimp only at hSw); go_simp; try with_reducible rfl
  try simp only [Act.put, List.setIfInBounds_toArray, List.set_cons_zero, List.set_cons_succ]
  refine wpAnyH_take (i := 10) (v := ?v10_1010) rfl (by kernel_rfl) (by kernel_rfl) (by kernel_rfl) (fun _ _ _ h => h) (Or.inl ⟨by rfl, ?h10_1010⟩) (by assumption) ?r10_1010
  case h10_1010 => intro w hSw; (try dsimp only at hSw); go_simp; try with_reducible rfl
  try simp only [Act.put, List.setIfInBounds_toArray, List.set_cons_zero, List.set_cons_succ]
  refine wpAnyH_take (i := 11) (v := ?v11_1011) rfl (by kernel_rfl) (by kernel_rfl) (by kernel_rfl) (fun _ _ _ h => h) (Or.inl ⟨by rfl, ?h11_1011⟩) (by assumption) ?r11_1011
  case h11_1011 => intro w hSw; (try dsimp only at hSw); go_simp; try with_reducible rfl
  try simp only [Act.put, List.setIfInBounds_toArray, List.set_cons_zero, List.set_cons_succ]
  refine wpAnyH_take (i := 12) (v := ?v12_1012) rfl (by kernel_rfl) (by kernel_rfl) (by kernel_rfl) (fun _ _ _ h => h) (Or.inl ⟨by rfl, ?h12_1012⟩) (by assumption) ?r12_1012
  case h12_1012 => intro w hSw; (try dsimp only at hSw); go_simp; try with_reducible rfl
  try simp only [Act.put, List.setIfInBounds_toArray, List.set_cons_zero, List.set_cons_succ]
  refine wpAnyH_take (i := 13) (v := ?v13_1013) rfl (by kernel_rfl) (by kernel_rfl) (by kernel_rfl) (fun _ _ _ h => h) (Or.inl ⟨by rfl, ?h13_1013⟩) (by assumption) ?r13_1013
  case h13_1013 => intro w hSw; (try dsimp only at hSw); go_simp; try with_reducible rfl
  try simp only [Act.put, List.setIfInBounds_toArray, List.set_cons_zero, List.set_cons_succ]
  refine wpAnyH_take (i := 14) (v := ?v14_1014) rfl (by kernel_rfl) (by kernel_rfl) (by kernel_rfl) (fun _ _ _ h => h) (Or.inl ⟨by rfl, ?h14_1014⟩) (by assumption) ?r14_1014
  case h14_1014 => intro w hSw; (try dsimp only at hSw); go_simp; try with_reducible rfl
  try simp only [Act.put, List.setIfInBounds_toArray, List.set_cons_zero, List.set_cons_succ]
  refine wpAnyH_take (i := 15) (v := ?v15_1015) rfl (by kernel_rfl) (by kernel_rfl) (by kernel_rfl) (fun _ _ _ h => h) (Or.inl ⟨by rfl, ?h15_1015⟩) (by assumption) ?r15_1015
  case h15_1015 => intro w hSw; (try dsimp only at hSw); go_simp; try with_reducible rfl
  try simp only [Act.put, List.setIfInBounds_toArray, List.set_cons_zero, List.set_cons_succ]
  refine wpAnyH_take (i := 16) (v := ?v16_1016) rfl (by kernel_rfl) (by kernel_rfl) (by kernel_rfl) (fun _ _ _ h => h) (Or.inl ⟨by rfl, ?h16_1016⟩) (by assumption) ?r16_1016
  case h16_1016 => intro w hSw; (try dsimp only at hSw); go_simp; try with_reducible rfl
  try simp only [Act.put, List.setIfInBounds_toArray, List.set_cons_zero, List.set_cons_succ]
  refine wpAnyH_take (i := 17) (v := ?v17_1017) rfl (by kernel_rfl) (by kernel_rfl) (by kernel_rfl) (fun _ _ _ h => h) (Or.inl ⟨by rfl, ?h17_1017⟩) (by assumption) ?r17_1017
  case h17_1017 => intro w hSw; (try dsimp only at hSw); go_simp; try with_reducible rfl
  try simp only [Act.put, List.setIfInBounds_toArray, List.set_cons_zero, List.set_cons_succ]
  refine wpAnyH_ready (rs := [1, 18]) (by kernel_rfl) (by simp) ?_
  refine AllReadyH.cons (o := ?o1_1018) ?ho1_1018 (fun KK hKK => ?st1_1018) ?mo1_1018
  case ho1_1018 => (simp only [List.getElem?_toArray, List.getElem?_cons_succ, List.getElem?_cons_zero]; rfl)
  case st1_1018 =>
    go_simp
    refine hKK.out _ _ ?_ (fun hHeld2 => ?_)
    · (try dsimp only)
      first | with_reducible exact HA9 | go_keep
    clear hKK KK hHeld
    have hHeld := hHeld2
    clear hHeld2
    try simp only [Act.put, List.setIfInBounds_toArray, List.set_cons_zero, List.set_cons_succ]
    refine wpAnyH_ready (rs := [18]) (by kernel_rfl) (by simp) ?_
    refine AllReadyH.cons (o := ?o18_1019) ?ho18_1019 (fun KK hKK => ?st18_1019) ?mo18_1019
    case ho18_1019 => (simp only [List.getElem?_toArray, List.getElem?_cons_succ, List.getElem?_cons_zero]; rfl)
    case st18_1019 =>
      go_simp
      refine hKK.out _ _ ?_ (fun hHeld2 => ?_)
      · (try dsimp only)
        first | with_reducible exact HA9 | go_keep
      clear hKK KK hHeld
      have hHeld := hHeld2
      clear hHeld2
      try simp only [Act.put, List.setIfInBounds_toArray, List.set_cons_zero, List.set_cons_succ]
      refine wpAnyH_ready (rs := [19]) (by kernel_rfl) (by simp) ?_
      refine AllReadyH.cons (o := ?o19_1020) ?ho19_1020 (fun KK hKK => ?st19_1020) ?mo19_1020
      case ho19_1020 => (simp only [List.getElem?_toArray, List.getElem?_cons_succ, List.getElem?_cons_zero]; rfl)
      case st19_1020 =>
        (refine step_append_own _ rfl (.tmp 117) (.tmp 134) _ rfl base 82 j0 _ 5 48 Tryz.underlying22 hj0 hj1 hj2 hj3 rfl (by decide) (.slice A1 S.ps.length c1) S.ps.length (S.ps.flatMap Prod.cells) rfl (by first | exact own_below (R2.out.o1.alloc _) ((Below.refl _ _).drew) | exact (own_below R2.out.o1 ((Below.refl _ _).drew)).alloc _ | exact R2.out.o1.alloc _) ⟨wn.heap.size, 0, none⟩ 1 1 [.string a1, .int .i64 y0, .int .i64 y1, .int .i64 y2, .int .i64 y3] rfl rfl (cells_new wn _ _) (by intro u hu; simp at hu; (first | (rcases hu with rfl | rfl | rfl <;> rfl) | (rcases hu with rfl | rfl | rfl | rfl <;> rfl) | (rcases hu with rfl | rfl | rfl | rfl | rfl <;> rfl))) (by have := HL.out; unfold maxLen; omega) (by have := HL.out; omega) (by have := B2.out.size; have := HB9.out; simp; omega) ?_; intro v' w2 hown hgr _; obtain ⟨A5, c5, rfl⟩ := Gn.own_form hown; have O5 := Lib.hid hown; have G5 := Lib.hid hgr; have BW := Lib.hid (bw_of (wn := wn) hgr (by first | exact (below_new wn _).drew | exact (below_of_drew wn _) | exact below_new wn _)); have RW := Lib.hid (R2.out.keep BW.out); have KRW := Lib.hid (KR2.out.below' BW.out); have KK := after_app2 BW.out R2.out.o1 HWB.out HOI.out (by decide) (by decide) hgr; have HA9 := HKP.out w2 KK.1 KK.2; have KP5 := Lib.hid ((Kp.of_below (chain0 B2.out BW.out)).grow RW.out.o1 (by decide) (by decide) hgr); have KG := Lib.hid (RW.out.k.grown hgr (fun e => own_apart RW.out.o1 RW.out.k (by decide) e.symm)); have KRG := Lib.hid (KRW.out.grown hgr (fun e => own_apart RW.out.o1 KRW.out (by decide) e.symm)); have hg2 := KG.out.c4; have hgl2 := KG.out.lt; have B5 := Lib.hid (((chain0 B2.out BW.out).mono HB9.out).grown hgr (by have := (chain0 B2.out BW.out).size; have := HB9.out; omega) (fun q hq => (R2.out.o1.lt q hq).1)); clear hown hgr KK)
        refine hKK.out _ _ ?_ (fun hHeld2 => ?_)
        · (try dsimp only)
          first | with_reducible exact HA9 | go_keep
        clear hKK KK hHeld
        have hHeld := hHeld2
        clear hHeld2
        try simp only [Act.put, List.setIfInBounds_toArray, List.set_cons_zero, List.set_cons_succ]
        refine wpAnyH_take (i := 20) (v := ?v20_1021) rfl (by kernel_rfl) (by kernel_rfl) (by kernel_rfl) (fun _ _ _ h => h) (Or.inl ⟨by rfl, ?h20_1021⟩) (by assumption) ?r20_1021
        case h20_1021 => intro w hSw; (try dsimp only at hSw); go_simp; try with_reducible rfl
        try simp only [Act.put, List.setIfInBounds_toArray, List.set_cons_zero, List.set_cons_succ]
        refine wpAnyH_ready (rs := [21]) (by kernel_rfl) (by simp) ?_
        refine AllReadyH.cons (o := ?o21_1022) ?ho21_1022 (fun KK hKK => ?st21_1022) ?mo21_1022
        case ho21_1022 => (simp only [List.getElem?_toArray, List.getElem?_cons_succ, List.getElem?_cons_zero]; rfl)
        case st21_1022 =>
          go_simp
          refine hKK.out _ _ ?_ (fun hHeld2 => ?_)
          · (try dsimp only)
            first | with_reducible exact HA9 | go_keep
          clear hKK KK hHeld
          have hHeld := hHeld2
          clear hHeld2
          try simp only [Act.put, List.setIfInBounds_toArray, List.set_cons_zero, List.set_cons_succ]
          refine wpAnyH_done (by kernel_rfl) ?_ _
          have RD := rd_1 RW.out ⟨a1, y0, y1, y2, y3⟩ G5.out O5.out
          have HST : Hid (stepW S [w0, a1, a2, a3, a4, a5] = { S with ps := S.ps ++ [⟨a1, y0, y1, y2, y3⟩] }) := by show _ = _; rw [stepW_1 HH.out, ← HY0.out, ← HY1.out, ← HY2.out, ← HY3.out]
          rw [← HST.out] at RD
          have B6 := Lib.hid (B5.out.setCell (p := ⟨gs, 0, none⟩) (show base ≤ gs from R2.out.le) (.slice A5 (S.ps.length + 1) c5))
          have KR6 := Lib.hid (KRG.out.far (p := ⟨gs, 0, none⟩) (show gs + 1 ≠ gs by omega) (.slice A5 (S.ps.length + 1) c5))
          have KP6 := Lib.hid (KP5.out.put (i := 0) (u := .slice A5 (S.ps.length + 1) c5) KG.out hgs.out)
          have R6 := Lib.hid RD
          clear RD HA9 hHeld hg2 hgl2 gk gl kr krl hc9 n0 n1 n2 n3 B5 KG KRG KP5 O5 G5 RW KRW BW HST
          generalize w2.setCell ⟨gs, 0, none⟩ _ = w6 at *
          have RP : Hid (∃ S2, S2 = stepW S [w0, a1, a2, a3, a4, a5]) := ⟨_, rfl⟩
          obtain ⟨S2, hS2⟩ := RP.out
          rw [← hS2] at R6
          have HS2 := Lib.hid hS2
          clear hS2 RP
          have gk := R6.out.k.c4
          have gl := R6.out.k.lt
          have kr := KR6.out.c4
          have krl := KR6.out.lt
          go_wp2_with fail
          exact bodyPost_ret (v := .tuple #[.agg #[.slice A5 S2.ps.length c5, .slice A2 S2.bs.length c2x, .slice A3 S2.cs.length c3x, .slice A4 S2.ad.length c4x], .int .i64 0]) (results_blk_tmp rfl rfl (put4b KR6.out) Tryz.underlying38 rfl (by kernel_rfl) rfl) rfl ⟨_, _, _, _, _, _, _, _, _, _, _, _, by rw [HZ.out]; first | done | rfl, below4b B6.out (by have := R2.out.le; omega) _ _ _ _, KP6.out.put4 KR6.out (by have := hgs.out; omega) _ _ _ _, fun _ => by rw [← HS2.out]; exact ⟨rfl, rfl, rfl, rfl, R6.out.rw.put4 KR6.out _ _ _ _⟩⟩
        case mo21_1022 =>
          exact AllReadyH.nil
      case mo19_1020 =>
        exact AllReadyH.nil
    case mo18_1019 =>
      exact AllReadyH.nil
  case mo1_1018 =>
    refine AllReadyH.cons (o := ?o18_1023) ?ho18_1023 (fun KK hKK => ?st18_1023) ?mo18_1023
    case ho18_1023 => (simp only [List.getElem?_toArray, List.getElem?_cons_succ, List.getElem?_cons_zero]; rfl)
    case st18_1023 =>
      go_simp
      refine hKK.out _ _ ?_ (fun hHeld2 => ?_)
      · (try dsimp only)
        first | with_reducible exact HA9 | go_keep
      clear hKK KK hHeld
      have hHeld := hHeld2
      clear hHeld2
      try simp only [Act.put, List.setIfInBounds_toArray, List.set_cons_zero, List.set_cons_succ]
      refine wpAnyH_ready (rs := [1]) (by kernel_rfl) (by simp) ?_
      refine AllReadyH.cons (o := ?o1_1024) ?ho1_1024 (fun KK hKK => ?st1_1024) ?mo1_1024
      case ho1_1024 => (simp only [List.getElem?_toArray, List.getElem?_cons_succ, List.getElem?_cons_zero]; rfl)
      case st1_1024 =>
        go_simp
        refine hKK.out _ _ ?_ (fun hHeld2 => ?_)
        · (try dsimp only)
          first | with_reducible exact HA9 | go_keep
        clear hKK KK hHeld
        have hHeld := hHeld2
        clear hHeld2
        try simp only [Act.put, List.setIfInBounds_toArray, List.set_cons_zero, List.set_cons_succ]
        refine wpAnyH_ready (rs := [19]) (by kernel_rfl) (by simp) ?_
        refine AllReadyH.cons (o := ?o19_1025) ?ho19_1025 (fun KK hKK => ?st19_1025) ?mo19_1025
        case ho19_1025 => (simp only [List.getElem?_toArray, List.getElem?_cons_succ, List.getElem?_cons_zero]; rfl)
        case st19_1025 =>
          (refine step_append_own _ rfl (.tmp 117) (.tmp 134) _ rfl base 82 j0 _ 5 48 Tryz.underlying22 hj0 hj1 hj2 hj3 rfl (by decide) (.slice A1 S.ps.length c1) S.ps.length (S.ps.flatMap Prod.cells) rfl (by first | exact own_below (R2.out.o1.alloc _) ((Below.refl _ _).drew) | exact (own_below R2.out.o1 ((Below.refl _ _).drew)).alloc _ | exact R2.out.o1.alloc _) ⟨wn.heap.size, 0, none⟩ 1 1 [.string a1, .int .i64 y0, .int .i64 y1, .int .i64 y2, .int .i64 y3] rfl rfl (cells_new wn _ _) (by intro u hu; simp at hu; (first | (rcases hu with rfl | rfl | rfl <;> rfl) | (rcases hu with rfl | rfl | rfl | rfl <;> rfl) | (rcases hu with rfl | rfl | rfl | rfl | rfl <;> rfl))) (by have := HL.out; unfold maxLen; omega) (by have := HL.out; omega) (by have := B2.out.size; have := HB9.out; simp; omega) ?_; intro v' w2 hown hgr _; obtain ⟨A5, c5, rfl⟩ := Gn.own_form hown; have O5 := Lib.hid hown; have G5 := Lib.hid hgr; have BW := Lib.hid (bw_of (wn := wn) hgr (by first | exact (below_new wn _).drew | exact (below_of_drew wn _) | exact below_new wn _)); have RW := Lib.hid (R2.out.keep BW.out); have KRW := Lib.hid (KR2.out.below' BW.out); have KK := after_app2 BW.out R2.out.o1 HWB.out HOI.out (by decide) (by decide) hgr; have HA9 := HKP.out w2 KK.1 KK.2; have KP5 := Lib.hid ((Kp.of_below (chain0 B2.out BW.out)).grow RW.out.o1 (by decide) (by decide) hgr); have KG := Lib.hid (RW.out.k.grown hgr (fun e => own_apart RW.out.o1 RW.out.k (by decide) e.symm)); have KRG := Lib.hid (KRW.out.grown hgr (fun e => own_apart RW.out.o1 KRW.out (by decide) e.symm)); have hg2 := KG.out.c4; have hgl2 := KG.out.lt; have B5 := Lib.hid (((chain0 B2.out BW.out).mono HB9.out).grown hgr (by have := (chain0 B2.out BW.out).size; have := HB9.out; omega) (fun q hq => (R2.out.o1.lt q hq).1)); clear hown hgr KK)
          refine hKK.out _ _ ?_ (fun hHeld2 => ?_)
          · (try dsimp only)
            first | with_reducible exact HA9 | go_keep
          clear hKK KK hHeld
          have hHeld := hHeld2
          clear hHeld2
          try simp only [Act.put, List.setIfInBounds_toArray, List.set_cons_zero, List.set_cons_succ]
          refine wpAnyH_take (i := 20) (v := ?v20_1026) rfl (by kernel_rfl) (by kernel_rfl) (by kernel_rfl) (fun _ _ _ h => h) (Or.inl ⟨by rfl, ?h20_1026⟩) (by assumption) ?r20_1026
          case h20_1026 => intro w hSw; (try dsimp only at hSw); go_simp; try with_reducible rfl
          try simp only [Act.put, List.setIfInBounds_toArray, List.set_cons_zero, List.set_cons_succ]
          refine wpAnyH_ready (rs := [21]) (by kernel_rfl) (by simp) ?_
          refine AllReadyH.cons (o := ?o21_1027) ?ho21_1027 (fun KK hKK => ?st21_1027) ?mo21_1027
          case ho21_1027 => (simp only [List.getElem?_toArray, List.getElem?_cons_succ, List.getElem?_cons_zero]; rfl)
          case st21_1027 =>
            go_simp
            refine hKK.out _ _ ?_ (fun hHeld2 => ?_)
            · (try dsimp only)
              first | with_reducible exact HA9 | go_keep
            clear hKK KK hHeld
            have hHeld := hHeld2
            clear hHeld2
            try simp only [Act.put, List.setIfInBounds_toArray, List.set_cons_zero, List.set_cons_succ]
            refine wpAnyH_done (by kernel_rfl) ?_ _
            have RD := rd_1 RW.out ⟨a1, y0, y1, y2, y3⟩ G5.out O5.out
            have HST : Hid (stepW S [w0, a1, a2, a3, a4, a5] = { S with ps := S.ps ++ [⟨a1, y0, y1, y2, y3⟩] }) := by show _ = _; rw [stepW_1 HH.out, ← HY0.out, ← HY1.out, ← HY2.out, ← HY3.out]
            rw [← HST.out] at RD
            have B6 := Lib.hid (B5.out.setCell (p := ⟨gs, 0, none⟩) (show base ≤ gs from R2.out.le) (.slice A5 (S.ps.length + 1) c5))
            have KR6 := Lib.hid (KRG.out.far (p := ⟨gs, 0, none⟩) (show gs + 1 ≠ gs by omega) (.slice A5 (S.ps.length + 1) c5))
            have KP6 := Lib.hid (KP5.out.put (i := 0) (u := .slice A5 (S.ps.length + 1) c5) KG.out hgs.out)
            have R6 := Lib.hid RD
            clear RD HA9 hHeld hg2 hgl2 gk gl kr krl hc9 n0 n1 n2 n3 B5 KG KRG KP5 O5 G5 RW KRW BW HST
            generalize w2.setCell ⟨gs, 0, none⟩ _ = w6 at *
            have RP : Hid (∃ S2, S2 = stepW S [w0, a1, a2, a3, a4, a5]) := ⟨_, rfl⟩
            obtain ⟨S2, hS2⟩ := RP.out
            rw [← hS2] at R6
            have HS2 := Lib.hid hS2
            clear hS2 RP
            have gk := R6.out.k.c4
            have gl := R6.out.k.lt
            have kr := KR6.out.c4
            have krl := KR6.out.lt
            go_wp2_with fail
            exact bodyPost_ret (v := .tuple #[.agg #[.slice A5 S2.ps.length c5, .slice A2 S2.bs.length c2x, .slice A3 S2.cs.length c3x, .slice A4 S2.ad.length c4x], .int .i64 0]) (results_blk_tmp rfl rfl (put4b KR6.out) Tryz.underlying38 rfl (by kernel_rfl) rfl) rfl ⟨_, _, _, _, _, _, _, _, _, _, _, _, by rw [HZ.out]; first | done | rfl, below4b B6.out (by have := R2.out.le; omega) _ _ _ _, KP6.out.put4 KR6.out (by have := hgs.out; omega) _ _ _ _, fun _ => by rw [← HS2.out]; exact ⟨rfl, rfl, rfl, rfl, R6.out.rw.put4 KR6.out _ _ _ _⟩⟩
          case mo21_1027 =>
            exact AllReadyH.nil
        case mo19_1025 =>
          exact AllReadyH.nil
      case mo1_1024 =>
        exact AllReadyH.nil
    case mo18_1023 =>
      exact AllReadyH.nil
set_option maxHeartbeats 8000000 in
set_option maxRecDepth 100000 in
theorem rline_2 (S : SetD) (ws : List ByteArray) (base wb b c : Nat) (A1 A2 A3 A4 : Option Addr) (c1 c2x c3x c4x : Nat) (w : World) (h : Rw w base S A1 A2 A3 A4 c1 c2x c3x c4x) (hw : w.ownsRow wb 9 1 (.slice (some ⟨b, 0, none⟩) ws.length c) ws.length (ws.map Value.string)) (hbase : base ≤ w.heap.size) (h0 : 0 < ws.length) (hs : ∀ x ∈ ws, x.size ≤ 5000) (hl : S.ps.length ≤ 4500 ∧ S.bs.length ≤ 4500 ∧ S.cs.length ≤ 4500 ∧ S.ad.length ≤ 4500) (hok : ∀ p ∈ S.bs, nameOk p.name = true) (hll : ws.length ≤ 5000) (h1 : eqB (wd ws 0) wProd = false) (h2 : eqB (wd ws 0) wBid = true) : Calls Tryz.prog 56 #[.agg #[.slice A1 S.ps.length c1, .slice A2 S.bs.length c2x, .slice A3 S.cs.length c3x, .slice A4 S.ad.length c4x], .slice (some ⟨b, 0, none⟩) ws.length c] w (RLinePost S ws base w) := by
  have HL := Lib.hid hl
  have HROW := Lib.hid hw
  obtain ⟨w0, hw0⟩ : ∃ w0, w0 = wd ws 0 := ⟨_, rfl⟩
  rw [← hw0] at h1 h2
  have HW0 : Hid (wd ws 0 = w0) := hw0.symm
  have hl5 : (ws.length : Int) ≤ 5000 := by omega
  have hl0 : (0 : Int) < (ws.length : Int) := by omega
  have hc0 : w.cell? ⟨b, 0, none⟩ = some (.string w0) := by
    have := hw.cellAt 0 (by omega)
    rw [this, hw0, List.getElem?_map, List.getElem?_eq_getElem h0]
    simp [wd, List.getD, h0]
  have hb : b < w.heap.size := (hw.lt b rfl).2
  have L1 := Lib.hid (line_1 (S := S) (ws := ws))
  have L2 := Lib.hid (line_2 (S := S) (ws := ws))
  have L3 := Lib.hid (line_3 (S := S) (ws := ws))
  have L4 := Lib.hid (line_4 (S := S) (ws := ws))
  obtain ⟨gs, hgs0⟩ : ∃ gs, gs = w.heap.size := ⟨_, rfl⟩
  have HGS := Lib.hid hgs0
  have hgs : Hid (w.heap.size ≤ gs) := by show _ ≤ _; omega
  have hz1 : (w.alloc (.cells #[.slice A1 S.ps.length c1, .slice A2 S.bs.length c2x, .slice A3 S.cs.length c3x, .slice A4 S.ad.length c4x] 38)).heap.size = w.heap.size + 1 := World.size_alloc _ _
  have KA : Hid (Blk ((w.alloc (.cells #[.slice A1 S.ps.length c1, .slice A2 S.bs.length c2x, .slice A3 S.cs.length c3x, .slice A4 S.ad.length c4x] 38)).alloc (.cells #[.slice A1 S.ps.length c1, .slice A2 S.bs.length c2x, .slice A3 S.cs.length c3x, .slice A4 S.ad.length c4x] 38)) (w.heap.size + 1) 38 #[.slice A1 S.ps.length c1, .slice A2 S.bs.length c2x, .slice A3 S.cs.length c3x, .slice A4 S.ad.length c4x]) := by
    have h := Blk.new (w.alloc (.cells #[.slice A1 S.ps.length c1, .slice A2 S.bs.length c2x, .slice A3 S.cs.length c3x, .slice A4 S.ad.length c4x] 38)) 38 #[.slice A1 S.ps.length c1, .slice A2 S.bs.length c2x, .slice A3 S.cs.length c3x, .slice A4 S.ad.length c4x]
    rw [hz1] at h
    exact h
  have BA := Lib.hid ((below_new w (.cells #[.slice A1 S.ps.length c1, .slice A2 S.bs.length c2x, .slice A3 S.cs.length c3x, .slice A4 S.ad.length c4x] 38)).alloc (below_new w (.cells #[.slice A1 S.ps.length c1, .slice A2 S.bs.length c2x, .slice A3 S.cs.length c3x, .slice A4 S.ad.length c4x] 38)).size (.cells #[.slice A1 S.ps.length c1, .slice A2 S.bs.length c2x, .slice A3 S.cs.length c3x, .slice A4 S.ad.length c4x] 38))
  obtain ⟨w1, hw1⟩ : ∃ w1, w1 = (w.alloc (.cells #[.slice A1 S.ps.length c1, .slice A2 S.bs.length c2x, .slice A3 S.cs.length c3x, .slice A4 S.ad.length c4x] 38)).alloc (.cells nil4 38) := ⟨_, rfl⟩
  have HW1 := Lib.hid hw1
  have D0 : Hid (Below w.heap.size w w1) := by show Below _ _ _; rw [hw1]; exact (below_new w (.cells #[.slice A1 S.ps.length c1, .slice A2 S.bs.length c2x, .slice A3 S.cs.length c3x, .slice A4 S.ad.length c4x] 38)).alloc (below_new w (.cells #[.slice A1 S.ps.length c1, .slice A2 S.bs.length c2x, .slice A3 S.cs.length c3x, .slice A4 S.ad.length c4x] 38)).size (.cells nil4 38)
  have K0 : Hid (Blk w1 (gs + 1) 38 nil4) := by
    have h := Blk.new (w.alloc (.cells #[.slice A1 S.ps.length c1, .slice A2 S.bs.length c2x, .slice A3 S.cs.length c3x, .slice A4 S.ad.length c4x] 38)) 38 nil4
    rw [hz1] at h
    show Blk _ _ _ _
    rw [hw1, hgs0]
    exact h
  have R0 : Hid (Rdp w1 base gs S A1 A2 A3 A4 c1 c2x c3x c4x) := by
    have h2 := h.keep D0.out
    refine ⟨?_, h2.o1, h2.o2, h2.o3, h2.o4, by omega⟩
    rw [hw1, hgs0]
    exact (Blk.new w 38 #[.slice A1 S.ps.length c1, .slice A2 S.bs.length c2x, .slice A3 S.cs.length c3x, .slice A4 S.ad.length c4x]).alloc _
  clear h hw hl hll hgs0 hw1 hz1
  obtain ⟨j0, hj0, hj1, hj2, hj3⟩ := info_parts bid_info
  have HWD : Hid (widthW w0 = 5) := by show _ = _; unfold widthW; rw [h1, h2]; rfl
  have HH := Lib.hid (show eqB w0 wProd = false ∧ eqB w0 wBid = true from ⟨h1, h2⟩)
  have h1l := h1
  rw [lit_p] at h1l
  have h2l := h2
  rw [lit_b] at h2l
  clear h1 h2
  by_cases hlen : ws.length = 5
  case neg =>
    have t2 : ((ws.length : Int) != 5) = true := by simpa using (show ¬ (ws.length : Int) = 5 by omega)
    have HV := Lib.hid (L2.out (by rw [HW0.out, HWD.out]; decide) (by rw [HW0.out, HWD.out]; exact hlen))
    clear HROW L1 L2 L3 L4 hlen hw0
    go_enter Tryz.func56, Tryz.ntmps56
    go_wp2_with fail
    exact bodyPost_ret (v := .tuple #[.agg #[.slice A1 S.ps.length c1, .slice A2 S.bs.length c2x, .slice A3 S.cs.length c3x, .slice A4 S.ad.length c4x], .int .i64 2]) (results_blk_tmp rfl rfl KA.out Tryz.underlying38 rfl (by kernel_rfl) rfl) rfl ⟨_, _, _, _, _, _, _, _, _, _, _, _, by rw [HV.out]; first | done | rfl, BA.out.mono hbase, Kp.of_below BA.out, fun e => absurd (HV.out.symm.trans e) (by decide)⟩
  obtain ⟨a0, a1, a2, a3, a4, rfl⟩ : ∃ a0 a1 a2 a3 a4 : ByteArray, ws = [a0, a1, a2, a3, a4] := len5 hlen
  clear hlen KA BA
  obtain rfl : w0 = a0 := hw0
  have L3 := Lib.hid (fun h => L3.out (by rw [HW0.out, HWD.out]; decide) (by rw [HW0.out, HWD.out]; rfl) h)
  have L4 := Lib.hid (fun h => L4.out (by rw [HW0.out, HWD.out]; decide) (by rw [HW0.out, HWD.out]; rfl) h)
  have HCW : Hid (∀ W, Kp w W → W.cell? ⟨b, 0, none⟩ = some (.string w0) ∧ W.cell? ⟨b, 1, none⟩ = some (.string a1) ∧ b < W.heap.size) := fun W kp => by
    have h := kp.s _ _ _ _ HROW.out
    exact ⟨h.cellAt 0 (by simp), h.cellAt 1 (by simp), (h.lt b rfl).2⟩
  have ha1 : Hid (a1.size ≤ 5000) := hs a1 (by simp)
  have CNU : Hid (∀ W (bw : Below w.heap.size w W), Calls Tryz.prog 113 #[.slice (some ⟨b, 0, none⟩) 5 c, .int .i64 2] W (RNumsPost [a2, a3, a4] W)) := by
    intro W bw
    exact rnumbers_any [w0, a1, a2, a3, a4] 2 (.slice (some ⟨b, 0, none⟩) 5 c) W (Sl.of_own (own_below HROW.out bw)) (by simp) (by simp) hs
  have hc := HCW.out _ ⟨fun _ _ _ _ h => h, fun _ _ h => h⟩
  change Calls _ _ #[_, .slice (some ⟨b, 0, none⟩) 5 c] _ _
  clear L1 L2
  go_enter Tryz.func56, Tryz.ntmps56
  go_wp2_with fail
  rw [← HW1.out, ← HGS.out]
  have hc1 := HCW.out _ (Kp.of_below D0.out)
  clear hc HW1 HGS
  refine (isName8_any a1 _ (Nat.le_trans ha1.out (by decide))).mono ?_
  rintro e w9 ⟨rfl, dd⟩
  have R1 := Lib.hid (R0.out.keep dd)
  have KR := Lib.hid (K0.out.below' dd)
  have B := Lib.hid (chain0 D0.out dd)
  clear dd R0 K0 D0 hc1
  have hc1 := HCW.out _ (Kp.of_below B.out)
  have gk := R1.out.k.c4
  have gl := R1.out.k.lt
  have kr := KR.out.c4
  have krl := KR.out.lt
  have HNE : Hid (nameE S w0 a1 = if nameOk a1 then 0 else 5) := by show _ = _; unfold nameE; rw [if_neg (by rw [HH.out.1]; simp), if_pos HH.out.2]
  cases hn : nameOk a1 with
  | false =>
    rw [hn] at HNE
    have HV : Hid (lineE S [w0, a1, a2, a3, a4] = 5) := (L3.out (show nameE S w0 a1 ≠ 0 by rw [HNE.out]; decide)).trans HNE.out
    have HQ : Hid ((5 : Int) ≠ 0) := by show (5 : Int) ≠ 0; decide
    clear hn
    go_wp2_with fail
    exact bodyPost_ret (v := .tuple #[.agg #[.slice A1 S.ps.length c1, .slice A2 S.bs.length c2x, .slice A3 S.cs.length c3x, .slice A4 S.ad.length c4x], .int .i64 5]) (results_blk_tmp rfl rfl (put4b KR.out) Tryz.underlying38 rfl (by kernel_rfl) rfl) rfl ⟨_, _, _, _, _, _, _, _, _, _, _, _, by rw [HV.out]; first | done | rfl, below4b (B.out.mono hbase) (by have := hgs.out; omega) _ _ _ _, (Kp.of_below B.out).put4 KR.out (by have := hgs.out; omega) _ _ _ _, fun e => absurd (HV.out.symm.trans e) HQ.out⟩
  | true =>
  rw [hn] at HNE
  have HN0 : Hid (nameE S w0 a1 = 0) := HNE.out
  clear hn HNE
  go_wp2_with fail
  have HV4 := Lib.hid (L4.out HN0.out)
  try clear HN0 L3
  refine (CNU.out _ B.out).mono ?_
  rintro e wn ⟨A6, n6, c6, rfl, HNI0, dd⟩
  have HNI := Lib.hid HNI0
  have R2 := Lib.hid (R1.out.keep dd)
  have KR2 := Lib.hid (KR.out.below' dd)
  have B2 := Lib.hid (chain0 B.out dd)
  have hc9 := HCW.out _ (Kp.of_below B2.out)
  clear dd HNI0 R1 KR B
  try clear gk gl kr krl hc1
  try clear hc2
  have gk := R2.out.k.c4
  have gl := R2.out.k.lt
  have kr := KR2.out.c4
  have krl := KR2.out.lt
  by_cases hnz : numsE [a2, a3, a4] = 0
  case neg =>
    have t6 : (numsE [a2, a3, a4] != 0) = true := by simpa using hnz
    have HQ : Hid (numsE [a2, a3, a4] ≠ 0) := hnz
    have HV := HV4
    have KR := KR2
    have B := B2
    clear hnz
    go_wp2_with fail
    exact bodyPost_ret (v := .tuple #[.agg #[.slice A1 S.ps.length c1, .slice A2 S.bs.length c2x, .slice A3 S.cs.length c3x, .slice A4 S.ad.length c4x], .int .i64 (numsE [a2, a3, a4])]) (results_blk_tmp rfl rfl (put4b KR.out) Tryz.underlying38 rfl (by kernel_rfl) rfl) rfl ⟨_, _, _, _, _, _, _, _, _, _, _, _, by rw [HV.out]; first | done | rfl, below4b (B.out.mono hbase) (by have := hgs.out; omega) _ _ _ _, (Kp.of_below B.out).put4 KR.out (by have := hgs.out; omega) _ _ _ _, fun e => absurd (HV.out.symm.trans e) HQ.out⟩
  have t6 : (numsE [a2, a3, a4] != 0) = false := by rw [hnz]; rfl
  obtain ⟨hn6, hoi⟩ := HNI.out hnz
  have HZ : Hid (lineE S [w0, a1, a2, a3, a4] = 0) := HV4.out.trans hnz
  clear hnz HNI
  obtain rfl : n6 = 3 := hn6
  obtain ⟨g6, c6x, e6⟩ := own_pos hoi (by decide)
  injection e6 with e61 e62 e63
  subst e61 e63
  have HOI := Lib.hid hoi
  have n0 : wn.cell? ⟨g6, 0, none⟩ = some (.int .i64 (numV a2)) := hoi.cellAt 0 (by decide)
  have n1 : wn.cell? ⟨g6, 1, none⟩ = some (.int .i64 (numV a3)) := hoi.cellAt 1 (by decide)
  have n2 : wn.cell? ⟨g6, 2, none⟩ = some (.int .i64 (numV a4)) := hoi.cellAt 2 (by decide)
  have hg6 := (hoi.lt g6 rfl).2
  have HWB : Hid (wn.ownsRow wb 9 1 (.slice (some ⟨b, 0, none⟩) 5 c) 5 ([w0, a1, a2, a3, a4].map Value.string)) := own_below HROW.out B2.out
  have hgi : gs ≠ g6 := fun e => own_apart HOI.out R2.out.k (by decide) (by rw [e]; rfl)
  have hgb : gs ≠ b := fun e => own_apart HWB.out R2.out.k (by decide) (by rw [e]; rfl)
  clear hoi
  obtain ⟨y0, hy0_⟩ : ∃ y, y = numV a2 := ⟨_, rfl⟩
  rw [← hy0_] at n0
  have HY0 := Lib.hid hy0_
  clear hy0_
  obtain ⟨y1, hy1_⟩ : ∃ y, y = numV a3 := ⟨_, rfl⟩
  rw [← hy1_] at n1
  have HY1 := Lib.hid hy1_
  clear hy1_
  obtain ⟨y2, hy2_⟩ : ∃ y, y = numV a4 := ⟨_, rfl⟩
  rw [← hy2_] at n2
  have HY2 := Lib.hid hy2_
  clear hy2_
  have HB9 := Lib.hid hbase
  go_wp2_with fail
  have HKP : Hid (∀ W : World, W.ownsRow wb 9 1 (.slice (some ⟨b, 0, none⟩) 5 c) 5 ([w0, a1, a2, a3, a4].map Value.string) → W.ownsRow w9.heap.size 2 1 (.slice (some ⟨g6, 0, none⟩) 3 c6) 3 (intsC ([a2, a3, a4].map numV)) → W.cell? ⟨b, 1, none⟩ = some (.string a1) ∧ W.cell? ⟨g6, 0, none⟩ = some (.int .i64 y0) ∧ W.cell? ⟨g6, 1, none⟩ = some (.int .i64 y1) ∧ W.cell? ⟨g6, 2, none⟩ = some (.int .i64 y2)) := fun W k1 k2 => ⟨k1.cellAt 1 (by decide), by rw [HY0.out]; exact k2.cellAt 0 (by decide), by rw [HY1.out]; exact k2.cellAt 1 (by decide), by rw [HY2.out]; exact k2.cellAt 2 (by decide)⟩
  refine wp_region_held_drew (S := fun W => W.cell? ⟨b, 1, none⟩ = some (.string a1) ∧ W.cell? ⟨g6, 0, none⟩ = some (.int .i64 y0) ∧ W.cell? ⟨g6, 1, none⟩ = some (.int .i64 y1) ∧ W.cell? ⟨g6, 2, none⟩ = some (.int .i64 y2)) (by kernel_rfl) ?_ (fun hHeld => ?_)
  · (try dsimp only)
    first | done | go_keep
  refine wpAnyH_take (i := 0) (v := ?v0_2001) rfl (by kernel_rfl) (by kernel_rfl) (by kernel_rfl) (fun _ _ _ h => h) (Or.inl ⟨by rfl, ?h0_2001⟩) (by assumption) ?r0_2001
  case h0_2001 => intro w hSw; (try dsimp only at hSw); go_simp; try with_reducible rfl
  try simp only [Act.put, List.setIfInBounds_toArray, List.set_cons_zero, List.set_cons_succ]
  refine wpAnyH_take (i := 2) (v := ?v2_2002) rfl (by kernel_rfl) (by kernel_rfl) (by kernel_rfl) (fun _ _ _ h => h) (Or.inl ⟨by rfl, ?h2_2002⟩) (by assumption) ?r2_2002
  case h2_2002 => intro w hSw; (try dsimp only at hSw); go_simp; try with_reducible rfl
  try simp only [Act.put, List.setIfInBounds_toArray, List.set_cons_zero, List.set_cons_succ]
  refine wpAnyH_take (i := 3) (v := ?v3_2003) rfl (by kernel_rfl) (by kernel_rfl) (by kernel_rfl) (fun _ _ _ h => h) (Or.inl ⟨by rfl, ?h3_2003⟩) (by assumption) ?r3_2003
  case h3_2003 => intro w hSw; (try dsimp only at hSw); go_simp; try with_reducible rfl
  try simp only [Act.put, List.setIfInBounds_toArray, List.set_cons_zero, List.set_cons_succ]
  refine wpAnyH_take (i := 4) (v := ?v4_2004) rfl (by kernel_rfl) (by kernel_rfl) (by kernel_rfl) (fun _ _ _ h => h) (Or.inl ⟨by rfl, ?h4_2004⟩) (by assumption) ?r4_2004
  case h4_2004 => intro w hSw; (try dsimp only at hSw); go_simp; try with_reducible rfl
  try simp only [Act.put, List.setIfInBounds_toArray, List.set_cons_zero, List.set_cons_succ]
  refine wpAnyH_take (i := 5) (v := ?v5_2005) rfl (by kernel_rfl) (by kernel_rfl) (by kernel_rfl) (fun _ _ _ h => h) (Or.inl ⟨by rfl, ?h5_2005⟩) (by assumption) ?r5_2005
  case h5_2005 => intro w hSw; (try dsimp only at hSw); go_simp; try with_reducible rfl
  try simp only [Act.put, List.setIfInBounds_toArray, List.set_cons_zero, List.set_cons_succ]
  refine wpAnyH_take (i := 6) (v := ?v6_2006) rfl (by kernel_rfl) (by kernel_rfl) (by kernel_rfl) (fun _ _ _ h => h) (Or.inl ⟨by rfl, ?h6_2006⟩) (by assumption) ?r6_2006
  case h6_2006 => intro w hSw; (try dsimp only at hSw); go_simp; try with_reducible rfl
  try simp only [Act.put, List.setIfInBounds_toArray, List.set_cons_zero, List.set_cons_succ]
  refine wpAnyH_take (i := 7) (v := ?v7_2007) rfl (by kernel_rfl) (by kernel_rfl) (by kernel_rfl) (fun _ _ _ h => h) (Or.inl ⟨by rfl, ?h7_2007⟩) (by assumption) ?r7_2007
  case h7_2007 => intro w hSw; (try dsimp only at hSw); go_simp; try with_reducible rfl
  try simp only [Act.put, List.setIfInBounds_toArray, List.set_cons_zero, List.set_cons_succ]
  refine wpAnyH_take (i := 8) (v := ?v8_2008) rfl (by kernel_rfl) (by kernel_rfl) (by kernel_rfl) (fun _ _ _ h => h) (Or.inl ⟨by rfl, ?h8_2008⟩) (by assumption) ?r8_2008
  case h8_2008 => intro w hSw; (try dsimp only at hSw); go_simp; try with_reducible rfl
  try simp only [Act.put, List.setIfInBounds_toArray, List.set_cons_zero, List.set_cons_succ]
  refine wpAnyH_take (i := 9) (v := ?v9_2009) rfl (by kernel_rfl) (by kernel_rfl) (by kernel_rfl) (fun _ _ _ h => h) (Or.inl ⟨by rfl, ?h9_2009⟩) (by assumption) ?r9_2009
  case h9_2009 => intro w hSw; (try dsimp only at hSw); go_simp; try with_reducible rfl
  try simp only [Act.put, List.setIfInBounds_toArray, List.set_cons_zero, List.set_cons_succ]
  refine wpAnyH_take (i := 10) (v := ?v10_2010) rfl (by kernel_rfl) (by kernel_rfl) (by kernel_rfl) (fun _ _ _ h => h) (Or.inl ⟨by rfl, ?h10_2010⟩) (by assumption) ?r10_2010
  case h10_2010 => intro w hSw; (try dsimp only at hSw); go_simp; try with_reducible rfl
  try simp only [Act.put, List.setIfInBounds_toArray, List.set_cons_zero, List.set_cons_succ]
  refine wpAnyH_take (i := 11) (v := ?v11_2011) rfl (by kernel_rfl) (by kernel_rfl) (by kernel_rfl) (fun _ _ _ h => h) (Or.inl ⟨by rfl, ?h11_2011⟩) (by assumption) ?r11_2011
  case h11_2011 => intro w hSw; (try dsimp only at hSw); go_simp; try with_reducible rfl
  try simp only [Act.put, List.setIfInBounds_toArray, List.set_cons_zero, List.set_cons_succ]
  refine wpAnyH_take (i := 12) (v := ?v12_2012) rfl (by kernel_rfl) (by kernel_rfl) (by kernel_rfl) (fun _ _ _ h => h) (Or.inl ⟨by rfl, ?h12_2012⟩) (by assumption) ?r12_2012
  case h12_2012 => intro w hSw; (try dsimp only at hSw); go_simp; try with_reducible rfl
  try simp only [Act.put, List.setIfInBounds_toArray, List.set_cons_zero, List.set_cons_succ]
  refine wpAnyH_take (i := 13) (v := ?v13_2013) rfl (by kernel_rfl) (by kernel_rfl) (by kernel_rfl) (fun _ _ _ h => h) (Or.inl ⟨by rfl, ?h13_2013⟩) (by assumption) ?r13_2013
  case h13_2013 => intro w hSw; (try dsimp only at hSw); go_simp; try with_reducible rfl
  try simp only [Act.put, List.setIfInBounds_toArray, List.set_cons_zero, List.set_cons_succ]
  refine wpAnyH_take (i := 14) (v := ?v14_2014) rfl (by kernel_rfl) (by kernel_rfl) (by kernel_rfl) (fun _ _ _ h => h) (Or.inl ⟨by rfl, ?h14_2014⟩) (by assumption) ?r14_2014
  case h14_2014 => intro w hSw; (try dsimp only at hSw); go_simp; try with_reducible rfl
  try simp only [Act.put, List.setIfInBounds_toArray, List.set_cons_zero, List.set_cons_succ]
  refine wpAnyH_ready (rs := [1, 15]) (by kernel_rfl) (by simp) ?_
  refine AllReadyH.cons (o := ?o1_2015) ?ho1_2015 (fun KK hKK => ?st1_2015) ?mo1_2015
  case ho1_2015 => (simp only [List.getElem?_toArray, List.getElem?_cons_succ, List.getElem?_cons_zero]; rfl)
  case st1_2015 =>
    go_simp
    refine hKK.out _ _ ?_ (fun hHeld2 => ?_)
    · (try dsimp only)
      first | with_reducible exact HA9 | go_keep
    clear hKK KK hHeld
    have hHeld := hHeld2
    clear hHeld2
    try simp only [Act.put, List.setIfInBounds_toArray, List.set_cons_zero, List.set_cons_succ]
    refine wpAnyH_ready (rs := [15]) (by kernel_rfl) (by simp) ?_
    refine AllReadyH.cons (o := ?o15_2016) ?ho15_2016 (fun KK hKK => ?st15_2016) ?mo15_2016
    case ho15_2016 => (simp only [List.getElem?_toArray, List.getElem?_cons_succ, List.getElem?_cons_zero]; rfl)
    case st15_2016 =>
      go_simp
      refine hKK.out _ _ ?_ (fun hHeld2 => ?_)
      · (try dsimp only)
        first | with_reducible exact HA9 | go_keep
      clear hKK KK hHeld
      have hHeld := hHeld2
      clear hHeld2
      try simp only [Act.put, List.setIfInBounds_toArray, List.set_cons_zero, List.set_cons_succ]
      refine wpAnyH_ready (rs := [16]) (by kernel_rfl) (by simp) ?_
      refine AllReadyH.cons (o := ?o16_2017) ?ho16_2017 (fun KK hKK => ?st16_2017) ?mo16_2017
      case ho16_2017 => (simp only [List.getElem?_toArray, List.getElem?_cons_succ, List.getElem?_cons_zero]; rfl)
      case st16_2017 =>
        (refine step_append_own _ rfl (.tmp 140) (.tmp 154) _ rfl base 87 j0 _ 4 40 Tryz.underlying34 hj0 hj1 hj2 hj3 rfl (by decide) (.slice A2 S.bs.length c2x) S.bs.length (S.bs.flatMap Bid.cells) rfl (by first | exact own_below (R2.out.o2.alloc _) ((Below.refl _ _).drew) | exact (own_below R2.out.o2 ((Below.refl _ _).drew)).alloc _ | exact R2.out.o2.alloc _) ⟨wn.heap.size, 0, none⟩ 1 1 [.string a1, .int .i64 y0, .int .i64 y1, .int .i64 y2] rfl rfl (cells_new wn _ _) (by intro u hu; simp at hu; (first | (rcases hu with rfl | rfl | rfl <;> rfl) | (rcases hu with rfl | rfl | rfl | rfl <;> rfl) | (rcases hu with rfl | rfl | rfl | rfl | rfl <;> rfl))) (by have := HL.out; unfold maxLen; omega) (by have := HL.out; omega) (by have := B2.out.size; have := HB9.out; simp; omega) ?_; intro v' w2 hown hgr _; obtain ⟨A5, c5, rfl⟩ := Gn.own_form hown; have O5 := Lib.hid hown; have G5 := Lib.hid hgr; have BW := Lib.hid (bw_of (wn := wn) hgr (by first | exact (below_new wn _).drew | exact (below_of_drew wn _) | exact below_new wn _)); have RW := Lib.hid (R2.out.keep BW.out); have KRW := Lib.hid (KR2.out.below' BW.out); have KK := after_app2 BW.out R2.out.o2 HWB.out HOI.out (by decide) (by decide) hgr; have HA9 := HKP.out w2 KK.1 KK.2; have KP5 := Lib.hid ((Kp.of_below (chain0 B2.out BW.out)).grow RW.out.o2 (by decide) (by decide) hgr); have KG := Lib.hid (RW.out.k.grown hgr (fun e => own_apart RW.out.o2 RW.out.k (by decide) e.symm)); have KRG := Lib.hid (KRW.out.grown hgr (fun e => own_apart RW.out.o2 KRW.out (by decide) e.symm)); have hg2 := KG.out.c4; have hgl2 := KG.out.lt; have B5 := Lib.hid (((chain0 B2.out BW.out).mono HB9.out).grown hgr (by have := (chain0 B2.out BW.out).size; have := HB9.out; omega) (fun q hq => (R2.out.o2.lt q hq).1)); clear hown hgr KK)
        refine hKK.out _ _ ?_ (fun hHeld2 => ?_)
        · (try dsimp only)
          first | with_reducible exact HA9 | go_keep
        clear hKK KK hHeld
        have hHeld := hHeld2
        clear hHeld2
        try simp only [Act.put, List.setIfInBounds_toArray, List.set_cons_zero, List.set_cons_succ]
        refine wpAnyH_take (i := 17) (v := ?v17_2018) rfl (by kernel_rfl) (by kernel_rfl) (by kernel_rfl) (fun _ _ _ h => h) (Or.inl ⟨by rfl, ?h17_2018⟩) (by assumption) ?r17_2018
        case h17_2018 => intro w hSw; (try dsimp only at hSw); go_simp; try with_reducible rfl
        try simp only [Act.put, List.setIfInBounds_toArray, List.set_cons_zero, List.set_cons_succ]
        refine wpAnyH_ready (rs := [18]) (by kernel_rfl) (by simp) ?_
        refine AllReadyH.cons (o := ?o18_2019) ?ho18_2019 (fun KK hKK => ?st18_2019) ?mo18_2019
        case ho18_2019 => (simp only [List.getElem?_toArray, List.getElem?_cons_succ, List.getElem?_cons_zero]; rfl)
        case st18_2019 =>
          go_simp
          refine hKK.out _ _ ?_ (fun hHeld2 => ?_)
          · (try dsimp only)
            first | with_reducible exact HA9 | go_keep
          clear hKK KK hHeld
          have hHeld := hHeld2
          clear hHeld2
          try simp only [Act.put, List.setIfInBounds_toArray, List.set_cons_zero, List.set_cons_succ]
          refine wpAnyH_done (by kernel_rfl) ?_ _
          have RD := rd_2 RW.out ⟨a1, y0, y1, y2⟩ G5.out O5.out
          have HST : Hid (stepW S [w0, a1, a2, a3, a4] = { S with bs := S.bs ++ [⟨a1, y0, y1, y2⟩] }) := by show _ = _; rw [stepW_2 HH.out.1 HH.out.2, ← HY0.out, ← HY1.out, ← HY2.out]
          rw [← HST.out] at RD
          have B6 := Lib.hid (B5.out.setCell (p := ⟨gs, 1, none⟩) (show base ≤ gs from R2.out.le) (.slice A5 (S.bs.length + 1) c5))
          have KR6 := Lib.hid (KRG.out.far (p := ⟨gs, 1, none⟩) (show gs + 1 ≠ gs by omega) (.slice A5 (S.bs.length + 1) c5))
          have KP6 := Lib.hid (KP5.out.put (i := 1) (u := .slice A5 (S.bs.length + 1) c5) KG.out hgs.out)
          have R6 := Lib.hid RD
          clear RD HA9 hHeld hg2 hgl2 gk gl kr krl hc9 n0 n1 n2 B5 KG KRG KP5 O5 G5 RW KRW BW HST
          generalize w2.setCell ⟨gs, 1, none⟩ _ = w6 at *
          have RP : Hid (∃ S2, S2 = stepW S [w0, a1, a2, a3, a4]) := ⟨_, rfl⟩
          obtain ⟨S2, hS2⟩ := RP.out
          rw [← hS2] at R6
          have HS2 := Lib.hid hS2
          clear hS2 RP
          have gk := R6.out.k.c4
          have gl := R6.out.k.lt
          have kr := KR6.out.c4
          have krl := KR6.out.lt
          go_wp2_with fail
          exact bodyPost_ret (v := .tuple #[.agg #[.slice A1 S2.ps.length c1, .slice A5 S2.bs.length c5, .slice A3 S2.cs.length c3x, .slice A4 S2.ad.length c4x], .int .i64 0]) (results_blk_tmp rfl rfl (put4b KR6.out) Tryz.underlying38 rfl (by kernel_rfl) rfl) rfl ⟨_, _, _, _, _, _, _, _, _, _, _, _, by rw [HZ.out]; first | done | rfl, below4b B6.out (by have := R2.out.le; omega) _ _ _ _, KP6.out.put4 KR6.out (by have := hgs.out; omega) _ _ _ _, fun _ => by rw [← HS2.out]; exact ⟨rfl, rfl, rfl, rfl, R6.out.rw.put4 KR6.out _ _ _ _⟩⟩
        case mo18_2019 =>
          exact AllReadyH.nil
      case mo16_2017 =>
        exact AllReadyH.nil
    case mo15_2016 =>
      exact AllReadyH.nil
  case mo1_2015 =>
    refine AllReadyH.cons (o := ?o15_2020) ?ho15_2020 (fun KK hKK => ?st15_2020) ?mo15_2020
    case ho15_2020 => (simp only [List.getElem?_toArray, List.getElem?_cons_succ, List.getElem?_cons_zero]; rfl)
    case st15_2020 =>
      go_simp
      refine hKK.out _ _ ?_ (fun hHeld2 => ?_)
      · (try dsimp only)
        first | with_reducible exact HA9 | go_keep
      clear hKK KK hHeld
      have hHeld := hHeld2
      clear hHeld2
      try simp only [Act.put, List.setIfInBounds_toArray, List.set_cons_zero, List.set_cons_succ]
      refine wpAnyH_ready (rs := [1]) (by kernel_rfl) (by simp) ?_
      refine AllReadyH.cons (o := ?o1_2021) ?ho1_2021 (fun KK hKK => ?st1_2021) ?mo1_2021
      case ho1_2021 => (simp only [List.getElem?_toArray, List.getElem?_cons_succ, List.getElem?_cons_zero]; rfl)
      case st1_2021 =>
        go_simp
        refine hKK.out _ _ ?_ (fun hHeld2 => ?_)
        · (try dsimp only)
          first | with_reducible exact HA9 | go_keep
        clear hKK KK hHeld
        have hHeld := hHeld2
        clear hHeld2
        try simp only [Act.put, List.setIfInBounds_toArray, List.set_cons_zero, List.set_cons_succ]
        refine wpAnyH_ready (rs := [16]) (by kernel_rfl) (by simp) ?_
        refine AllReadyH.cons (o := ?o16_2022) ?ho16_2022 (fun KK hKK => ?st16_2022) ?mo16_2022
        case ho16_2022 => (simp only [List.getElem?_toArray, List.getElem?_cons_succ, List.getElem?_cons_zero]; rfl)
        case st16_2022 =>
          (refine step_append_own _ rfl (.tmp 140) (.tmp 154) _ rfl base 87 j0 _ 4 40 Tryz.underlying34 hj0 hj1 hj2 hj3 rfl (by decide) (.slice A2 S.bs.length c2x) S.bs.length (S.bs.flatMap Bid.cells) rfl (by first | exact own_below (R2.out.o2.alloc _) ((Below.refl _ _).drew) | exact (own_below R2.out.o2 ((Below.refl _ _).drew)).alloc _ | exact R2.out.o2.alloc _) ⟨wn.heap.size, 0, none⟩ 1 1 [.string a1, .int .i64 y0, .int .i64 y1, .int .i64 y2] rfl rfl (cells_new wn _ _) (by intro u hu; simp at hu; (first | (rcases hu with rfl | rfl | rfl <;> rfl) | (rcases hu with rfl | rfl | rfl | rfl <;> rfl) | (rcases hu with rfl | rfl | rfl | rfl | rfl <;> rfl))) (by have := HL.out; unfold maxLen; omega) (by have := HL.out; omega) (by have := B2.out.size; have := HB9.out; simp; omega) ?_; intro v' w2 hown hgr _; obtain ⟨A5, c5, rfl⟩ := Gn.own_form hown; have O5 := Lib.hid hown; have G5 := Lib.hid hgr; have BW := Lib.hid (bw_of (wn := wn) hgr (by first | exact (below_new wn _).drew | exact (below_of_drew wn _) | exact below_new wn _)); have RW := Lib.hid (R2.out.keep BW.out); have KRW := Lib.hid (KR2.out.below' BW.out); have KK := after_app2 BW.out R2.out.o2 HWB.out HOI.out (by decide) (by decide) hgr; have HA9 := HKP.out w2 KK.1 KK.2; have KP5 := Lib.hid ((Kp.of_below (chain0 B2.out BW.out)).grow RW.out.o2 (by decide) (by decide) hgr); have KG := Lib.hid (RW.out.k.grown hgr (fun e => own_apart RW.out.o2 RW.out.k (by decide) e.symm)); have KRG := Lib.hid (KRW.out.grown hgr (fun e => own_apart RW.out.o2 KRW.out (by decide) e.symm)); have hg2 := KG.out.c4; have hgl2 := KG.out.lt; have B5 := Lib.hid (((chain0 B2.out BW.out).mono HB9.out).grown hgr (by have := (chain0 B2.out BW.out).size; have := HB9.out; omega) (fun q hq => (R2.out.o2.lt q hq).1)); clear hown hgr KK)
          refine hKK.out _ _ ?_ (fun hHeld2 => ?_)
          · (try dsimp only)
            first | with_reducible exact HA9 | go_keep
          clear hKK KK hHeld
          have hHeld := hHeld2
          clear hHeld2
          try simp only [Act.put, List.setIfInBounds_toArray, List.set_cons_zero, List.set_cons_succ]
          refine wpAnyH_take (i := 17) (v := ?v17_2023) rfl (by kernel_rfl) (by kernel_rfl) (by kernel_rfl) (fun _ _ _ h => h) (Or.inl ⟨by rfl, ?h17_2023⟩) (by assumption) ?r17_2023
          case h17_2023 => intro w hSw; (try dsimp only at hSw); go_simp; try with_reducible rfl
          try simp only [Act.put, List.setIfInBounds_toArray, List.set_cons_zero, List.set_cons_succ]
          refine wpAnyH_ready (rs := [18]) (by kernel_rfl) (by simp) ?_
          refine AllReadyH.cons (o := ?o18_2024) ?ho18_2024 (fun KK hKK => ?st18_2024) ?mo18_2024
          case ho18_2024 => (simp only [List.getElem?_toArray, List.getElem?_cons_succ, List.getElem?_cons_zero]; rfl)
          case st18_2024 =>
            go_simp
            refine hKK.out _ _ ?_ (fun hHeld2 => ?_)
            · (try dsimp only)
              first | with_reducible exact HA9 | go_keep
            clear hKK KK hHeld
            have hHeld := hHeld2
            clear hHeld2
            try simp only [Act.put, List.setIfInBounds_toArray, List.set_cons_zero, List.set_cons_succ]
            refine wpAnyH_done (by kernel_rfl) ?_ _
            have RD := rd_2 RW.out ⟨a1, y0, y1, y2⟩ G5.out O5.out
            have HST : Hid (stepW S [w0, a1, a2, a3, a4] = { S with bs := S.bs ++ [⟨a1, y0, y1, y2⟩] }) := by show _ = _; rw [stepW_2 HH.out.1 HH.out.2, ← HY0.out, ← HY1.out, ← HY2.out]
            rw [← HST.out] at RD
            have B6 := Lib.hid (B5.out.setCell (p := ⟨gs, 1, none⟩) (show base ≤ gs from R2.out.le) (.slice A5 (S.bs.length + 1) c5))
            have KR6 := Lib.hid (KRG.out.far (p := ⟨gs, 1, none⟩) (show gs + 1 ≠ gs by omega) (.slice A5 (S.bs.length + 1) c5))
            have KP6 := Lib.hid (KP5.out.put (i := 1) (u := .slice A5 (S.bs.length + 1) c5) KG.out hgs.out)
            have R6 := Lib.hid RD
            clear RD HA9 hHeld hg2 hgl2 gk gl kr krl hc9 n0 n1 n2 B5 KG KRG KP5 O5 G5 RW KRW BW HST
            generalize w2.setCell ⟨gs, 1, none⟩ _ = w6 at *
            have RP : Hid (∃ S2, S2 = stepW S [w0, a1, a2, a3, a4]) := ⟨_, rfl⟩
            obtain ⟨S2, hS2⟩ := RP.out
            rw [← hS2] at R6
            have HS2 := Lib.hid hS2
            clear hS2 RP
            have gk := R6.out.k.c4
            have gl := R6.out.k.lt
            have kr := KR6.out.c4
            have krl := KR6.out.lt
            go_wp2_with fail
            exact bodyPost_ret (v := .tuple #[.agg #[.slice A1 S2.ps.length c1, .slice A5 S2.bs.length c5, .slice A3 S2.cs.length c3x, .slice A4 S2.ad.length c4x], .int .i64 0]) (results_blk_tmp rfl rfl (put4b KR6.out) Tryz.underlying38 rfl (by kernel_rfl) rfl) rfl ⟨_, _, _, _, _, _, _, _, _, _, _, _, by rw [HZ.out]; first | done | rfl, below4b B6.out (by have := R2.out.le; omega) _ _ _ _, KP6.out.put4 KR6.out (by have := hgs.out; omega) _ _ _ _, fun _ => by rw [← HS2.out]; exact ⟨rfl, rfl, rfl, rfl, R6.out.rw.put4 KR6.out _ _ _ _⟩⟩
          case mo18_2024 =>
            exact AllReadyH.nil
        case mo16_2022 =>
          exact AllReadyH.nil
      case mo1_2021 =>
        exact AllReadyH.nil
    case mo15_2020 =>
      exact AllReadyH.nil
set_option maxHeartbeats 8000000 in
set_option maxRecDepth 100000 in
theorem rline_3 (S : SetD) (ws : List ByteArray) (base wb b c : Nat) (A1 A2 A3 A4 : Option Addr) (c1 c2x c3x c4x : Nat) (w : World) (h : Rw w base S A1 A2 A3 A4 c1 c2x c3x c4x) (hw : w.ownsRow wb 9 1 (.slice (some ⟨b, 0, none⟩) ws.length c) ws.length (ws.map Value.string)) (hbase : base ≤ w.heap.size) (h0 : 0 < ws.length) (hs : ∀ x ∈ ws, x.size ≤ 5000) (hl : S.ps.length ≤ 4500 ∧ S.bs.length ≤ 4500 ∧ S.cs.length ≤ 4500 ∧ S.ad.length ≤ 4500) (hok : ∀ p ∈ S.bs, nameOk p.name = true) (hll : ws.length ≤ 5000) (h1 : eqB (wd ws 0) wProd = false) (h2 : eqB (wd ws 0) wBid = false) (h3 : eqB (wd ws 0) wCap = true) : Calls Tryz.prog 56 #[.agg #[.slice A1 S.ps.length c1, .slice A2 S.bs.length c2x, .slice A3 S.cs.length c3x, .slice A4 S.ad.length c4x], .slice (some ⟨b, 0, none⟩) ws.length c] w (RLinePost S ws base w) := by
  have HL := Lib.hid hl
  have HROW := Lib.hid hw
  obtain ⟨w0, hw0⟩ : ∃ w0, w0 = wd ws 0 := ⟨_, rfl⟩
  rw [← hw0] at h1 h2 h3
  have HW0 : Hid (wd ws 0 = w0) := hw0.symm
  have hl5 : (ws.length : Int) ≤ 5000 := by omega
  have hl0 : (0 : Int) < (ws.length : Int) := by omega
  have hc0 : w.cell? ⟨b, 0, none⟩ = some (.string w0) := by
    have := hw.cellAt 0 (by omega)
    rw [this, hw0, List.getElem?_map, List.getElem?_eq_getElem h0]
    simp [wd, List.getD, h0]
  have hb : b < w.heap.size := (hw.lt b rfl).2
  have L1 := Lib.hid (line_1 (S := S) (ws := ws))
  have L2 := Lib.hid (line_2 (S := S) (ws := ws))
  have L3 := Lib.hid (line_3 (S := S) (ws := ws))
  have L4 := Lib.hid (line_4 (S := S) (ws := ws))
  obtain ⟨gs, hgs0⟩ : ∃ gs, gs = w.heap.size := ⟨_, rfl⟩
  have HGS := Lib.hid hgs0
  have hgs : Hid (w.heap.size ≤ gs) := by show _ ≤ _; omega
  have hz1 : (w.alloc (.cells #[.slice A1 S.ps.length c1, .slice A2 S.bs.length c2x, .slice A3 S.cs.length c3x, .slice A4 S.ad.length c4x] 38)).heap.size = w.heap.size + 1 := World.size_alloc _ _
  have KA : Hid (Blk ((w.alloc (.cells #[.slice A1 S.ps.length c1, .slice A2 S.bs.length c2x, .slice A3 S.cs.length c3x, .slice A4 S.ad.length c4x] 38)).alloc (.cells #[.slice A1 S.ps.length c1, .slice A2 S.bs.length c2x, .slice A3 S.cs.length c3x, .slice A4 S.ad.length c4x] 38)) (w.heap.size + 1) 38 #[.slice A1 S.ps.length c1, .slice A2 S.bs.length c2x, .slice A3 S.cs.length c3x, .slice A4 S.ad.length c4x]) := by
    have h := Blk.new (w.alloc (.cells #[.slice A1 S.ps.length c1, .slice A2 S.bs.length c2x, .slice A3 S.cs.length c3x, .slice A4 S.ad.length c4x] 38)) 38 #[.slice A1 S.ps.length c1, .slice A2 S.bs.length c2x, .slice A3 S.cs.length c3x, .slice A4 S.ad.length c4x]
    rw [hz1] at h
    exact h
  have BA := Lib.hid ((below_new w (.cells #[.slice A1 S.ps.length c1, .slice A2 S.bs.length c2x, .slice A3 S.cs.length c3x, .slice A4 S.ad.length c4x] 38)).alloc (below_new w (.cells #[.slice A1 S.ps.length c1, .slice A2 S.bs.length c2x, .slice A3 S.cs.length c3x, .slice A4 S.ad.length c4x] 38)).size (.cells #[.slice A1 S.ps.length c1, .slice A2 S.bs.length c2x, .slice A3 S.cs.length c3x, .slice A4 S.ad.length c4x] 38))
  obtain ⟨w1, hw1⟩ : ∃ w1, w1 = (w.alloc (.cells #[.slice A1 S.ps.length c1, .slice A2 S.bs.length c2x, .slice A3 S.cs.length c3x, .slice A4 S.ad.length c4x] 38)).alloc (.cells nil4 38) := ⟨_, rfl⟩
  have HW1 := Lib.hid hw1
  have D0 : Hid (Below w.heap.size w w1) := by show Below _ _ _; rw [hw1]; exact (below_new w (.cells #[.slice A1 S.ps.length c1, .slice A2 S.bs.length c2x, .slice A3 S.cs.length c3x, .slice A4 S.ad.length c4x] 38)).alloc (below_new w (.cells #[.slice A1 S.ps.length c1, .slice A2 S.bs.length c2x, .slice A3 S.cs.length c3x, .slice A4 S.ad.length c4x] 38)).size (.cells nil4 38)
  have K0 : Hid (Blk w1 (gs + 1) 38 nil4) := by
    have h := Blk.new (w.alloc (.cells #[.slice A1 S.ps.length c1, .slice A2 S.bs.length c2x, .slice A3 S.cs.length c3x, .slice A4 S.ad.length c4x] 38)) 38 nil4
    rw [hz1] at h
    show Blk _ _ _ _
    rw [hw1, hgs0]
    exact h
  have R0 : Hid (Rdp w1 base gs S A1 A2 A3 A4 c1 c2x c3x c4x) := by
    have h2 := h.keep D0.out
    refine ⟨?_, h2.o1, h2.o2, h2.o3, h2.o4, by omega⟩
    rw [hw1, hgs0]
    exact (Blk.new w 38 #[.slice A1 S.ps.length c1, .slice A2 S.bs.length c2x, .slice A3 S.cs.length c3x, .slice A4 S.ad.length c4x]).alloc _
  clear h hw hl hll hgs0 hw1 hz1
  obtain ⟨j0, hj0, hj1, hj2, hj3⟩ := info_parts cap_info
  have HWD : Hid (widthW w0 = 4) := by show _ = _; unfold widthW; rw [h1, h2, h3]; rfl
  have HH := Lib.hid (show eqB w0 wProd = false ∧ eqB w0 wBid = false ∧ eqB w0 wCap = true from ⟨h1, h2, h3⟩)
  have h1l := h1
  rw [lit_p] at h1l
  have h2l := h2
  rw [lit_b] at h2l
  have h3l := h3
  rw [lit_c] at h3l
  clear h1 h2 h3
  by_cases hlen : ws.length = 4
  case neg =>
    have t2 : ((ws.length : Int) != 4) = true := by simpa using (show ¬ (ws.length : Int) = 4 by omega)
    have HV := Lib.hid (L2.out (by rw [HW0.out, HWD.out]; decide) (by rw [HW0.out, HWD.out]; exact hlen))
    clear HROW L1 L2 L3 L4 hlen hw0
    go_enter Tryz.func56, Tryz.ntmps56
    go_wp2_with fail
    exact bodyPost_ret (v := .tuple #[.agg #[.slice A1 S.ps.length c1, .slice A2 S.bs.length c2x, .slice A3 S.cs.length c3x, .slice A4 S.ad.length c4x], .int .i64 2]) (results_blk_tmp rfl rfl KA.out Tryz.underlying38 rfl (by kernel_rfl) rfl) rfl ⟨_, _, _, _, _, _, _, _, _, _, _, _, by rw [HV.out]; first | done | rfl, BA.out.mono hbase, Kp.of_below BA.out, fun e => absurd (HV.out.symm.trans e) (by decide)⟩
  obtain ⟨a0, a1, a2, a3, rfl⟩ : ∃ a0 a1 a2 a3 : ByteArray, ws = [a0, a1, a2, a3] := len4 hlen
  clear hlen KA BA
  obtain rfl : w0 = a0 := hw0
  have L3 := Lib.hid (fun h => L3.out (by rw [HW0.out, HWD.out]; decide) (by rw [HW0.out, HWD.out]; rfl) h)
  have L4 := Lib.hid (fun h => L4.out (by rw [HW0.out, HWD.out]; decide) (by rw [HW0.out, HWD.out]; rfl) h)
  have HCW : Hid (∀ W, Kp w W → W.cell? ⟨b, 0, none⟩ = some (.string w0) ∧ W.cell? ⟨b, 1, none⟩ = some (.string a1) ∧ b < W.heap.size) := fun W kp => by
    have h := kp.s _ _ _ _ HROW.out
    exact ⟨h.cellAt 0 (by simp), h.cellAt 1 (by simp), (h.lt b rfl).2⟩
  have ha1 : Hid (a1.size ≤ 5000) := hs a1 (by simp)
  have CNU : Hid (∀ W (bw : Below w.heap.size w W), Calls Tryz.prog 113 #[.slice (some ⟨b, 0, none⟩) 4 c, .int .i64 2] W (RNumsPost [a2, a3] W)) := by
    intro W bw
    exact rnumbers_any [w0, a1, a2, a3] 2 (.slice (some ⟨b, 0, none⟩) 4 c) W (Sl.of_own (own_below HROW.out bw)) (by simp) (by simp) hs
  have hc := HCW.out _ ⟨fun _ _ _ _ h => h, fun _ _ h => h⟩
  change Calls _ _ #[_, .slice (some ⟨b, 0, none⟩) 4 c] _ _
  clear L1 L2
  go_enter Tryz.func56, Tryz.ntmps56
  go_wp2_with fail
  rw [← HW1.out, ← HGS.out]
  have hc1 := HCW.out _ (Kp.of_below D0.out)
  clear hc HW1 HGS
  have gk0 := R0.out.k.c4
  have gl0 := R0.out.k.lt
  have HNW : Hid (∀ j (hj : j < S.bs.length), eqB S.bs[j].name wAny = false) := fun j hj => by
    cases e : eqB S.bs[j].name wAny with
    | false => rfl
    | true =>
      have h1 := hok S.bs[j] (List.getElem_mem hj)
      rw [eqB_iff.1 e, name_any] at h1
      exact absurd h1 (by decide)
  have hlbb : (S.bs.length : Int) ≤ 4500 := by have := HL.out; omega
  have HBR := Lib.hid (sl_parts (Sl.of_own R0.out.o2))
  go_loopw [8, 7] (fun iv kv wr => ∃ (j : Nat) (kx : Int), j ≤ S.bs.length ∧ iv = .int .i64 (j : Int) ∧ kv = .int .i64 kx ∧ Hid ((kx = -1 ∧ findFromB a1 (S.bs.drop j) j = findB S.bs a1) ∨ (∃ m : Nat, kx = (m : Int) ∧ m < S.bs.length ∧ findB S.bs a1 = some m ∧ eqB a1 wAny = false)) ∧ Hid (Below w1.heap.size w1 wr)) (fun iv _ _ => S.bs.length - (intOf iv).toNat)
  case atStart => exact ⟨0, -1, Nat.zero_le _, rfl, rfl, .inl ⟨rfl, rfl⟩, Below.refl _ _⟩
  case round =>
    obtain ⟨j, kx, hj, rfl, rfl, HK, HD⟩ := hrel
    have jn0 : (0 : Int) ≤ (j : Int) := by omega
    have gk := (R0.out.k.below' HD.out).c4
    have gl := (R0.out.k.below' HD.out).lt
    have hc2 := HCW.out _ (Kp.of_below (chain0 D0.out HD.out))
    clear gk0 gl0 hc1
    by_cases hjn : j < S.bs.length
    · have hd1 : decide (j < S.bs.length) = true := decide_eq_true hjn
      have hd2 : decide ((j : Int) < (S.bs.length : Int)) = true := decide_eq_true (by omega)
      have hjn1 : (j : Int) < (S.bs.length : Int) := by omega
      by_cases hkx : kx < 0
      · have hd3 : decide (kx < (0 : Int)) = true := decide_eq_true hkx
        have HK1 : Hid (kx = -1 ∧ findFromB a1 (S.bs.drop j) j = findB S.bs a1) := by
          rcases HK.out with h | ⟨m, h, _⟩
          · exact h
          · omega
        obtain ⟨A', c', e', q1, q2, hr⟩ := HBR.out
        injection e' with e1 e2 e3
        obtain ⟨bb, bo, e1', hbb, hrow⟩ := hr (by omega)
        rw [← e1] at e1'
        clear e1 e2 e3
        subst e1'
        have hat := (BidRow.at_ (show BidRow wr bb bo S.bs from hrow.below hbb HD.out) j hjn).1
        have hbr := Nat.lt_of_lt_of_le hbb HD.out.size
        have hst := findFromB_drop (name := a1) hjn j
        have HNJ := Lib.hid (HNW.out j hjn)
        obtain ⟨x, hx⟩ : ∃ x, x = S.bs[j].name := ⟨_, rfl⟩
        rw [← hx] at hat hst HNJ
        have HKX := Lib.hid HK1.out.1
        clear hx hrow hr q1 q2 hkx HK
        cases he : eqB x a1 with
        | true =>
          rw [he, if_pos rfl] at hst
          have HF : Hid (findB S.bs a1 = some j) := HK1.out.2.symm.trans hst
          have he2 : (x.toList == a1.toList) = true := he
          have HA : Hid (eqB a1 wAny = false) := by rw [← eqB_iff.1 he]; exact HNJ.out
          clear hst he HNJ HK1
          go_wp2_with fail
          go_quiet (fail)
          go_wp2_with fail
          go_roundw
          case rel => exact ⟨j + 1, (j : Int), hjn, by go_num, rfl, .inr ⟨j, rfl, hjn, HF.out, HA.out⟩, chain0 HD.out (drewN_below _ _)⟩
          case measure => simp [intOf]; omega
        | false =>
          rw [he, if_neg (by simp)] at hst
          have HF : Hid (findFromB a1 (S.bs.drop (j + 1)) (j + 1) = findB S.bs a1) := hst.symm.trans HK1.out.2
          have he2 : (x.toList == a1.toList) = false := he
          clear hst he HNJ HK1
          go_wp2_with fail
          go_quiet (fail)
          go_wp2_with fail
          go_roundw
          case rel => exact ⟨j + 1, kx, hjn, by go_num, rfl, .inl ⟨HKX.out, HF.out⟩, chain0 HD.out (drewN_below _ _)⟩
          case measure => simp [intOf]; omega
      · have hd3 : decide (kx < (0 : Int)) = false := decide_eq_false hkx
        have HX : Hid (nameE S w0 a1 = 0 ∧ kx = idxW S w0 a1) := by
          rcases HK.out with ⟨h, _⟩ | ⟨m, h, hm, hf, ha⟩
          · omega
          · refine ⟨?_, ?_⟩
            · unfold nameE; rw [if_neg (by rw [HH.out.1]; simp), if_neg (by rw [HH.out.2.1]; simp), if_pos HH.out.2.2, if_neg (by rw [ha]; simp), hf]; rfl
            · unfold idxW; rw [if_pos HH.out.2.2, if_neg (by rw [ha]; simp), hf, h]; rfl
        have HN0 := Lib.hid HX.out.1
        have HIXV := Lib.hid HX.out.2
        clear HK HX HBR hkx
        obtain ⟨ix, hix⟩ : ∃ ix, ix = kx := ⟨_, rfl⟩
        subst hix
        have B := Lib.hid (chain0 D0.out HD.out)
        have R1 := Lib.hid (R0.out.keep HD.out)
        have KR := Lib.hid (K0.out.below' HD.out)
        clear HD R0 K0 D0
        generalize wr = w9 at *
        have kr := KR.out.c4
        have krl := KR.out.lt
        go_wp2_with fail
        have HV4 := Lib.hid (L4.out HN0.out)
        try clear HN0 L3
        refine (CNU.out _ B.out).mono ?_
        rintro e wn ⟨A6, n6, c6, rfl, HNI0, dd⟩
        have HNI := Lib.hid HNI0
        have R2 := Lib.hid (R1.out.keep dd)
        have KR2 := Lib.hid (KR.out.below' dd)
        have B2 := Lib.hid (chain0 B.out dd)
        have hc9 := HCW.out _ (Kp.of_below B2.out)
        clear dd HNI0 R1 KR B
        try clear gk gl kr krl hc1
        try clear hc2
        have gk := R2.out.k.c4
        have gl := R2.out.k.lt
        have kr := KR2.out.c4
        have krl := KR2.out.lt
        by_cases hnz : numsE [a2, a3] = 0
        case neg =>
          have t6 : (numsE [a2, a3] != 0) = true := by simpa using hnz
          have HQ : Hid (numsE [a2, a3] ≠ 0) := hnz
          have HV := HV4
          have KR := KR2
          have B := B2
          clear hnz
          go_wp2_with fail
          exact bodyPost_ret (v := .tuple #[.agg #[.slice A1 S.ps.length c1, .slice A2 S.bs.length c2x, .slice A3 S.cs.length c3x, .slice A4 S.ad.length c4x], .int .i64 (numsE [a2, a3])]) (results_blk_tmp rfl rfl (put4b KR.out) Tryz.underlying38 rfl (by kernel_rfl) rfl) rfl ⟨_, _, _, _, _, _, _, _, _, _, _, _, by rw [HV.out]; first | done | rfl, below4b (B.out.mono hbase) (by have := hgs.out; omega) _ _ _ _, (Kp.of_below B.out).put4 KR.out (by have := hgs.out; omega) _ _ _ _, fun e => absurd (HV.out.symm.trans e) HQ.out⟩
        have t6 : (numsE [a2, a3] != 0) = false := by rw [hnz]; rfl
        obtain ⟨hn6, hoi⟩ := HNI.out hnz
        have HZ : Hid (lineE S [w0, a1, a2, a3] = 0) := HV4.out.trans hnz
        clear hnz HNI
        obtain rfl : n6 = 2 := hn6
        obtain ⟨g6, c6x, e6⟩ := own_pos hoi (by decide)
        injection e6 with e61 e62 e63
        subst e61 e63
        have HOI := Lib.hid hoi
        have n0 : wn.cell? ⟨g6, 0, none⟩ = some (.int .i64 (numV a2)) := hoi.cellAt 0 (by decide)
        have n1 : wn.cell? ⟨g6, 1, none⟩ = some (.int .i64 (numV a3)) := hoi.cellAt 1 (by decide)
        have hg6 := (hoi.lt g6 rfl).2
        have HWB : Hid (wn.ownsRow wb 9 1 (.slice (some ⟨b, 0, none⟩) 4 c) 4 ([w0, a1, a2, a3].map Value.string)) := own_below HROW.out B2.out
        have hgi : gs ≠ g6 := fun e => own_apart HOI.out R2.out.k (by decide) (by rw [e]; rfl)
        have hgb : gs ≠ b := fun e => own_apart HWB.out R2.out.k (by decide) (by rw [e]; rfl)
        clear hoi
        obtain ⟨y0, hy0_⟩ : ∃ y, y = numV a2 := ⟨_, rfl⟩
        rw [← hy0_] at n0
        have HY0 := Lib.hid hy0_
        clear hy0_
        obtain ⟨y1, hy1_⟩ : ∃ y, y = numV a3 := ⟨_, rfl⟩
        rw [← hy1_] at n1
        have HY1 := Lib.hid hy1_
        clear hy1_
        have HB9 := Lib.hid hbase
        go_wp2_with fail
        have HKP : Hid (∀ W : World, W.ownsRow wb 9 1 (.slice (some ⟨b, 0, none⟩) 4 c) 4 ([w0, a1, a2, a3].map Value.string) → W.ownsRow w9.heap.size 2 1 (.slice (some ⟨g6, 0, none⟩) 2 c6) 2 (intsC ([a2, a3].map numV)) → W.cell? ⟨g6, 0, none⟩ = some (.int .i64 y0) ∧ W.cell? ⟨g6, 1, none⟩ = some (.int .i64 y1)) := fun W k1 k2 => ⟨by rw [HY0.out]; exact k2.cellAt 0 (by decide), by rw [HY1.out]; exact k2.cellAt 1 (by decide)⟩
        refine wp_region_held_drew (S := fun W => W.cell? ⟨g6, 0, none⟩ = some (.int .i64 y0) ∧ W.cell? ⟨g6, 1, none⟩ = some (.int .i64 y1)) (by kernel_rfl) ?_ (fun hHeld => ?_)
        · (try dsimp only)
          first | done | go_keep
        refine wpAnyH_take (i := 0) (v := ?v0_3001) rfl (by kernel_rfl) (by kernel_rfl) (by kernel_rfl) (fun _ _ _ h => h) (Or.inl ⟨by rfl, ?h0_3001⟩) (by assumption) ?r0_3001
        case h0_3001 => intro w hSw; (try dsimp only at hSw); go_simp; try with_reducible rfl
        try simp only [Act.put, List.setIfInBounds_toArray, List.set_cons_zero, List.set_cons_succ]
        refine wpAnyH_take (i := 2) (v := ?v2_3002) rfl (by kernel_rfl) (by kernel_rfl) (by kernel_rfl) (fun _ _ _ h => h) (Or.inl ⟨by rfl, ?h2_3002⟩) (by assumption) ?r2_3002
        case h2_3002 => intro w hSw; (try dsimp only at hSw); go_simp; try with_reducible rfl
        try simp only [Act.put, List.setIfInBounds_toArray, List.set_cons_zero, List.set_cons_succ]
        refine wpAnyH_take (i := 3) (v := ?v3_3003) rfl (by kernel_rfl) (by kernel_rfl) (by kernel_rfl) (fun _ _ _ h => h) (Or.inl ⟨by rfl, ?h3_3003⟩) (by assumption) ?r3_3003
        case h3_3003 => intro w hSw; (try dsimp only at hSw); go_simp; try with_reducible rfl
        try simp only [Act.put, List.setIfInBounds_toArray, List.set_cons_zero, List.set_cons_succ]
        refine wpAnyH_take (i := 4) (v := ?v4_3004) rfl (by kernel_rfl) (by kernel_rfl) (by kernel_rfl) (fun _ _ _ h => h) (Or.inl ⟨by rfl, ?h4_3004⟩) (by assumption) ?r4_3004
        case h4_3004 => intro w hSw; (try dsimp only at hSw); go_simp; try with_reducible rfl
        try simp only [Act.put, List.setIfInBounds_toArray, List.set_cons_zero, List.set_cons_succ]
        refine wpAnyH_take (i := 5) (v := ?v5_3005) rfl (by kernel_rfl) (by kernel_rfl) (by kernel_rfl) (fun _ _ _ h => h) (Or.inl ⟨by rfl, ?h5_3005⟩) (by assumption) ?r5_3005
        case h5_3005 => intro w hSw; (try dsimp only at hSw); go_simp; try with_reducible rfl
        try simp only [Act.put, List.setIfInBounds_toArray, List.set_cons_zero, List.set_cons_succ]
        refine wpAnyH_take (i := 6) (v := ?v6_3006) rfl (by kernel_rfl) (by kernel_rfl) (by kernel_rfl) (fun _ _ _ h => h) (Or.inl ⟨by rfl, ?h6_3006⟩) (by assumption) ?r6_3006
        case h6_3006 => intro w hSw; (try dsimp only at hSw); go_simp; try with_reducible rfl
        try simp only [Act.put, List.setIfInBounds_toArray, List.set_cons_zero, List.set_cons_succ]
        refine wpAnyH_take (i := 7) (v := ?v7_3007) rfl (by kernel_rfl) (by kernel_rfl) (by kernel_rfl) (fun _ _ _ h => h) (Or.inl ⟨by rfl, ?h7_3007⟩) (by assumption) ?r7_3007
        case h7_3007 => intro w hSw; (try dsimp only at hSw); go_simp; try with_reducible rfl
        try simp only [Act.put, List.setIfInBounds_toArray, List.set_cons_zero, List.set_cons_succ]
        refine wpAnyH_take (i := 8) (v := ?v8_3008) rfl (by kernel_rfl) (by kernel_rfl) (by kernel_rfl) (fun _ _ _ h => h) (Or.inl ⟨by rfl, ?h8_3008⟩) (by assumption) ?r8_3008
        case h8_3008 => intro w hSw; (try dsimp only at hSw); go_simp; try with_reducible rfl
        try simp only [Act.put, List.setIfInBounds_toArray, List.set_cons_zero, List.set_cons_succ]
        refine wpAnyH_take (i := 9) (v := ?v9_3009) rfl (by kernel_rfl) (by kernel_rfl) (by kernel_rfl) (fun _ _ _ h => h) (Or.inl ⟨by rfl, ?h9_3009⟩) (by assumption) ?r9_3009
        case h9_3009 => intro w hSw; (try dsimp only at hSw); go_simp; try with_reducible rfl
        try simp only [Act.put, List.setIfInBounds_toArray, List.set_cons_zero, List.set_cons_succ]
        refine wpAnyH_ready (rs := [1, 10]) (by kernel_rfl) (by simp) ?_
        refine AllReadyH.cons (o := ?o1_3010) ?ho1_3010 (fun KK hKK => ?st1_3010) ?mo1_3010
        case ho1_3010 => (simp only [List.getElem?_toArray, List.getElem?_cons_succ, List.getElem?_cons_zero]; rfl)
        case st1_3010 =>
          go_simp
          refine hKK.out _ _ ?_ (fun hHeld2 => ?_)
          · (try dsimp only)
            first | with_reducible exact HA9 | go_keep
          clear hKK KK hHeld
          have hHeld := hHeld2
          clear hHeld2
          try simp only [Act.put, List.setIfInBounds_toArray, List.set_cons_zero, List.set_cons_succ]
          refine wpAnyH_ready (rs := [10]) (by kernel_rfl) (by simp) ?_
          refine AllReadyH.cons (o := ?o10_3011) ?ho10_3011 (fun KK hKK => ?st10_3011) ?mo10_3011
          case ho10_3011 => (simp only [List.getElem?_toArray, List.getElem?_cons_succ, List.getElem?_cons_zero]; rfl)
          case st10_3011 =>
            go_simp
            refine hKK.out _ _ ?_ (fun hHeld2 => ?_)
            · (try dsimp only)
              first | with_reducible exact HA9 | go_keep
            clear hKK KK hHeld
            have hHeld := hHeld2
            clear hHeld2
            try simp only [Act.put, List.setIfInBounds_toArray, List.set_cons_zero, List.set_cons_succ]
            refine wpAnyH_ready (rs := [11]) (by kernel_rfl) (by simp) ?_
            refine AllReadyH.cons (o := ?o11_3012) ?ho11_3012 (fun KK hKK => ?st11_3012) ?mo11_3012
            case ho11_3012 => (simp only [List.getElem?_toArray, List.getElem?_cons_succ, List.getElem?_cons_zero]; rfl)
            case st11_3012 =>
              (refine step_append_own _ rfl (.tmp 160) (.tmp 169) _ rfl base 78 j0 _ 3 24 Tryz.underlying35 hj0 hj1 hj2 hj3 rfl (by decide) (.slice A3 S.cs.length c3x) S.cs.length (S.cs.flatMap Cp.cells) rfl (by first | exact own_below (R2.out.o3.alloc _) ((Below.refl _ _).drew) | exact (own_below R2.out.o3 ((Below.refl _ _).drew)).alloc _ | exact R2.out.o3.alloc _) ⟨wn.heap.size, 0, none⟩ 1 1 [.int .i64 ix, .int .i64 y0, .int .i64 y1] rfl rfl (cells_new wn _ _) (by intro u hu; simp at hu; (first | (rcases hu with rfl | rfl | rfl <;> rfl) | (rcases hu with rfl | rfl | rfl | rfl <;> rfl) | (rcases hu with rfl | rfl | rfl | rfl | rfl <;> rfl))) (by have := HL.out; unfold maxLen; omega) (by have := HL.out; omega) (by have := B2.out.size; have := HB9.out; simp; omega) ?_; intro v' w2 hown hgr _; obtain ⟨A5, c5, rfl⟩ := Gn.own_form hown; have O5 := Lib.hid hown; have G5 := Lib.hid hgr; have BW := Lib.hid (bw_of (wn := wn) hgr (by first | exact (below_new wn _).drew | exact (below_of_drew wn _) | exact below_new wn _)); have RW := Lib.hid (R2.out.keep BW.out); have KRW := Lib.hid (KR2.out.below' BW.out); have KK := after_app2 BW.out R2.out.o3 HWB.out HOI.out (by decide) (by decide) hgr; have HA9 := HKP.out w2 KK.1 KK.2; have KP5 := Lib.hid ((Kp.of_below (chain0 B2.out BW.out)).grow RW.out.o3 (by decide) (by decide) hgr); have KG := Lib.hid (RW.out.k.grown hgr (fun e => own_apart RW.out.o3 RW.out.k (by decide) e.symm)); have KRG := Lib.hid (KRW.out.grown hgr (fun e => own_apart RW.out.o3 KRW.out (by decide) e.symm)); have hg2 := KG.out.c4; have hgl2 := KG.out.lt; have B5 := Lib.hid (((chain0 B2.out BW.out).mono HB9.out).grown hgr (by have := (chain0 B2.out BW.out).size; have := HB9.out; omega) (fun q hq => (R2.out.o3.lt q hq).1)); clear hown hgr KK)
              refine hKK.out _ _ ?_ (fun hHeld2 => ?_)
              · (try dsimp only)
                first | with_reducible exact HA9 | go_keep
              clear hKK KK hHeld
              have hHeld := hHeld2
              clear hHeld2
              try simp only [Act.put, List.setIfInBounds_toArray, List.set_cons_zero, List.set_cons_succ]
              refine wpAnyH_take (i := 12) (v := ?v12_3013) rfl (by kernel_rfl) (by kernel_rfl) (by kernel_rfl) (fun _ _ _ h => h) (Or.inl ⟨by rfl, ?h12_3013⟩) (by assumption) ?r12_3013
              case h12_3013 => intro w hSw; (try dsimp only at hSw); go_simp; try with_reducible rfl
              try simp only [Act.put, List.setIfInBounds_toArray, List.set_cons_zero, List.set_cons_succ]
              refine wpAnyH_ready (rs := [13]) (by kernel_rfl) (by simp) ?_
              refine AllReadyH.cons (o := ?o13_3014) ?ho13_3014 (fun KK hKK => ?st13_3014) ?mo13_3014
              case ho13_3014 => (simp only [List.getElem?_toArray, List.getElem?_cons_succ, List.getElem?_cons_zero]; rfl)
              case st13_3014 =>
                go_simp
                refine hKK.out _ _ ?_ (fun hHeld2 => ?_)
                · (try dsimp only)
                  first | with_reducible exact HA9 | go_keep
                clear hKK KK hHeld
                have hHeld := hHeld2
                clear hHeld2
                try simp only [Act.put, List.setIfInBounds_toArray, List.set_cons_zero, List.set_cons_succ]
                refine wpAnyH_done (by kernel_rfl) ?_ _
                have RD := rd_3 RW.out ⟨ix, y0, y1⟩ G5.out O5.out
                have HST : Hid (stepW S [w0, a1, a2, a3] = { S with cs := S.cs ++ [⟨ix, y0, y1⟩] }) := by show _ = _; rw [stepW_3 HH.out.1 HH.out.2.1 HH.out.2.2, ← HY0.out, ← HY1.out, ← HIXV.out]
                rw [← HST.out] at RD
                have B6 := Lib.hid (B5.out.setCell (p := ⟨gs, 2, none⟩) (show base ≤ gs from R2.out.le) (.slice A5 (S.cs.length + 1) c5))
                have KR6 := Lib.hid (KRG.out.far (p := ⟨gs, 2, none⟩) (show gs + 1 ≠ gs by omega) (.slice A5 (S.cs.length + 1) c5))
                have KP6 := Lib.hid (KP5.out.put (i := 2) (u := .slice A5 (S.cs.length + 1) c5) KG.out hgs.out)
                have R6 := Lib.hid RD
                clear RD HA9 hHeld hg2 hgl2 gk gl kr krl hc9 n0 n1 B5 KG KRG KP5 O5 G5 RW KRW BW HST
                generalize w2.setCell ⟨gs, 2, none⟩ _ = w6 at *
                have RP : Hid (∃ S2, S2 = stepW S [w0, a1, a2, a3]) := ⟨_, rfl⟩
                obtain ⟨S2, hS2⟩ := RP.out
                rw [← hS2] at R6
                have HS2 := Lib.hid hS2
                clear hS2 RP
                have gk := R6.out.k.c4
                have gl := R6.out.k.lt
                have kr := KR6.out.c4
                have krl := KR6.out.lt
                go_wp2_with fail
                exact bodyPost_ret (v := .tuple #[.agg #[.slice A1 S2.ps.length c1, .slice A2 S2.bs.length c2x, .slice A5 S2.cs.length c5, .slice A4 S2.ad.length c4x], .int .i64 0]) (results_blk_tmp rfl rfl (put4b KR6.out) Tryz.underlying38 rfl (by kernel_rfl) rfl) rfl ⟨_, _, _, _, _, _, _, _, _, _, _, _, by rw [HZ.out]; first | done | rfl, below4b B6.out (by have := R2.out.le; omega) _ _ _ _, KP6.out.put4 KR6.out (by have := hgs.out; omega) _ _ _ _, fun _ => by rw [← HS2.out]; exact ⟨rfl, rfl, rfl, rfl, R6.out.rw.put4 KR6.out _ _ _ _⟩⟩
              case mo13_3014 =>
                exact AllReadyH.nil
            case mo11_3012 =>
              exact AllReadyH.nil
          case mo10_3011 =>
            exact AllReadyH.nil
        case mo1_3010 =>
          refine AllReadyH.cons (o := ?o10_3015) ?ho10_3015 (fun KK hKK => ?st10_3015) ?mo10_3015
          case ho10_3015 => (simp only [List.getElem?_toArray, List.getElem?_cons_succ, List.getElem?_cons_zero]; rfl)
          case st10_3015 =>
            go_simp
            refine hKK.out _ _ ?_ (fun hHeld2 => ?_)
            · (try dsimp only)
              first | with_reducible exact HA9 | go_keep
            clear hKK KK hHeld
            have hHeld := hHeld2
            clear hHeld2
            try simp only [Act.put, List.setIfInBounds_toArray, List.set_cons_zero, List.set_cons_succ]
            refine wpAnyH_ready (rs := [1]) (by kernel_rfl) (by simp) ?_
            refine AllReadyH.cons (o := ?o1_3016) ?ho1_3016 (fun KK hKK => ?st1_3016) ?mo1_3016
            case ho1_3016 => (simp only [List.getElem?_toArray, List.getElem?_cons_succ, List.getElem?_cons_zero]; rfl)
            case st1_3016 =>
              go_simp
              refine hKK.out _ _ ?_ (fun hHeld2 => ?_)
              · (try dsimp only)
                first | with_reducible exact HA9 | go_keep
              clear hKK KK hHeld
              have hHeld := hHeld2
              clear hHeld2
              try simp only [Act.put, List.setIfInBounds_toArray, List.set_cons_zero, List.set_cons_succ]
              refine wpAnyH_ready (rs := [11]) (by kernel_rfl) (by simp) ?_
              refine AllReadyH.cons (o := ?o11_3017) ?ho11_3017 (fun KK hKK => ?st11_3017) ?mo11_3017
              case ho11_3017 => (simp only [List.getElem?_toArray, List.getElem?_cons_succ, List.getElem?_cons_zero]; rfl)
              case st11_3017 =>
                (refine step_append_own _ rfl (.tmp 160) (.tmp 169) _ rfl base 78 j0 _ 3 24 Tryz.underlying35 hj0 hj1 hj2 hj3 rfl (by decide) (.slice A3 S.cs.length c3x) S.cs.length (S.cs.flatMap Cp.cells) rfl (by first | exact own_below (R2.out.o3.alloc _) ((Below.refl _ _).drew) | exact (own_below R2.out.o3 ((Below.refl _ _).drew)).alloc _ | exact R2.out.o3.alloc _) ⟨wn.heap.size, 0, none⟩ 1 1 [.int .i64 ix, .int .i64 y0, .int .i64 y1] rfl rfl (cells_new wn _ _) (by intro u hu; simp at hu; (first | (rcases hu with rfl | rfl | rfl <;> rfl) | (rcases hu with rfl | rfl | rfl | rfl <;> rfl) | (rcases hu with rfl | rfl | rfl | rfl | rfl <;> rfl))) (by have := HL.out; unfold maxLen; omega) (by have := HL.out; omega) (by have := B2.out.size; have := HB9.out; simp; omega) ?_; intro v' w2 hown hgr _; obtain ⟨A5, c5, rfl⟩ := Gn.own_form hown; have O5 := Lib.hid hown; have G5 := Lib.hid hgr; have BW := Lib.hid (bw_of (wn := wn) hgr (by first | exact (below_new wn _).drew | exact (below_of_drew wn _) | exact below_new wn _)); have RW := Lib.hid (R2.out.keep BW.out); have KRW := Lib.hid (KR2.out.below' BW.out); have KK := after_app2 BW.out R2.out.o3 HWB.out HOI.out (by decide) (by decide) hgr; have HA9 := HKP.out w2 KK.1 KK.2; have KP5 := Lib.hid ((Kp.of_below (chain0 B2.out BW.out)).grow RW.out.o3 (by decide) (by decide) hgr); have KG := Lib.hid (RW.out.k.grown hgr (fun e => own_apart RW.out.o3 RW.out.k (by decide) e.symm)); have KRG := Lib.hid (KRW.out.grown hgr (fun e => own_apart RW.out.o3 KRW.out (by decide) e.symm)); have hg2 := KG.out.c4; have hgl2 := KG.out.lt; have B5 := Lib.hid (((chain0 B2.out BW.out).mono HB9.out).grown hgr (by have := (chain0 B2.out BW.out).size; have := HB9.out; omega) (fun q hq => (R2.out.o3.lt q hq).1)); clear hown hgr KK)
                refine hKK.out _ _ ?_ (fun hHeld2 => ?_)
                · (try dsimp only)
                  first | with_reducible exact HA9 | go_keep
                clear hKK KK hHeld
                have hHeld := hHeld2
                clear hHeld2
                try simp only [Act.put, List.setIfInBounds_toArray, List.set_cons_zero, List.set_cons_succ]
                refine wpAnyH_take (i := 12) (v := ?v12_3018) rfl (by kernel_rfl) (by kernel_rfl) (by kernel_rfl) (fun _ _ _ h => h) (Or.inl ⟨by rfl, ?h12_3018⟩) (by assumption) ?r12_3018
                case h12_3018 => intro w hSw; (try dsimp only at hSw); go_simp; try with_reducible rfl
                try simp only [Act.put, List.setIfInBounds_toArray, List.set_cons_zero, List.set_cons_succ]
                refine wpAnyH_ready (rs := [13]) (by kernel_rfl) (by simp) ?_
                refine AllReadyH.cons (o := ?o13_3019) ?ho13_3019 (fun KK hKK => ?st13_3019) ?mo13_3019
                case ho13_3019 => (simp only [List.getElem?_toArray, List.getElem?_cons_succ, List.getElem?_cons_zero]; rfl)
                case st13_3019 =>
                  go_simp
                  refine hKK.out _ _ ?_ (fun hHeld2 => ?_)
                  · (try dsimp only)
                    first | with_reducible exact HA9 | go_keep
                  clear hKK KK hHeld
                  have hHeld := hHeld2
                  clear hHeld2
                  try simp only [Act.put, List.setIfInBounds_toArray, List.set_cons_zero, List.set_cons_succ]
                  refine wpAnyH_done (by kernel_rfl) ?_ _
                  have RD := rd_3 RW.out ⟨ix, y0, y1⟩ G5.out O5.out
                  have HST : Hid (stepW S [w0, a1, a2, a3] = { S with cs := S.cs ++ [⟨ix, y0, y1⟩] }) := by show _ = _; rw [stepW_3 HH.out.1 HH.out.2.1 HH.out.2.2, ← HY0.out, ← HY1.out, ← HIXV.out]
                  rw [← HST.out] at RD
                  have B6 := Lib.hid (B5.out.setCell (p := ⟨gs, 2, none⟩) (show base ≤ gs from R2.out.le) (.slice A5 (S.cs.length + 1) c5))
                  have KR6 := Lib.hid (KRG.out.far (p := ⟨gs, 2, none⟩) (show gs + 1 ≠ gs by omega) (.slice A5 (S.cs.length + 1) c5))
                  have KP6 := Lib.hid (KP5.out.put (i := 2) (u := .slice A5 (S.cs.length + 1) c5) KG.out hgs.out)
                  have R6 := Lib.hid RD
                  clear RD HA9 hHeld hg2 hgl2 gk gl kr krl hc9 n0 n1 B5 KG KRG KP5 O5 G5 RW KRW BW HST
                  generalize w2.setCell ⟨gs, 2, none⟩ _ = w6 at *
                  have RP : Hid (∃ S2, S2 = stepW S [w0, a1, a2, a3]) := ⟨_, rfl⟩
                  obtain ⟨S2, hS2⟩ := RP.out
                  rw [← hS2] at R6
                  have HS2 := Lib.hid hS2
                  clear hS2 RP
                  have gk := R6.out.k.c4
                  have gl := R6.out.k.lt
                  have kr := KR6.out.c4
                  have krl := KR6.out.lt
                  go_wp2_with fail
                  exact bodyPost_ret (v := .tuple #[.agg #[.slice A1 S2.ps.length c1, .slice A2 S2.bs.length c2x, .slice A5 S2.cs.length c5, .slice A4 S2.ad.length c4x], .int .i64 0]) (results_blk_tmp rfl rfl (put4b KR6.out) Tryz.underlying38 rfl (by kernel_rfl) rfl) rfl ⟨_, _, _, _, _, _, _, _, _, _, _, _, by rw [HZ.out]; first | done | rfl, below4b B6.out (by have := R2.out.le; omega) _ _ _ _, KP6.out.put4 KR6.out (by have := hgs.out; omega) _ _ _ _, fun _ => by rw [← HS2.out]; exact ⟨rfl, rfl, rfl, rfl, R6.out.rw.put4 KR6.out _ _ _ _⟩⟩
                case mo13_3019 =>
                  exact AllReadyH.nil
              case mo11_3017 =>
                exact AllReadyH.nil
            case mo1_3016 =>
              exact AllReadyH.nil
          case mo10_3015 =>
            exact AllReadyH.nil
    · obtain rfl : j = S.bs.length := by omega
      have hd1 : decide (S.bs.length < S.bs.length) = false := decide_eq_false (Nat.lt_irrefl _)
      have hd2 : decide ((S.bs.length : Int) < (S.bs.length : Int)) = false := decide_eq_false (Int.lt_irrefl _)
      have B := Lib.hid (chain0 D0.out HD.out)
      have R1 := Lib.hid (R0.out.keep HD.out)
      have KR := Lib.hid (K0.out.below' HD.out)
      clear HD R0 K0 D0 HBR
      generalize wr = w9 at *
      have kr := KR.out.c4
      have krl := KR.out.lt
      by_cases hkx : kx < 0
      · have hd3 : decide (kx < (0 : Int)) = true := decide_eq_true hkx
        have HK1 : Hid (kx = -1 ∧ findB S.bs a1 = none) := by
          rcases HK.out with ⟨h, h2⟩ | ⟨m, h, _⟩
          · exact ⟨h, h2.symm.trans (findFromB_end _)⟩
          · omega
        clear HK hkx
        cases ha : eqB a1 wAny with
        | false =>
          have HNE : Hid (nameE S w0 a1 = 6) := by show _ = _; unfold nameE; rw [if_neg (by rw [HH.out.1]; simp), if_neg (by rw [HH.out.2.1]; simp), if_pos HH.out.2.2, if_neg (by rw [ha]; simp), HK1.out.2]; rfl
          have HV : Hid (lineE S [w0, a1, a2, a3] = 6) := (L3.out (show nameE S w0 a1 ≠ 0 by rw [HNE.out]; decide)).trans HNE.out
          have HQ : Hid ((6 : Int) ≠ 0) := by show (6 : Int) ≠ 0; decide
          rw [lit_any] at ha
          have ha2 : (a1.toList != [42]) = true := by show (!(a1.toList == [42])) = true; rw [ha]; rfl
          go_wp2_with fail
          exact bodyPost_ret (v := .tuple #[.agg #[.slice A1 S.ps.length c1, .slice A2 S.bs.length c2x, .slice A3 S.cs.length c3x, .slice A4 S.ad.length c4x], .int .i64 6]) (results_blk_tmp rfl rfl (put4b KR.out) Tryz.underlying38 rfl (by kernel_rfl) rfl) rfl ⟨_, _, _, _, _, _, _, _, _, _, _, _, by rw [HV.out]; first | done | rfl, below4b (B.out.mono hbase) (by have := hgs.out; omega) _ _ _ _, (Kp.of_below B.out).put4 KR.out (by have := hgs.out; omega) _ _ _ _, fun e => absurd (HV.out.symm.trans e) HQ.out⟩
        | true =>
          have HN0 : Hid (nameE S w0 a1 = 0) := by show _ = _; unfold nameE; rw [if_neg (by rw [HH.out.1]; simp), if_neg (by rw [HH.out.2.1]; simp), if_pos HH.out.2.2, if_pos ha]
          have HIXV : Hid (kx = idxW S w0 a1) := by show _ = _; unfold idxW; rw [if_pos HH.out.2.2, if_pos ha, HK1.out.1]
          rw [lit_any] at ha
          have ha2 : (a1.toList != [42]) = false := by show (!(a1.toList == [42])) = false; rw [ha]; rfl
          clear HK1
          obtain ⟨ix, hix⟩ : ∃ ix, ix = kx := ⟨_, rfl⟩
          subst hix
          go_wp2_with fail
          have HV4 := Lib.hid (L4.out HN0.out)
          try clear HN0 L3
          refine (CNU.out _ B.out).mono ?_
          rintro e wn ⟨A6, n6, c6, rfl, HNI0, dd⟩
          have HNI := Lib.hid HNI0
          have R2 := Lib.hid (R1.out.keep dd)
          have KR2 := Lib.hid (KR.out.below' dd)
          have B2 := Lib.hid (chain0 B.out dd)
          have hc9 := HCW.out _ (Kp.of_below B2.out)
          clear dd HNI0 R1 KR B
          try clear gk gl kr krl hc1
          try clear hc2
          have gk := R2.out.k.c4
          have gl := R2.out.k.lt
          have kr := KR2.out.c4
          have krl := KR2.out.lt
          by_cases hnz : numsE [a2, a3] = 0
          case neg =>
            have t6 : (numsE [a2, a3] != 0) = true := by simpa using hnz
            have HQ : Hid (numsE [a2, a3] ≠ 0) := hnz
            have HV := HV4
            have KR := KR2
            have B := B2
            clear hnz
            go_wp2_with fail
            exact bodyPost_ret (v := .tuple #[.agg #[.slice A1 S.ps.length c1, .slice A2 S.bs.length c2x, .slice A3 S.cs.length c3x, .slice A4 S.ad.length c4x], .int .i64 (numsE [a2, a3])]) (results_blk_tmp rfl rfl (put4b KR.out) Tryz.underlying38 rfl (by kernel_rfl) rfl) rfl ⟨_, _, _, _, _, _, _, _, _, _, _, _, by rw [HV.out]; first | done | rfl, below4b (B.out.mono hbase) (by have := hgs.out; omega) _ _ _ _, (Kp.of_below B.out).put4 KR.out (by have := hgs.out; omega) _ _ _ _, fun e => absurd (HV.out.symm.trans e) HQ.out⟩
          have t6 : (numsE [a2, a3] != 0) = false := by rw [hnz]; rfl
          obtain ⟨hn6, hoi⟩ := HNI.out hnz
          have HZ : Hid (lineE S [w0, a1, a2, a3] = 0) := HV4.out.trans hnz
          clear hnz HNI
          obtain rfl : n6 = 2 := hn6
          obtain ⟨g6, c6x, e6⟩ := own_pos hoi (by decide)
          injection e6 with e61 e62 e63
          subst e61 e63
          have HOI := Lib.hid hoi
          have n0 : wn.cell? ⟨g6, 0, none⟩ = some (.int .i64 (numV a2)) := hoi.cellAt 0 (by decide)
          have n1 : wn.cell? ⟨g6, 1, none⟩ = some (.int .i64 (numV a3)) := hoi.cellAt 1 (by decide)
          have hg6 := (hoi.lt g6 rfl).2
          have HWB : Hid (wn.ownsRow wb 9 1 (.slice (some ⟨b, 0, none⟩) 4 c) 4 ([w0, a1, a2, a3].map Value.string)) := own_below HROW.out B2.out
          have hgi : gs ≠ g6 := fun e => own_apart HOI.out R2.out.k (by decide) (by rw [e]; rfl)
          have hgb : gs ≠ b := fun e => own_apart HWB.out R2.out.k (by decide) (by rw [e]; rfl)
          clear hoi
          obtain ⟨y0, hy0_⟩ : ∃ y, y = numV a2 := ⟨_, rfl⟩
          rw [← hy0_] at n0
          have HY0 := Lib.hid hy0_
          clear hy0_
          obtain ⟨y1, hy1_⟩ : ∃ y, y = numV a3 := ⟨_, rfl⟩
          rw [← hy1_] at n1
          have HY1 := Lib.hid hy1_
          clear hy1_
          have HB9 := Lib.hid hbase
          go_wp2_with fail
          have HKP : Hid (∀ W : World, W.ownsRow wb 9 1 (.slice (some ⟨b, 0, none⟩) 4 c) 4 ([w0, a1, a2, a3].map Value.string) → W.ownsRow w9.heap.size 2 1 (.slice (some ⟨g6, 0, none⟩) 2 c6) 2 (intsC ([a2, a3].map numV)) → W.cell? ⟨g6, 0, none⟩ = some (.int .i64 y0) ∧ W.cell? ⟨g6, 1, none⟩ = some (.int .i64 y1)) := fun W k1 k2 => ⟨by rw [HY0.out]; exact k2.cellAt 0 (by decide), by rw [HY1.out]; exact k2.cellAt 1 (by decide)⟩
          refine wp_region_held_drew (S := fun W => W.cell? ⟨g6, 0, none⟩ = some (.int .i64 y0) ∧ W.cell? ⟨g6, 1, none⟩ = some (.int .i64 y1)) (by kernel_rfl) ?_ (fun hHeld => ?_)
          · (try dsimp only)
            first | done | go_keep
          refine wpAnyH_take (i := 0) (v := ?v0_3301) rfl (by kernel_rfl) (by kernel_rfl) (by kernel_rfl) (fun _ _ _ h => h) (Or.inl ⟨by rfl, ?h0_3301⟩) (by assumption) ?r0_3301
          case h0_3301 => intro w hSw; (try dsimp only at hSw); go_simp; try with_reducible rfl
          try simp only [Act.put, List.setIfInBounds_toArray, List.set_cons_zero, List.set_cons_succ]
          refine wpAnyH_take (i := 2) (v := ?v2_3302) rfl (by kernel_rfl) (by kernel_rfl) (by kernel_rfl) (fun _ _ _ h => h) (Or.inl ⟨by rfl, ?h2_3302⟩) (by assumption) ?r2_3302
          case h2_3302 => intro w hSw; (try dsimp only at hSw); go_simp; try with_reducible rfl
          try simp only [Act.put, List.setIfInBounds_toArray, List.set_cons_zero, List.set_cons_succ]
          refine wpAnyH_take (i := 3) (v := ?v3_3303) rfl (by kernel_rfl) (by kernel_rfl) (by kernel_rfl) (fun _ _ _ h => h) (Or.inl ⟨by rfl, ?h3_3303⟩) (by assumption) ?r3_3303
          case h3_3303 => intro w hSw; (try dsimp only at hSw); go_simp; try with_reducible rfl
          try simp only [Act.put, List.setIfInBounds_toArray, List.set_cons_zero, List.set_cons_succ]
          refine wpAnyH_take (i := 4) (v := ?v4_3304) rfl (by kernel_rfl) (by kernel_rfl) (by kernel_rfl) (fun _ _ _ h => h) (Or.inl ⟨by rfl, ?h4_3304⟩) (by assumption) ?r4_3304
          case h4_3304 => intro w hSw; (try dsimp only at hSw); go_simp; try with_reducible rfl
          try simp only [Act.put, List.setIfInBounds_toArray, List.set_cons_zero, List.set_cons_succ]
          refine wpAnyH_take (i := 5) (v := ?v5_3305) rfl (by kernel_rfl) (by kernel_rfl) (by kernel_rfl) (fun _ _ _ h => h) (Or.inl ⟨by rfl, ?h5_3305⟩) (by assumption) ?r5_3305
          case h5_3305 => intro w hSw; (try dsimp only at hSw); go_simp; try with_reducible rfl
          try simp only [Act.put, List.setIfInBounds_toArray, List.set_cons_zero, List.set_cons_succ]
          refine wpAnyH_take (i := 6) (v := ?v6_3306) rfl (by kernel_rfl) (by kernel_rfl) (by kernel_rfl) (fun _ _ _ h => h) (Or.inl ⟨by rfl, ?h6_3306⟩) (by assumption) ?r6_3306
          case h6_3306 => intro w hSw; (try dsimp only at hSw); go_simp; try with_reducible rfl
          try simp only [Act.put, List.setIfInBounds_toArray, List.set_cons_zero, List.set_cons_succ]
          refine wpAnyH_take (i := 7) (v := ?v7_3307) rfl (by kernel_rfl) (by kernel_rfl) (by kernel_rfl) (fun _ _ _ h => h) (Or.inl ⟨by rfl, ?h7_3307⟩) (by assumption) ?r7_3307
          case h7_3307 => intro w hSw; (try dsimp only at hSw); go_simp; try with_reducible rfl
          try simp only [Act.put, List.setIfInBounds_toArray, List.set_cons_zero, List.set_cons_succ]
          refine wpAnyH_take (i := 8) (v := ?v8_3308) rfl (by kernel_rfl) (by kernel_rfl) (by kernel_rfl) (fun _ _ _ h => h) (Or.inl ⟨by rfl, ?h8_3308⟩) (by assumption) ?r8_3308
          case h8_3308 => intro w hSw; (try dsimp only at hSw); go_simp; try with_reducible rfl
          try simp only [Act.put, List.setIfInBounds_toArray, List.set_cons_zero, List.set_cons_succ]
          refine wpAnyH_take (i := 9) (v := ?v9_3309) rfl (by kernel_rfl) (by kernel_rfl) (by kernel_rfl) (fun _ _ _ h => h) (Or.inl ⟨by rfl, ?h9_3309⟩) (by assumption) ?r9_3309
          case h9_3309 => intro w hSw; (try dsimp only at hSw); go_simp; try with_reducible rfl
          try simp only [Act.put, List.setIfInBounds_toArray, List.set_cons_zero, List.set_cons_succ]
          refine wpAnyH_ready (rs := [1, 10]) (by kernel_rfl) (by simp) ?_
          refine AllReadyH.cons (o := ?o1_3310) ?ho1_3310 (fun KK hKK => ?st1_3310) ?mo1_3310
          case ho1_3310 => (simp only [List.getElem?_toArray, List.getElem?_cons_succ, List.getElem?_cons_zero]; rfl)
          case st1_3310 =>
            go_simp
            refine hKK.out _ _ ?_ (fun hHeld2 => ?_)
            · (try dsimp only)
              first | with_reducible exact HA9 | go_keep
            clear hKK KK hHeld
            have hHeld := hHeld2
            clear hHeld2
            try simp only [Act.put, List.setIfInBounds_toArray, List.set_cons_zero, List.set_cons_succ]
            refine wpAnyH_ready (rs := [10]) (by kernel_rfl) (by simp) ?_
            refine AllReadyH.cons (o := ?o10_3311) ?ho10_3311 (fun KK hKK => ?st10_3311) ?mo10_3311
            case ho10_3311 => (simp only [List.getElem?_toArray, List.getElem?_cons_succ, List.getElem?_cons_zero]; rfl)
            case st10_3311 =>
              go_simp
              refine hKK.out _ _ ?_ (fun hHeld2 => ?_)
              · (try dsimp only)
                first | with_reducible exact HA9 | go_keep
              clear hKK KK hHeld
              have hHeld := hHeld2
              clear hHeld2
              try simp only [Act.put, List.setIfInBounds_toArray, List.set_cons_zero, List.set_cons_succ]
              refine wpAnyH_ready (rs := [11]) (by kernel_rfl) (by simp) ?_
              refine AllReadyH.cons (o := ?o11_3312) ?ho11_3312 (fun KK hKK => ?st11_3312) ?mo11_3312
              case ho11_3312 => (simp only [List.getElem?_toArray, List.getElem?_cons_succ, List.getElem?_cons_zero]; rfl)
              case st11_3312 =>
                (refine step_append_own _ rfl (.tmp 160) (.tmp 169) _ rfl base 78 j0 _ 3 24 Tryz.underlying35 hj0 hj1 hj2 hj3 rfl (by decide) (.slice A3 S.cs.length c3x) S.cs.length (S.cs.flatMap Cp.cells) rfl (by first | exact own_below (R2.out.o3.alloc _) ((Below.refl _ _).drew) | exact (own_below R2.out.o3 ((Below.refl _ _).drew)).alloc _ | exact R2.out.o3.alloc _) ⟨wn.heap.size, 0, none⟩ 1 1 [.int .i64 ix, .int .i64 y0, .int .i64 y1] rfl rfl (cells_new wn _ _) (by intro u hu; simp at hu; (first | (rcases hu with rfl | rfl | rfl <;> rfl) | (rcases hu with rfl | rfl | rfl | rfl <;> rfl) | (rcases hu with rfl | rfl | rfl | rfl | rfl <;> rfl))) (by have := HL.out; unfold maxLen; omega) (by have := HL.out; omega) (by have := B2.out.size; have := HB9.out; simp; omega) ?_; intro v' w2 hown hgr _; obtain ⟨A5, c5, rfl⟩ := Gn.own_form hown; have O5 := Lib.hid hown; have G5 := Lib.hid hgr; have BW := Lib.hid (bw_of (wn := wn) hgr (by first | exact (below_new wn _).drew | exact (below_of_drew wn _) | exact below_new wn _)); have RW := Lib.hid (R2.out.keep BW.out); have KRW := Lib.hid (KR2.out.below' BW.out); have KK := after_app2 BW.out R2.out.o3 HWB.out HOI.out (by decide) (by decide) hgr; have HA9 := HKP.out w2 KK.1 KK.2; have KP5 := Lib.hid ((Kp.of_below (chain0 B2.out BW.out)).grow RW.out.o3 (by decide) (by decide) hgr); have KG := Lib.hid (RW.out.k.grown hgr (fun e => own_apart RW.out.o3 RW.out.k (by decide) e.symm)); have KRG := Lib.hid (KRW.out.grown hgr (fun e => own_apart RW.out.o3 KRW.out (by decide) e.symm)); have hg2 := KG.out.c4; have hgl2 := KG.out.lt; have B5 := Lib.hid (((chain0 B2.out BW.out).mono HB9.out).grown hgr (by have := (chain0 B2.out BW.out).size; have := HB9.out; omega) (fun q hq => (R2.out.o3.lt q hq).1)); clear hown hgr KK)
                refine hKK.out _ _ ?_ (fun hHeld2 => ?_)
                · (try dsimp only)
                  first | with_reducible exact HA9 | go_keep
                clear hKK KK hHeld
                have hHeld := hHeld2
                clear hHeld2
                try simp only [Act.put, List.setIfInBounds_toArray, List.set_cons_zero, List.set_cons_succ]
                refine wpAnyH_take (i := 12) (v := ?v12_3313) rfl (by kernel_rfl) (by kernel_rfl) (by kernel_rfl) (fun _ _ _ h => h) (Or.inl ⟨by rfl, ?h12_3313⟩) (by assumption) ?r12_3313
                case h12_3313 => intro w hSw; (try dsimp only at hSw); go_simp; try with_reducible rfl
                try simp only [Act.put, List.setIfInBounds_toArray, List.set_cons_zero, List.set_cons_succ]
                refine wpAnyH_ready (rs := [13]) (by kernel_rfl) (by simp) ?_
                refine AllReadyH.cons (o := ?o13_3314) ?ho13_3314 (fun KK hKK => ?st13_3314) ?mo13_3314
                case ho13_3314 => (simp only [List.getElem?_toArray, List.getElem?_cons_succ, List.getElem?_cons_zero]; rfl)
                case st13_3314 =>
                  go_simp
                  refine hKK.out _ _ ?_ (fun hHeld2 => ?_)
                  · (try dsimp only)
                    first | with_reducible exact HA9 | go_keep
                  clear hKK KK hHeld
                  have hHeld := hHeld2
                  clear hHeld2
                  try simp only [Act.put, List.setIfInBounds_toArray, List.set_cons_zero, List.set_cons_succ]
                  refine wpAnyH_done (by kernel_rfl) ?_ _
                  have RD := rd_3 RW.out ⟨ix, y0, y1⟩ G5.out O5.out
                  have HST : Hid (stepW S [w0, a1, a2, a3] = { S with cs := S.cs ++ [⟨ix, y0, y1⟩] }) := by show _ = _; rw [stepW_3 HH.out.1 HH.out.2.1 HH.out.2.2, ← HY0.out, ← HY1.out, ← HIXV.out]
                  rw [← HST.out] at RD
                  have B6 := Lib.hid (B5.out.setCell (p := ⟨gs, 2, none⟩) (show base ≤ gs from R2.out.le) (.slice A5 (S.cs.length + 1) c5))
                  have KR6 := Lib.hid (KRG.out.far (p := ⟨gs, 2, none⟩) (show gs + 1 ≠ gs by omega) (.slice A5 (S.cs.length + 1) c5))
                  have KP6 := Lib.hid (KP5.out.put (i := 2) (u := .slice A5 (S.cs.length + 1) c5) KG.out hgs.out)
                  have R6 := Lib.hid RD
                  clear RD HA9 hHeld hg2 hgl2 gk gl kr krl hc9 n0 n1 B5 KG KRG KP5 O5 G5 RW KRW BW HST
                  generalize w2.setCell ⟨gs, 2, none⟩ _ = w6 at *
                  have RP : Hid (∃ S2, S2 = stepW S [w0, a1, a2, a3]) := ⟨_, rfl⟩
                  obtain ⟨S2, hS2⟩ := RP.out
                  rw [← hS2] at R6
                  have HS2 := Lib.hid hS2
                  clear hS2 RP
                  have gk := R6.out.k.c4
                  have gl := R6.out.k.lt
                  have kr := KR6.out.c4
                  have krl := KR6.out.lt
                  go_wp2_with fail
                  exact bodyPost_ret (v := .tuple #[.agg #[.slice A1 S2.ps.length c1, .slice A2 S2.bs.length c2x, .slice A5 S2.cs.length c5, .slice A4 S2.ad.length c4x], .int .i64 0]) (results_blk_tmp rfl rfl (put4b KR6.out) Tryz.underlying38 rfl (by kernel_rfl) rfl) rfl ⟨_, _, _, _, _, _, _, _, _, _, _, _, by rw [HZ.out]; first | done | rfl, below4b B6.out (by have := R2.out.le; omega) _ _ _ _, KP6.out.put4 KR6.out (by have := hgs.out; omega) _ _ _ _, fun _ => by rw [← HS2.out]; exact ⟨rfl, rfl, rfl, rfl, R6.out.rw.put4 KR6.out _ _ _ _⟩⟩
                case mo13_3314 =>
                  exact AllReadyH.nil
              case mo11_3312 =>
                exact AllReadyH.nil
            case mo10_3311 =>
              exact AllReadyH.nil
          case mo1_3310 =>
            refine AllReadyH.cons (o := ?o10_3315) ?ho10_3315 (fun KK hKK => ?st10_3315) ?mo10_3315
            case ho10_3315 => (simp only [List.getElem?_toArray, List.getElem?_cons_succ, List.getElem?_cons_zero]; rfl)
            case st10_3315 =>
              go_simp
              refine hKK.out _ _ ?_ (fun hHeld2 => ?_)
              · (try dsimp only)
                first | with_reducible exact HA9 | go_keep
              clear hKK KK hHeld
              have hHeld := hHeld2
              clear hHeld2
              try simp only [Act.put, List.setIfInBounds_toArray, List.set_cons_zero, List.set_cons_succ]
              refine wpAnyH_ready (rs := [1]) (by kernel_rfl) (by simp) ?_
              refine AllReadyH.cons (o := ?o1_3316) ?ho1_3316 (fun KK hKK => ?st1_3316) ?mo1_3316
              case ho1_3316 => (simp only [List.getElem?_toArray, List.getElem?_cons_succ, List.getElem?_cons_zero]; rfl)
              case st1_3316 =>
                go_simp
                refine hKK.out _ _ ?_ (fun hHeld2 => ?_)
                · (try dsimp only)
                  first | with_reducible exact HA9 | go_keep
                clear hKK KK hHeld
                have hHeld := hHeld2
                clear hHeld2
                try simp only [Act.put, List.setIfInBounds_toArray, List.set_cons_zero, List.set_cons_succ]
                refine wpAnyH_ready (rs := [11]) (by kernel_rfl) (by simp) ?_
                refine AllReadyH.cons (o := ?o11_3317) ?ho11_3317 (fun KK hKK => ?st11_3317) ?mo11_3317
                case ho11_3317 => (simp only [List.getElem?_toArray, List.getElem?_cons_succ, List.getElem?_cons_zero]; rfl)
                case st11_3317 =>
                  (refine step_append_own _ rfl (.tmp 160) (.tmp 169) _ rfl base 78 j0 _ 3 24 Tryz.underlying35 hj0 hj1 hj2 hj3 rfl (by decide) (.slice A3 S.cs.length c3x) S.cs.length (S.cs.flatMap Cp.cells) rfl (by first | exact own_below (R2.out.o3.alloc _) ((Below.refl _ _).drew) | exact (own_below R2.out.o3 ((Below.refl _ _).drew)).alloc _ | exact R2.out.o3.alloc _) ⟨wn.heap.size, 0, none⟩ 1 1 [.int .i64 ix, .int .i64 y0, .int .i64 y1] rfl rfl (cells_new wn _ _) (by intro u hu; simp at hu; (first | (rcases hu with rfl | rfl | rfl <;> rfl) | (rcases hu with rfl | rfl | rfl | rfl <;> rfl) | (rcases hu with rfl | rfl | rfl | rfl | rfl <;> rfl))) (by have := HL.out; unfold maxLen; omega) (by have := HL.out; omega) (by have := B2.out.size; have := HB9.out; simp; omega) ?_; intro v' w2 hown hgr _; obtain ⟨A5, c5, rfl⟩ := Gn.own_form hown; have O5 := Lib.hid hown; have G5 := Lib.hid hgr; have BW := Lib.hid (bw_of (wn := wn) hgr (by first | exact (below_new wn _).drew | exact (below_of_drew wn _) | exact below_new wn _)); have RW := Lib.hid (R2.out.keep BW.out); have KRW := Lib.hid (KR2.out.below' BW.out); have KK := after_app2 BW.out R2.out.o3 HWB.out HOI.out (by decide) (by decide) hgr; have HA9 := HKP.out w2 KK.1 KK.2; have KP5 := Lib.hid ((Kp.of_below (chain0 B2.out BW.out)).grow RW.out.o3 (by decide) (by decide) hgr); have KG := Lib.hid (RW.out.k.grown hgr (fun e => own_apart RW.out.o3 RW.out.k (by decide) e.symm)); have KRG := Lib.hid (KRW.out.grown hgr (fun e => own_apart RW.out.o3 KRW.out (by decide) e.symm)); have hg2 := KG.out.c4; have hgl2 := KG.out.lt; have B5 := Lib.hid (((chain0 B2.out BW.out).mono HB9.out).grown hgr (by have := (chain0 B2.out BW.out).size; have := HB9.out; omega) (fun q hq => (R2.out.o3.lt q hq).1)); clear hown hgr KK)
                  refine hKK.out _ _ ?_ (fun hHeld2 => ?_)
                  · (try dsimp only)
                    first | with_reducible exact HA9 | go_keep
                  clear hKK KK hHeld
                  have hHeld := hHeld2
                  clear hHeld2
                  try simp only [Act.put, List.setIfInBounds_toArray, List.set_cons_zero, List.set_cons_succ]
                  refine wpAnyH_take (i := 12) (v := ?v12_3318) rfl (by kernel_rfl) (by kernel_rfl) (by kernel_rfl) (fun _ _ _ h => h) (Or.inl ⟨by rfl, ?h12_3318⟩) (by assumption) ?r12_3318
                  case h12_3318 => intro w hSw; (try dsimp only at hSw); go_simp; try with_reducible rfl
                  try simp only [Act.put, List.setIfInBounds_toArray, List.set_cons_zero, List.set_cons_succ]
                  refine wpAnyH_ready (rs := [13]) (by kernel_rfl) (by simp) ?_
                  refine AllReadyH.cons (o := ?o13_3319) ?ho13_3319 (fun KK hKK => ?st13_3319) ?mo13_3319
                  case ho13_3319 => (simp only [List.getElem?_toArray, List.getElem?_cons_succ, List.getElem?_cons_zero]; rfl)
                  case st13_3319 =>
                    go_simp
                    refine hKK.out _ _ ?_ (fun hHeld2 => ?_)
                    · (try dsimp only)
                      first | with_reducible exact HA9 | go_keep
                    clear hKK KK hHeld
                    have hHeld := hHeld2
                    clear hHeld2
                    try simp only [Act.put, List.setIfInBounds_toArray, List.set_cons_zero, List.set_cons_succ]
                    refine wpAnyH_done (by kernel_rfl) ?_ _
                    have RD := rd_3 RW.out ⟨ix, y0, y1⟩ G5.out O5.out
                    have HST : Hid (stepW S [w0, a1, a2, a3] = { S with cs := S.cs ++ [⟨ix, y0, y1⟩] }) := by show _ = _; rw [stepW_3 HH.out.1 HH.out.2.1 HH.out.2.2, ← HY0.out, ← HY1.out, ← HIXV.out]
                    rw [← HST.out] at RD
                    have B6 := Lib.hid (B5.out.setCell (p := ⟨gs, 2, none⟩) (show base ≤ gs from R2.out.le) (.slice A5 (S.cs.length + 1) c5))
                    have KR6 := Lib.hid (KRG.out.far (p := ⟨gs, 2, none⟩) (show gs + 1 ≠ gs by omega) (.slice A5 (S.cs.length + 1) c5))
                    have KP6 := Lib.hid (KP5.out.put (i := 2) (u := .slice A5 (S.cs.length + 1) c5) KG.out hgs.out)
                    have R6 := Lib.hid RD
                    clear RD HA9 hHeld hg2 hgl2 gk gl kr krl hc9 n0 n1 B5 KG KRG KP5 O5 G5 RW KRW BW HST
                    generalize w2.setCell ⟨gs, 2, none⟩ _ = w6 at *
                    have RP : Hid (∃ S2, S2 = stepW S [w0, a1, a2, a3]) := ⟨_, rfl⟩
                    obtain ⟨S2, hS2⟩ := RP.out
                    rw [← hS2] at R6
                    have HS2 := Lib.hid hS2
                    clear hS2 RP
                    have gk := R6.out.k.c4
                    have gl := R6.out.k.lt
                    have kr := KR6.out.c4
                    have krl := KR6.out.lt
                    go_wp2_with fail
                    exact bodyPost_ret (v := .tuple #[.agg #[.slice A1 S2.ps.length c1, .slice A2 S2.bs.length c2x, .slice A5 S2.cs.length c5, .slice A4 S2.ad.length c4x], .int .i64 0]) (results_blk_tmp rfl rfl (put4b KR6.out) Tryz.underlying38 rfl (by kernel_rfl) rfl) rfl ⟨_, _, _, _, _, _, _, _, _, _, _, _, by rw [HZ.out]; first | done | rfl, below4b B6.out (by have := R2.out.le; omega) _ _ _ _, KP6.out.put4 KR6.out (by have := hgs.out; omega) _ _ _ _, fun _ => by rw [← HS2.out]; exact ⟨rfl, rfl, rfl, rfl, R6.out.rw.put4 KR6.out _ _ _ _⟩⟩
                  case mo13_3319 =>
                    exact AllReadyH.nil
                case mo11_3317 =>
                  exact AllReadyH.nil
              case mo1_3316 =>
                exact AllReadyH.nil
            case mo10_3315 =>
              exact AllReadyH.nil
      · have hd3 : decide (kx < (0 : Int)) = false := decide_eq_false hkx
        have HX : Hid (nameE S w0 a1 = 0 ∧ kx = idxW S w0 a1) := by
          rcases HK.out with ⟨h, _⟩ | ⟨m, h, hm, hf, ha⟩
          · omega
          · refine ⟨?_, ?_⟩
            · unfold nameE; rw [if_neg (by rw [HH.out.1]; simp), if_neg (by rw [HH.out.2.1]; simp), if_pos HH.out.2.2, if_neg (by rw [ha]; simp), hf]; rfl
            · unfold idxW; rw [if_pos HH.out.2.2, if_neg (by rw [ha]; simp), hf, h]; rfl
        have HN0 := Lib.hid HX.out.1
        have HIXV := Lib.hid HX.out.2
        clear HK HX hkx
        obtain ⟨ix, hix⟩ : ∃ ix, ix = kx := ⟨_, rfl⟩
        subst hix
        go_wp2_with fail
        have HV4 := Lib.hid (L4.out HN0.out)
        try clear HN0 L3
        refine (CNU.out _ B.out).mono ?_
        rintro e wn ⟨A6, n6, c6, rfl, HNI0, dd⟩
        have HNI := Lib.hid HNI0
        have R2 := Lib.hid (R1.out.keep dd)
        have KR2 := Lib.hid (KR.out.below' dd)
        have B2 := Lib.hid (chain0 B.out dd)
        have hc9 := HCW.out _ (Kp.of_below B2.out)
        clear dd HNI0 R1 KR B
        try clear gk gl kr krl hc1
        try clear hc2
        have gk := R2.out.k.c4
        have gl := R2.out.k.lt
        have kr := KR2.out.c4
        have krl := KR2.out.lt
        by_cases hnz : numsE [a2, a3] = 0
        case neg =>
          have t6 : (numsE [a2, a3] != 0) = true := by simpa using hnz
          have HQ : Hid (numsE [a2, a3] ≠ 0) := hnz
          have HV := HV4
          have KR := KR2
          have B := B2
          clear hnz
          go_wp2_with fail
          exact bodyPost_ret (v := .tuple #[.agg #[.slice A1 S.ps.length c1, .slice A2 S.bs.length c2x, .slice A3 S.cs.length c3x, .slice A4 S.ad.length c4x], .int .i64 (numsE [a2, a3])]) (results_blk_tmp rfl rfl (put4b KR.out) Tryz.underlying38 rfl (by kernel_rfl) rfl) rfl ⟨_, _, _, _, _, _, _, _, _, _, _, _, by rw [HV.out]; first | done | rfl, below4b (B.out.mono hbase) (by have := hgs.out; omega) _ _ _ _, (Kp.of_below B.out).put4 KR.out (by have := hgs.out; omega) _ _ _ _, fun e => absurd (HV.out.symm.trans e) HQ.out⟩
        have t6 : (numsE [a2, a3] != 0) = false := by rw [hnz]; rfl
        obtain ⟨hn6, hoi⟩ := HNI.out hnz
        have HZ : Hid (lineE S [w0, a1, a2, a3] = 0) := HV4.out.trans hnz
        clear hnz HNI
        obtain rfl : n6 = 2 := hn6
        obtain ⟨g6, c6x, e6⟩ := own_pos hoi (by decide)
        injection e6 with e61 e62 e63
        subst e61 e63
        have HOI := Lib.hid hoi
        have n0 : wn.cell? ⟨g6, 0, none⟩ = some (.int .i64 (numV a2)) := hoi.cellAt 0 (by decide)
        have n1 : wn.cell? ⟨g6, 1, none⟩ = some (.int .i64 (numV a3)) := hoi.cellAt 1 (by decide)
        have hg6 := (hoi.lt g6 rfl).2
        have HWB : Hid (wn.ownsRow wb 9 1 (.slice (some ⟨b, 0, none⟩) 4 c) 4 ([w0, a1, a2, a3].map Value.string)) := own_below HROW.out B2.out
        have hgi : gs ≠ g6 := fun e => own_apart HOI.out R2.out.k (by decide) (by rw [e]; rfl)
        have hgb : gs ≠ b := fun e => own_apart HWB.out R2.out.k (by decide) (by rw [e]; rfl)
        clear hoi
        obtain ⟨y0, hy0_⟩ : ∃ y, y = numV a2 := ⟨_, rfl⟩
        rw [← hy0_] at n0
        have HY0 := Lib.hid hy0_
        clear hy0_
        obtain ⟨y1, hy1_⟩ : ∃ y, y = numV a3 := ⟨_, rfl⟩
        rw [← hy1_] at n1
        have HY1 := Lib.hid hy1_
        clear hy1_
        have HB9 := Lib.hid hbase
        go_wp2_with fail
        have HKP : Hid (∀ W : World, W.ownsRow wb 9 1 (.slice (some ⟨b, 0, none⟩) 4 c) 4 ([w0, a1, a2, a3].map Value.string) → W.ownsRow w9.heap.size 2 1 (.slice (some ⟨g6, 0, none⟩) 2 c6) 2 (intsC ([a2, a3].map numV)) → W.cell? ⟨g6, 0, none⟩ = some (.int .i64 y0) ∧ W.cell? ⟨g6, 1, none⟩ = some (.int .i64 y1)) := fun W k1 k2 => ⟨by rw [HY0.out]; exact k2.cellAt 0 (by decide), by rw [HY1.out]; exact k2.cellAt 1 (by decide)⟩
        refine wp_region_held_drew (S := fun W => W.cell? ⟨g6, 0, none⟩ = some (.int .i64 y0) ∧ W.cell? ⟨g6, 1, none⟩ = some (.int .i64 y1)) (by kernel_rfl) ?_ (fun hHeld => ?_)
        · (try dsimp only)
          first | done | go_keep
        refine wpAnyH_take (i := 0) (v := ?v0_3601) rfl (by kernel_rfl) (by kernel_rfl) (by kernel_rfl) (fun _ _ _ h => h) (Or.inl ⟨by rfl, ?h0_3601⟩) (by assumption) ?r0_3601
        case h0_3601 => intro w hSw; (try dsimp only at hSw); go_simp; try with_reducible rfl
        try simp only [Act.put, List.setIfInBounds_toArray, List.set_cons_zero, List.set_cons_succ]
        refine wpAnyH_take (i := 2) (v := ?v2_3602) rfl (by kernel_rfl) (by kernel_rfl) (by kernel_rfl) (fun _ _ _ h => h) (Or.inl ⟨by rfl, ?h2_3602⟩) (by assumption) ?r2_3602
        case h2_3602 => intro w hSw; (try dsimp only at hSw); go_simp; try with_reducible rfl
        try simp only [Act.put, List.setIfInBounds_toArray, List.set_cons_zero, List.set_cons_succ]
        refine wpAnyH_take (i := 3) (v := ?v3_3603) rfl (by kernel_rfl) (by kernel_rfl) (by kernel_rfl) (fun _ _ _ h => h) (Or.inl ⟨by rfl, ?h3_3603⟩) (by assumption) ?r3_3603
        case h3_3603 => intro w hSw; (try dsimp only at hSw); go_simp; try with_reducible rfl
        try simp only [Act.put, List.setIfInBounds_toArray, List.set_cons_zero, List.set_cons_succ]
        refine wpAnyH_take (i := 4) (v := ?v4_3604) rfl (by kernel_rfl) (by kernel_rfl) (by kernel_rfl) (fun _ _ _ h => h) (Or.inl ⟨by rfl, ?h4_3604⟩) (by assumption) ?r4_3604
        case h4_3604 => intro w hSw; (try dsimp only at hSw); go_simp; try with_reducible rfl
        try simp only [Act.put, List.setIfInBounds_toArray, List.set_cons_zero, List.set_cons_succ]
        refine wpAnyH_take (i := 5) (v := ?v5_3605) rfl (by kernel_rfl) (by kernel_rfl) (by kernel_rfl) (fun _ _ _ h => h) (Or.inl ⟨by rfl, ?h5_3605⟩) (by assumption) ?r5_3605
        case h5_3605 => intro w hSw; (try dsimp only at hSw); go_simp; try with_reducible rfl
        try simp only [Act.put, List.setIfInBounds_toArray, List.set_cons_zero, List.set_cons_succ]
        refine wpAnyH_take (i := 6) (v := ?v6_3606) rfl (by kernel_rfl) (by kernel_rfl) (by kernel_rfl) (fun _ _ _ h => h) (Or.inl ⟨by rfl, ?h6_3606⟩) (by assumption) ?r6_3606
        case h6_3606 => intro w hSw; (try dsimp only at hSw); go_simp; try with_reducible rfl
        try simp only [Act.put, List.setIfInBounds_toArray, List.set_cons_zero, List.set_cons_succ]
        refine wpAnyH_take (i := 7) (v := ?v7_3607) rfl (by kernel_rfl) (by kernel_rfl) (by kernel_rfl) (fun _ _ _ h => h) (Or.inl ⟨by rfl, ?h7_3607⟩) (by assumption) ?r7_3607
        case h7_3607 => intro w hSw; (try dsimp only at hSw); go_simp; try with_reducible rfl
        try simp only [Act.put, List.setIfInBounds_toArray, List.set_cons_zero, List.set_cons_succ]
        refine wpAnyH_take (i := 8) (v := ?v8_3608) rfl (by kernel_rfl) (by kernel_rfl) (by kernel_rfl) (fun _ _ _ h => h) (Or.inl ⟨by rfl, ?h8_3608⟩) (by assumption) ?r8_3608
        case h8_3608 => intro w hSw; (try dsimp only at hSw); go_simp; try with_reducible rfl
        try simp only [Act.put, List.setIfInBounds_toArray, List.set_cons_zero, List.set_cons_succ]
        refine wpAnyH_take (i := 9) (v := ?v9_3609) rfl (by kernel_rfl) (by kernel_rfl) (by kernel_rfl) (fun _ _ _ h => h) (Or.inl ⟨by rfl, ?h9_3609⟩) (by assumption) ?r9_3609
        case h9_3609 => intro w hSw; (try dsimp only at hSw); go_simp; try with_reducible rfl
        try simp only [Act.put, List.setIfInBounds_toArray, List.set_cons_zero, List.set_cons_succ]
        refine wpAnyH_ready (rs := [1, 10]) (by kernel_rfl) (by simp) ?_
        refine AllReadyH.cons (o := ?o1_3610) ?ho1_3610 (fun KK hKK => ?st1_3610) ?mo1_3610
        case ho1_3610 => (simp only [List.getElem?_toArray, List.getElem?_cons_succ, List.getElem?_cons_zero]; rfl)
        case st1_3610 =>
          go_simp
          refine hKK.out _ _ ?_ (fun hHeld2 => ?_)
          · (try dsimp only)
            first | with_reducible exact HA9 | go_keep
          clear hKK KK hHeld
          have hHeld := hHeld2
          clear hHeld2
          try simp only [Act.put, List.setIfInBounds_toArray, List.set_cons_zero, List.set_cons_succ]
          refine wpAnyH_ready (rs := [10]) (by kernel_rfl) (by simp) ?_
          refine AllReadyH.cons (o := ?o10_3611) ?ho10_3611 (fun KK hKK => ?st10_3611) ?mo10_3611
          case ho10_3611 => (simp only [List.getElem?_toArray, List.getElem?_cons_succ, List.getElem?_cons_zero]; rfl)
          case st10_3611 =>
            go_simp
            refine hKK.out _ _ ?_ (fun hHeld2 => ?_)
            · (try dsimp only)
              first | with_reducible exact HA9 | go_keep
            clear hKK KK hHeld
            have hHeld := hHeld2
            clear hHeld2
            try simp only [Act.put, List.setIfInBounds_toArray, List.set_cons_zero, List.set_cons_succ]
            refine wpAnyH_ready (rs := [11]) (by kernel_rfl) (by simp) ?_
            refine AllReadyH.cons (o := ?o11_3612) ?ho11_3612 (fun KK hKK => ?st11_3612) ?mo11_3612
            case ho11_3612 => (simp only [List.getElem?_toArray, List.getElem?_cons_succ, List.getElem?_cons_zero]; rfl)
            case st11_3612 =>
              (refine step_append_own _ rfl (.tmp 160) (.tmp 169) _ rfl base 78 j0 _ 3 24 Tryz.underlying35 hj0 hj1 hj2 hj3 rfl (by decide) (.slice A3 S.cs.length c3x) S.cs.length (S.cs.flatMap Cp.cells) rfl (by first | exact own_below (R2.out.o3.alloc _) ((Below.refl _ _).drew) | exact (own_below R2.out.o3 ((Below.refl _ _).drew)).alloc _ | exact R2.out.o3.alloc _) ⟨wn.heap.size, 0, none⟩ 1 1 [.int .i64 ix, .int .i64 y0, .int .i64 y1] rfl rfl (cells_new wn _ _) (by intro u hu; simp at hu; (first | (rcases hu with rfl | rfl | rfl <;> rfl) | (rcases hu with rfl | rfl | rfl | rfl <;> rfl) | (rcases hu with rfl | rfl | rfl | rfl | rfl <;> rfl))) (by have := HL.out; unfold maxLen; omega) (by have := HL.out; omega) (by have := B2.out.size; have := HB9.out; simp; omega) ?_; intro v' w2 hown hgr _; obtain ⟨A5, c5, rfl⟩ := Gn.own_form hown; have O5 := Lib.hid hown; have G5 := Lib.hid hgr; have BW := Lib.hid (bw_of (wn := wn) hgr (by first | exact (below_new wn _).drew | exact (below_of_drew wn _) | exact below_new wn _)); have RW := Lib.hid (R2.out.keep BW.out); have KRW := Lib.hid (KR2.out.below' BW.out); have KK := after_app2 BW.out R2.out.o3 HWB.out HOI.out (by decide) (by decide) hgr; have HA9 := HKP.out w2 KK.1 KK.2; have KP5 := Lib.hid ((Kp.of_below (chain0 B2.out BW.out)).grow RW.out.o3 (by decide) (by decide) hgr); have KG := Lib.hid (RW.out.k.grown hgr (fun e => own_apart RW.out.o3 RW.out.k (by decide) e.symm)); have KRG := Lib.hid (KRW.out.grown hgr (fun e => own_apart RW.out.o3 KRW.out (by decide) e.symm)); have hg2 := KG.out.c4; have hgl2 := KG.out.lt; have B5 := Lib.hid (((chain0 B2.out BW.out).mono HB9.out).grown hgr (by have := (chain0 B2.out BW.out).size; have := HB9.out; omega) (fun q hq => (R2.out.o3.lt q hq).1)); clear hown hgr KK)
              refine hKK.out _ _ ?_ (fun hHeld2 => ?_)
              · (try dsimp only)
                first | with_reducible exact HA9 | go_keep
              clear hKK KK hHeld
              have hHeld := hHeld2
              clear hHeld2
              try simp only [Act.put, List.setIfInBounds_toArray, List.set_cons_zero, List.set_cons_succ]
              refine wpAnyH_take (i := 12) (v := ?v12_3613) rfl (by kernel_rfl) (by kernel_rfl) (by kernel_rfl) (fun _ _ _ h => h) (Or.inl ⟨by rfl, ?h12_3613⟩) (by assumption) ?r12_3613
              case h12_3613 => intro w hSw; (try dsimp only at hSw); go_simp; try with_reducible rfl
              try simp only [Act.put, List.setIfInBounds_toArray, List.set_cons_zero, List.set_cons_succ]
              refine wpAnyH_ready (rs := [13]) (by kernel_rfl) (by simp) ?_
              refine AllReadyH.cons (o := ?o13_3614) ?ho13_3614 (fun KK hKK => ?st13_3614) ?mo13_3614
              case ho13_3614 => (simp only [List.getElem?_toArray, List.getElem?_cons_succ, List.getElem?_cons_zero]; rfl)
              case st13_3614 =>
                go_simp
                refine hKK.out _ _ ?_ (fun hHeld2 => ?_)
                · (try dsimp only)
                  first | with_reducible exact HA9 | go_keep
                clear hKK KK hHeld
                have hHeld := hHeld2
                clear hHeld2
                try simp only [Act.put, List.setIfInBounds_toArray, List.set_cons_zero, List.set_cons_succ]
                refine wpAnyH_done (by kernel_rfl) ?_ _
                have RD := rd_3 RW.out ⟨ix, y0, y1⟩ G5.out O5.out
                have HST : Hid (stepW S [w0, a1, a2, a3] = { S with cs := S.cs ++ [⟨ix, y0, y1⟩] }) := by show _ = _; rw [stepW_3 HH.out.1 HH.out.2.1 HH.out.2.2, ← HY0.out, ← HY1.out, ← HIXV.out]
                rw [← HST.out] at RD
                have B6 := Lib.hid (B5.out.setCell (p := ⟨gs, 2, none⟩) (show base ≤ gs from R2.out.le) (.slice A5 (S.cs.length + 1) c5))
                have KR6 := Lib.hid (KRG.out.far (p := ⟨gs, 2, none⟩) (show gs + 1 ≠ gs by omega) (.slice A5 (S.cs.length + 1) c5))
                have KP6 := Lib.hid (KP5.out.put (i := 2) (u := .slice A5 (S.cs.length + 1) c5) KG.out hgs.out)
                have R6 := Lib.hid RD
                clear RD HA9 hHeld hg2 hgl2 gk gl kr krl hc9 n0 n1 B5 KG KRG KP5 O5 G5 RW KRW BW HST
                generalize w2.setCell ⟨gs, 2, none⟩ _ = w6 at *
                have RP : Hid (∃ S2, S2 = stepW S [w0, a1, a2, a3]) := ⟨_, rfl⟩
                obtain ⟨S2, hS2⟩ := RP.out
                rw [← hS2] at R6
                have HS2 := Lib.hid hS2
                clear hS2 RP
                have gk := R6.out.k.c4
                have gl := R6.out.k.lt
                have kr := KR6.out.c4
                have krl := KR6.out.lt
                go_wp2_with fail
                exact bodyPost_ret (v := .tuple #[.agg #[.slice A1 S2.ps.length c1, .slice A2 S2.bs.length c2x, .slice A5 S2.cs.length c5, .slice A4 S2.ad.length c4x], .int .i64 0]) (results_blk_tmp rfl rfl (put4b KR6.out) Tryz.underlying38 rfl (by kernel_rfl) rfl) rfl ⟨_, _, _, _, _, _, _, _, _, _, _, _, by rw [HZ.out]; first | done | rfl, below4b B6.out (by have := R2.out.le; omega) _ _ _ _, KP6.out.put4 KR6.out (by have := hgs.out; omega) _ _ _ _, fun _ => by rw [← HS2.out]; exact ⟨rfl, rfl, rfl, rfl, R6.out.rw.put4 KR6.out _ _ _ _⟩⟩
              case mo13_3614 =>
                exact AllReadyH.nil
            case mo11_3612 =>
              exact AllReadyH.nil
          case mo10_3611 =>
            exact AllReadyH.nil
        case mo1_3610 =>
          refine AllReadyH.cons (o := ?o10_3615) ?ho10_3615 (fun KK hKK => ?st10_3615) ?mo10_3615
          case ho10_3615 => (simp only [List.getElem?_toArray, List.getElem?_cons_succ, List.getElem?_cons_zero]; rfl)
          case st10_3615 =>
            go_simp
            refine hKK.out _ _ ?_ (fun hHeld2 => ?_)
            · (try dsimp only)
              first | with_reducible exact HA9 | go_keep
            clear hKK KK hHeld
            have hHeld := hHeld2
            clear hHeld2
            try simp only [Act.put, List.setIfInBounds_toArray, List.set_cons_zero, List.set_cons_succ]
            refine wpAnyH_ready (rs := [1]) (by kernel_rfl) (by simp) ?_
            refine AllReadyH.cons (o := ?o1_3616) ?ho1_3616 (fun KK hKK => ?st1_3616) ?mo1_3616
            case ho1_3616 => (simp only [List.getElem?_toArray, List.getElem?_cons_succ, List.getElem?_cons_zero]; rfl)
            case st1_3616 =>
              go_simp
              refine hKK.out _ _ ?_ (fun hHeld2 => ?_)
              · (try dsimp only)
                first | with_reducible exact HA9 | go_keep
              clear hKK KK hHeld
              have hHeld := hHeld2
              clear hHeld2
              try simp only [Act.put, List.setIfInBounds_toArray, List.set_cons_zero, List.set_cons_succ]
              refine wpAnyH_ready (rs := [11]) (by kernel_rfl) (by simp) ?_
              refine AllReadyH.cons (o := ?o11_3617) ?ho11_3617 (fun KK hKK => ?st11_3617) ?mo11_3617
              case ho11_3617 => (simp only [List.getElem?_toArray, List.getElem?_cons_succ, List.getElem?_cons_zero]; rfl)
              case st11_3617 =>
                (refine step_append_own _ rfl (.tmp 160) (.tmp 169) _ rfl base 78 j0 _ 3 24 Tryz.underlying35 hj0 hj1 hj2 hj3 rfl (by decide) (.slice A3 S.cs.length c3x) S.cs.length (S.cs.flatMap Cp.cells) rfl (by first | exact own_below (R2.out.o3.alloc _) ((Below.refl _ _).drew) | exact (own_below R2.out.o3 ((Below.refl _ _).drew)).alloc _ | exact R2.out.o3.alloc _) ⟨wn.heap.size, 0, none⟩ 1 1 [.int .i64 ix, .int .i64 y0, .int .i64 y1] rfl rfl (cells_new wn _ _) (by intro u hu; simp at hu; (first | (rcases hu with rfl | rfl | rfl <;> rfl) | (rcases hu with rfl | rfl | rfl | rfl <;> rfl) | (rcases hu with rfl | rfl | rfl | rfl | rfl <;> rfl))) (by have := HL.out; unfold maxLen; omega) (by have := HL.out; omega) (by have := B2.out.size; have := HB9.out; simp; omega) ?_; intro v' w2 hown hgr _; obtain ⟨A5, c5, rfl⟩ := Gn.own_form hown; have O5 := Lib.hid hown; have G5 := Lib.hid hgr; have BW := Lib.hid (bw_of (wn := wn) hgr (by first | exact (below_new wn _).drew | exact (below_of_drew wn _) | exact below_new wn _)); have RW := Lib.hid (R2.out.keep BW.out); have KRW := Lib.hid (KR2.out.below' BW.out); have KK := after_app2 BW.out R2.out.o3 HWB.out HOI.out (by decide) (by decide) hgr; have HA9 := HKP.out w2 KK.1 KK.2; have KP5 := Lib.hid ((Kp.of_below (chain0 B2.out BW.out)).grow RW.out.o3 (by decide) (by decide) hgr); have KG := Lib.hid (RW.out.k.grown hgr (fun e => own_apart RW.out.o3 RW.out.k (by decide) e.symm)); have KRG := Lib.hid (KRW.out.grown hgr (fun e => own_apart RW.out.o3 KRW.out (by decide) e.symm)); have hg2 := KG.out.c4; have hgl2 := KG.out.lt; have B5 := Lib.hid (((chain0 B2.out BW.out).mono HB9.out).grown hgr (by have := (chain0 B2.out BW.out).size; have := HB9.out; omega) (fun q hq => (R2.out.o3.lt q hq).1)); clear hown hgr KK)
                refine hKK.out _ _ ?_ (fun hHeld2 => ?_)
                · (try dsimp only)
                  first | with_reducible exact HA9 | go_keep
                clear hKK KK hHeld
                have hHeld := hHeld2
                clear hHeld2
                try simp only [Act.put, List.setIfInBounds_toArray, List.set_cons_zero, List.set_cons_succ]
                refine wpAnyH_take (i := 12) (v := ?v12_3618) rfl (by kernel_rfl) (by kernel_rfl) (by kernel_rfl) (fun _ _ _ h => h) (Or.inl ⟨by rfl, ?h12_3618⟩) (by assumption) ?r12_3618
                case h12_3618 => intro w hSw; (try dsimp only at hSw); go_simp; try with_reducible rfl
                try simp only [Act.put, List.setIfInBounds_toArray, List.set_cons_zero, List.set_cons_succ]
                refine wpAnyH_ready (rs := [13]) (by kernel_rfl) (by simp) ?_
                refine AllReadyH.cons (o := ?o13_3619) ?ho13_3619 (fun KK hKK => ?st13_3619) ?mo13_3619
                case ho13_3619 => (simp only [List.getElem?_toArray, List.getElem?_cons_succ, List.getElem?_cons_zero]; rfl)
                case st13_3619 =>
                  go_simp
                  refine hKK.out _ _ ?_ (fun hHeld2 => ?_)
                  · (try dsimp only)
                    first | with_reducible exact HA9 | go_keep
                  clear hKK KK hHeld
                  have hHeld := hHeld2
                  clear hHeld2
                  try simp only [Act.put, List.setIfInBounds_toArray, List.set_cons_zero, List.set_cons_succ]
                  refine wpAnyH_done (by kernel_rfl) ?_ _
                  have RD := rd_3 RW.out ⟨ix, y0, y1⟩ G5.out O5.out
                  have HST : Hid (stepW S [w0, a1, a2, a3] = { S with cs := S.cs ++ [⟨ix, y0, y1⟩] }) := by show _ = _; rw [stepW_3 HH.out.1 HH.out.2.1 HH.out.2.2, ← HY0.out, ← HY1.out, ← HIXV.out]
                  rw [← HST.out] at RD
                  have B6 := Lib.hid (B5.out.setCell (p := ⟨gs, 2, none⟩) (show base ≤ gs from R2.out.le) (.slice A5 (S.cs.length + 1) c5))
                  have KR6 := Lib.hid (KRG.out.far (p := ⟨gs, 2, none⟩) (show gs + 1 ≠ gs by omega) (.slice A5 (S.cs.length + 1) c5))
                  have KP6 := Lib.hid (KP5.out.put (i := 2) (u := .slice A5 (S.cs.length + 1) c5) KG.out hgs.out)
                  have R6 := Lib.hid RD
                  clear RD HA9 hHeld hg2 hgl2 gk gl kr krl hc9 n0 n1 B5 KG KRG KP5 O5 G5 RW KRW BW HST
                  generalize w2.setCell ⟨gs, 2, none⟩ _ = w6 at *
                  have RP : Hid (∃ S2, S2 = stepW S [w0, a1, a2, a3]) := ⟨_, rfl⟩
                  obtain ⟨S2, hS2⟩ := RP.out
                  rw [← hS2] at R6
                  have HS2 := Lib.hid hS2
                  clear hS2 RP
                  have gk := R6.out.k.c4
                  have gl := R6.out.k.lt
                  have kr := KR6.out.c4
                  have krl := KR6.out.lt
                  go_wp2_with fail
                  exact bodyPost_ret (v := .tuple #[.agg #[.slice A1 S2.ps.length c1, .slice A2 S2.bs.length c2x, .slice A5 S2.cs.length c5, .slice A4 S2.ad.length c4x], .int .i64 0]) (results_blk_tmp rfl rfl (put4b KR6.out) Tryz.underlying38 rfl (by kernel_rfl) rfl) rfl ⟨_, _, _, _, _, _, _, _, _, _, _, _, by rw [HZ.out]; first | done | rfl, below4b B6.out (by have := R2.out.le; omega) _ _ _ _, KP6.out.put4 KR6.out (by have := hgs.out; omega) _ _ _ _, fun _ => by rw [← HS2.out]; exact ⟨rfl, rfl, rfl, rfl, R6.out.rw.put4 KR6.out _ _ _ _⟩⟩
                case mo13_3619 =>
                  exact AllReadyH.nil
              case mo11_3617 =>
                exact AllReadyH.nil
            case mo1_3616 =>
              exact AllReadyH.nil
          case mo10_3615 =>
            exact AllReadyH.nil
set_option maxHeartbeats 8000000 in
set_option maxRecDepth 100000 in
theorem rline_4 (S : SetD) (ws : List ByteArray) (base wb b c : Nat) (A1 A2 A3 A4 : Option Addr) (c1 c2x c3x c4x : Nat) (w : World) (h : Rw w base S A1 A2 A3 A4 c1 c2x c3x c4x) (hw : w.ownsRow wb 9 1 (.slice (some ⟨b, 0, none⟩) ws.length c) ws.length (ws.map Value.string)) (hbase : base ≤ w.heap.size) (h0 : 0 < ws.length) (hs : ∀ x ∈ ws, x.size ≤ 5000) (hl : S.ps.length ≤ 4500 ∧ S.bs.length ≤ 4500 ∧ S.cs.length ≤ 4500 ∧ S.ad.length ≤ 4500) (hok : ∀ p ∈ S.bs, nameOk p.name = true) (hll : ws.length ≤ 5000) (h1 : eqB (wd ws 0) wProd = false) (h2 : eqB (wd ws 0) wBid = false) (h3 : eqB (wd ws 0) wCap = false) (h4 : eqB (wd ws 0) wAsd = true) : Calls Tryz.prog 56 #[.agg #[.slice A1 S.ps.length c1, .slice A2 S.bs.length c2x, .slice A3 S.cs.length c3x, .slice A4 S.ad.length c4x], .slice (some ⟨b, 0, none⟩) ws.length c] w (RLinePost S ws base w) := by
  have HL := Lib.hid hl
  have HROW := Lib.hid hw
  obtain ⟨w0, hw0⟩ : ∃ w0, w0 = wd ws 0 := ⟨_, rfl⟩
  rw [← hw0] at h1 h2 h3 h4
  have HW0 : Hid (wd ws 0 = w0) := hw0.symm
  have hl5 : (ws.length : Int) ≤ 5000 := by omega
  have hl0 : (0 : Int) < (ws.length : Int) := by omega
  have hc0 : w.cell? ⟨b, 0, none⟩ = some (.string w0) := by
    have := hw.cellAt 0 (by omega)
    rw [this, hw0, List.getElem?_map, List.getElem?_eq_getElem h0]
    simp [wd, List.getD, h0]
  have hb : b < w.heap.size := (hw.lt b rfl).2
  have L1 := Lib.hid (line_1 (S := S) (ws := ws))
  have L2 := Lib.hid (line_2 (S := S) (ws := ws))
  have L3 := Lib.hid (line_3 (S := S) (ws := ws))
  have L4 := Lib.hid (line_4 (S := S) (ws := ws))
  obtain ⟨gs, hgs0⟩ : ∃ gs, gs = w.heap.size := ⟨_, rfl⟩
  have HGS := Lib.hid hgs0
  have hgs : Hid (w.heap.size ≤ gs) := by show _ ≤ _; omega
  have hz1 : (w.alloc (.cells #[.slice A1 S.ps.length c1, .slice A2 S.bs.length c2x, .slice A3 S.cs.length c3x, .slice A4 S.ad.length c4x] 38)).heap.size = w.heap.size + 1 := World.size_alloc _ _
  have KA : Hid (Blk ((w.alloc (.cells #[.slice A1 S.ps.length c1, .slice A2 S.bs.length c2x, .slice A3 S.cs.length c3x, .slice A4 S.ad.length c4x] 38)).alloc (.cells #[.slice A1 S.ps.length c1, .slice A2 S.bs.length c2x, .slice A3 S.cs.length c3x, .slice A4 S.ad.length c4x] 38)) (w.heap.size + 1) 38 #[.slice A1 S.ps.length c1, .slice A2 S.bs.length c2x, .slice A3 S.cs.length c3x, .slice A4 S.ad.length c4x]) := by
    have h := Blk.new (w.alloc (.cells #[.slice A1 S.ps.length c1, .slice A2 S.bs.length c2x, .slice A3 S.cs.length c3x, .slice A4 S.ad.length c4x] 38)) 38 #[.slice A1 S.ps.length c1, .slice A2 S.bs.length c2x, .slice A3 S.cs.length c3x, .slice A4 S.ad.length c4x]
    rw [hz1] at h
    exact h
  have BA := Lib.hid ((below_new w (.cells #[.slice A1 S.ps.length c1, .slice A2 S.bs.length c2x, .slice A3 S.cs.length c3x, .slice A4 S.ad.length c4x] 38)).alloc (below_new w (.cells #[.slice A1 S.ps.length c1, .slice A2 S.bs.length c2x, .slice A3 S.cs.length c3x, .slice A4 S.ad.length c4x] 38)).size (.cells #[.slice A1 S.ps.length c1, .slice A2 S.bs.length c2x, .slice A3 S.cs.length c3x, .slice A4 S.ad.length c4x] 38))
  obtain ⟨w1, hw1⟩ : ∃ w1, w1 = (w.alloc (.cells #[.slice A1 S.ps.length c1, .slice A2 S.bs.length c2x, .slice A3 S.cs.length c3x, .slice A4 S.ad.length c4x] 38)).alloc (.cells nil4 38) := ⟨_, rfl⟩
  have HW1 := Lib.hid hw1
  have D0 : Hid (Below w.heap.size w w1) := by show Below _ _ _; rw [hw1]; exact (below_new w (.cells #[.slice A1 S.ps.length c1, .slice A2 S.bs.length c2x, .slice A3 S.cs.length c3x, .slice A4 S.ad.length c4x] 38)).alloc (below_new w (.cells #[.slice A1 S.ps.length c1, .slice A2 S.bs.length c2x, .slice A3 S.cs.length c3x, .slice A4 S.ad.length c4x] 38)).size (.cells nil4 38)
  have K0 : Hid (Blk w1 (gs + 1) 38 nil4) := by
    have h := Blk.new (w.alloc (.cells #[.slice A1 S.ps.length c1, .slice A2 S.bs.length c2x, .slice A3 S.cs.length c3x, .slice A4 S.ad.length c4x] 38)) 38 nil4
    rw [hz1] at h
    show Blk _ _ _ _
    rw [hw1, hgs0]
    exact h
  have R0 : Hid (Rdp w1 base gs S A1 A2 A3 A4 c1 c2x c3x c4x) := by
    have h2 := h.keep D0.out
    refine ⟨?_, h2.o1, h2.o2, h2.o3, h2.o4, by omega⟩
    rw [hw1, hgs0]
    exact (Blk.new w 38 #[.slice A1 S.ps.length c1, .slice A2 S.bs.length c2x, .slice A3 S.cs.length c3x, .slice A4 S.ad.length c4x]).alloc _
  clear h hw hl hll hgs0 hw1 hz1
  obtain ⟨j0, hj0, hj1, hj2, hj3⟩ := info_parts asd_info
  have HWD : Hid (widthW w0 = 4) := by show _ = _; unfold widthW; rw [h1, h2, h3, h4]; rfl
  have HH := Lib.hid (show eqB w0 wProd = false ∧ eqB w0 wBid = false ∧ eqB w0 wCap = false ∧ eqB w0 wAsd = true from ⟨h1, h2, h3, h4⟩)
  have h1l := h1
  rw [lit_p] at h1l
  have h2l := h2
  rw [lit_b] at h2l
  have h3l := h3
  rw [lit_c] at h3l
  have h4l := h4
  rw [lit_a] at h4l
  clear h1 h2 h3 h4
  by_cases hlen : ws.length = 4
  case neg =>
    have t2 : ((ws.length : Int) != 4) = true := by simpa using (show ¬ (ws.length : Int) = 4 by omega)
    have HV := Lib.hid (L2.out (by rw [HW0.out, HWD.out]; decide) (by rw [HW0.out, HWD.out]; exact hlen))
    clear HROW L1 L2 L3 L4 hlen hw0
    go_enter Tryz.func56, Tryz.ntmps56
    go_wp2_with fail
    exact bodyPost_ret (v := .tuple #[.agg #[.slice A1 S.ps.length c1, .slice A2 S.bs.length c2x, .slice A3 S.cs.length c3x, .slice A4 S.ad.length c4x], .int .i64 2]) (results_blk_tmp rfl rfl KA.out Tryz.underlying38 rfl (by kernel_rfl) rfl) rfl ⟨_, _, _, _, _, _, _, _, _, _, _, _, by rw [HV.out]; first | done | rfl, BA.out.mono hbase, Kp.of_below BA.out, fun e => absurd (HV.out.symm.trans e) (by decide)⟩
  obtain ⟨a0, a1, a2, a3, rfl⟩ : ∃ a0 a1 a2 a3 : ByteArray, ws = [a0, a1, a2, a3] := len4 hlen
  clear hlen KA BA
  obtain rfl : w0 = a0 := hw0
  have L3 := Lib.hid (fun h => L3.out (by rw [HW0.out, HWD.out]; decide) (by rw [HW0.out, HWD.out]; rfl) h)
  have L4 := Lib.hid (fun h => L4.out (by rw [HW0.out, HWD.out]; decide) (by rw [HW0.out, HWD.out]; rfl) h)
  have HCW : Hid (∀ W, Kp w W → W.cell? ⟨b, 0, none⟩ = some (.string w0) ∧ W.cell? ⟨b, 1, none⟩ = some (.string a1) ∧ b < W.heap.size) := fun W kp => by
    have h := kp.s _ _ _ _ HROW.out
    exact ⟨h.cellAt 0 (by simp), h.cellAt 1 (by simp), (h.lt b rfl).2⟩
  have ha1 : Hid (a1.size ≤ 5000) := hs a1 (by simp)
  have CNU : Hid (∀ W (bw : Below w.heap.size w W), Calls Tryz.prog 113 #[.slice (some ⟨b, 0, none⟩) 4 c, .int .i64 2] W (RNumsPost [a2, a3] W)) := by
    intro W bw
    exact rnumbers_any [w0, a1, a2, a3] 2 (.slice (some ⟨b, 0, none⟩) 4 c) W (Sl.of_own (own_below HROW.out bw)) (by simp) (by simp) hs
  have hc := HCW.out _ ⟨fun _ _ _ _ h => h, fun _ _ h => h⟩
  change Calls _ _ #[_, .slice (some ⟨b, 0, none⟩) 4 c] _ _
  clear L1 L2
  go_enter Tryz.func56, Tryz.ntmps56
  go_wp2_with fail
  rw [← HW1.out, ← HGS.out]
  have hc1 := HCW.out _ (Kp.of_below D0.out)
  clear hc HW1 HGS
  have gk0 := R0.out.k.c4
  have gl0 := R0.out.k.lt
  have FP := Lib.hid (fun y => Cat.rfind_any S.ps (.slice A1 S.ps.length c1) a1 (later w1 y) (by have := HL.out; omega) ((Sl.of_own R0.out.o1).keep (later_below w1 y)))
  refine wp_region_later (by kernel_rfl) (by kernel_rfl) ?_
  repeat (first | go_big_quiet_step ((go_at_call 112; exact calls_later (FP.out _))) | quiet_step ((go_at_call 112; exact calls_later (FP.out _))))
  refine wpQuiet_nil ?_
  rintro _ ⟨y, rfl⟩
  have R1 := Lib.hid (R0.out.keep (later_below w1 y))
  have KR := Lib.hid (K0.out.below' (later_below w1 y))
  have B := Lib.hid (chain0 D0.out (later_below w1 y))
  clear FP R0 K0 D0 gk0 gl0 hc1
  generalize later w1 y = w9 at *
  have hc1 := HCW.out _ (Kp.of_below B.out)
  have gk := R1.out.k.c4
  have gl := R1.out.k.lt
  have kr := KR.out.c4
  have krl := KR.out.lt
  have HNE : Hid (nameE S w0 a1 = if (findP S.ps a1).isSome then 0 else 6) := by show _ = _; unfold nameE; rw [if_neg (by rw [HH.out.1]; simp), if_neg (by rw [HH.out.2.1]; simp), if_neg (by rw [HH.out.2.2.1]; simp)]
  have HIXV : Hid (Cat.findI S.ps a1 = idxW S w0 a1) := by show _ = _; unfold idxW; rw [if_neg (by rw [HH.out.2.2.1]; simp)]; rfl
  have HFO : Hid (Cat.findOk S.ps a1 = (findP S.ps a1).isSome) := rfl
  generalize Cat.findI S.ps a1 = ix at *
  cases hn : Cat.findOk S.ps a1 with
  | false =>
    rw [← HFO.out, hn] at HNE
    have HV : Hid (lineE S [w0, a1, a2, a3] = 6) := (L3.out (show nameE S w0 a1 ≠ 0 by rw [HNE.out]; decide)).trans HNE.out
    have HQ : Hid ((6 : Int) ≠ 0) := by show (6 : Int) ≠ 0; decide
    clear hn
    go_wp2_with fail
    exact bodyPost_ret (v := .tuple #[.agg #[.slice A1 S.ps.length c1, .slice A2 S.bs.length c2x, .slice A3 S.cs.length c3x, .slice A4 S.ad.length c4x], .int .i64 6]) (results_blk_tmp rfl rfl (put4b KR.out) Tryz.underlying38 rfl (by kernel_rfl) rfl) rfl ⟨_, _, _, _, _, _, _, _, _, _, _, _, by rw [HV.out]; first | done | rfl, below4b (B.out.mono hbase) (by have := hgs.out; omega) _ _ _ _, (Kp.of_below B.out).put4 KR.out (by have := hgs.out; omega) _ _ _ _, fun e => absurd (HV.out.symm.trans e) HQ.out⟩
  | true =>
  rw [← HFO.out, hn] at HNE
  have HN0 : Hid (nameE S w0 a1 = 0) := HNE.out
  clear hn HNE HFO
  go_wp2_with fail
  have HV4 := Lib.hid (L4.out HN0.out)
  try clear HN0 L3
  refine (CNU.out _ B.out).mono ?_
  rintro e wn ⟨A6, n6, c6, rfl, HNI0, dd⟩
  have HNI := Lib.hid HNI0
  have R2 := Lib.hid (R1.out.keep dd)
  have KR2 := Lib.hid (KR.out.below' dd)
  have B2 := Lib.hid (chain0 B.out dd)
  have hc9 := HCW.out _ (Kp.of_below B2.out)
  clear dd HNI0 R1 KR B
  try clear gk gl kr krl hc1
  try clear hc2
  have gk := R2.out.k.c4
  have gl := R2.out.k.lt
  have kr := KR2.out.c4
  have krl := KR2.out.lt
  by_cases hnz : numsE [a2, a3] = 0
  case neg =>
    have t6 : (numsE [a2, a3] != 0) = true := by simpa using hnz
    have HQ : Hid (numsE [a2, a3] ≠ 0) := hnz
    have HV := HV4
    have KR := KR2
    have B := B2
    clear hnz
    go_wp2_with fail
    exact bodyPost_ret (v := .tuple #[.agg #[.slice A1 S.ps.length c1, .slice A2 S.bs.length c2x, .slice A3 S.cs.length c3x, .slice A4 S.ad.length c4x], .int .i64 (numsE [a2, a3])]) (results_blk_tmp rfl rfl (put4b KR.out) Tryz.underlying38 rfl (by kernel_rfl) rfl) rfl ⟨_, _, _, _, _, _, _, _, _, _, _, _, by rw [HV.out]; first | done | rfl, below4b (B.out.mono hbase) (by have := hgs.out; omega) _ _ _ _, (Kp.of_below B.out).put4 KR.out (by have := hgs.out; omega) _ _ _ _, fun e => absurd (HV.out.symm.trans e) HQ.out⟩
  have t6 : (numsE [a2, a3] != 0) = false := by rw [hnz]; rfl
  obtain ⟨hn6, hoi⟩ := HNI.out hnz
  have HZ : Hid (lineE S [w0, a1, a2, a3] = 0) := HV4.out.trans hnz
  clear hnz HNI
  obtain rfl : n6 = 2 := hn6
  obtain ⟨g6, c6x, e6⟩ := own_pos hoi (by decide)
  injection e6 with e61 e62 e63
  subst e61 e63
  have HOI := Lib.hid hoi
  have n0 : wn.cell? ⟨g6, 0, none⟩ = some (.int .i64 (numV a2)) := hoi.cellAt 0 (by decide)
  have n1 : wn.cell? ⟨g6, 1, none⟩ = some (.int .i64 (numV a3)) := hoi.cellAt 1 (by decide)
  have hg6 := (hoi.lt g6 rfl).2
  have HWB : Hid (wn.ownsRow wb 9 1 (.slice (some ⟨b, 0, none⟩) 4 c) 4 ([w0, a1, a2, a3].map Value.string)) := own_below HROW.out B2.out
  have hgi : gs ≠ g6 := fun e => own_apart HOI.out R2.out.k (by decide) (by rw [e]; rfl)
  have hgb : gs ≠ b := fun e => own_apart HWB.out R2.out.k (by decide) (by rw [e]; rfl)
  clear hoi
  obtain ⟨y0, hy0_⟩ : ∃ y, y = numV a2 := ⟨_, rfl⟩
  rw [← hy0_] at n0
  have HY0 := Lib.hid hy0_
  clear hy0_
  obtain ⟨y1, hy1_⟩ : ∃ y, y = numV a3 := ⟨_, rfl⟩
  rw [← hy1_] at n1
  have HY1 := Lib.hid hy1_
  clear hy1_
  have HB9 := Lib.hid hbase
  go_wp2_with fail
  have HKP : Hid (∀ W : World, W.ownsRow wb 9 1 (.slice (some ⟨b, 0, none⟩) 4 c) 4 ([w0, a1, a2, a3].map Value.string) → W.ownsRow w9.heap.size 2 1 (.slice (some ⟨g6, 0, none⟩) 2 c6) 2 (intsC ([a2, a3].map numV)) → W.cell? ⟨g6, 0, none⟩ = some (.int .i64 y0) ∧ W.cell? ⟨g6, 1, none⟩ = some (.int .i64 y1)) := fun W k1 k2 => ⟨by rw [HY0.out]; exact k2.cellAt 0 (by decide), by rw [HY1.out]; exact k2.cellAt 1 (by decide)⟩
  refine wp_region_held_drew (S := fun W => W.cell? ⟨g6, 0, none⟩ = some (.int .i64 y0) ∧ W.cell? ⟨g6, 1, none⟩ = some (.int .i64 y1)) (by kernel_rfl) ?_ (fun hHeld => ?_)
  · (try dsimp only)
    first | done | go_keep
  refine wpAnyH_take (i := 0) (v := ?v0_4001) rfl (by kernel_rfl) (by kernel_rfl) (by kernel_rfl) (fun _ _ _ h => h) (Or.inl ⟨by rfl, ?h0_4001⟩) (by assumption) ?r0_4001
  case h0_4001 => intro w hSw; (try dsimp only at hSw); go_simp; try with_reducible rfl
  try simp only [Act.put, List.setIfInBounds_toArray, List.set_cons_zero, List.set_cons_succ]
  refine wpAnyH_take (i := 2) (v := ?v2_4002) rfl (by kernel_rfl) (by kernel_rfl) (by kernel_rfl) (fun _ _ _ h => h) (Or.inl ⟨by rfl, ?h2_4002⟩) (by assumption) ?r2_4002
  case h2_4002 => intro w hSw; (try dsimp only at hSw); go_simp; try with_reducible rfl
  try simp only [Act.put, List.setIfInBounds_toArray, List.set_cons_zero, List.set_cons_succ]
  refine wpAnyH_take (i := 3) (v := ?v3_4003) rfl (by kernel_rfl) (by kernel_rfl) (by kernel_rfl) (fun _ _ _ h => h) (Or.inl ⟨by rfl, ?h3_4003⟩) (by assumption) ?r3_4003
  case h3_4003 => intro w hSw; (try dsimp only at hSw); go_simp; try with_reducible rfl
  try simp only [Act.put, List.setIfInBounds_toArray, List.set_cons_zero, List.set_cons_succ]
  refine wpAnyH_take (i := 4) (v := ?v4_4004) rfl (by kernel_rfl) (by kernel_rfl) (by kernel_rfl) (fun _ _ _ h => h) (Or.inl ⟨by rfl, ?h4_4004⟩) (by assumption) ?r4_4004
  case h4_4004 => intro w hSw; (try dsimp only at hSw); go_simp; try with_reducible rfl
  try simp only [Act.put, List.setIfInBounds_toArray, List.set_cons_zero, List.set_cons_succ]
  refine wpAnyH_take (i := 5) (v := ?v5_4005) rfl (by kernel_rfl) (by kernel_rfl) (by kernel_rfl) (fun _ _ _ h => h) (Or.inl ⟨by rfl, ?h5_4005⟩) (by assumption) ?r5_4005
  case h5_4005 => intro w hSw; (try dsimp only at hSw); go_simp; try with_reducible rfl
  try simp only [Act.put, List.setIfInBounds_toArray, List.set_cons_zero, List.set_cons_succ]
  refine wpAnyH_take (i := 6) (v := ?v6_4006) rfl (by kernel_rfl) (by kernel_rfl) (by kernel_rfl) (fun _ _ _ h => h) (Or.inl ⟨by rfl, ?h6_4006⟩) (by assumption) ?r6_4006
  case h6_4006 => intro w hSw; (try dsimp only at hSw); go_simp; try with_reducible rfl
  try simp only [Act.put, List.setIfInBounds_toArray, List.set_cons_zero, List.set_cons_succ]
  refine wpAnyH_take (i := 7) (v := ?v7_4007) rfl (by kernel_rfl) (by kernel_rfl) (by kernel_rfl) (fun _ _ _ h => h) (Or.inl ⟨by rfl, ?h7_4007⟩) (by assumption) ?r7_4007
  case h7_4007 => intro w hSw; (try dsimp only at hSw); go_simp; try with_reducible rfl
  try simp only [Act.put, List.setIfInBounds_toArray, List.set_cons_zero, List.set_cons_succ]
  refine wpAnyH_take (i := 8) (v := ?v8_4008) rfl (by kernel_rfl) (by kernel_rfl) (by kernel_rfl) (fun _ _ _ h => h) (Or.inl ⟨by rfl, ?h8_4008⟩) (by assumption) ?r8_4008
  case h8_4008 => intro w hSw; (try dsimp only at hSw); go_simp; try with_reducible rfl
  try simp only [Act.put, List.setIfInBounds_toArray, List.set_cons_zero, List.set_cons_succ]
  refine wpAnyH_take (i := 9) (v := ?v9_4009) rfl (by kernel_rfl) (by kernel_rfl) (by kernel_rfl) (fun _ _ _ h => h) (Or.inl ⟨by rfl, ?h9_4009⟩) (by assumption) ?r9_4009
  case h9_4009 => intro w hSw; (try dsimp only at hSw); go_simp; try with_reducible rfl
  try simp only [Act.put, List.setIfInBounds_toArray, List.set_cons_zero, List.set_cons_succ]
  refine wpAnyH_ready (rs := [1, 10]) (by kernel_rfl) (by simp) ?_
  refine AllReadyH.cons (o := ?o1_4010) ?ho1_4010 (fun KK hKK => ?st1_4010) ?mo1_4010
  case ho1_4010 => (simp only [List.getElem?_toArray, List.getElem?_cons_succ, List.getElem?_cons_zero]; rfl)
  case st1_4010 =>
    go_simp
    refine hKK.out _ _ ?_ (fun hHeld2 => ?_)
    · (try dsimp only)
      first | with_reducible exact HA9 | go_keep
    clear hKK KK hHeld
    have hHeld := hHeld2
    clear hHeld2
    try simp only [Act.put, List.setIfInBounds_toArray, List.set_cons_zero, List.set_cons_succ]
    refine wpAnyH_ready (rs := [10]) (by kernel_rfl) (by simp) ?_
    refine AllReadyH.cons (o := ?o10_4011) ?ho10_4011 (fun KK hKK => ?st10_4011) ?mo10_4011
    case ho10_4011 => (simp only [List.getElem?_toArray, List.getElem?_cons_succ, List.getElem?_cons_zero]; rfl)
    case st10_4011 =>
      go_simp
      refine hKK.out _ _ ?_ (fun hHeld2 => ?_)
      · (try dsimp only)
        first | with_reducible exact HA9 | go_keep
      clear hKK KK hHeld
      have hHeld := hHeld2
      clear hHeld2
      try simp only [Act.put, List.setIfInBounds_toArray, List.set_cons_zero, List.set_cons_succ]
      refine wpAnyH_ready (rs := [11]) (by kernel_rfl) (by simp) ?_
      refine AllReadyH.cons (o := ?o11_4012) ?ho11_4012 (fun KK hKK => ?st11_4012) ?mo11_4012
      case ho11_4012 => (simp only [List.getElem?_toArray, List.getElem?_cons_succ, List.getElem?_cons_zero]; rfl)
      case st11_4012 =>
        (refine step_append_own _ rfl (.tmp 102) (.tmp 111) _ rfl base 80 j0 _ 3 24 Tryz.underlying36 hj0 hj1 hj2 hj3 rfl (by decide) (.slice A4 S.ad.length c4x) S.ad.length (S.ad.flatMap Asd.cells) rfl (by first | exact own_below (R2.out.o4.alloc _) ((Below.refl _ _).drew) | exact (own_below R2.out.o4 ((Below.refl _ _).drew)).alloc _ | exact R2.out.o4.alloc _) ⟨wn.heap.size, 0, none⟩ 1 1 [.int .i64 ix, .int .i64 y0, .int .i64 y1] rfl rfl (cells_new wn _ _) (by intro u hu; simp at hu; (first | (rcases hu with rfl | rfl | rfl <;> rfl) | (rcases hu with rfl | rfl | rfl | rfl <;> rfl) | (rcases hu with rfl | rfl | rfl | rfl | rfl <;> rfl))) (by have := HL.out; unfold maxLen; omega) (by have := HL.out; omega) (by have := B2.out.size; have := HB9.out; simp; omega) ?_; intro v' w2 hown hgr _; obtain ⟨A5, c5, rfl⟩ := Gn.own_form hown; have O5 := Lib.hid hown; have G5 := Lib.hid hgr; have BW := Lib.hid (bw_of (wn := wn) hgr (by first | exact (below_new wn _).drew | exact (below_of_drew wn _) | exact below_new wn _)); have RW := Lib.hid (R2.out.keep BW.out); have KRW := Lib.hid (KR2.out.below' BW.out); have KK := after_app2 BW.out R2.out.o4 HWB.out HOI.out (by decide) (by decide) hgr; have HA9 := HKP.out w2 KK.1 KK.2; have KP5 := Lib.hid ((Kp.of_below (chain0 B2.out BW.out)).grow RW.out.o4 (by decide) (by decide) hgr); have KG := Lib.hid (RW.out.k.grown hgr (fun e => own_apart RW.out.o4 RW.out.k (by decide) e.symm)); have KRG := Lib.hid (KRW.out.grown hgr (fun e => own_apart RW.out.o4 KRW.out (by decide) e.symm)); have hg2 := KG.out.c4; have hgl2 := KG.out.lt; have B5 := Lib.hid (((chain0 B2.out BW.out).mono HB9.out).grown hgr (by have := (chain0 B2.out BW.out).size; have := HB9.out; omega) (fun q hq => (R2.out.o4.lt q hq).1)); clear hown hgr KK)
        refine hKK.out _ _ ?_ (fun hHeld2 => ?_)
        · (try dsimp only)
          first | with_reducible exact HA9 | go_keep
        clear hKK KK hHeld
        have hHeld := hHeld2
        clear hHeld2
        try simp only [Act.put, List.setIfInBounds_toArray, List.set_cons_zero, List.set_cons_succ]
        refine wpAnyH_take (i := 12) (v := ?v12_4013) rfl (by kernel_rfl) (by kernel_rfl) (by kernel_rfl) (fun _ _ _ h => h) (Or.inl ⟨by rfl, ?h12_4013⟩) (by assumption) ?r12_4013
        case h12_4013 => intro w hSw; (try dsimp only at hSw); go_simp; try with_reducible rfl
        try simp only [Act.put, List.setIfInBounds_toArray, List.set_cons_zero, List.set_cons_succ]
        refine wpAnyH_ready (rs := [13]) (by kernel_rfl) (by simp) ?_
        refine AllReadyH.cons (o := ?o13_4014) ?ho13_4014 (fun KK hKK => ?st13_4014) ?mo13_4014
        case ho13_4014 => (simp only [List.getElem?_toArray, List.getElem?_cons_succ, List.getElem?_cons_zero]; rfl)
        case st13_4014 =>
          go_simp
          refine hKK.out _ _ ?_ (fun hHeld2 => ?_)
          · (try dsimp only)
            first | with_reducible exact HA9 | go_keep
          clear hKK KK hHeld
          have hHeld := hHeld2
          clear hHeld2
          try simp only [Act.put, List.setIfInBounds_toArray, List.set_cons_zero, List.set_cons_succ]
          refine wpAnyH_done (by kernel_rfl) ?_ _
          have RD := rd_4 RW.out ⟨ix, y0, y1⟩ G5.out O5.out
          have HST : Hid (stepW S [w0, a1, a2, a3] = { S with ad := S.ad ++ [⟨ix, y0, y1⟩] }) := by show _ = _; rw [stepW_4 HH.out.1 HH.out.2.1 HH.out.2.2.1, ← HY0.out, ← HY1.out, ← HIXV.out]
          rw [← HST.out] at RD
          have B6 := Lib.hid (B5.out.setCell (p := ⟨gs, 3, none⟩) (show base ≤ gs from R2.out.le) (.slice A5 (S.ad.length + 1) c5))
          have KR6 := Lib.hid (KRG.out.far (p := ⟨gs, 3, none⟩) (show gs + 1 ≠ gs by omega) (.slice A5 (S.ad.length + 1) c5))
          have KP6 := Lib.hid (KP5.out.put (i := 3) (u := .slice A5 (S.ad.length + 1) c5) KG.out hgs.out)
          have R6 := Lib.hid RD
          clear RD HA9 hHeld hg2 hgl2 gk gl kr krl hc9 n0 n1 B5 KG KRG KP5 O5 G5 RW KRW BW HST
          generalize w2.setCell ⟨gs, 3, none⟩ _ = w6 at *
          have RP : Hid (∃ S2, S2 = stepW S [w0, a1, a2, a3]) := ⟨_, rfl⟩
          obtain ⟨S2, hS2⟩ := RP.out
          rw [← hS2] at R6
          have HS2 := Lib.hid hS2
          clear hS2 RP
          have gk := R6.out.k.c4
          have gl := R6.out.k.lt
          have kr := KR6.out.c4
          have krl := KR6.out.lt
          go_wp2_with fail
          exact bodyPost_ret (v := .tuple #[.agg #[.slice A1 S2.ps.length c1, .slice A2 S2.bs.length c2x, .slice A3 S2.cs.length c3x, .slice A5 S2.ad.length c5], .int .i64 0]) (results_blk_tmp rfl rfl (put4b KR6.out) Tryz.underlying38 rfl (by kernel_rfl) rfl) rfl ⟨_, _, _, _, _, _, _, _, _, _, _, _, by rw [HZ.out]; first | done | rfl, below4b B6.out (by have := R2.out.le; omega) _ _ _ _, KP6.out.put4 KR6.out (by have := hgs.out; omega) _ _ _ _, fun _ => by rw [← HS2.out]; exact ⟨rfl, rfl, rfl, rfl, R6.out.rw.put4 KR6.out _ _ _ _⟩⟩
        case mo13_4014 =>
          exact AllReadyH.nil
      case mo11_4012 =>
        exact AllReadyH.nil
    case mo10_4011 =>
      exact AllReadyH.nil
  case mo1_4010 =>
    refine AllReadyH.cons (o := ?o10_4015) ?ho10_4015 (fun KK hKK => ?st10_4015) ?mo10_4015
    case ho10_4015 => (simp only [List.getElem?_toArray, List.getElem?_cons_succ, List.getElem?_cons_zero]; rfl)
    case st10_4015 =>
      go_simp
      refine hKK.out _ _ ?_ (fun hHeld2 => ?_)
      · (try dsimp only)
        first | with_reducible exact HA9 | go_keep
      clear hKK KK hHeld
      have hHeld := hHeld2
      clear hHeld2
      try simp only [Act.put, List.setIfInBounds_toArray, List.set_cons_zero, List.set_cons_succ]
      refine wpAnyH_ready (rs := [1]) (by kernel_rfl) (by simp) ?_
      refine AllReadyH.cons (o := ?o1_4016) ?ho1_4016 (fun KK hKK => ?st1_4016) ?mo1_4016
      case ho1_4016 => (simp only [List.getElem?_toArray, List.getElem?_cons_succ, List.getElem?_cons_zero]; rfl)
      case st1_4016 =>
        go_simp
        refine hKK.out _ _ ?_ (fun hHeld2 => ?_)
        · (try dsimp only)
          first | with_reducible exact HA9 | go_keep
        clear hKK KK hHeld
        have hHeld := hHeld2
        clear hHeld2
        try simp only [Act.put, List.setIfInBounds_toArray, List.set_cons_zero, List.set_cons_succ]
        refine wpAnyH_ready (rs := [11]) (by kernel_rfl) (by simp) ?_
        refine AllReadyH.cons (o := ?o11_4017) ?ho11_4017 (fun KK hKK => ?st11_4017) ?mo11_4017
        case ho11_4017 => (simp only [List.getElem?_toArray, List.getElem?_cons_succ, List.getElem?_cons_zero]; rfl)
        case st11_4017 =>
          (refine step_append_own _ rfl (.tmp 102) (.tmp 111) _ rfl base 80 j0 _ 3 24 Tryz.underlying36 hj0 hj1 hj2 hj3 rfl (by decide) (.slice A4 S.ad.length c4x) S.ad.length (S.ad.flatMap Asd.cells) rfl (by first | exact own_below (R2.out.o4.alloc _) ((Below.refl _ _).drew) | exact (own_below R2.out.o4 ((Below.refl _ _).drew)).alloc _ | exact R2.out.o4.alloc _) ⟨wn.heap.size, 0, none⟩ 1 1 [.int .i64 ix, .int .i64 y0, .int .i64 y1] rfl rfl (cells_new wn _ _) (by intro u hu; simp at hu; (first | (rcases hu with rfl | rfl | rfl <;> rfl) | (rcases hu with rfl | rfl | rfl | rfl <;> rfl) | (rcases hu with rfl | rfl | rfl | rfl | rfl <;> rfl))) (by have := HL.out; unfold maxLen; omega) (by have := HL.out; omega) (by have := B2.out.size; have := HB9.out; simp; omega) ?_; intro v' w2 hown hgr _; obtain ⟨A5, c5, rfl⟩ := Gn.own_form hown; have O5 := Lib.hid hown; have G5 := Lib.hid hgr; have BW := Lib.hid (bw_of (wn := wn) hgr (by first | exact (below_new wn _).drew | exact (below_of_drew wn _) | exact below_new wn _)); have RW := Lib.hid (R2.out.keep BW.out); have KRW := Lib.hid (KR2.out.below' BW.out); have KK := after_app2 BW.out R2.out.o4 HWB.out HOI.out (by decide) (by decide) hgr; have HA9 := HKP.out w2 KK.1 KK.2; have KP5 := Lib.hid ((Kp.of_below (chain0 B2.out BW.out)).grow RW.out.o4 (by decide) (by decide) hgr); have KG := Lib.hid (RW.out.k.grown hgr (fun e => own_apart RW.out.o4 RW.out.k (by decide) e.symm)); have KRG := Lib.hid (KRW.out.grown hgr (fun e => own_apart RW.out.o4 KRW.out (by decide) e.symm)); have hg2 := KG.out.c4; have hgl2 := KG.out.lt; have B5 := Lib.hid (((chain0 B2.out BW.out).mono HB9.out).grown hgr (by have := (chain0 B2.out BW.out).size; have := HB9.out; omega) (fun q hq => (R2.out.o4.lt q hq).1)); clear hown hgr KK)
          refine hKK.out _ _ ?_ (fun hHeld2 => ?_)
          · (try dsimp only)
            first | with_reducible exact HA9 | go_keep
          clear hKK KK hHeld
          have hHeld := hHeld2
          clear hHeld2
          try simp only [Act.put, List.setIfInBounds_toArray, List.set_cons_zero, List.set_cons_succ]
          refine wpAnyH_take (i := 12) (v := ?v12_4018) rfl (by kernel_rfl) (by kernel_rfl) (by kernel_rfl) (fun _ _ _ h => h) (Or.inl ⟨by rfl, ?h12_4018⟩) (by assumption) ?r12_4018
          case h12_4018 => intro w hSw; (try dsimp only at hSw); go_simp; try with_reducible rfl
          try simp only [Act.put, List.setIfInBounds_toArray, List.set_cons_zero, List.set_cons_succ]
          refine wpAnyH_ready (rs := [13]) (by kernel_rfl) (by simp) ?_
          refine AllReadyH.cons (o := ?o13_4019) ?ho13_4019 (fun KK hKK => ?st13_4019) ?mo13_4019
          case ho13_4019 => (simp only [List.getElem?_toArray, List.getElem?_cons_succ, List.getElem?_cons_zero]; rfl)
          case st13_4019 =>
            go_simp
            refine hKK.out _ _ ?_ (fun hHeld2 => ?_)
            · (try dsimp only)
              first | with_reducible exact HA9 | go_keep
            clear hKK KK hHeld
            have hHeld := hHeld2
            clear hHeld2
            try simp only [Act.put, List.setIfInBounds_toArray, List.set_cons_zero, List.set_cons_succ]
            refine wpAnyH_done (by kernel_rfl) ?_ _
            have RD := rd_4 RW.out ⟨ix, y0, y1⟩ G5.out O5.out
            have HST : Hid (stepW S [w0, a1, a2, a3] = { S with ad := S.ad ++ [⟨ix, y0, y1⟩] }) := by show _ = _; rw [stepW_4 HH.out.1 HH.out.2.1 HH.out.2.2.1, ← HY0.out, ← HY1.out, ← HIXV.out]
            rw [← HST.out] at RD
            have B6 := Lib.hid (B5.out.setCell (p := ⟨gs, 3, none⟩) (show base ≤ gs from R2.out.le) (.slice A5 (S.ad.length + 1) c5))
            have KR6 := Lib.hid (KRG.out.far (p := ⟨gs, 3, none⟩) (show gs + 1 ≠ gs by omega) (.slice A5 (S.ad.length + 1) c5))
            have KP6 := Lib.hid (KP5.out.put (i := 3) (u := .slice A5 (S.ad.length + 1) c5) KG.out hgs.out)
            have R6 := Lib.hid RD
            clear RD HA9 hHeld hg2 hgl2 gk gl kr krl hc9 n0 n1 B5 KG KRG KP5 O5 G5 RW KRW BW HST
            generalize w2.setCell ⟨gs, 3, none⟩ _ = w6 at *
            have RP : Hid (∃ S2, S2 = stepW S [w0, a1, a2, a3]) := ⟨_, rfl⟩
            obtain ⟨S2, hS2⟩ := RP.out
            rw [← hS2] at R6
            have HS2 := Lib.hid hS2
            clear hS2 RP
            have gk := R6.out.k.c4
            have gl := R6.out.k.lt
            have kr := KR6.out.c4
            have krl := KR6.out.lt
            go_wp2_with fail
            exact bodyPost_ret (v := .tuple #[.agg #[.slice A1 S2.ps.length c1, .slice A2 S2.bs.length c2x, .slice A3 S2.cs.length c3x, .slice A5 S2.ad.length c5], .int .i64 0]) (results_blk_tmp rfl rfl (put4b KR6.out) Tryz.underlying38 rfl (by kernel_rfl) rfl) rfl ⟨_, _, _, _, _, _, _, _, _, _, _, _, by rw [HZ.out]; first | done | rfl, below4b B6.out (by have := R2.out.le; omega) _ _ _ _, KP6.out.put4 KR6.out (by have := hgs.out; omega) _ _ _ _, fun _ => by rw [← HS2.out]; exact ⟨rfl, rfl, rfl, rfl, R6.out.rw.put4 KR6.out _ _ _ _⟩⟩
          case mo13_4019 =>
            exact AllReadyH.nil
        case mo11_4017 =>
          exact AllReadyH.nil
      case mo1_4016 =>
        exact AllReadyH.nil
    case mo10_4015 =>
      exact AllReadyH.nil
set_option maxHeartbeats 8000000 in
set_option maxRecDepth 100000 in
theorem rline_0 (S : SetD) (ws : List ByteArray) (base wb b c : Nat) (A1 A2 A3 A4 : Option Addr) (c1 c2x c3x c4x : Nat) (w : World) (h : Rw w base S A1 A2 A3 A4 c1 c2x c3x c4x) (hw : w.ownsRow wb 9 1 (.slice (some ⟨b, 0, none⟩) ws.length c) ws.length (ws.map Value.string)) (hbase : base ≤ w.heap.size) (h0 : 0 < ws.length) (hs : ∀ x ∈ ws, x.size ≤ 5000) (hl : S.ps.length ≤ 4500 ∧ S.bs.length ≤ 4500 ∧ S.cs.length ≤ 4500 ∧ S.ad.length ≤ 4500) (hok : ∀ p ∈ S.bs, nameOk p.name = true) (hll : ws.length ≤ 5000) (h1 : eqB (wd ws 0) wProd = false) (h2 : eqB (wd ws 0) wBid = false) (h3 : eqB (wd ws 0) wCap = false) (h4 : eqB (wd ws 0) wAsd = false) : Calls Tryz.prog 56 #[.agg #[.slice A1 S.ps.length c1, .slice A2 S.bs.length c2x, .slice A3 S.cs.length c3x, .slice A4 S.ad.length c4x], .slice (some ⟨b, 0, none⟩) ws.length c] w (RLinePost S ws base w) := by
  have HL := Lib.hid hl
  have HROW := Lib.hid hw
  obtain ⟨w0, hw0⟩ : ∃ w0, w0 = wd ws 0 := ⟨_, rfl⟩
  rw [← hw0] at h1 h2 h3 h4
  have HW0 : Hid (wd ws 0 = w0) := hw0.symm
  have hl5 : (ws.length : Int) ≤ 5000 := by omega
  have hl0 : (0 : Int) < (ws.length : Int) := by omega
  have hc0 : w.cell? ⟨b, 0, none⟩ = some (.string w0) := by
    have := hw.cellAt 0 (by omega)
    rw [this, hw0, List.getElem?_map, List.getElem?_eq_getElem h0]
    simp [wd, List.getD, h0]
  have hb : b < w.heap.size := (hw.lt b rfl).2
  have L1 := Lib.hid (line_1 (S := S) (ws := ws))
  have L2 := Lib.hid (line_2 (S := S) (ws := ws))
  have L3 := Lib.hid (line_3 (S := S) (ws := ws))
  have L4 := Lib.hid (line_4 (S := S) (ws := ws))
  obtain ⟨gs, hgs0⟩ : ∃ gs, gs = w.heap.size := ⟨_, rfl⟩
  have HGS := Lib.hid hgs0
  have hgs : Hid (w.heap.size ≤ gs) := by show _ ≤ _; omega
  have hz1 : (w.alloc (.cells #[.slice A1 S.ps.length c1, .slice A2 S.bs.length c2x, .slice A3 S.cs.length c3x, .slice A4 S.ad.length c4x] 38)).heap.size = w.heap.size + 1 := World.size_alloc _ _
  have KA : Hid (Blk ((w.alloc (.cells #[.slice A1 S.ps.length c1, .slice A2 S.bs.length c2x, .slice A3 S.cs.length c3x, .slice A4 S.ad.length c4x] 38)).alloc (.cells #[.slice A1 S.ps.length c1, .slice A2 S.bs.length c2x, .slice A3 S.cs.length c3x, .slice A4 S.ad.length c4x] 38)) (w.heap.size + 1) 38 #[.slice A1 S.ps.length c1, .slice A2 S.bs.length c2x, .slice A3 S.cs.length c3x, .slice A4 S.ad.length c4x]) := by
    have h := Blk.new (w.alloc (.cells #[.slice A1 S.ps.length c1, .slice A2 S.bs.length c2x, .slice A3 S.cs.length c3x, .slice A4 S.ad.length c4x] 38)) 38 #[.slice A1 S.ps.length c1, .slice A2 S.bs.length c2x, .slice A3 S.cs.length c3x, .slice A4 S.ad.length c4x]
    rw [hz1] at h
    exact h
  have BA := Lib.hid ((below_new w (.cells #[.slice A1 S.ps.length c1, .slice A2 S.bs.length c2x, .slice A3 S.cs.length c3x, .slice A4 S.ad.length c4x] 38)).alloc (below_new w (.cells #[.slice A1 S.ps.length c1, .slice A2 S.bs.length c2x, .slice A3 S.cs.length c3x, .slice A4 S.ad.length c4x] 38)).size (.cells #[.slice A1 S.ps.length c1, .slice A2 S.bs.length c2x, .slice A3 S.cs.length c3x, .slice A4 S.ad.length c4x] 38))
  obtain ⟨w1, hw1⟩ : ∃ w1, w1 = (w.alloc (.cells #[.slice A1 S.ps.length c1, .slice A2 S.bs.length c2x, .slice A3 S.cs.length c3x, .slice A4 S.ad.length c4x] 38)).alloc (.cells nil4 38) := ⟨_, rfl⟩
  have HW1 := Lib.hid hw1
  have D0 : Hid (Below w.heap.size w w1) := by show Below _ _ _; rw [hw1]; exact (below_new w (.cells #[.slice A1 S.ps.length c1, .slice A2 S.bs.length c2x, .slice A3 S.cs.length c3x, .slice A4 S.ad.length c4x] 38)).alloc (below_new w (.cells #[.slice A1 S.ps.length c1, .slice A2 S.bs.length c2x, .slice A3 S.cs.length c3x, .slice A4 S.ad.length c4x] 38)).size (.cells nil4 38)
  have K0 : Hid (Blk w1 (gs + 1) 38 nil4) := by
    have h := Blk.new (w.alloc (.cells #[.slice A1 S.ps.length c1, .slice A2 S.bs.length c2x, .slice A3 S.cs.length c3x, .slice A4 S.ad.length c4x] 38)) 38 nil4
    rw [hz1] at h
    show Blk _ _ _ _
    rw [hw1, hgs0]
    exact h
  have R0 : Hid (Rdp w1 base gs S A1 A2 A3 A4 c1 c2x c3x c4x) := by
    have h2 := h.keep D0.out
    refine ⟨?_, h2.o1, h2.o2, h2.o3, h2.o4, by omega⟩
    rw [hw1, hgs0]
    exact (Blk.new w 38 #[.slice A1 S.ps.length c1, .slice A2 S.bs.length c2x, .slice A3 S.cs.length c3x, .slice A4 S.ad.length c4x]).alloc _
  clear h hw hl hll hgs0 hw1 hz1
  have HWD : Hid (widthW w0 = 0) := by show _ = _; unfold widthW; rw [h1, h2, h3, h4]; rfl
  have HV := Lib.hid (L1.out (by rw [HW0.out, HWD.out]))
  rw [lit_p] at h1
  rw [lit_b] at h2
  rw [lit_c] at h3
  rw [lit_a] at h4
  clear HROW hw0 L1 L2 L3 L4
  go_enter Tryz.func56, Tryz.ntmps56
  go_wp2_with fail
  exact bodyPost_ret (v := .tuple #[.agg #[.slice A1 S.ps.length c1, .slice A2 S.bs.length c2x, .slice A3 S.cs.length c3x, .slice A4 S.ad.length c4x], .int .i64 22]) (results_blk_tmp rfl rfl KA.out Tryz.underlying38 rfl (by kernel_rfl) rfl) rfl ⟨_, _, _, _, _, _, _, _, _, _, _, _, by rw [HV.out]; first | done | rfl, BA.out.mono hbase, Kp.of_below BA.out, fun e => absurd (HV.out.symm.trans e) (by decide)⟩
theorem rline_any (S : SetD) (ws : List ByteArray) (base wb b c : Nat) (A1 A2 A3 A4 : Option Addr) (c1 c2x c3x c4x : Nat) (w : World) (h : Rw w base S A1 A2 A3 A4 c1 c2x c3x c4x) (hw : w.ownsRow wb 9 1 (.slice (some ⟨b, 0, none⟩) ws.length c) ws.length (ws.map Value.string)) (hbase : base ≤ w.heap.size) (h0 : 0 < ws.length) (hs : ∀ x ∈ ws, x.size ≤ 5000) (hl : S.ps.length ≤ 4500 ∧ S.bs.length ≤ 4500 ∧ S.cs.length ≤ 4500 ∧ S.ad.length ≤ 4500) (hok : ∀ p ∈ S.bs, nameOk p.name = true) (hll : ws.length ≤ 5000) : Calls Tryz.prog 56 #[.agg #[.slice A1 S.ps.length c1, .slice A2 S.bs.length c2x, .slice A3 S.cs.length c3x, .slice A4 S.ad.length c4x], .slice (some ⟨b, 0, none⟩) ws.length c] w (RLinePost S ws base w) := by
  cases h1 : eqB (wd ws 0) wProd with
  | true => exact rline_1 S ws base wb b c A1 A2 A3 A4 c1 c2x c3x c4x w h hw hbase h0 hs hl hok hll h1
  | false =>
  cases h2 : eqB (wd ws 0) wBid with
  | true => exact rline_2 S ws base wb b c A1 A2 A3 A4 c1 c2x c3x c4x w h hw hbase h0 hs hl hok hll h1 h2
  | false =>
  cases h3 : eqB (wd ws 0) wCap with
  | true => exact rline_3 S ws base wb b c A1 A2 A3 A4 c1 c2x c3x c4x w h hw hbase h0 hs hl hok hll h1 h2 h3
  | false =>
  cases h4 : eqB (wd ws 0) wAsd with
  | true => exact rline_4 S ws base wb b c A1 A2 A3 A4 c1 c2x c3x c4x w h hw hbase h0 hs hl hok hll h1 h2 h3 h4
  | false => exact rline_0 S ws base wb b c A1 A2 A3 A4 c1 c2x c3x c4x w h hw hbase h0 hs hl hok hll h1 h2 h3 h4

end Go.Proofs.YtjjlhihocllgjaaGreatDoor.Se
