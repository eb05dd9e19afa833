/- Contracts of setup.Feasible and Remaining. Printed by gen_se5.py. -/
import Derived.Test.YtjjlhihocllgjaaDoorSe4
namespace Go.Proofs.YtjjlhihocllgjaaDoor.Se
open Go.ChangeShapes Go.WideShapes Go.ChangeAt Go.RowKit Gn Cat Lex Ros
set_option linter.unusedVariables false
set_option linter.unusedSimpArgs false
abbrev bunCells (p : Nat → Int) : List Value := [.int .i64 (p 0), .int .i64 (p 1), .int .i64 (p 2), .int .i64 (p 3), .int .i64 (p 4), .int .i64 (p 5)]
theorem bun_len (p : Nat → Int) : (bunCells p).length = 6 := rfl
/-- a list of bundles in memory -/
abbrev BunS (w : World) (v : Value) (l : List (Nat → Int)) : Prop := Sl w 6 v l.length (l.flatMap bunCells)
theorem bun_at {w : World} {b o : Nat} {l : List (Nat → Int)} (h : Row w b o (l.flatMap bunCells)) (k : Nat) (hk : k < l.length) :
    w.cell? ⟨b, o + k * 6, none⟩ = some (.int .i64 (l[k] 0)) ∧ w.cell? ⟨b, o + k * 6 + 1, none⟩ = some (.int .i64 (l[k] 1)) ∧ w.cell? ⟨b, o + k * 6 + 2, none⟩ = some (.int .i64 (l[k] 2)) ∧ w.cell? ⟨b, o + k * 6 + 3, none⟩ = some (.int .i64 (l[k] 3)) ∧ w.cell? ⟨b, o + k * 6 + 4, none⟩ = some (.int .i64 (l[k] 4)) ∧ w.cell? ⟨b, o + k * 6 + 5, none⟩ = some (.int .i64 (l[k] 5)) :=
  ⟨h.elem0 bun_len k hk (by omega) _ rfl, h.elem bun_len k hk 1 (by omega) _ rfl, h.elem bun_len k hk 2 (by omega) _ rfl, h.elem bun_len k hk 3 (by omega) _ rfl, h.elem bun_len k hk 4 (by omega) _ rfl, h.elem bun_len k hk 5 (by omega) _ rfl⟩
theorem feas_1 {S : SetD} {l : List (Nat → Int)} (h : S.err ≠ 0) : feasE S l = S.err := by unfold feasE; rw [if_pos h]
theorem feas_2 {S : SetD} {l : List (Nat → Int)} (h : S.err = 0) (h2 : l.length ≠ S.bs.length) : feasE S l = 3 := by unfold feasE; rw [if_neg (fun e => e h), if_pos h2]
theorem feas_3 {S : SetD} {l : List (Nat → Int)} (h : S.err = 0) (h2 : l.length = S.bs.length) (h3 : allE S l ≠ 0) : feasE S l = allE S l := by unfold feasE; rw [if_neg (fun e => e h), if_neg (fun e => e h2), if_pos h3]
theorem feas_4 {S : SetD} {l : List (Nat → Int)} (h : S.err = 0) (h2 : l.length = S.bs.length) (h3 : allE S l = 0) : feasE S l = if overAny S l = true then 14 else 0 := by unfold feasE; rw [if_neg (fun e => e h), if_neg (fun e => e h2), if_neg (fun e => e h3)]
/-- what is left of the units behind n bundles, and behind product j of the next -/
def puK (S : SetD) (l : List (Nat → Int)) (n j : Nat) : Nat → Int := fun i => supP S.ps i - sumL l (if i < j then n + 1 else n) i
def poK (S : SetD) (l : List (Nat → Int)) (n j : Nat) : Nat → Int := fun i => openF S.ps S.ad i - outL S l (if i < j then n + 1 else n) i
theorem puK_step {S : SetD} {l : List (Nat → Int)} {n j : Nat} (hn : n < l.length) (i : Nat) : upd (puK S l n j) j (puK S l n j j - l.getD n zero6 j) i = puK S l n (j + 1) i := by
  unfold upd puK
  by_cases e : i = j
  · subst e
    rw [if_pos rfl, if_neg (by omega), if_pos (by omega), sumL_succ hn]
    omega
  · rw [if_neg e]
    by_cases h : i < j
    · rw [if_pos h, if_pos (by omega)]
    · rw [if_neg h, if_neg (by omega)]
theorem poK_step {S : SetD} {l : List (Nat → Int)} {n j : Nat} (i : Nat) : upd (poK S l n j) j (poK S l n j j - outP (clsF S.ad) (clsOf S (n : Int)) (l.getD n zero6) j) i = poK S l n (j + 1) i := by
  unfold upd poK
  by_cases e : i = j
  · subst e
    rw [if_pos rfl, if_neg (by omega), if_pos (by omega), outL]
    omega
  · rw [if_neg e]
    by_cases h : i < j
    · rw [if_pos h, if_pos (by omega)]
    · rw [if_neg h, if_neg (by omega)]
theorem puK_next (S : SetD) (l : List (Nat → Int)) (n i : Nat) (hi : i < 6) : puK S l n 6 i = puK S l (n + 1) 0 i := by unfold puK; rw [if_pos hi, if_neg (by omega)]
theorem poK_next (S : SetD) (l : List (Nat → Int)) (n i : Nat) (hi : i < 6) : poK S l n 6 i = poK S l (n + 1) 0 i := by unfold poK; rw [if_pos hi, if_neg (by omega)]
theorem puK_zero (S : SetD) (l : List (Nat → Int)) (i : Nat) : puK S l 0 0 i = supP S.ps i := by unfold puK; rw [if_neg (by omega), sumL_zero]; omega
theorem poK_zero (S : SetD) (l : List (Nat → Int)) (i : Nat) : poK S l 0 0 i = openF S.ps S.ad i := by unfold poK; rw [if_neg (by omega)]; simp [outL]
theorem over_at {S : SetD} {l : List (Nat → Int)} {n j i : Nat} : over S l (if i < j then n + 1 else n) i = (decide (puK S l n j i < 0) || decide (poK S l n j i < 0)) := by
  unfold over puK poK
  have e1 : decide (supP S.ps i < sumL l (if i < j then n + 1 else n) i) = decide (supP S.ps i - sumL l (if i < j then n + 1 else n) i < 0) := by
    by_cases h : supP S.ps i < sumL l (if i < j then n + 1 else n) i
    · rw [decide_eq_true h, decide_eq_true (by omega)]
    · rw [decide_eq_false h, decide_eq_false (by omega)]
  have e2 : decide (openF S.ps S.ad i < outL S l (if i < j then n + 1 else n) i) = decide (openF S.ps S.ad i - outL S l (if i < j then n + 1 else n) i < 0) := by
    by_cases h : openF S.ps S.ad i < outL S l (if i < j then n + 1 else n) i
    · rw [decide_eq_true h, decide_eq_true (by omega)]
    · rw [decide_eq_false h, decide_eq_false (by omega)]
  rw [e1, e2]
/-- bounds for the subtractions -/
theorem pK_bounds {S : SetD} {l : List (Nat → Int)} (hz : S.err = 0) (ha : allE S l = 0) (hl : l.length ≤ 8) {n j i : Nat} (hn : n < l.length) (hi : i < 6) : (-100 ≤ puK S l n j i ∧ puK S l n j i ≤ 100) ∧ (-100 ≤ poK S l n j i ∧ poK S l n j i ≤ 100) ∧ (0 ≤ l.getD n zero6 i ∧ l.getD n zero6 i ≤ 4) ∧ (0 ≤ outP (clsF S.ad) (clsOf S (n : Int)) (l.getD n zero6) i ∧ outP (clsF S.ad) (clsOf S (n : Int)) (l.getD n zero6) i ≤ 4) := by
  obtain ⟨h1, _, _, h4⟩ := setE_parts hz
  obtain ⟨_, hp6, hg⟩ := checkE_zero h1
  have hs : 0 ≤ supP S.ps i ∧ supP S.ps i ≤ 4 := validB_iff.1 (supP_valid hg) i hi
  have ho := openF_nonneg hg h4 hp6 S.ad.length (Nat.le_refl _) i
  rw [List.take_length] at ho
  have hb := (allowE_zero (allE_zero ha n hn)).2.1
  have b1 := hb i hi
  have b2 := outP_bounds (k6 := clsF S.ad) (c := clsOf S (n : Int)) hb i hi
  have s1 := sumL_bounds ha i hi (if i < j then n + 1 else n) (by split <;> omega)
  unfold puK poK
  have : (if i < j then n + 1 else n) ≤ 8 := by split <;> omega
  generalize (if i < j then n + 1 else n) = m at *
  omega
theorem over_start {S : SetD} {l : List (Nat → Int)} (hz : S.err = 0) : ∀ i, i < 6 → over S l 0 i = false := by
  intro i hi
  obtain ⟨h1, _, _, h4⟩ := setE_parts hz
  obtain ⟨_, hp6, hg⟩ := checkE_zero h1
  have hs : 0 ≤ supP S.ps i ∧ supP S.ps i ≤ 4 := validB_iff.1 (supP_valid hg) i hi
  have ho := openF_nonneg hg h4 hp6 S.ad.length (Nat.le_refl _) i
  rw [List.take_length] at ho
  unfold over
  rw [sumL_zero, show outL S l 0 i = 0 from rfl, decide_eq_false (by omega), decide_eq_false (by omega)]
  rfl
structure FeM (w wr : World) (g go gu : Nat) (cs : Array Value) (pc po pu : Nat → Int) : Prop where
  k : Blk wr g 43 cs
  a : Box wr go po
  c : Box wr (go + 1) pc
  u : Box wr gu pu
  bel : Below w.heap.size w wr
  le : w.heap.size ≤ g
  l1 : g < go
  l2 : go + 1 < gu
theorem FeM.keep {w wr w2 : World} {g go gu : Nat} {cs : Array Value} {pc po pu : Nat → Int} (h : FeM w wr g go gu cs pc po pu) (d : Below wr.heap.size wr w2) : FeM w w2 g go gu cs pc po pu := ⟨h.k.below' d, h.a.below d h.a.lt, h.c.below d h.c.lt, h.u.below d h.u.lt, chain0 h.bel d, h.le, h.l1, h.l2⟩
theorem FeM.same {w wr : World} {g go gu : Nat} {cs : Array Value} {pc po pu po2 pu2 : Nat → Int} (h : FeM w wr g go gu cs pc po pu) (h1 : ∀ k, k < 6 → po k = po2 k) (h2 : ∀ k, k < 6 → pu k = pu2 k) : FeM w wr g go gu cs pc po2 pu2 := ⟨h.k, h.a.congr h1, h.c, h.u.congr h2, h.bel, h.le, h.l1, h.l2⟩
theorem FeM.seta {w wr : World} {g go gu : Nat} {cs : Array Value} {pc po pu : Nat → Int} (h : FeM w wr g go gu cs pc po pu) (k : Nat) (hk : k < 6) (v : Int) : FeM w (wr.setCell ⟨go, k, none⟩ (.int .i64 v)) g go gu cs pc (upd po k v) pu :=
  ⟨h.k.far (p := ⟨go, k, none⟩) (by show g ≠ go; have := h.l1; omega) _, h.a.set k hk v, h.c.other (by omega) _, h.u.other (by have := h.l2; omega) _, h.bel.setCell (p := ⟨go, k, none⟩) (by show w.heap.size ≤ go; have := h.le; have := h.l1; omega) _, h.le, h.l1, h.l2⟩
theorem FeM.setu {w wr : World} {g go gu : Nat} {cs : Array Value} {pc po pu : Nat → Int} (h : FeM w wr g go gu cs pc po pu) (k : Nat) (hk : k < 6) (v : Int) : FeM w (wr.setCell ⟨gu, k, none⟩ (.int .i64 v)) g go gu cs pc po (upd pu k v) :=
  ⟨h.k.far (p := ⟨gu, k, none⟩) (by show g ≠ gu; have := h.l1; have := h.l2; omega) _, h.a.other (by have := h.l2; omega) _, h.c.other (by have := h.l2; omega) _, h.u.set k hk v, h.bel.setCell (p := ⟨gu, k, none⟩) (by show w.heap.size ≤ gu; have := h.le; have := h.l1; have := h.l2; omega) _, h.le, h.l1, h.l2⟩
structure FeN (w wr : World) (g go gu gb gr : Nat) (cs : Array Value) (pc po pu b r : Nat → Int) : Prop where
  m : FeM w wr g go gu cs pc po pu
  b : Box wr gb b
  r : Box wr gr r
  l3 : gu < gb
  l4 : gu < gr
theorem FeN.keep {w wr w2 : World} {g go gu gb gr : Nat} {cs : Array Value} {pc po pu b r : Nat → Int} (h : FeN w wr g go gu gb gr cs pc po pu b r) (d : Below wr.heap.size wr w2) : FeN w w2 g go gu gb gr cs pc po pu b r := ⟨h.m.keep d, h.b.below d h.b.lt, h.r.below d h.r.lt, h.l3, h.l4⟩
theorem FeN.drew {w wr : World} {g go gu gb gr : Nat} {cs : Array Value} {pc po pu b r : Nat → Int} (h : FeN w wr g go gu gb gr cs pc po pu b r) : FeN w wr.drew g go gu gb gr cs pc po pu b r := h.keep (Below.refl _ _).drew
theorem FeN.seta {w wr : World} {g go gu gb gr : Nat} {cs : Array Value} {pc po pu b r : Nat → Int} (h : FeN w wr g go gu gb gr cs pc po pu b r) (k : Nat) (hk : k < 6) (v : Int) : FeN w (wr.setCell ⟨go, k, none⟩ (.int .i64 v)) g go gu gb gr cs pc (upd po k v) pu b r :=
  ⟨h.m.seta k hk v, h.b.other (by have := h.m.l2; have := h.l3; omega) _, h.r.other (by have := h.m.l2; have := h.l4; omega) _, h.l3, h.l4⟩
theorem FeN.setu {w wr : World} {g go gu gb gr : Nat} {cs : Array Value} {pc po pu b r : Nat → Int} (h : FeN w wr g go gu gb gr cs pc po pu b r) (k : Nat) (hk : k < 6) (v : Int) : FeN w (wr.setCell ⟨gu, k, none⟩ (.int .i64 v)) g go gu gb gr cs pc po (upd pu k v) b r :=
  ⟨h.m.setu k hk v, h.b.other (by have := h.l3; omega) _, h.r.other (by have := h.l4; omega) _, h.l3, h.l4⟩
theorem FeN.same {w wr : World} {g go gu gb gr : Nat} {cs : Array Value} {pc po pu b r po2 pu2 : Nat → Int} (h : FeN w wr g go gu gb gr cs pc po pu b r) (h1 : ∀ k, k < 6 → po k = po2 k) (h2 : ∀ k, k < 6 → pu k = pu2 k) : FeN w wr g go gu gb gr cs pc po2 pu2 b r := ⟨h.m.same h1 h2, h.b, h.r, h.l3, h.l4⟩

set_option maxHeartbeats 4000000 in
set_option maxRecDepth 100000 in
theorem feas_any (S : SetD) (l : List (Nat → Int)) (v1 v2 v3 v4 v : Value) (w : World) (h : SetW w v1 v2 v3 v4 S) (hb : BunS w v l) (hl : l.length ≤ 5000) : Calls Tryd.prog 17 #[.agg #[v1, v2, v3, v4], v] w (ErrPost (feasE S l) w) := by
  obtain ⟨A1, c1, A2, c2, A3, c3, A4, c4, rfl, rfl, rfl, rfl⟩ := h.forms
  obtain ⟨A, c, rfl, k1, k2, hr⟩ := sl_parts hb
  have HR := Lib.hid hr
  have hlb : (S.bs.length : Int) ≤ 5000 := by have := h.lb; omega
  have hll : (l.length : Int) ≤ 5000 := by omega
  have CC := Lib.hid (fun W (d : Below w.heap.size w W) => check_any S _ _ _ _ W (h.keep d))
  have CA := Lib.hid (fun hz i b W (d : Below w.heap.size w W) => allow_any S _ _ _ _ i b W (h.keep d) hz)
  have CS := Lib.hid (fun hz => setW_shares h hz)
  have CSU := Lib.hid (fun W (d : Below w.heap.size w W) => supply_any S.ps _ W h.lp (h.p.keep d))
  have CO := Lib.hid (fun (n : Nat) (hn : n < S.bs.length) b W (d : Below w.heap.size w W) => outside_any S.bs n hn (clsF S.ad) b A1 A2 A3 A4 S.ps.length c1 c2 S.cs.length c3 S.ad.length c4 W h.lb (h.b.keep d))
  have E1 := Lib.hid (feas_1 (S := S) (l := l))
  have E2 := Lib.hid (feas_2 (S := S) (l := l))
  have E3 := Lib.hid (feas_3 (S := S) (l := l))
  have E4 := Lib.hid (feas_4 (S := S) (l := l))
  have BX := Lib.hid (below_new w (.cells #[.slice A1 S.ps.length c1, .slice A2 S.bs.length c2, .slice A3 S.cs.length c3, .slice A4 S.ad.length c4] 43))
  have KX := Lib.hid (Blk.new w 43 #[.slice A1 S.ps.length c1, .slice A2 S.bs.length c2, .slice A3 S.cs.length c3, .slice A4 S.ad.length c4])
  generalize feasE S l = R at *
  clear h hb hr
  go_enter Tryd.func17, Tryd.ntmps17
  go_wp2_with fail
  go_step3
  go_wp2_with fail
  refine (CC.out _ BX.out).mono ?_
  rintro e w1 ⟨rfl, d1⟩
  have B1 := Lib.hid (chain0 BX.out d1)
  have K1 := Lib.hid (KX.out.below' d1)
  clear d1 BX KX CC
  have z0 := K1.out.c4
  by_cases hz : S.err = 0
  case neg =>
    have t1 : (S.err != 0) = true := by simpa using hz
    have HV := Lib.hid (E1.out hz)
    clear hz CA CS CO E1 E2 E3 E4
    go_wp2_with fail
    try dsimp only [Exit.noGoto, Exit.inBlock, Exit.then]
    go_ret
    exact ⟨by rw [HV.out]; rfl, B1.out⟩
  have t1 : (S.err != 0) = false := by rw [hz]; rfl
  have HZ := Lib.hid hz
  have CA2 := Lib.hid (CA.out hz)
  have CS2 := Lib.hid (CS.out hz)
  clear hz CA CS E1
  by_cases hn : l.length = S.bs.length
  case neg =>
    have t2 : ((l.length : Int) != (S.bs.length : Int)) = true := by simpa using (show ¬ (l.length : Int) = (S.bs.length : Int) by omega)
    have HV := Lib.hid (E2.out HZ.out hn)
    clear hn CO E2 E3 E4
    go_wp2_with fail
    try dsimp only [Exit.noGoto, Exit.inBlock, Exit.then]
    go_ret
    exact ⟨by rw [HV.out]; rfl, B1.out⟩
  have HN := Lib.hid hn
  have t2 : ((l.length : Int) != (S.bs.length : Int)) = false := by simpa using (show (l.length : Int) = (S.bs.length : Int) by omega)
  have E3a := Lib.hid (E3.out HZ.out hn)
  have E4a := Lib.hid (E4.out HZ.out hn)
  have hl8 : Hid (l.length ≤ 8) := by show _ ≤ _; rw [hn]; exact (rosE_zero (setE_parts HZ.out).2.1).2.1
  clear hn E2 E3 E4
  go_wp2_with fail
  clear t1 t2
  go_loopw [30] (fun iv wr => ∃ k : Nat, k ≤ l.length ∧ iv = .int .i64 (k : Int) ∧ Hid (allE S l = firstE (fun i => allowE S (i : Int) (l.getD i zero6)) k (l.length - k)) ∧ Hid (Below w.heap.size w wr) ∧ Hid (Blk wr w.heap.size 43 #[.slice A1 S.ps.length c1, .slice A2 S.bs.length c2, .slice A3 S.cs.length c3, .slice A4 S.ad.length c4])) (fun iv _ => l.length - (intOf iv).toNat)
  case atStart => exact ⟨0, Nat.zero_le _, rfl, rfl, B1.out, K1.out⟩
  case round =>
    clear B1 K1 z0
    obtain ⟨k, hk, rfl, HX, HB, HK⟩ := hrel
    have hk0 : (0 : Int) ≤ (k : Int) := by omega
    have cx := HK.out.c4
    have lx := HK.out.lt
    by_cases hkn : k < l.length
    · have hd1 : decide (k < l.length) = true := decide_eq_true hkn
      have hd2 : decide ((k : Int) < (l.length : Int)) = true := decide_eq_true (by omega)
      have hkn1 : (k : Int) < (l.length : Int) := by omega
      obtain ⟨bb, o, e1, hbb, hrow⟩ := HR.out (by omega)
      subst e1
      have hat := bun_at (hrow.below hbb HB.out) k hkn
      have hbr := Nat.lt_of_lt_of_le hbb HB.out.size
      have HST : Hid (allowE S (k : Int) l[k] ≠ 0 → allE S l = allowE S (k : Int) l[k]) := by
        intro h2
        rw [← getD_at l k hkn] at h2 ⊢
        have e2 := HX.out
        rw [show l.length - k = (l.length - (k + 1)) + 1 by omega, firstE_stop (by exact h2)] at e2
        exact e2
      have HGO : Hid (allowE S (k : Int) l[k] = 0 → allE S l = firstE (fun i => allowE S (i : Int) (l.getD i zero6)) (k + 1) (l.length - (k + 1))) := by
        intro h2
        rw [← getD_at l k hkn] at h2
        have e2 := HX.out
        rw [show l.length - k = (l.length - (k + 1)) + 1 by omega, firstE_step (by exact h2)] at e2
        exact e2
      obtain ⟨x, hx⟩ : ∃ x, x = l[k] := ⟨_, rfl⟩
      rw [← hx] at hat HST HGO
      clear hx hrow
      have CA3 := Lib.hid (CA2.out (k : Int) x)
      have N1 := Lib.hid (HK.out.alloc (.cells (arr x) 24))
      have B2 := Lib.hid (HB.out.alloc HB.out.size (.cells (arr x) 24))
      unfold arr at N1 B2 CA3
      go_wp2_with fail
      refine (CA3.out _ B2.out).mono ?_
      rintro e w2 ⟨rfl, d2⟩
      have B3 := Lib.hid (chain0 B2.out d2)
      have N3 := Lib.hid (N1.out.below' d2)
      clear d2 N1 B2 CA3 cx lx hat hbr
      by_cases q : allowE S (k : Int) x = 0
      · have t3 : (allowE S (k : Int) x != 0) = false := by rw [q]; rfl
        have HV := Lib.hid (HGO.out q)
        clear q
        go_wp2_with fail
        go_roundw
        case rel => exact ⟨k + 1, hkn, by go_num, HV.out, B3.out, N3.out⟩
        case measure => simp [intOf]; omega
      · have t3 : (allowE S (k : Int) x != 0) = true := by simpa using q
        have e4 := HST.out q
        have HV := Lib.hid ((E3a.out (by rw [e4]; exact q)).trans e4)
        clear q e4
        go_wp2_with fail
        try dsimp only [Exit.noGoto, Exit.inBlock, Exit.then]
        go_ret
        exact ⟨by rw [HV.out]; rfl, B3.out⟩
    · obtain rfl : k = l.length := by omega
      have hd1 : decide (l.length < l.length) = false := decide_eq_false (Nat.lt_irrefl _)
      have hd2 : decide ((l.length : Int) < (l.length : Int)) = false := decide_eq_false (Int.lt_irrefl _)
      have HA : Hid (allE S l = 0) := by show _ = _; rw [HX.out, Nat.sub_self]; rfl
      have HV := Lib.hid (E4a.out HA.out)
      clear E3a E4a HX CA2 hk0 hk
      go_wp2_with fail
      refine (CS2.out _ HB.out).mono ?_
      rintro e w2 ⟨rfl, d2⟩
      have B2 := Lib.hid (chain0 HB.out d2)
      have K2 := Lib.hid (HK.out.below' d2)
      clear d2 CS2 HB HK cx lx
      have cx := K2.out.c4
      have lx := K2.out.lt
      have HOB := Lib.hid (fun n j i => pK_bounds (S := S) (l := l) (n := n) (j := j) (i := i) HZ.out HA.out hl8.out)
      have HOV := Lib.hid (fun n j i => over_at (S := S) (l := l) (n := n) (j := j) (i := i))
      have HP0 := Lib.hid (poK_zero S l)
      have HQ0 := Lib.hid (puK_zero S l)
      have HPS := Lib.hid (fun n j i => poK_step (S := S) (l := l) (n := n) (j := j) i)
      have HQS := Lib.hid (fun n hn j i => puK_step (S := S) (l := l) (n := n) (j := j) hn i)
      have HPN := Lib.hid (poK_next S l)
      have HQN := Lib.hid (puK_next S l)
      have HCL := Lib.hid (fun n : Nat => (show (S.bs.getD n Bid.none).cls = clsOf S (n : Int) by unfold clsOf; rw [Int.toNat_natCast]))
      have HOA := Lib.hid (fun k n (hk : k < 6) (hn : n ≤ l.length) h => over_any (S := S) (l := l) HA.out hk hn h)
      have HON := Lib.hid (over_none (S := S) (l := l))
      generalize hpo : openF S.ps S.ad = po at *
      generalize hpc : clsF S.ad = pc at *
      have HOS := Lib.hid (over_start (S := S) (l := l) HZ.out)
      have x1 := (below_new w2 (.cells (arr po) 24)).alloc (below_new w2 (.cells (arr po) 24)).size (.cells (arr pc) 24)
      have K3 := Lib.hid (K2.out.below' x1)
      have B3 := Lib.hid (chain0 B2.out x1)
      have Y1 := Lib.hid ((box_new w2 po 24).alloc (.cells (arr pc) 24))
      have y2 := box_new (w2.alloc (.cells (arr po) 24)) pc 24
      rw [show (w2.alloc (.cells (arr po) 24)).heap.size = w2.heap.size + 1 from World.size_alloc _ _] at y2
      have Y2 := Lib.hid y2
      clear y2 x1
      have hgo : w.heap.size < w2.heap.size := lx
      go_wp2_with fail
      clear cx lx K2 B2
      refine (CSU.out _ B3.out).mono ?_
      rintro e w3 ⟨rfl, d3⟩
      have B4 := Lib.hid (chain0 B3.out d3)
      have K4 := Lib.hid (K3.out.below' d3)
      have Y3 := Lib.hid (Y1.out.below d3 Y1.out.lt)
      have Y4 := Lib.hid (Y2.out.below d3 Y2.out.lt)
      have hgu := Y4.out.lt
      clear d3 K3 B3 Y1 Y2 CSU
      have M0 : Hid (FeM w (w3.alloc (.cells (arr (supP S.ps)) 24)) w.heap.size w2.heap.size w3.heap.size #[.slice A1 S.ps.length c1, .slice A2 S.bs.length c2, .slice A3 S.cs.length c3, .slice A4 S.ad.length c4] pc po (supP S.ps)) := ⟨K4.out.alloc _, Y3.out.alloc _, Y4.out.alloc _, box_new w3 _ _, B4.out.alloc B4.out.size _, Nat.le_refl _, hgo, hgu⟩
      clear B4 K4 Y3 Y4
      go_wp2_with fail
      go_step3
      go_wp2_with fail
      generalize w3.alloc _ = w4 at *
      generalize w2.heap.size = go at *
      generalize w3.heap.size = gu at *
      go_loopw [53] (fun iv wr => ∃ n : Nat, n ≤ l.length ∧ iv = .int .i64 (n : Int) ∧ Hid (∀ i, i < 6 → over S l n i = false) ∧ Hid (FeM w wr w.heap.size go gu #[.slice A1 S.ps.length c1, .slice A2 S.bs.length c2, .slice A3 S.cs.length c3, .slice A4 S.ad.length c4] pc (poK S l n 0) (puK S l n 0))) (fun iv _ => l.length - (intOf iv).toNat)
      case atStart => exact ⟨0, Nat.zero_le _, rfl, HOS.out, M0.out.same (fun k _ => by rw [HP0.out k]) (fun k _ => by rw [HQ0.out k])⟩
      case round =>
        clear M0 HOS HP0 HQ0
        obtain ⟨n, hn, rfl, HON0, M⟩ := hrel
        have hn0 : (0 : Int) ≤ (n : Int) := by omega
        by_cases hnl : n < l.length
        · have hd1 : decide (n < l.length) = true := decide_eq_true hnl
          have hd2 : decide ((n : Int) < (l.length : Int)) = true := decide_eq_true (by omega)
          have hnl1 : (n : Int) < (l.length : Int) := by omega
          obtain ⟨bb, o, e1, hbb, hrow⟩ := HR.out (by omega)
          subst e1
          have hat := bun_at (hrow.below hbb M.out.bel) n hnl
          have hbr := Nat.lt_of_lt_of_le hbb M.out.bel.size
          have HGD := Lib.hid (getD_at l n hnl)
          obtain ⟨x, hx⟩ : ∃ x, x = l[n] := ⟨_, rfl⟩
          rw [← hx] at hat HGD
          clear hx hrow
          have CO2 := Lib.hid (CO.out n (by rw [← HN.out]; exact hnl) x)
          rw [HCL.out n] at CO2
          have cx := M.out.k.c4
          have lx := M.out.k.lt
          have ca := M.out.c.cells
          have la := M.out.c.lt
          have M1 := Lib.hid (M.out.keep (below_new wr (.cells (arr x) 24)))
          have X1 := Lib.hid (box_new wr x 24)
          have hgb := M.out.u.lt
          unfold arr at M1 X1 CO2
          go_wp2_with fail
          refine (CO2.out _ M1.out.bel).mono ?_
          rintro e w5 ⟨rfl, d5⟩
          have M2 := Lib.hid (M1.out.keep d5)
          have X2 := Lib.hid (X1.out.below d5 X1.out.lt)
          clear d5 M1 X1 CO2 cx lx ca la hat hbr M
          obtain ⟨rs, hrs⟩ : ∃ r, r = outP pc (clsOf S (n : Int)) x := ⟨_, rfl⟩
          have HRS := Lib.hid hrs
          rw [← hrs]
          clear hrs
          have hgr := M2.out.u.lt
          have N0 : Hid (FeN w (w5.alloc (.cells (arr rs) 24)) w.heap.size go gu wr.heap.size w5.heap.size #[.slice A1 S.ps.length c1, .slice A2 S.bs.length c2, .slice A3 S.cs.length c3, .slice A4 S.ad.length c4] pc (poK S l n 0) (puK S l n 0) x rs) := ⟨M2.out.keep (below_new _ _), X2.out.alloc _, box_new w5 _ _, hgb, hgr⟩
          clear M2 X2
          go_wp2_with fail
          generalize w5.alloc _ = w6 at *
          generalize wr.heap.size = gb at *
          generalize w5.heap.size = gr at *
          go_loopw [63] (fun jv ws => ∃ j : Nat, j ≤ 6 ∧ jv = .int .i64 (j : Int) ∧ Hid (∀ i, i < j → over S l (n + 1) i = false) ∧ Hid (FeN w ws w.heap.size go gu gb gr #[.slice A1 S.ps.length c1, .slice A2 S.bs.length c2, .slice A3 S.cs.length c3, .slice A4 S.ad.length c4] pc (poK S l n j) (puK S l n j) x rs)) (fun jv _ => 6 - (intOf jv).toNat)
          case atStart => exact ⟨0, Nat.zero_le _, rfl, (fun i h => absurd h (Nat.not_lt_zero _)), N0.out⟩
          case round =>
            clear N0
            obtain ⟨j, hj, rfl, HOJ, N⟩ := hrel
            have hj0 : (0 : Int) ≤ (j : Int) := by omega
            by_cases hj6 : j < 6
            · have hd3 : decide (j < 6) = true := decide_eq_true hj6
              have hd4 : decide ((j : Int) < 6) = true := decide_eq_true (by omega)
              have hj6i : (j : Int) < 6 := by omega
              obtain ⟨⟨b1, b2⟩, ⟨b3, b4⟩, ⟨b5, b6⟩, b7, b8⟩ := HOB.out n j j hnl hj6
              have HSP := Lib.hid (HPS.out n j)
              have HSQ := Lib.hid (HQS.out n hnl j)
              rw [HGD.out] at b5 b6 b7 b8 HSP HSQ
              rw [← HRS.out] at b7 b8 HSP
              have pa := N.out.m.a.cell j hj6
              have fa := N.out.m.a.free j
              have la := N.out.m.a.lt
              have pu := N.out.m.u.cell j hj6
              have fu := N.out.m.u.free j
              have lu := N.out.m.u.lt
              have pb := N.out.b.cell j hj6
              have lb := N.out.b.lt
              have pr := N.out.r.cell j hj6
              have lr := N.out.r.lt
              have ne1 : ¬ go = gu := by have := N.out.m.l2; omega
              have ne2 : ¬ gb = gu := by have := N.out.l3; omega
              have ne3 : ¬ gr = gu := by have := N.out.l4; omega
              have ne4 : ¬ gr = go := by have := N.out.m.l2; have := N.out.l4; omega
              have ne5 : ¬ gu = go := by have := N.out.m.l2; omega
              obtain ⟨yu, hyu⟩ : ∃ y, y = puK S l n j j := ⟨_, rfl⟩
              obtain ⟨yo, hyo⟩ : ∃ y, y = poK S l n j j := ⟨_, rfl⟩
              obtain ⟨yb, hyb⟩ : ∃ y, y = x j := ⟨_, rfl⟩
              obtain ⟨yr, hyr⟩ : ∃ y, y = rs j := ⟨_, rfl⟩
              rw [← hyu] at b1 b2 pu HSQ
              rw [← hyo] at b3 b4 pa HSP
              rw [← hyb] at b5 b6 pb HSQ
              rw [← hyr] at b7 b8 pr HSP
              have wd1 : IntKind.i64.wrap (yu - yb) = yu - yb := IntWalk.i64_in _ (by omega)
              have wd2 : IntKind.i64.wrap (yo - yr) = yo - yr := IntWalk.i64_in _ (by omega)
              obtain ⟨nu, hnu⟩ : ∃ y, y = IntKind.i64.wrap (yu - yb) := ⟨_, rfl⟩
              obtain ⟨no, hno⟩ : ∃ y, y = IntKind.i64.wrap (yo - yr) := ⟨_, rfl⟩
              rw [← hnu.trans wd1] at HSQ
              rw [← hno.trans wd2] at HSP
              have HNU := Lib.hid hnu
              have HNO := Lib.hid hno
              have HYO := Lib.hid hyo
              have HYR := Lib.hid hyr
              clear b1 b2 b3 b4 b5 b6 b7 b8 hyu hyo hyb hyr hnu hno wd1 wd2
              go_wp2_with fail
              go_region_with (fail)
              all_goals
                have N1 := Lib.hid (N.out.setu j hj6 (IntKind.i64.wrap (yu - yb))).drew
                clear pa fa la pu fu lu pb lb pr lr
                generalize World.drew _ = W1 at *
                rw [← HNU.out] at N1
                have pa := N1.out.m.a.cell j hj6
                have fa := N1.out.m.a.free j
                have la := N1.out.m.a.lt
                have pr := N1.out.r.cell j hj6
                have lr := N1.out.r.lt
                rw [← HYO.out] at pa
                rw [← HYR.out] at pr
                go_wp2_with fail
                go_region_with (fail)
                all_goals
                  have N2 := Lib.hid (N1.out.seta j hj6 (IntKind.i64.wrap (yo - yr))).drew
                  clear pa fa la pr lr
                  generalize World.drew _ = W2 at *
                  rw [← HNO.out] at N2
                  have pu : W2.cell? ⟨gu, j, none⟩ = some (.int .i64 nu) := by have h := N2.out.m.u.cell j hj6; unfold upd at h; rw [if_pos rfl] at h; exact h
                  have pa : W2.cell? ⟨go, j, none⟩ = some (.int .i64 no) := by have h := N2.out.m.a.cell j hj6; unfold upd at h; rw [if_pos rfl] at h; exact h
                  have lu := N2.out.m.u.lt
                  have la := N2.out.m.a.lt
                  have N3 := Lib.hid (N2.out.same (fun k _ => HSP.out k) (fun k _ => HSQ.out k))
                  have HPJ : Hid (poK S l n (j + 1) j = no) := by show _ = _; rw [← HSP.out j]; unfold upd; rw [if_pos rfl]
                  have HQJ : Hid (puK S l n (j + 1) j = nu) := by show _ = _; rw [← HSQ.out j]; unfold upd; rw [if_pos rfl]
                  have HOJ1 : Hid (over S l (n + 1) j = (decide (nu < 0) || decide (no < 0))) := by
                    have h := HOV.out n (j + 1) j
                    rw [if_pos (by omega), HQJ.out, HPJ.out] at h
                    exact h
                  clear N1 N2 HSP HSQ
                  cases s0 : decide (nu < (0 : Int)) with
                  | true =>
                    have HOT := HOA.out j (n + 1) hj6 hnl (by rw [HOJ1.out, s0]; rfl)
                    have HR14 := Lib.hid (HV.out.trans (if_pos HOT))
                    obtain ⟨qo, hqo⟩ : ∃ q, q = poK S l n (j + 1) := ⟨_, rfl⟩
                    obtain ⟨qu, hqu⟩ : ∃ q, q = puK S l n (j + 1) := ⟨_, rfl⟩
                    rw [← hqo, ← hqu] at N3
                    have HX : Hid ((∃ i, i < 6 ∧ (qu i < 0 ∨ qo i < 0)) → R = 14) := fun _ => HR14.out
                    have HY : Hid ((∀ i, i < 6 → ¬ (qu i < 0 ∨ qo i < 0)) → R = 0) := fun h => absurd (Or.inl (by rw [hqu, HQJ.out]; exact of_decide_eq_true s0)) (h j hj6)
                    clear hqo hqu HOT
                    have N := Lib.hid N3.out.m
                    clear N3
                    go_wp2_with fail
                    go_loopw [94] (fun iv wr => ∃ m : Nat, m ≤ 6 ∧ iv = .int .i64 (m : Int) ∧ Hid (∀ i, i < m → ¬ (qu i < 0 ∨ qo i < 0)) ∧ Hid (FeM w wr w.heap.size go gu #[.slice A1 S.ps.length c1, .slice A2 S.bs.length c2, .slice A3 S.cs.length c3, .slice A4 S.ad.length c4] pc qo qu)) (fun iv _ => 6 - (intOf iv).toNat)
                    case atStart => exact ⟨0, Nat.zero_le _, rfl, (fun i h => absurd h (Nat.not_lt_zero _)), N.out⟩
                    case round =>
                      clear N
                      obtain ⟨m, hm, rfl, HI, N⟩ := hrel
                      have hm0 : (0 : Int) ≤ (m : Int) := by omega
                      by_cases hm6 : m < 6
                      · have hd1 : decide (m < 6) = true := decide_eq_true hm6
                        have hd2 : decide ((m : Int) < 6) = true := decide_eq_true (by omega)
                        have hm6i : (m : Int) < 6 := by omega
                        have pa := N.out.a.cell m hm6
                        have la := N.out.a.lt
                        have pb := N.out.u.cell m hm6
                        have lb := N.out.u.lt
                        obtain ⟨xo, hxo⟩ : ∃ x, x = qo m := ⟨_, rfl⟩
                        obtain ⟨xu, hxu⟩ : ∃ x, x = qu m := ⟨_, rfl⟩
                        rw [← hxo] at pa
                        rw [← hxu] at pb
                        have HXO := Lib.hid hxo
                        have HXU := Lib.hid hxu
                        clear hxo hxu
                        cases s0 : decide (xu < (0 : Int)) with
                        | true =>
                          have HV := Lib.hid (HX.out ⟨m, hm6, .inl (by rw [← HXU.out]; exact of_decide_eq_true s0)⟩)
                          go_wp2_with fail
                          try dsimp only [Exit.noGoto, Exit.inBlock, Exit.then]
                          go_ret
                          exact ⟨by rw [HV.out]; rfl, N.out.bel⟩
                        | false =>
                          cases s1 : decide (xo < (0 : Int)) with
                          | true =>
                            have HV := Lib.hid (HX.out ⟨m, hm6, .inr (by rw [← HXO.out]; exact of_decide_eq_true s1)⟩)
                            go_wp2_with fail
                            try dsimp only [Exit.noGoto, Exit.inBlock, Exit.then]
                            go_ret
                            exact ⟨by rw [HV.out]; rfl, N.out.bel⟩
                          | false =>
                            have HI2 : Hid (∀ i, i < m + 1 → ¬ (qu i < 0 ∨ qo i < 0)) := by
                              intro i hi
                              by_cases e : i = m
                              · subst e
                                rw [← HXU.out, ← HXO.out]
                                have a1 := of_decide_eq_false s0
                                have a2 := of_decide_eq_false s1
                                omega
                              · exact HI.out i (by omega)
                            go_wp2_with fail
                            go_roundw
                            case rel => exact ⟨m + 1, hm6, by go_num, HI2.out, N.out⟩
                            case measure => simp [intOf]; omega
                      · obtain rfl : m = 6 := by omega
                        have hd1 : decide (6 < 6) = false := by decide
                        have hd2 : decide (((6 : Nat) : Int) < 6) = false := by decide
                        have HV := Lib.hid (HY.out HI.out)
                        go_wp2_with fail
                        try dsimp only [Exit.noGoto, Exit.inBlock, Exit.then]
                        go_ret
                        exact ⟨by rw [HV.out]; rfl, N.out.bel⟩
                  | false =>
                    cases s1 : decide (no < (0 : Int)) with
                    | true =>
                      have HOT := HOA.out j (n + 1) hj6 hnl (by rw [HOJ1.out, s0, s1]; rfl)
                      have HR14 := Lib.hid (HV.out.trans (if_pos HOT))
                      obtain ⟨qo, hqo⟩ : ∃ q, q = poK S l n (j + 1) := ⟨_, rfl⟩
                      obtain ⟨qu, hqu⟩ : ∃ q, q = puK S l n (j + 1) := ⟨_, rfl⟩
                      rw [← hqo, ← hqu] at N3
                      have HX : Hid ((∃ i, i < 6 ∧ (qu i < 0 ∨ qo i < 0)) → R = 14) := fun _ => HR14.out
                      have HY : Hid ((∀ i, i < 6 → ¬ (qu i < 0 ∨ qo i < 0)) → R = 0) := fun h => absurd (Or.inr (by rw [hqo, HPJ.out]; exact of_decide_eq_true s1)) (h j hj6)
                      clear hqo hqu HOT
                      have N := Lib.hid N3.out.m
                      clear N3
                      go_wp2_with fail
                      go_loopw [94] (fun iv wr => ∃ m : Nat, m ≤ 6 ∧ iv = .int .i64 (m : Int) ∧ Hid (∀ i, i < m → ¬ (qu i < 0 ∨ qo i < 0)) ∧ Hid (FeM w wr w.heap.size go gu #[.slice A1 S.ps.length c1, .slice A2 S.bs.length c2, .slice A3 S.cs.length c3, .slice A4 S.ad.length c4] pc qo qu)) (fun iv _ => 6 - (intOf iv).toNat)
                      case atStart => exact ⟨0, Nat.zero_le _, rfl, (fun i h => absurd h (Nat.not_lt_zero _)), N.out⟩
                      case round =>
                        clear N
                        obtain ⟨m, hm, rfl, HI, N⟩ := hrel
                        have hm0 : (0 : Int) ≤ (m : Int) := by omega
                        by_cases hm6 : m < 6
                        · have hd1 : decide (m < 6) = true := decide_eq_true hm6
                          have hd2 : decide ((m : Int) < 6) = true := decide_eq_true (by omega)
                          have hm6i : (m : Int) < 6 := by omega
                          have pa := N.out.a.cell m hm6
                          have la := N.out.a.lt
                          have pb := N.out.u.cell m hm6
                          have lb := N.out.u.lt
                          obtain ⟨xo, hxo⟩ : ∃ x, x = qo m := ⟨_, rfl⟩
                          obtain ⟨xu, hxu⟩ : ∃ x, x = qu m := ⟨_, rfl⟩
                          rw [← hxo] at pa
                          rw [← hxu] at pb
                          have HXO := Lib.hid hxo
                          have HXU := Lib.hid hxu
                          clear hxo hxu
                          cases s0 : decide (xu < (0 : Int)) with
                          | true =>
                            have HV := Lib.hid (HX.out ⟨m, hm6, .inl (by rw [← HXU.out]; exact of_decide_eq_true s0)⟩)
                            go_wp2_with fail
                            try dsimp only [Exit.noGoto, Exit.inBlock, Exit.then]
                            go_ret
                            exact ⟨by rw [HV.out]; rfl, N.out.bel⟩
                          | false =>
                            cases s1 : decide (xo < (0 : Int)) with
                            | true =>
                              have HV := Lib.hid (HX.out ⟨m, hm6, .inr (by rw [← HXO.out]; exact of_decide_eq_true s1)⟩)
                              go_wp2_with fail
                              try dsimp only [Exit.noGoto, Exit.inBlock, Exit.then]
                              go_ret
                              exact ⟨by rw [HV.out]; rfl, N.out.bel⟩
                            | false =>
                              have HI2 : Hid (∀ i, i < m + 1 → ¬ (qu i < 0 ∨ qo i < 0)) := by
                                intro i hi
                                by_cases e : i = m
                                · subst e
                                  rw [← HXU.out, ← HXO.out]
                                  have a1 := of_decide_eq_false s0
                                  have a2 := of_decide_eq_false s1
                                  omega
                                · exact HI.out i (by omega)
                              go_wp2_with fail
                              go_roundw
                              case rel => exact ⟨m + 1, hm6, by go_num, HI2.out, N.out⟩
                              case measure => simp [intOf]; omega
                        · obtain rfl : m = 6 := by omega
                          have hd1 : decide (6 < 6) = false := by decide
                          have hd2 : decide (((6 : Nat) : Int) < 6) = false := by decide
                          have HV := Lib.hid (HY.out HI.out)
                          go_wp2_with fail
                          try dsimp only [Exit.noGoto, Exit.inBlock, Exit.then]
                          go_ret
                          exact ⟨by rw [HV.out]; rfl, N.out.bel⟩
                    | false =>
                      have HOJ2 : Hid (∀ i, i < j + 1 → over S l (n + 1) i = false) := by
                        intro i hi
                        by_cases e : i = j
                        · subst e; rw [HOJ1.out, s0, s1]; rfl
                        · exact HOJ.out i (by omega)
                      clear HOJ1 HPJ HQJ
                      go_wp2_with fail
                      go_roundw
                      case rel => exact ⟨j + 1, hj6, by go_num, HOJ2.out, N3.out⟩
                      case measure => simp [intOf]; omega
            · obtain rfl : j = 6 := by omega
              have hd3 : decide (6 < 6) = false := by decide
              have hd4 : decide (((6 : Nat) : Int) < 6) = false := by decide
              have M2 := Lib.hid (N.out.m.same (HPN.out n) (HQN.out n))
              go_wp2_with fail
              go_roundw
              case rel => exact ⟨n + 1, hnl, by go_num, HOJ.out, M2.out⟩
              case measure => simp [intOf]; omega
        · obtain rfl : n = l.length := by omega
          have hd1 : decide (l.length < l.length) = false := decide_eq_false (Nat.lt_irrefl _)
          have hd2 : decide ((l.length : Int) < (l.length : Int)) = false := decide_eq_false (Int.lt_irrefl _)
          have HR0 := Lib.hid (HV.out.trans (if_neg (by rw [HON.out HON0.out]; simp)))
          obtain ⟨qo, hqo⟩ : ∃ q, q = poK S l l.length 0 := ⟨_, rfl⟩
          obtain ⟨qu, hqu⟩ : ∃ q, q = puK S l l.length 0 := ⟨_, rfl⟩
          rw [← hqo, ← hqu] at M
          have HX : Hid ((∃ i, i < 6 ∧ (qu i < 0 ∨ qo i < 0)) → R = 14) := by
            rintro ⟨i, hi, h⟩
            have h1 := HOV.out l.length 0 i
            rw [if_neg (by omega), HON0.out i hi, ← hqu, ← hqo] at h1
            exfalso
            rcases h with h | h
            · rw [decide_eq_true h] at h1; simp at h1
            · rw [decide_eq_true h] at h1; simp at h1
          have HY : Hid ((∀ i, i < 6 → ¬ (qu i < 0 ∨ qo i < 0)) → R = 0) := fun _ => HR0.out
          clear hqo hqu
          have N := M
          clear M
          go_wp2_with fail
          go_loopw [94] (fun iv wr => ∃ m : Nat, m ≤ 6 ∧ iv = .int .i64 (m : Int) ∧ Hid (∀ i, i < m → ¬ (qu i < 0 ∨ qo i < 0)) ∧ Hid (FeM w wr w.heap.size go gu #[.slice A1 S.ps.length c1, .slice A2 S.bs.length c2, .slice A3 S.cs.length c3, .slice A4 S.ad.length c4] pc qo qu)) (fun iv _ => 6 - (intOf iv).toNat)
          case atStart => exact ⟨0, Nat.zero_le _, rfl, (fun i h => absurd h (Nat.not_lt_zero _)), N.out⟩
          case round =>
            clear N
            obtain ⟨m, hm, rfl, HI, N⟩ := hrel
            have hm0 : (0 : Int) ≤ (m : Int) := by omega
            by_cases hm6 : m < 6
            · have hd1 : decide (m < 6) = true := decide_eq_true hm6
              have hd2 : decide ((m : Int) < 6) = true := decide_eq_true (by omega)
              have hm6i : (m : Int) < 6 := by omega
              have pa := N.out.a.cell m hm6
              have la := N.out.a.lt
              have pb := N.out.u.cell m hm6
              have lb := N.out.u.lt
              obtain ⟨xo, hxo⟩ : ∃ x, x = qo m := ⟨_, rfl⟩
              obtain ⟨xu, hxu⟩ : ∃ x, x = qu m := ⟨_, rfl⟩
              rw [← hxo] at pa
              rw [← hxu] at pb
              have HXO := Lib.hid hxo
              have HXU := Lib.hid hxu
              clear hxo hxu
              cases s0 : decide (xu < (0 : Int)) with
              | true =>
                have HV := Lib.hid (HX.out ⟨m, hm6, .inl (by rw [← HXU.out]; exact of_decide_eq_true s0)⟩)
                go_wp2_with fail
                try dsimp only [Exit.noGoto, Exit.inBlock, Exit.then]
                go_ret
                exact ⟨by rw [HV.out]; rfl, N.out.bel⟩
              | false =>
                cases s1 : decide (xo < (0 : Int)) with
                | true =>
                  have HV := Lib.hid (HX.out ⟨m, hm6, .inr (by rw [← HXO.out]; exact of_decide_eq_true s1)⟩)
                  go_wp2_with fail
                  try dsimp only [Exit.noGoto, Exit.inBlock, Exit.then]
                  go_ret
                  exact ⟨by rw [HV.out]; rfl, N.out.bel⟩
                | false =>
                  have HI2 : Hid (∀ i, i < m + 1 → ¬ (qu i < 0 ∨ qo i < 0)) := by
                    intro i hi
                    by_cases e : i = m
                    · subst e
                      rw [← HXU.out, ← HXO.out]
                      have a1 := of_decide_eq_false s0
                      have a2 := of_decide_eq_false s1
                      omega
                    · exact HI.out i (by omega)
                  go_wp2_with fail
                  go_roundw
                  case rel => exact ⟨m + 1, hm6, by go_num, HI2.out, N.out⟩
                  case measure => simp [intOf]; omega
            · obtain rfl : m = 6 := by omega
              have hd1 : decide (6 < 6) = false := by decide
              have hd2 : decide (((6 : Nat) : Int) < 6) = false := by decide
              have HV := Lib.hid (HY.out HI.out)
              go_wp2_with fail
              try dsimp only [Exit.noGoto, Exit.inBlock, Exit.then]
              go_ret
              exact ⟨by rw [HV.out]; rfl, N.out.bel⟩

/-- the memory of Remaining at work -/
structure RmM (w wr : World) (g gr : Nat) (cs : Array Value) (q : Nat → Int) : Prop where
  k : Blk wr g 43 cs
  c : Box wr (g + 1) zero6
  a : Box wr gr q
  bel : Below w.heap.size w wr
  le : w.heap.size ≤ g
  l1 : g + 1 < gr
theorem RmM.keep {w wr w2 : World} {g gr : Nat} {cs : Array Value} {q : Nat → Int} (h : RmM w wr g gr cs q) (d : Below wr.heap.size wr w2) : RmM w w2 g gr cs q := ⟨h.k.below' d, h.c.below d h.c.lt, h.a.below d h.a.lt, chain0 h.bel d, h.le, h.l1⟩
theorem RmM.fill {w wr : World} {g gr : Nat} {cs : Array Value} {q : Nat → Int} (h : RmM w wr g gr cs q) (r : Nat → Int) : RmM w (fill6 wr gr r) g gr cs r :=
  ⟨fill6_blk h.k (by have := h.l1; omega) r, fill6_other h.c (by have := h.l1; omega) r, fill6_box h.a r, fill6_below h.bel (by have := h.l1; have := h.le; omega) r, h.le, h.l1⟩
theorem RmM.same {w wr : World} {g gr : Nat} {cs : Array Value} {q q2 : Nat → Int} (h : RmM w wr g gr cs q) (he : ∀ k, k < 6 → q k = q2 k) : RmM w wr g gr cs q2 := ⟨h.k, h.c, h.a.congr he, h.bel, h.le, h.l1⟩
def rmP (S : SetD) (l : List (Nat → Int)) (n : Nat) : Nat → Int := fun k => supP S.ps k - sumL l n k
theorem feas_parts {S : SetD} {l : List (Nat → Int)} (h : feasE S l = 0) : S.err = 0 ∧ l.length = S.bs.length ∧ allE S l = 0 ∧ overAny S l = false := by
  unfold feasE at h
  split at h
  · rename_i h1; exact absurd h h1
  · rename_i h1
    split at h
    · cases h
    · rename_i h2
      split at h
      · rename_i h3; exact absurd h h3
      · rename_i h3
        split at h
        · cases h
        · rename_i h4
          exact ⟨Decidable.of_not_not h1, Decidable.of_not_not h2, Decidable.of_not_not h3, by simpa using h4⟩
theorem rm_bounds {S : SetD} {l : List (Nat → Int)} (h : feasE S l = 0) {n : Nat} (hn : n < l.length) : ∀ k, k < 6 → -1000000 ≤ rmP S l n k ∧ rmP S l n k ≤ 1000000 ∧ 0 ≤ l.getD n zero6 k ∧ l.getD n zero6 k ≤ 1000000 := by
  obtain ⟨h1, h2, h3, _⟩ := feas_parts h
  intro k hk
  have hl8 : l.length ≤ 8 := by rw [h2]; exact (rosE_zero (setE_parts h1).2.1).2.1
  obtain ⟨a, _, b, _⟩ := pK_bounds h1 h3 hl8 (j := 0) hn hk
  unfold puK at a
  rw [if_neg (by omega)] at a
  unfold rmP
  omega
theorem rm_step {S : SetD} {l : List (Nat → Int)} {n : Nat} (hn : n < l.length) (k : Nat) (hk : k < 6) : subP 6 (rmP S l n) (l.getD n zero6) k = rmP S l (n + 1) k := by
  unfold subP rmP
  rw [if_pos hk, sumL_succ hn]
  omega
theorem rm_zero (S : SetD) (l : List (Nat → Int)) (k : Nat) : rmP S l 0 k = supP S.ps k := by unfold rmP; rw [sumL_zero]; omega
set_option maxHeartbeats 4000000 in
set_option maxRecDepth 100000 in
theorem rest_any (S : SetD) (l : List (Nat → Int)) (v1 v2 v3 v4 v : Value) (w : World) (h : SetW w v1 v2 v3 v4 S) (hb : BunS w v l) (hl : l.length ≤ 5000) : Calls Tryd.prog 43 #[.agg #[v1, v2, v3, v4], v] w fun e w' => e = .returned (.agg (arr (restS S l))) ∧ Below w.heap.size w w' := by
  obtain ⟨A1, c1, A2, c2, A3, c3, A4, c4, rfl, rfl, rfl, rfl⟩ := h.forms
  have CF := Lib.hid (fun W (d : Below w.heap.size w W) => feas_any S l _ _ _ _ v W (h.keep d) (hb.keep d) hl)
  have CSU := Lib.hid (fun W (d : Below w.heap.size w W) => supply_any S.ps _ W h.lp (h.p.keep d))
  obtain ⟨A, c, rfl, k1, k2, hr⟩ := sl_parts hb
  have HR := Lib.hid hr
  have hll : (l.length : Int) ≤ 5000 := by omega
  have CSB := Lib.hid (fun a b W h => sub_any a b W h)
  have HBN := Lib.hid (fun hz n hn => rm_bounds (S := S) (l := l) hz (n := n) hn)
  have HST := Lib.hid (fun n hn => rm_step (S := S) (l := l) (n := n) hn)
  have HZ0 := Lib.hid (rm_zero S l)
  obtain ⟨R, hR⟩ : ∃ R, R = restS S l := ⟨_, rfl⟩
  have HRR := Lib.hid hR
  rw [← hR]
  have e1 : (w.alloc (.cells #[.slice A1 S.ps.length c1, .slice A2 S.bs.length c2, .slice A3 S.cs.length c3, .slice A4 S.ad.length c4] 43)).heap.size = w.heap.size + 1 := World.size_alloc _ _
  have x1 := box_new (w.alloc (.cells #[.slice A1 S.ps.length c1, .slice A2 S.bs.length c2, .slice A3 S.cs.length c3, .slice A4 S.ad.length c4] 43)) zero6 24
  rw [e1] at x1
  have X0 := Lib.hid x1
  have K0 := Lib.hid ((Blk.new w 43 #[.slice A1 S.ps.length c1, .slice A2 S.bs.length c2, .slice A3 S.cs.length c3, .slice A4 S.ad.length c4]).alloc (.cells (arr zero6) 24))
  have B0 := Lib.hid ((below_new w (.cells #[.slice A1 S.ps.length c1, .slice A2 S.bs.length c2, .slice A3 S.cs.length c3, .slice A4 S.ad.length c4] 43)).alloc (below_new w (.cells #[.slice A1 S.ps.length c1, .slice A2 S.bs.length c2, .slice A3 S.cs.length c3, .slice A4 S.ad.length c4] 43)).size (.cells (arr zero6) 24))
  clear h hb hr hR e1 x1
  go_enter Tryd.func43, Tryd.ntmps43
  have z0 := K0.out.c4
  go_wp2_with fail
  refine (CF.out _ B0.out).mono ?_
  rintro e w1 ⟨rfl, d1⟩
  have B1 := Lib.hid (chain0 B0.out d1)
  have K1 := Lib.hid (K0.out.below' d1)
  have X1 := Lib.hid (X0.out.below d1 X0.out.lt)
  clear d1 B0 K0 X0 z0 CF
  have z0 := K1.out.c4
  have z1 := X1.out.cells
  have z2 := X1.out.free
  have z3 := X1.out.lt
  by_cases hz : feasE S l = 0
  case neg =>
    have t1 : (feasE S l != 0) = true := by simpa using hz
    have HV := Lib.hid (HRR.out.trans (if_neg hz))
    clear hz
    go_wp2_with fail
    have M3 := fill6_box X1.out zero6
    have M4 := fill6_below B1.out (c := w.heap.size + 1) (by omega) zero6
    obtain ⟨a0, a1, a2, a3, a4, a5⟩ := M3.cells
    unfold fill6 zero6 at a0 a1 a2 a3 a4 a5
    refine bodyPost_ret (v := .agg (arr zero6)) (by simp [results, Tryd.results43, go_sem, arr, zero6, a0, a1, a2, a3, a4, a5]) rfl ⟨by rw [HV.out], M4⟩
  have t1 : (feasE S l != 0) = false := by rw [hz]; rfl
  have HV := Lib.hid (HRR.out.trans (if_pos hz))
  have HB2 := Lib.hid (HBN.out hz)
  clear hz HBN
  go_wp2_with fail
  refine (CSU.out _ B1.out).mono ?_
  rintro e w2 ⟨rfl, d2⟩
  have hgr : w.heap.size + 1 < w2.heap.size := (X1.out.below d2 X1.out.lt).lt
  have M0 : Hid (RmM w (w2.alloc (.cells (arr (supP S.ps)) 24)) w.heap.size w2.heap.size #[.slice A1 S.ps.length c1, .slice A2 S.bs.length c2, .slice A3 S.cs.length c3, .slice A4 S.ad.length c4] (supP S.ps)) := ⟨(K1.out.below' d2).alloc _, (X1.out.below d2 X1.out.lt).alloc _, box_new w2 _ _, (chain0 B1.out d2).alloc (chain0 B1.out d2).size _, Nat.le_refl _, hgr⟩
  clear d2 z0 z1 z2 z3 t1 CSU K1 X1 B1
  go_wp2_with fail
  generalize w2.alloc _ = w3 at *
  generalize w2.heap.size = gr at *
  go_loopw [18] (fun iv wr => ∃ n : Nat, n ≤ l.length ∧ iv = .int .i64 (n : Int) ∧ Hid (RmM w wr w.heap.size gr #[.slice A1 S.ps.length c1, .slice A2 S.bs.length c2, .slice A3 S.cs.length c3, .slice A4 S.ad.length c4] (rmP S l n))) (fun iv _ => l.length - (intOf iv).toNat)
  case atStart => exact ⟨0, Nat.zero_le _, rfl, M0.out.same fun k _ => (HZ0.out k).symm⟩
  case round =>
    clear M0 HZ0
    obtain ⟨n, hn, rfl, M⟩ := hrel
    have hn0 : (0 : Int) ≤ (n : Int) := by omega
    by_cases hnl : n < l.length
    · have hd1 : decide (n < l.length) = true := decide_eq_true hnl
      have hd2 : decide ((n : Int) < (l.length : Int)) = true := decide_eq_true (by omega)
      have hnl1 : (n : Int) < (l.length : Int) := by omega
      obtain ⟨bb, o, e1, hbb, hrow⟩ := HR.out (by omega)
      subst e1
      have hat := bun_at (hrow.below hbb M.out.bel) n hnl
      have hbr := Nat.lt_of_lt_of_le hbb M.out.bel.size
      have HGD := getD_at l n hnl
      have HB3 := Lib.hid (HB2.out n hnl)
      have HS3 := Lib.hid (HST.out n hnl)
      obtain ⟨x, hx⟩ : ∃ x, x = l[n] := ⟨_, rfl⟩
      rw [← hx] at hat HGD
      rw [HGD] at HB3 HS3
      have CS3 := Lib.hid (fun W => CSB.out (rmP S l n) x W HB3.out)
      obtain ⟨q, hq⟩ : ∃ q, q = rmP S l n := ⟨_, rfl⟩
      obtain ⟨q2, hq2⟩ : ∃ q, q = subP 6 (rmP S l n) x := ⟨_, rfl⟩
      rw [← hq2] at HS3 CS3
      rw [← hq] at CS3 M
      clear hx hrow HGD hq hq2 HB3
      have la := M.out.a.lt
      have M1 := Lib.hid (M.out.keep (below_new wr (.cells (arr x) 24)))
      have a1 := M1.out.a.cells
      unfold arr at M1 CS3 a1
      go_wp2_with fail
      refine (CS3.out _).mono ?_
      rintro e w5 ⟨rfl, d5⟩
      have M2 := Lib.hid (M1.out.keep d5)
      clear d5 M1 CS3 la hat hbr M a1
      have a1 := M2.out.a.cells
      have a2 := M2.out.a.free
      have la := M2.out.a.lt
      go_wp2_with fail
      go_roundw
      case rel => exact ⟨n + 1, hnl, by go_num, (M2.out.fill q2).same fun k hk => HS3.out k hk⟩
      case measure => simp [intOf]; omega
    · obtain rfl : n = l.length := by omega
      have hd1 : decide (l.length < l.length) = false := decide_eq_false (Nat.lt_irrefl _)
      have hd2 : decide ((l.length : Int) < (l.length : Int)) = false := decide_eq_false (Int.lt_irrefl _)
      have HE : Hid (R = rmP S l l.length) := HV.out
      rw [← HE.out] at M
      have z0 := M.out.a.cells
      have z1 := M.out.a.lt
      have z2 := M.out.c.free
      have z3 := M.out.c.lt
      have z4 := M.out.c.cells
      go_wp2_with fail
      have M3 := fill6_box M.out.c R
      have M4 := fill6_below M.out.bel (c := w.heap.size + 1) (by omega) R
      obtain ⟨a0, a1, a2, a3, a4, a5⟩ := M3.cells
      unfold fill6 at a0 a1 a2 a3 a4 a5
      refine bodyPost_ret (v := .agg (arr R)) (by simp [results, Tryd.results43, go_sem, arr, a0, a1, a2, a3, a4, a5]) rfl ⟨rfl, M4⟩

end Go.Proofs.YtjjlhihocllgjaaDoor.Se
