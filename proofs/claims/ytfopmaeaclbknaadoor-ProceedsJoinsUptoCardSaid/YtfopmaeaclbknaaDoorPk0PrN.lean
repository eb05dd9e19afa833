/- The law ProceedsJoins, for two lists of invoices that are together no longer than a block may be: walk. Printed by gen_prn.py. -/
import Derived.Test.YtfopmaeaclbknaaDoorPk44
import Derived.Deep.QuietTactic
import Derived.BigQuiet
namespace Go.Proofs.YtfopmaeaclbknaaDoor.Pr
open Go.ChangeShapes Go.WideShapes Go.ChangeAt Go.RowKit Go.Maps Go.WideMaps Gn Cat Lex So
set_option linter.unusedVariables false
set_option linter.unusedSimpArgs false
set_option maxHeartbeats 4000000
attribute [local go_sem] later_cell
theorem divErr_app {ps : List Prod} {nb : Nat} : ∀ {a b : List Inv}, divErr ps nb (a ++ b) = 0 ↔ divErr ps nb a = 0 ∧ divErr ps nb b = 0
  | [], b => by simp [divErr]
  | v :: r, b => by
    rw [List.cons_append, divErr, divErr]
    split
    · split
      · simp
      · exact divErr_app
    · simp
theorem gotR_app {o : Own} {ps : List Prod} {a b : List Inv} : gotR o ps (a ++ b) = fun i => gotR o ps a i + gotR o ps b i := by
  funext i
  unfold gotR
  rw [List.map_append, List.sum_append]
theorem gotN_app {o : Own} {ps : List Prod} {m : Nat} {a b : List Inv} : gotN o ps m (a ++ b) = fun i => gotN o ps m a i + gotN o ps m b i := by
  funext i
  unfold gotN
  rw [List.map_append, List.sum_append]
/-- what Divide says of two lists and of both together -/
theorem div_joins (ps : List Prod) (nb : Nat) (l : List Sel) (a b : List Inv) :
    (∃ x z, divR ps nb l a = .error x ∧ x ≠ 0 ∧ divR ps nb l (a ++ b) = .error z ∧ z ≠ 0) ∨
    (∃ L y z, divR ps nb l a = .ok L ∧ divR ps nb l b = .error y ∧ y ≠ 0 ∧ divR ps nb l (a ++ b) = .error z ∧ z ≠ 0) ∨
    ∃ o, checkE ps = 0 ∧ OwnOk ps.length l o ∧ (∀ v ∈ a, InvIs ps v) ∧ (∀ v ∈ b, InvIs ps v) ∧ (∀ v ∈ a ++ b, InvIs ps v) ∧
      divR ps nb l a = .ok (shrL l.length (fun i => (i : Int)) (gotR o ps a) (gotN o ps l.length a)) ∧
      divR ps nb l b = .ok (shrL l.length (fun i => (i : Int)) (gotR o ps b) (gotN o ps l.length b)) ∧
      divR ps nb l (a ++ b) = .ok (shrL l.length (fun i => (i : Int)) (fun i => gotR o ps a i + gotR o ps b i) (fun i => gotN o ps l.length a i + gotN o ps l.length b i)) := by
  cases hr : selR ps l with
  | error x => exact .inl ⟨x, x, divR_err hr, selR_ne hr, divR_err hr, selR_ne hr⟩
  | ok o =>
    by_cases ha : divErr ps nb a = 0
    · by_cases hb : divErr ps nb b = 0
      · have hab := divErr_app.2 ⟨ha, hb⟩
        have h1 : divR ps nb l a = .ok (shrL l.length (fun i => (i : Int)) (gotR o ps a) (gotN o ps l.length a)) := by rw [divR_ok hr, if_pos ha]
        have h2 : divR ps nb l b = .ok (shrL l.length (fun i => (i : Int)) (gotR o ps b) (gotN o ps l.length b)) := by rw [divR_ok hr, if_pos hb]
        have h3 : divR ps nb l (a ++ b) = .ok (shrL l.length (fun i => (i : Int)) (gotR o ps (a ++ b)) (gotN o ps l.length (a ++ b))) := by rw [divR_ok hr, if_pos hab]
        obtain ⟨o', hz, ho, hs', _, _⟩ := divR_is h1
        obtain rfl : o' = o := by rw [hr] at hs'; cases hs'; rfl
        rw [gotR_app, gotN_app] at h3
        exact .inr (.inr ⟨o', hz, ho, divErr_is ha, divErr_is hb, divErr_is hab, h1, h2, h3⟩)
      · have hab : divErr ps nb (a ++ b) ≠ 0 := fun h => hb (divErr_app.1 h).2
        exact .inr (.inl ⟨_, _, _, by rw [divR_ok hr, if_pos ha], by rw [divR_ok hr, if_neg hb], hb, by rw [divR_ok hr, if_neg hab], hab⟩)
    · have hab : divErr ps nb (a ++ b) ≠ 0 := fun h => ha (divErr_app.1 h).1
      exact .inl ⟨_, _, by rw [divR_ok hr, if_neg ha], ha, by rw [divR_ok hr, if_neg hab], hab⟩
theorem sinv_info : (Tryd.prog.info? 79).map (fun i => (i.zero, i.size, i.bytes)) = some (some (.agg #[.int .i64 0, .int .i64 0, .int .i64 0, .int .i64 0, .int .i64 0, .int .i64 0, .int .i64 0, .int .i64 0, .int .i64 0, .int .i64 0]), 10, 80) := by kernel_rfl
theorem inv_one (L : List Inv) : ∀ u ∈ L.flatMap Inv.cells, u.oneCell' = true := flat_one (fun t u hu => by
  simp only [Inv.cells, List.mem_cons, List.not_mem_nil, or_false] at hu
  rcases hu with h | h | h | h | h | h | h | h | h | h <;> (subst h; rfl)) L
theorem shr_at0 {w : World} {b o : Nat} {l : List Shr} (h : Row w b o (l.flatMap Shr.cells)) (hk : 0 < l.length) : w.cell? ⟨b, o, none⟩ = some (.int .i64 l[0].sel) ∧ w.cell? ⟨b, o + 1, none⟩ = some (.int .i64 l[0].reserve) ∧ w.cell? ⟨b, o + 2, none⟩ = some (.int .i64 l[0].net) := by
  have := shr_at h 0 hk
  simpa using this
set_option maxRecDepth 100000 in
theorem law_joins (ps : List Prod) (l : List Sel) (xs ys : List Inv) (A1 A2 : Option Addr) (n2 c1 c2 : Nat) (v3 v4 v vx vy : Value) (w : World) (hs : SetF w (.slice A1 ps.length c1) ps) (hl : SellF w v l) (hx : InvS w vx xs) (hy : InvS w vy ys) (hz : (xs.length + ys.length) * 80 ≤ 140737488355328) (ht : Am.Tab w) : Calls Tryd.prog 13 #[.agg #[.slice A1 ps.length c1, .slice A2 n2 c2, v3, v4], v, vx, vy] w (TruePost w) := by
  have CA := Lib.hid (fun W (b : Below w.heap.size w W) => awake_any W (tab_keep ht b))
  obtain ⟨Ax, cx, rfl, _⟩ := sl_parts hx
  obtain ⟨Ay, cy, rfl, _⟩ := sl_parts hy
  obtain ⟨j0, hj0, hy0, hy1, hy2⟩ := info_parts sinv_info
  have CF := Lib.hid (fun W A c (b : Below w.heap.size w W) => few_any A1 A2 ps.length n2 c1 c2 v3 v4 l v A (xs.length + ys.length) c W hl.size (hl.ok.keep b) (hl.sl.keep b))
  have b0 := below_new w (.cells #[.slice A1 ps.length c1, .slice A2 n2 c2, v3, v4] 48)
  have HAT := Lib.hid (setup_at w 48 (.slice A1 ps.length c1) (.slice A2 n2 c2) v3 v4)
  obtain ⟨w0, hw0⟩ : ∃ W, W = w.alloc (.cells #[.slice A1 ps.length c1, .slice A2 n2 c2, v3, v4] 48) := ⟨_, rfl⟩
  have HW0 := Lib.hid hw0.symm
  rw [← hw0] at HAT b0
  have B0 := Lib.hid b0
  clear hw0 b0
  have HX := Lib.hid (fun W (b : Below w.heap.size w W) => hx.keep b)
  have HY := Lib.hid (fun W (b : Below w.heap.size w W) => hy.keep b)
  have HZ := Lib.hid hz
  obtain ⟨Al, cl, rfl, _⟩ := sl_parts hl.sl
  by_cases hf : fewS ps.length n2 l (xs.length + ys.length) = true
  · obtain ⟨k1, k2, k3, k4, k5⟩ := few_out hf
    rw [hf] at CF
    have C1 : Hid (∀ W, Below w.heap.size w W → Calls Tryd.prog 31 #[.agg #[.slice A1 ps.length c1, .slice A2 n2 c2, v3, v4], .slice Al l.length cl, .slice Ax xs.length cx] W (DivPost (divR ps n2 l xs) W)) := fun W b => divide_any ps n2 l xs (.slice A1 ps.length c1) (.slice Al l.length cl) v3 v4 (.slice Ax xs.length cx) A2 c2 W ((hs.keep b).set k1) ((hl.keep b).sell k4) (hx.keep b) (by first | omega | (simp only [List.length_append]; omega))
    have C2 : Hid (∀ W, Below w.heap.size w W → Calls Tryd.prog 31 #[.agg #[.slice A1 ps.length c1, .slice A2 n2 c2, v3, v4], .slice Al l.length cl, .slice Ay ys.length cy] W (BothPost (okD (divR ps n2 l ys)) (errD (divR ps n2 l ys)) W)) := fun W b => (divide_any ps n2 l ys (.slice A1 ps.length c1) (.slice Al l.length cl) v3 v4 (.slice Ay ys.length cy) A2 c2 W ((hs.keep b).set k1) ((hl.keep b).sell k4) (hy.keep b) (by first | omega | (simp only [List.length_append]; omega))).mono (fun e w' h => divPost_both h)
    have C3 : Hid (∀ W vz, Below w.heap.size w W → InvS W vz (xs ++ ys) → Calls Tryd.prog 31 #[.agg #[.slice A1 ps.length c1, .slice A2 n2 c2, v3, v4], .slice Al l.length cl, vz] W (DivPost (divR ps n2 l (xs ++ ys)) W)) := fun W vz b hb => divide_any ps n2 l (xs ++ ys) (.slice A1 ps.length c1) (.slice Al l.length cl) v3 v4 vz A2 c2 W ((hs.keep b).set k1) ((hl.keep b).sell k4) hb (by first | omega | (simp only [List.length_append]; omega))
    rcases div_joins ps n2 l xs ys with ⟨x, z, ex, nx0, ez, nz0⟩ | ⟨L, y, z, ex, ey, ny0, ez, nz0⟩ | ⟨o, hz0, ho, ia, ib, iab, ex, ey, ez⟩
    · rw [ex] at C1
      rw [ez] at C3
      unfold DivPost at C1 C3
      unfold BothPost at C2
      have q1 : (x != 0) = true := by simpa using nx0
      have q2 : (z != 0) = true := by simpa using nz0
      generalize okD (divR ps n2 l ys) = L2 at *
      generalize errD (divR ps n2 l ys) = e2 at *
      clear ex ez nx0 nz0
      clear hf k1 k2 k3 k4 k5 hs hl hx hy ht hz
      obtain ⟨nx, hnx⟩ : ∃ n, n = xs.length := ⟨_, rfl⟩
      obtain ⟨ny, hny⟩ : ∃ n, n = ys.length := ⟨_, rfl⟩
      rw [← hnx] at HZ CF HX C1
      rw [← hny] at HZ CF HY C2
      have HNX := Lib.hid hnx
      have HNY := Lib.hid hny
      rw [← hnx, ← hny]
      clear hnx hny
      generalize ps.length = n1 at *
      generalize l.length = nl at *
      go_enter Tryd.func13, Tryd.ntmps13
      go_upto_region 1 with fail
      rw [HW0.out]
      go_wp2_with (at_builtin; refine wpList_append_sl _ rfl (.tmp 17) (.tmp 18) _ rfl w0.heap.size 79 j0 _ 10 80 Tryd.underlying50 hj0 hy0 hy1 hy2 rfl (by decide) (.slice (some ⟨w0.heap.size, 0, none⟩) 0 0) 0 [] rfl (World.ownsRow_made w0 #[] 0 (Nat.le_refl _) (by unfold maxLen; omega) rfl) (.slice Ax nx cx) nx (xs.flatMap Inv.cells) rfl ((HX.out _ B0.out).keep (below_new _ _)) (inv_one xs) (by unfold maxLen; have := HZ.out; omega) (by have := HZ.out; omega) (by simp) ?_)
      intro v' wa hown hgr
      obtain ⟨A5, c5, rfl⟩ := Gn.own_form hown
      try rw [Nat.zero_add] at hown
      try rw [List.nil_append] at hown
      have ba : Below w0.heap.size w0 wa := ((Below.refl w0.heap.size w0).alloc (Nat.le_refl _) _).grown hgr (by simp) (fun q hq => by simp [Value.ownBlock] at hq; omega)
      have BA := Lib.hid ba
      have OA := Lib.hid hown
      try rw [Nat.zero_add]
      clear ba hown hgr
      go_wp2_with (at_builtin; refine wpList_append_sl _ rfl (.tmp 19) (.tmp 20) _ rfl w0.heap.size 79 j0 _ 10 80 Tryd.underlying50 hj0 hy0 hy1 hy2 rfl (by decide) (.slice A5 nx c5) nx (xs.flatMap Inv.cells) rfl OA.out (.slice Ay ny cy) ny (ys.flatMap Inv.cells) rfl (HY.out _ (chain0 B0.out BA.out)) (inv_one ys) (by unfold maxLen; have := HZ.out; omega) (by have := HZ.out; omega) BA.out.size ?_)
      intro v' w1 hown hgr
      obtain ⟨A6, c6, rfl⟩ := Gn.own_form hown
      have ba : Below w0.heap.size w0 w1 := BA.out.grown hgr BA.out.size (fun q hq => (OA.out.lt q hq).1)
      have E1 := Lib.hid ba
      have D1 := Lib.hid (chain0 B0.out ba)
      have HS := Lib.hid (Sl.of_own hown)
      clear ba hown hgr BA OA
      have hat := HAT.out w1 E1.out
      go_wp2_with fail
      clear hat
      refine (CF.out w1 _ _ D1.out).mono ?_
      rintro e w2 ⟨rfl, d2⟩
      have E2 := Lib.hid (chain0 E1.out d2)
      have D2 := Lib.hid (chain0 B0.out E2.out)
      replace HS := Lib.hid (HS.out.keep d2)
      clear d2
      have hat := HAT.out w2 E2.out
      go_wp2_with fail
      clear hat
      refine (C1.out w2 D2.out).mono ?_
      rintro e w3 ⟨rfl, d3⟩
      have E3 := Lib.hid (chain0 E2.out d3)
      have D3 := Lib.hid (chain0 B0.out E3.out)
      replace HS := Lib.hid (HS.out.keep d3)
      clear d3
      have hat := HAT.out w3 E3.out
      go_wp2_with fail
      clear hat
      refine (C2.out w3 D3.out).mono ?_
      rintro e w4 ⟨vy2, rfl, _, d4⟩
      have E4 := Lib.hid (chain0 E3.out d4)
      have D4 := Lib.hid (chain0 B0.out E4.out)
      replace HS := Lib.hid (HS.out.keep d4)
      clear d4
      have hat := HAT.out w4 E4.out
      go_wp2_with fail
      clear hat
      refine (C3.out w4 _ D4.out (by have h := HS.out; rw [HNX.out, HNY.out, ← List.length_append, ← List.flatMap_append] at h; rw [HNX.out, HNY.out, ← List.length_append]; exact h)).mono ?_
      rintro e w5 ⟨rfl, d5⟩
      have E5 := Lib.hid (chain0 E4.out d5)
      have D5 := Lib.hid (chain0 B0.out E5.out)
      clear d5
      have hat := HAT.out w5 E5.out
      go_wp2_with fail
      clear hat
      refine (CA.out w5 (chain0 B0.out E5.out)).mono ?_
      rintro e w6 ⟨rfl, d6⟩
      have E6 := Lib.hid (chain0 E5.out d6)
      have D6 := Lib.hid (chain0 B0.out E6.out)
      clear d6
      go_wp2_with fail
      go_ret
      exact ⟨rfl, D6.out⟩
    · rw [ex] at C1
      rw [ey] at C2
      rw [ez] at C3
      unfold DivPost at C1 C3
      unfold BothPost at C2
      have q0 : ((0 : Int) != 0) = false := rfl
      have q1 : (errD (.error y : Except Int (List Shr)) != 0) = true := by simpa [errD] using ny0
      have q2 : (z != 0) = true := by simpa using nz0
      generalize errD (.error y : Except Int (List Shr)) = e2 at *
      generalize okD (.error y : Except Int (List Shr)) = L2 at *
      clear ex ey ez ny0 nz0
      clear hf k1 k2 k3 k4 k5 hs hl hx hy ht hz
      obtain ⟨nx, hnx⟩ : ∃ n, n = xs.length := ⟨_, rfl⟩
      obtain ⟨ny, hny⟩ : ∃ n, n = ys.length := ⟨_, rfl⟩
      rw [← hnx] at HZ CF HX C1
      rw [← hny] at HZ CF HY C2
      have HNX := Lib.hid hnx
      have HNY := Lib.hid hny
      rw [← hnx, ← hny]
      clear hnx hny
      generalize ps.length = n1 at *
      generalize l.length = nl at *
      go_enter Tryd.func13, Tryd.ntmps13
      go_upto_region 1 with fail
      rw [HW0.out]
      go_wp2_with (at_builtin; refine wpList_append_sl _ rfl (.tmp 17) (.tmp 18) _ rfl w0.heap.size 79 j0 _ 10 80 Tryd.underlying50 hj0 hy0 hy1 hy2 rfl (by decide) (.slice (some ⟨w0.heap.size, 0, none⟩) 0 0) 0 [] rfl (World.ownsRow_made w0 #[] 0 (Nat.le_refl _) (by unfold maxLen; omega) rfl) (.slice Ax nx cx) nx (xs.flatMap Inv.cells) rfl ((HX.out _ B0.out).keep (below_new _ _)) (inv_one xs) (by unfold maxLen; have := HZ.out; omega) (by have := HZ.out; omega) (by simp) ?_)
      intro v' wa hown hgr
      obtain ⟨A5, c5, rfl⟩ := Gn.own_form hown
      try rw [Nat.zero_add] at hown
      try rw [List.nil_append] at hown
      have ba : Below w0.heap.size w0 wa := ((Below.refl w0.heap.size w0).alloc (Nat.le_refl _) _).grown hgr (by simp) (fun q hq => by simp [Value.ownBlock] at hq; omega)
      have BA := Lib.hid ba
      have OA := Lib.hid hown
      try rw [Nat.zero_add]
      clear ba hown hgr
      go_wp2_with (at_builtin; refine wpList_append_sl _ rfl (.tmp 19) (.tmp 20) _ rfl w0.heap.size 79 j0 _ 10 80 Tryd.underlying50 hj0 hy0 hy1 hy2 rfl (by decide) (.slice A5 nx c5) nx (xs.flatMap Inv.cells) rfl OA.out (.slice Ay ny cy) ny (ys.flatMap Inv.cells) rfl (HY.out _ (chain0 B0.out BA.out)) (inv_one ys) (by unfold maxLen; have := HZ.out; omega) (by have := HZ.out; omega) BA.out.size ?_)
      intro v' w1 hown hgr
      obtain ⟨A6, c6, rfl⟩ := Gn.own_form hown
      have ba : Below w0.heap.size w0 w1 := BA.out.grown hgr BA.out.size (fun q hq => (OA.out.lt q hq).1)
      have E1 := Lib.hid ba
      have D1 := Lib.hid (chain0 B0.out ba)
      have HS := Lib.hid (Sl.of_own hown)
      clear ba hown hgr BA OA
      have hat := HAT.out w1 E1.out
      go_wp2_with fail
      clear hat
      refine (CF.out w1 _ _ D1.out).mono ?_
      rintro e w2 ⟨rfl, d2⟩
      have E2 := Lib.hid (chain0 E1.out d2)
      have D2 := Lib.hid (chain0 B0.out E2.out)
      replace HS := Lib.hid (HS.out.keep d2)
      clear d2
      have hat := HAT.out w2 E2.out
      go_wp2_with fail
      clear hat
      refine (C1.out w2 D2.out).mono ?_
      rintro e w3 ⟨vx2, rfl, _, d3⟩
      have E3 := Lib.hid (chain0 E2.out d3)
      have D3 := Lib.hid (chain0 B0.out E3.out)
      replace HS := Lib.hid (HS.out.keep d3)
      clear d3
      have hat := HAT.out w3 E3.out
      go_wp2_with fail
      clear hat
      refine (C2.out w3 D3.out).mono ?_
      rintro e w4 ⟨vy2, rfl, _, d4⟩
      have E4 := Lib.hid (chain0 E3.out d4)
      have D4 := Lib.hid (chain0 B0.out E4.out)
      replace HS := Lib.hid (HS.out.keep d4)
      clear d4
      have hat := HAT.out w4 E4.out
      go_wp2_with fail
      clear hat
      refine (C3.out w4 _ D4.out (by have h := HS.out; rw [HNX.out, HNY.out, ← List.length_append, ← List.flatMap_append] at h; rw [HNX.out, HNY.out, ← List.length_append]; exact h)).mono ?_
      rintro e w5 ⟨rfl, d5⟩
      have E5 := Lib.hid (chain0 E4.out d5)
      have D5 := Lib.hid (chain0 B0.out E5.out)
      clear d5
      have hat := HAT.out w5 E5.out
      go_wp2_with fail
      clear hat
      refine (CA.out w5 (chain0 B0.out E5.out)).mono ?_
      rintro e w6 ⟨rfl, d6⟩
      have E6 := Lib.hid (chain0 E5.out d6)
      have D6 := Lib.hid (chain0 B0.out E6.out)
      clear d6
      go_wp2_with fail
      go_ret
      exact ⟨rfl, D6.out⟩
    · rw [ex] at C1
      rw [ey] at C2
      rw [ez] at C3
      unfold DivPost at C1 C3
      unfold BothPost at C2
      have H6 := (checkE_zero hz0).2.1
      have RNG : ∀ (vs : List Inv), vs.length ≤ 20 → (∀ v ∈ vs, InvIs ps v) → ∀ i, (0 ≤ gotR o ps vs i ∧ gotR o ps vs i ≤ 1000000000) ∧ (0 ≤ gotN o ps l.length vs i ∧ gotN o ps l.length vs i ≤ 1000000000) := fun vs h20 hvs i => by
        have h := gotR_range (o := o) hz0 hvs i
        have h2 : (vs.length : Int) * (ps.length * 4000000) ≤ 20 * (6 * 4000000) := Int.mul_le_mul (by omega) (by omega) (by omega) (by omega)
        have h3 := gotN_range hz0 ho hvs i
        omega
      have RX := Lib.hid (RNG xs (by omega) ia)
      have RY := Lib.hid (RNG ys (by omega) ib)
      have HA := Lib.hid (all_upto hz0 ho iab)
      rw [gotR_app, gotN_app] at HA
      have CR := Lib.hid (fun W vz (h : InvS W vz (xs ++ ys)) => revenue_any (xs ++ ys) vz W (by simp only [List.length_append]; omega) h)
      generalize (dues (xs ++ ys)).sum = tot at *
      generalize gotR o ps xs = R1 at *
      generalize gotN o ps l.length xs = N1 at *
      generalize gotR o ps ys = R2 at *
      generalize gotN o ps l.length ys = N2 at *
      have q0 : ((0 : Int) != 0) = false := rfl
      have q3 : ((l.length : Int) != (l.length : Int)) = false := by simp
      have K3 : Hid (l.length ≤ 12) := k3
      clear ex ey ez RNG H6 hz0 ho ia ib iab
      clear hf k1 k2 k3 k4 hs hl hx hy ht hz
      obtain ⟨nx, hnx⟩ : ∃ n, n = xs.length := ⟨_, rfl⟩
      obtain ⟨ny, hny⟩ : ∃ n, n = ys.length := ⟨_, rfl⟩
      rw [← hnx] at HZ CF HX C1
      rw [← hny] at HZ CF HY C2
      have HNX := Lib.hid hnx
      have HNY := Lib.hid hny
      rw [← hnx, ← hny]
      clear hnx hny
      generalize ps.length = n1 at *
      go_enter Tryd.func13, Tryd.ntmps13
      go_upto_region 1 with fail
      rw [HW0.out]
      go_wp2_with (at_builtin; refine wpList_append_sl _ rfl (.tmp 17) (.tmp 18) _ rfl w0.heap.size 79 j0 _ 10 80 Tryd.underlying50 hj0 hy0 hy1 hy2 rfl (by decide) (.slice (some ⟨w0.heap.size, 0, none⟩) 0 0) 0 [] rfl (World.ownsRow_made w0 #[] 0 (Nat.le_refl _) (by unfold maxLen; omega) rfl) (.slice Ax nx cx) nx (xs.flatMap Inv.cells) rfl ((HX.out _ B0.out).keep (below_new _ _)) (inv_one xs) (by unfold maxLen; have := HZ.out; omega) (by have := HZ.out; omega) (by simp) ?_)
      intro v' wa hown hgr
      obtain ⟨A5, c5, rfl⟩ := Gn.own_form hown
      try rw [Nat.zero_add] at hown
      try rw [List.nil_append] at hown
      have ba : Below w0.heap.size w0 wa := ((Below.refl w0.heap.size w0).alloc (Nat.le_refl _) _).grown hgr (by simp) (fun q hq => by simp [Value.ownBlock] at hq; omega)
      have BA := Lib.hid ba
      have OA := Lib.hid hown
      try rw [Nat.zero_add]
      clear ba hown hgr
      go_wp2_with (at_builtin; refine wpList_append_sl _ rfl (.tmp 19) (.tmp 20) _ rfl w0.heap.size 79 j0 _ 10 80 Tryd.underlying50 hj0 hy0 hy1 hy2 rfl (by decide) (.slice A5 nx c5) nx (xs.flatMap Inv.cells) rfl OA.out (.slice Ay ny cy) ny (ys.flatMap Inv.cells) rfl (HY.out _ (chain0 B0.out BA.out)) (inv_one ys) (by unfold maxLen; have := HZ.out; omega) (by have := HZ.out; omega) BA.out.size ?_)
      intro v' w1 hown hgr
      obtain ⟨A6, c6, rfl⟩ := Gn.own_form hown
      have ba : Below w0.heap.size w0 w1 := BA.out.grown hgr BA.out.size (fun q hq => (OA.out.lt q hq).1)
      have E1 := Lib.hid ba
      have D1 := Lib.hid (chain0 B0.out ba)
      have HS := Lib.hid (Sl.of_own hown)
      clear ba hown hgr BA OA
      have hat := HAT.out w1 E1.out
      go_wp2_with fail
      clear hat
      refine (CF.out w1 _ _ D1.out).mono ?_
      rintro e w2 ⟨rfl, d2⟩
      have E2 := Lib.hid (chain0 E1.out d2)
      have D2 := Lib.hid (chain0 B0.out E2.out)
      replace HS := Lib.hid (HS.out.keep d2)
      clear d2
      have hat := HAT.out w2 E2.out
      go_wp2_with fail
      clear hat
      refine (C1.out w2 D2.out).mono ?_
      rintro e w3 ⟨vp, rfl, xp, d3⟩
      have E3 := Lib.hid (chain0 E2.out d3)
      have D3 := Lib.hid (chain0 B0.out E3.out)
      replace HS := Lib.hid (HS.out.keep d3)
      obtain ⟨Ap, cp, rfl, _, _, hp⟩ := sl_parts xp
      rw [shrL_len] at hp
      rw [shrL_len]
      have Hp := Lib.hid hp
      clear xp hp
      clear d3
      have hat := HAT.out w3 E3.out
      go_wp2_with fail
      clear hat
      refine (C2.out w3 D3.out).mono ?_
      rintro e w4 ⟨vq, rfl, xq, d4⟩
      have G3 := Lib.hid d4
      have E4 := Lib.hid (chain0 E3.out d4)
      have D4 := Lib.hid (chain0 B0.out E4.out)
      replace HS := Lib.hid (HS.out.keep d4)
      dsimp only [okD, errD] at xq ⊢
      obtain ⟨Aq, cq, rfl, _, _, hq⟩ := sl_parts xq
      rw [shrL_len] at hq
      rw [shrL_len]
      have Hq := Lib.hid hq
      clear xq hq
      clear d4
      have hat := HAT.out w4 E4.out
      go_wp2_with fail
      clear hat
      refine (C3.out w4 _ D4.out (by have h := HS.out; rw [HNX.out, HNY.out, ← List.length_append, ← List.flatMap_append] at h; rw [HNX.out, HNY.out, ← List.length_append]; exact h)).mono ?_
      rintro e w5 ⟨vr, rfl, xr, d5⟩
      have G4 := Lib.hid d5
      have E5 := Lib.hid (chain0 E4.out d5)
      have D5 := Lib.hid (chain0 B0.out E5.out)
      replace HS := Lib.hid (HS.out.keep d5)
      obtain ⟨Ar, cr, rfl, _, _, hr⟩ := sl_parts xr
      rw [shrL_len] at hr
      rw [shrL_len]
      have Hr := Lib.hid hr
      clear xr hr
      clear d5
      have hat := HAT.out w5 E5.out
      go_wp2_with fail
      clear hat
      go_loopw [16] (fun iv wr => ∃ k : Nat, k ≤ l.length ∧ iv = .int .i64 (k : Int) ∧ Hid (Below w5.heap.size w5 wr)) (fun iv _ => l.length - (intOf iv).toNat)
      case atStart => exact ⟨0, Nat.zero_le _, rfl, Below.refl _ _⟩
      case round =>
        obtain ⟨k, hk, rfl, HW⟩ := hrel
        have hk0 : (0 : Int) ≤ (k : Int) := by omega
        have hk5 : (k : Int) ≤ 1000 := by have := K3.out; omega
        by_cases hkn : k < l.length
        · have hd1 : decide (k < l.length) = true := decide_eq_true hkn
          have hd2 : decide ((k : Int) < (l.length : Int)) = true := decide_eq_true (by omega)
          have hkn1 : (k : Int) < (l.length : Int) := by omega
          obtain ⟨bp, op, e1, hbp, hrp⟩ := Hp.out (by omega)
          obtain ⟨bq, oq, e2, hbq, hrq⟩ := Hq.out (by omega)
          obtain ⟨br, or1, e3, hbr, hrr⟩ := Hr.out (by omega)
          subst e1 e2 e3
          have hatp := shr_at (hrp.below hbp (chain0 G3.out (chain0 G4.out HW.out))) k (by rw [shrL_len]; exact hkn)
          have hatq := shr_at (hrq.below hbq (chain0 G4.out HW.out)) k (by rw [shrL_len]; exact hkn)
          have hatr := shr_at (hrr.below hbr HW.out) k (by rw [shrL_len]; exact hkn)
          rw [shrL_at] at hatp hatq hatr
          have u1 := RX.out k
          have u2 := RY.out k
          clear hrp hbp hrq hbq hrr hbr
          generalize R1 k = ra at *
          generalize N1 k = na at *
          generalize R2 k = rb at *
          generalize N2 k = nb at *
          have z1 : ((ra + rb) != (ra + rb)) = false := by simp
          have z2 : ((na + nb) != (na + nb)) = false := by simp
          have z3 : IntKind.i64.wrap (ra + rb) = ra + rb := IntWalk.i64_in _ (by omega)
          have z4 : IntKind.i64.wrap (na + nb) = na + nb := IntWalk.i64_in _ (by omega)
          go_wp2_with fail
          go_quiet (fail)
          go_wp2_with fail
          go_roundw
          case rel => exact ⟨k + 1, hkn, by go_num, by first | exact chain0 HW.out (drewN_below _ _) | exact HW.out⟩
          case measure => simp [intOf]; omega
        · obtain rfl : k = l.length := by omega
          have hd1 : decide (l.length < l.length) = false := decide_eq_false (Nat.lt_irrefl _)
          have hd2 : decide ((l.length : Int) < (l.length : Int)) = false := decide_eq_false (Int.lt_irrefl _)
          have DW := Lib.hid (chain0 D5.out HW.out)
          have HS9 := Lib.hid (HS.out.keep HW.out)
          by_cases h1 : l.length = 1
          · obtain ⟨br, or1, e3, hbr, hrr⟩ := Hr.out (by omega)
            subst e3
            have HAT2 := Lib.hid (fun W (bw : Below w5.heap.size w5 W) => shr_at0 (hrr.below hbr bw) (by rw [shrL_len]; omega))
            have hA := HA.out
            rw [h1] at hA
            rw [h1]
            have y1 : ((1 : Int) != 1) = false := rfl
            have u1 := RX.out 0
            have u2 := RY.out 0
            have hA2 : R1 0 + R2 0 + (N1 0 + N2 0) = tot := by rw [← hA]; simp [upto]
            have HAT3 : Hid (∀ W, Below w5.heap.size w5 W → W.cell? ⟨br, or1, none⟩ = some (.int .i64 0) ∧ W.cell? ⟨br, or1 + 1, none⟩ = some (.int .i64 (R1 0 + R2 0)) ∧ W.cell? ⟨br, or1 + 2, none⟩ = some (.int .i64 (N1 0 + N2 0))) := fun W bw => by
              have h := HAT2.out W bw
              rw [shrL_at] at h
              exact h
            clear HAT2 hA hrr hbr
            generalize R1 0 = ra at *
            generalize N1 0 = na at *
            generalize R2 0 = rb at *
            generalize N2 0 = nb at *
            have z3 : IntKind.i64.wrap (ra + rb + (na + nb)) = ra + rb + (na + nb) := IntWalk.i64_in _ (by omega)
            have z4 : (ra + rb + (na + nb) == tot) = true := by rw [hA2]; simp
            clear HA hA2
            go_wp2_with fail
            have ED := Lib.hid HW.out.drew
            have hat := HAT3.out _ ED.out
            go_region_held3 (fun w' => w'.cell? ⟨br, or1, none⟩ = some (.int .i64 0) ∧ w'.cell? ⟨br, or1 + 1, none⟩ = some (.int .i64 (ra + rb)) ∧ w'.cell? ⟨br, or1 + 2, none⟩ = some (.int .i64 (na + nb))) (first | exact hat | exact HAT3.out _ ED.out | go_keep) (first
              | (go_at_call 44; with_reducible refine (CR.out _ _ (by have h := HS9.out; rw [HNX.out, HNY.out, ← List.length_append, ← List.flatMap_append] at h; rw [HNX.out, HNY.out, ← List.length_append]; exact h.keep (Below.refl _ _).drew)).mono ?_; rintro e w9 ⟨rfl, dd⟩; replace ED := Lib.hid (chain0 ED.out dd); replace hat := HAT3.out _ ED.out; clear dd)
              | (go_at_call 30; with_reducible refine (CA.out _ (chain0 D5.out ED.out)).mono ?_; rintro e w9 ⟨rfl, dd⟩; replace ED := Lib.hid (chain0 ED.out dd); replace hat := HAT3.out _ ED.out; clear dd)
              )
            have D9 := Lib.hid (chain0 D5.out ED.out)
            go_wp2_with fail
            go_ret
            exact ⟨rfl, D9.out⟩
          · have y1 : ((l.length : Int) != 1) = true := by simp; omega
            generalize l.length = nl at *
            have FA : Hid (∀ y, Calls Tryd.prog 30 #[] (later wr y) fun e w' => e = .returned (.bool true) ∧ Below (later wr y).heap.size (later wr y) w') := fun y => CA.out (later wr y) (chain0 DW.out (later_below wr y))
            go_wp2_with fail
            refine wp_region_later (by kernel_rfl) (by kernel_rfl) ?_
            repeat (first | go_big_quiet_step (first | (go_at_call 30; exact calls_later (FA.out _))) | quiet_step (first | (go_at_call 30; exact calls_later (FA.out _))))
            refine wpQuiet_nil ?_
            rintro _ ⟨y, rfl⟩
            go_wp2_with fail
            go_ret
            exact ⟨rfl, chain0 DW.out (later_below _ _)⟩
  · rw [Bool.not_eq_true] at hf
    rw [hf] at CF
    clear hf hs hl hx hy ht hz
    obtain ⟨nx, hnx⟩ : ∃ n, n = xs.length := ⟨_, rfl⟩
    obtain ⟨ny, hny⟩ : ∃ n, n = ys.length := ⟨_, rfl⟩
    rw [← hnx] at HZ CF HX
    rw [← hny] at HZ CF HY
    rw [← hnx, ← hny]
    clear hnx hny
    generalize ps.length = n1 at *
    generalize l.length = nl at *
    go_enter Tryd.func13, Tryd.ntmps13
    go_upto_region 1 with fail
    rw [HW0.out]
    go_wp2_with (at_builtin; refine wpList_append_sl _ rfl (.tmp 17) (.tmp 18) _ rfl w0.heap.size 79 j0 _ 10 80 Tryd.underlying50 hj0 hy0 hy1 hy2 rfl (by decide) (.slice (some ⟨w0.heap.size, 0, none⟩) 0 0) 0 [] rfl (World.ownsRow_made w0 #[] 0 (Nat.le_refl _) (by unfold maxLen; omega) rfl) (.slice Ax nx cx) nx (xs.flatMap Inv.cells) rfl ((HX.out _ B0.out).keep (below_new _ _)) (inv_one xs) (by unfold maxLen; have := HZ.out; omega) (by have := HZ.out; omega) (by simp) ?_)
    intro v' wa hown hgr
    obtain ⟨A5, c5, rfl⟩ := Gn.own_form hown
    try rw [Nat.zero_add] at hown
    try rw [List.nil_append] at hown
    have ba : Below w0.heap.size w0 wa := ((Below.refl w0.heap.size w0).alloc (Nat.le_refl _) _).grown hgr (by simp) (fun q hq => by simp [Value.ownBlock] at hq; omega)
    have BA := Lib.hid ba
    have OA := Lib.hid hown
    try rw [Nat.zero_add]
    clear ba hown hgr
    go_wp2_with (at_builtin; refine wpList_append_sl _ rfl (.tmp 19) (.tmp 20) _ rfl w0.heap.size 79 j0 _ 10 80 Tryd.underlying50 hj0 hy0 hy1 hy2 rfl (by decide) (.slice A5 nx c5) nx (xs.flatMap Inv.cells) rfl OA.out (.slice Ay ny cy) ny (ys.flatMap Inv.cells) rfl (HY.out _ (chain0 B0.out BA.out)) (inv_one ys) (by unfold maxLen; have := HZ.out; omega) (by have := HZ.out; omega) BA.out.size ?_)
    intro v' w1 hown hgr
    obtain ⟨A6, c6, rfl⟩ := Gn.own_form hown
    have ba : Below w0.heap.size w0 w1 := BA.out.grown hgr BA.out.size (fun q hq => (OA.out.lt q hq).1)
    have E1 := Lib.hid ba
    have D1 := Lib.hid (chain0 B0.out ba)
    have HS := Lib.hid (Sl.of_own hown)
    clear ba hown hgr BA OA
    have hat := HAT.out w1 E1.out
    go_wp2_with fail
    clear hat
    refine (CF.out w1 _ _ D1.out).mono ?_
    rintro e w2 ⟨rfl, d2⟩
    have E2 := Lib.hid (chain0 E1.out d2)
    have D2 := Lib.hid (chain0 B0.out E2.out)
    clear d2
    have hat := HAT.out w2 E2.out
    go_wp2_with fail
    clear hat
    refine (CA.out w2 (chain0 B0.out E2.out)).mono ?_
    rintro e w3 ⟨rfl, d3⟩
    have E3 := Lib.hid (chain0 E2.out d3)
    have D3 := Lib.hid (chain0 B0.out E3.out)
    clear d3
    go_wp2_with fail
    go_ret
    exact ⟨rfl, D3.out⟩
end Go.Proofs.YtfopmaeaclbknaaDoor.Pr
