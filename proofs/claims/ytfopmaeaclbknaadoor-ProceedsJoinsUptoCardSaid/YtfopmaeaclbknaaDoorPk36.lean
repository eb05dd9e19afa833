/- Contract of the reference's Share. Printed by gen_shr.py. -/
import Derived.Test.YtfopmaeaclbknaaDoorPk35
import Derived.Test.YtfopmaeaclbknaaDoorPk23
namespace Go.Proofs.YtfopmaeaclbknaaDoor
open Go.ChangeShapes Go.WideShapes Go.ChangeAt Go.RowKit
set_option linter.unusedVariables false
set_option linter.unusedSimpArgs false
namespace So
/-- a row of the call's own, of integers, with room -/
def RowI (w : World) (base g : Nat) (e : TypeId) (n c : Nat) (f : Nat → Int) : Prop := w.ownsRow base e 1 (.slice (some ⟨g, 0, none⟩) n c) n ((List.range n).map fun i => Value.int .i64 (f i))
def updI (f : Nat → Int) (i : Nat) (x : Int) : Nat → Int := fun k => if k = i then x else f k
section
variable {w w1 : World} {base g n c : Nat} {e : TypeId} {f : Nat → Int}
theorem RowI.cell (h : RowI w base g e n c f) {i : Nat} (hi : i < n) : w.cell? ⟨g, i, none⟩ = some (.int .i64 (f i)) := by
  have h1 := World.ownsRow.cellAt h i (by omega)
  rw [h1]
  simp [hi]
theorem RowI.free (h : RowI w base g e n c f) (i : Nat) : w.frozen? ⟨g, i, none⟩ = false := World.ownsRow.frozenAt h i
theorem RowI.lt (h : RowI w base g e n c f) : base ≤ g ∧ g < w.heap.size := World.ownsRow.lt h g (by simp [Value.ownBlock])
theorem RowI.put (h : RowI w base g e n c f) {i : Nat} (x : Int) : RowI (w.setCell ⟨g, i, none⟩ (.int .i64 x)) base g e n c (updI f i x) := by
  have h1 := (World.ownsRow.stored h i (.int .i64 x)).1
  have e1 : ((List.range n).map fun k => Value.int .i64 (f k)).set i (.int .i64 x) = (List.range n).map fun k => Value.int .i64 (updI f i x k) := by
    refine List.ext_getElem (by simp) fun k k1 k2 => ?_
    simp only [List.getElem_set, List.getElem_map, List.getElem_range, updI]
    by_cases e : i = k
    · rw [if_pos e, if_pos e.symm]
    · rw [if_neg e, if_neg (fun h => e h.symm)]
  rw [e1] at h1
  exact h1
theorem RowI.keep (h : RowI w base g e n c f) (b : Below w.heap.size w w1) : RowI w1 base g e n c f := own_below h b
theorem RowI.drewN (h : RowI w base g e n c f) (m : Nat) : RowI (w.drewN m) base g e n c f := h.keep ⟨rfl, rfl, rfl, Nat.le_refl _, fun _ _ => rfl⟩
theorem RowI.drew (h : RowI w base g e n c f) : RowI w.drew base g e n c f := h.drewN 1
theorem RowI.other {g2 : Nat} (h : RowI w base g2 e n c f) (o : Far g w w1) (hg : g2 ≠ g) : RowI w1 base g2 e n c f :=
  World.ownsRow.kept (row := some g) h ⟨o.os, o.tape, o.output, o.size, fun k hk hne => o.block k hk (fun e => hne (by rw [e]))⟩ (by simpa [Value.ownBlock] using hg)
theorem RowI.is (h : RowI w base g e n c f) : IS w (.slice (some ⟨g, 0, none⟩) n c) ((List.range n).map f) := by
  have h1 := Sl.of_own h
  unfold IS
  simp only [List.length_map, List.length_range, List.map_map]
  exact h1
end
theorem own_some {w : World} {base : Nat} {e : TypeId} {n : Nat} {v : Value} {xs : List Value} (h : w.ownsRow base e 1 v n xs) (hn : 0 < n) : ∃ g c, v = .slice (some ⟨g, 0, none⟩) n c := by
  rcases h.2 with ⟨hv, h0⟩ | ⟨g', cap, cur, hv, _⟩
  · exfalso; omega
  · exact ⟨g', cap, hv⟩
/-- what part i has got, when m have got theirs -/
def pv (T : Nat) (W : List Nat) (S : Nat) (order : List Nat) (m : Nat) : Nat → Int := fun i => ((prt T W S i + if i ∈ order.take m then 1 else 0 : Nat) : Int)
section
variable {T : Nat} {W : List Nat} {S : Nat} {order : List Nat}
theorem pv_step (h : IsOrder T W S order) {t : Nat} (ht : t < order.length) : updI (pv T W S order t) order[t] (pv T W S order t order[t] + 1) = pv T W S order (t + 1) := by
  have h2 : order.take (t + 1) = order.take t ++ [order[t]] := List.take_succ_eq_append_getElem ht
  have n1 : order[t] ∉ order.take t := by rw [mem_take h ht]; omega
  funext i
  unfold updI pv
  rw [h2]
  by_cases c : i = order[t]
  · rw [if_pos c, c, if_neg n1, if_pos (List.mem_append_right _ (List.mem_singleton.2 rfl))]
    omega
  · rw [if_neg c]
    by_cases hm : i ∈ order.take t
    · rw [if_pos hm, if_pos (List.mem_append_left _ hm)]
    · rw [if_neg hm, if_neg (fun hh => (List.mem_append.1 hh).elim hm fun h3 => c (List.mem_singleton.1 h3))]
theorem gv_step' (h : IsOrder T W S order) {t : Nat} (ht : t < order.length) : updI (gv T W S order t) order[t] (-1) = gv T W S order (t + 1) := by
  funext i
  rw [gv_step h ht]
  rfl
theorem pv_fin : ∀ m, (List.range W.length).map (pv T W S order m) = toI (fin T W S order m) := fun m => by
  simp only [toI, fin, List.map_map]
  rfl
theorem prt_le (hS : 0 < S) (hSS : S = sumN W W.length) {i : Nat} (hi : i < W.length) : prt T W S i ≤ T := by
  have h1 : prt T W S i ∈ pl T W S W.length := List.mem_map.2 ⟨i, List.mem_range.2 hi, rfl⟩
  exact Nat.le_trans (le_sum h1) (psum_le (Nat.le_refl _) hS (Nat.le_of_eq hSS.symm))
theorem pv_le (hS : 0 < S) (hSS : S = sumN W W.length) {i t : Nat} (hi : i < W.length) : 0 ≤ pv T W S order t i ∧ pv T W S order t i ≤ (T : Int) + 1 := by
  have := prt_le (T := T) hS hSS hi
  unfold pv
  split <;> omega
theorem gv_le (hS : 0 < S) {i t : Nat} : -1 ≤ gv T W S order t i ∧ gv T W S order t i < (S : Int) := by
  have : rst T W S i < S := Nat.mod_lt _ hS
  unfold gv
  split <;> omega
theorem gv_zero : gv T W S order 0 = fun i => ((rst T W S i : Nat) : Int) := by
  funext i
  simp [gv]
theorem pv_zero : pv T W S order 0 = fun i => ((prt T W S i : Nat) : Int) := by
  funext i
  simp [pv]
end
def RSharePost (T : Nat) (W : List Nat) (order : List Nat) (w : World) (e : Ending) (w' : World) : Prop := ∃ v', e = .returned (.tuple #[v', .int .i64 0]) ∧ IS w' v' (toI (shares T W (sumN W W.length) order)) ∧ Below w.heap.size w w'
def RSharePostF (T : Nat) (W : List Nat) (order : List Nat) (w : World) (e : Ending) (w' : World) : Prop := ∃ v', e = .returned (.tuple #[v', .int .i64 0]) ∧ IS w' v' (toI (shares T W (sumN W W.length) order)) ∧ Below w.heap.size w w' ∧ Fresh w v'
theorem i64_info : (Tryd.prog.info? 2).map (fun i => (i.zero, i.size, i.bytes)) = some (some (.int .i64 0), 1, 8) := by kernel_rfl
theorem rshare_total (T : Int) (v : Value) (w : World) (hT : T < 0 ∨ 1000000 < T) : Calls Tryd.prog 16 #[.int .i64 T, v] w (NoPost 4 w) := by
  have CT := Lib.hid (fun w => Am.rcheck_any T w)
  have e1 : okE T = 4 := by unfold okE; rw [if_neg (by omega)]
  rw [e1] at CT
  clear hT e1
  go_enter Tryd.func16, Tryd.ntmps16
  go_wp2_with fail
  refine (CT.out _).mono ?_
  rintro e w2 ⟨rfl, rfl⟩
  go_wp2_with fail
  go_ret2
  exact ⟨rfl, Below.refl _ _⟩
set_option maxHeartbeats 2000000 in
theorem rshare_weight (T : Int) (W : List Nat) (z : Int) (tl : List Int) (v : Value) (w : World) (hT : 0 ≤ T) (hT2 : T ≤ 1000000) (hW : ∀ x ∈ W, x ≤ 1000000) (hz : z < 0 ∨ 1000000 < z) (hl : W.length + 1 + tl.length ≤ 1000) (h : IS w v (toI W ++ z :: tl)) : Calls Tryd.prog 16 #[.int .i64 T, v] w (NoPost 4 w) := by
  obtain ⟨A, c, rfl, h1, h2, hc⟩ := is_cases h
  obtain ⟨n, hn⟩ : ∃ n, n = (toI W ++ z :: tl).length := ⟨_, rfl⟩
  rw [← hn] at hc ⊢
  have hnl : n = W.length + 1 + tl.length := by rw [hn]; simp [toI_len]; omega
  have hn5 : n ≤ 1000 := by omega
  have hn6 : (n : Int) ≤ 1000 := by omega
  have hWn : W.length < n := by omega
  have HC := Lib.hid hc
  have CT := Lib.hid (Am.rcheck_any T w)
  have e0 : okE T = 0 := by unfold okE; rw [if_pos ⟨hT, hT2⟩]
  rw [e0] at CT
  have CZ := Lib.hid (fun w => Am.rcheck_any z w)
  have e9 : okE z = 4 := by unfold okE; rw [if_neg (by omega)]
  rw [e9] at CZ
  clear h h1 hc hn hnl hz e9 e0
  go_enter Tryd.func16, Tryd.ntmps16
  go_wp2_with fail
  refine CT.out.mono ?_
  rintro e w2 ⟨rfl, rfl⟩
  go_wp2_with fail
  go_loopw [6, 7] (fun s v wr => ∃ k : Nat, k ≤ W.length ∧ s = .int .i64 ((sumN W k : Nat) : Int) ∧ v = .int .i64 (k : Int) ∧ w = wr) (fun _ v _ => W.length + 1 - (intOf v).toNat)
  case atStart => exact ⟨0, Nat.zero_le _, by simp [sumN], rfl, rfl⟩
  case round =>
    obtain ⟨k, hk, rfl, rfl, rfl⟩ := hrel
    have hk0 : (0 : Int) ≤ (k : Int) := by omega
    have hk5 : (k : Int) ≤ 1000 := by omega
    have hsum := sumN_le hW k
    have hs0 : (0 : Int) ≤ ((sumN W k : Nat) : Int) := by omega
    have hs1 : ((sumN W k : Nat) : Int) ≤ 1000000000 := by omega
    by_cases hkn : k < W.length
    · have hd1 : decide (k < n) = true := decide_eq_true (by omega)
      have hd2 : decide ((k : Int) < (n : Int)) = true := decide_eq_true (by omega)
      obtain ⟨b, o, eA, hb, hc⟩ := HC.out (by omega)
      subst eA
      have c1 : w.cell? ⟨b, o + k, none⟩ = some (.int .i64 ((at_ W k : Nat) : Int)) := hc k _ (by rw [List.getElem?_append_left (by rw [toI_len]; exact hkn)]; exact toI_at hkn)
      have hx : at_ W k ≤ 1000000 := by rw [at_in hkn]; exact hW _ (List.getElem_mem hkn)
      have CI := Lib.hid (Am.rcheck_any ((at_ W k : Nat) : Int) w)
      have e1 : okE ((at_ W k : Nat) : Int) = 0 := by unfold okE; rw [if_pos (by omega)]
      rw [e1] at CI
      have HS := Lib.hid (sumN_succ hkn)
      have ha0 : (0 : Int) ≤ ((at_ W k : Nat) : Int) := by omega
      have ha1 : ((at_ W k : Nat) : Int) ≤ 1000000 := by omega
      have hsn : ((sumN W k : Nat) : Int) + ((at_ W k : Nat) : Int) = ((sumN W (k + 1) : Nat) : Int) := by rw [HS.out]; omega
      clear hc hx hsum e1
      go_wp2_with fail
      refine CI.out.mono ?_
      rintro e w2 ⟨rfl, rfl⟩
      go_wp2_with fail
      go_roundw
      case rel => exact ⟨k + 1, by omega, by go_num, by go_num, trivial⟩
      case measure => simp [intOf]; omega
    · obtain rfl : k = W.length := by omega
      have hd1 : decide (W.length < n) = true := decide_eq_true (by omega)
      have hd2 : decide ((W.length : Int) < (n : Int)) = true := decide_eq_true (by omega)
      obtain ⟨b, o, eA, hb, hc⟩ := HC.out (by omega)
      subst eA
      have c1 : w.cell? ⟨b, o + W.length, none⟩ = some (.int .i64 z) := hc W.length _ (by rw [List.getElem?_append_right (by rw [toI_len]; exact Nat.le_refl _), toI_len, Nat.sub_self]; rfl)
      clear hc hsum
      go_wp2_with fail
      refine (CZ.out _).mono ?_
      rintro e w2 ⟨rfl, rfl⟩
      go_wp2_with fail
      go_ret2
      exact ⟨rfl, Below.refl _ _⟩
set_option maxHeartbeats 2000000 in
theorem rshare_none (T : Nat) (W : List Nat) (v : Value) (w : World) (hT : T ≤ 1000000) (hW : ∀ x ∈ W, x ≤ 1000000) (hl : W.length ≤ 1000) (hS : sumN W W.length = 0) (h : IS w v (toI W)) : Calls Tryd.prog 16 #[.int .i64 (T : Int), v] w (NoPost 6 w) := by
  obtain ⟨A, c, rfl, h1, h2, hc⟩ := is_cases h
  rw [toI_len] at hc ⊢
  have hl6 : (W.length : Int) ≤ 1000 := by omega
  have hT0 : (0 : Int) ≤ (T : Int) := by omega
  have hT1 : (T : Int) ≤ 1000000 := by omega
  have HC := Lib.hid hc
  have CT := Lib.hid (Am.rcheck_any (T : Int) w)
  have e0 : okE (T : Int) = 0 := by unfold okE; rw [if_pos ⟨hT0, hT1⟩]
  rw [e0] at CT
  clear h h1 hc e0
  go_enter Tryd.func16, Tryd.ntmps16
  go_wp2_with fail
  refine CT.out.mono ?_
  rintro e w2 ⟨rfl, rfl⟩
  go_wp2_with fail
  go_loopw [6, 7] (fun s v wr => ∃ k : Nat, k ≤ W.length ∧ s = .int .i64 ((sumN W k : Nat) : Int) ∧ v = .int .i64 (k : Int) ∧ w = wr) (fun _ v _ => W.length + 1 - (intOf v).toNat)
  case atStart => exact ⟨0, Nat.zero_le _, by simp [sumN], rfl, rfl⟩
  case round =>
    obtain ⟨k, hk, rfl, rfl, rfl⟩ := hrel
    have hk0 : (0 : Int) ≤ (k : Int) := by omega
    have hk5 : (k : Int) ≤ 1000 := by omega
    have hsum := sumN_le hW k
    have hs0 : (0 : Int) ≤ ((sumN W k : Nat) : Int) := by omega
    have hs1 : ((sumN W k : Nat) : Int) ≤ 1000000000 := by omega
    by_cases hkn : k < W.length
    · have hd1 : decide (k < W.length) = true := decide_eq_true (by omega)
      have hd2 : decide ((k : Int) < (W.length : Int)) = true := decide_eq_true (by omega)
      obtain ⟨b, o, eA, hb, hc⟩ := HC.out (by omega)
      subst eA
      have c1 : w.cell? ⟨b, o + k, none⟩ = some (.int .i64 ((at_ W k : Nat) : Int)) := hc k _ (toI_at hkn)
      have hx : at_ W k ≤ 1000000 := by rw [at_in hkn]; exact hW _ (List.getElem_mem hkn)
      have CI := Lib.hid (Am.rcheck_any ((at_ W k : Nat) : Int) w)
      have e1 : okE ((at_ W k : Nat) : Int) = 0 := by unfold okE; rw [if_pos (by omega)]
      rw [e1] at CI
      have HS := Lib.hid (sumN_succ hkn)
      have ha0 : (0 : Int) ≤ ((at_ W k : Nat) : Int) := by omega
      have ha1 : ((at_ W k : Nat) : Int) ≤ 1000000 := by omega
      have hsn : ((sumN W k : Nat) : Int) + ((at_ W k : Nat) : Int) = ((sumN W (k + 1) : Nat) : Int) := by rw [HS.out]; omega
      clear hc hx hsum e1
      go_wp2_with fail
      refine CI.out.mono ?_
      rintro e w2 ⟨rfl, rfl⟩
      go_wp2_with fail
      go_roundw
      case rel => exact ⟨k + 1, by omega, by go_num, by go_num, trivial⟩
      case measure => simp [intOf]; omega
    · obtain rfl : k = W.length := by omega
      have hd1 : decide (W.length < W.length) = false := decide_eq_false (Nat.lt_irrefl _)
      have hd2 : decide ((W.length : Int) < (W.length : Int)) = false := decide_eq_false (Int.lt_irrefl _)
      have hz : (((sumN W W.length : Nat) : Int) == 0) = true := by rw [hS]; rfl
      clear hsum hS
      go_wp2_with fail
      go_ret2
      exact ⟨rfl, Below.refl _ _⟩
theorem ints_snoc (l : List Nat) (x : Nat) : ints (l ++ [x]) = ints l ++ [.int .i64 (x : Int)] := by simp [ints]
theorem one_int (W : World) (x : Value) (T : TypeId) (g : Nat) (hg : W.heap.size = g) : ∀ (j : Nat) u, [x][j]? = some u → (W.alloc (.cells #[x] T)).cell? ((⟨g, 0, none⟩ : Addr).add j) = some u := by
  intro j u hj
  subst hg
  rw [OpenAdd.add_at]
  match j, hj with
  | 0, hj => obtain rfl : x = u := by simpa using hj
             exact (Blk.new W T #[x]).cell 0
  | j + 1, hj => simp at hj
/-- two slices of the call's own that lie in different blocks -/
def Apart (v u : Value) : Prop := ∀ g, v.ownBlock = some g → u.ownBlock ≠ some g
theorem Apart.first {v u v' : Value} {s : Nat} (h : Apart v u) (hl : v'.ownBlock = v.ownBlock ∨ v'.ownBlock = some s) (hu : ∀ g, u.ownBlock = some g → g < s) : Apart v' u := by
  intro g hg hh
  rcases hl with hl | hl
  · exact h g (hl.symm.trans hg) hh
  · have e : s = g := Option.some.inj (hl.symm.trans hg)
    have := hu g hh
    omega
theorem Apart.symm {v u : Value} (h : Apart v u) : Apart u v := fun g hg hh => h g hh hg
set_option maxHeartbeats 4000000 in
set_option maxRecDepth 100000 in
theorem rshare_full (T : Nat) (W : List Nat) (order : List Nat) (v : Value) (w : World) (hT : T ≤ 1000000) (hW : ∀ x ∈ W, x ≤ 1000000) (hl : W.length ≤ 1000) (hS : 0 < sumN W W.length) (ho : IsOrder T W (sumN W W.length) order) (h : IS w v (toI W)) : Calls Tryd.prog 16 #[.int .i64 (T : Int), v] w (RSharePostF T W order w) := by
  obtain ⟨i0, hi0, hz0, hz1, hz2⟩ := info_parts i64_info
  obtain ⟨A, c, rfl, h1, h2, hc⟩ := is_cases h
  rw [toI_len] at hc ⊢
  have hl6 : (W.length : Int) ≤ 1000 := by omega
  have hT0 : (0 : Int) ≤ (T : Int) := by omega
  have hT1 : (T : Int) ≤ 1000000 := by omega
  have HC := Lib.hid hc
  have CT := Lib.hid (Am.rcheck_any (T : Int) w)
  have e0 : okE (T : Int) = 0 := by unfold okE; rw [if_pos ⟨hT0, hT1⟩]
  rw [e0] at CT
  clear h h1 hc e0
  have HO := Lib.hid ho
  clear ho
  go_enter Tryd.func16, Tryd.ntmps16
  go_wp2_with fail
  refine CT.out.mono ?_
  rintro e w2 ⟨rfl, rfl⟩
  go_wp2_with fail
  go_loopw [6, 7] (fun s v wr => ∃ k : Nat, k ≤ W.length ∧ s = .int .i64 ((sumN W k : Nat) : Int) ∧ v = .int .i64 (k : Int) ∧ w = wr) (fun _ v _ => W.length + 1 - (intOf v).toNat)
  case atStart => exact ⟨0, Nat.zero_le _, by simp [sumN], rfl, rfl⟩
  case round =>
    obtain ⟨k, hk, rfl, rfl, rfl⟩ := hrel
    have hk0 : (0 : Int) ≤ (k : Int) := by omega
    have hk5 : (k : Int) ≤ 1000 := by omega
    have hsum := sumN_le hW k
    have hs0 : (0 : Int) ≤ ((sumN W k : Nat) : Int) := by omega
    have hs1 : ((sumN W k : Nat) : Int) ≤ 1000000000 := by omega
    by_cases hkn : k < W.length
    · have hd1 : decide (k < W.length) = true := decide_eq_true (by omega)
      have hd2 : decide ((k : Int) < (W.length : Int)) = true := decide_eq_true (by omega)
      obtain ⟨b, o, eA, hb, hc⟩ := HC.out (by omega)
      subst eA
      have c1 : w.cell? ⟨b, o + k, none⟩ = some (.int .i64 ((at_ W k : Nat) : Int)) := hc k _ (toI_at hkn)
      have hx : at_ W k ≤ 1000000 := by rw [at_in hkn]; exact hW _ (List.getElem_mem hkn)
      have CI := Lib.hid (Am.rcheck_any ((at_ W k : Nat) : Int) w)
      have e1 : okE ((at_ W k : Nat) : Int) = 0 := by unfold okE; rw [if_pos (by omega)]
      rw [e1] at CI
      have HS := Lib.hid (sumN_succ hkn)
      have ha0 : (0 : Int) ≤ ((at_ W k : Nat) : Int) := by omega
      have ha1 : ((at_ W k : Nat) : Int) ≤ 1000000 := by omega
      have hsn : ((sumN W k : Nat) : Int) + ((at_ W k : Nat) : Int) = ((sumN W (k + 1) : Nat) : Int) := by rw [HS.out]; omega
      clear hc hx hsum e1
      go_wp2_with fail
      refine CI.out.mono ?_
      rintro e w2 ⟨rfl, rfl⟩
      go_wp2_with fail
      go_roundw
      case rel => exact ⟨k + 1, by omega, by go_num, by go_num, trivial⟩
      case measure => simp [intOf]; omega
    · obtain rfl : k = W.length := by omega
      have hd1 : decide (W.length < W.length) = false := decide_eq_false (Nat.lt_irrefl _)
      have hd2 : decide ((W.length : Int) < (W.length : Int)) = false := decide_eq_false (Int.lt_irrefl _)
      obtain ⟨S, hSS⟩ : ∃ S, S = sumN W W.length := ⟨_, rfl⟩
      rw [← hSS] at hS hs0 hs1 hsum
      unfold RSharePostF
      rw [← hSS] at HO ⊢
      have HSS := Lib.hid hSS
      have hq : ((S : Int) == 0) = false := beq_eq_false_iff_ne.2 (by omega)
      clear hSS hsum hk hk0 hk5 CT
      have HPT : Hid (∀ k, k ≤ W.length → psum T W S k ≤ T) := fun k hk => psum_le hk hS (by have := sumN_mono (W := W) k; rw [← HSS.out] at this; exact this)
      go_wp2_with fail
      go_loopw [8, 9, 10, 11] (fun v u l i wr => ∃ k : Nat, k ≤ W.length ∧ l = .int .i64 ((T - psum T W S k : Nat) : Int) ∧ i = .int .i64 (k : Int) ∧ Hid (wr.ownsRow w.heap.size 2 1 v k (ints (rowF k (prt T W S))) ∧ wr.ownsRow w.heap.size 2 1 u k (ints (rowF k (rst T W S))) ∧ Apart v u) ∧ Hid (Below w.heap.size w wr)) (fun _ _ _ i _ => W.length - (intOf i).toNat)
      case atStart => exact ⟨0, Nat.zero_le _, by simp [psum, pl], rfl, ⟨World.ownsRow_nil _ _ _ _, World.ownsRow_nil _ _ _ _, fun g h => by simp [Value.ownBlock] at h⟩, Below.refl _ _⟩
      case round =>
        obtain ⟨k, hk, rfl, rfl, HV, HB⟩ := hrel
        have hk0 : (0 : Int) ≤ (k : Int) := by omega
        have hk5 : (k : Int) ≤ 1000 := by omega
        by_cases hkn : k < W.length
        · have hd1 : decide (k < W.length) = true := decide_eq_true hkn
          have hd2 : decide ((k : Int) < (W.length : Int)) = true := decide_eq_true (by omega)
          obtain ⟨b, o, eA, hb, hc⟩ := HC.out (by omega)
          subst eA
          have c1 : wr.cell? ⟨b, o + k, none⟩ = some (.int .i64 ((at_ W k : Nat) : Int)) := (HB.out.cell (p := ⟨b, o + k, none⟩) hb).trans (hc k _ (toI_at hkn))
          have HCE := Lib.hid (hc k _ (toI_at hkn))
          have HBB := Lib.hid hb
          have hx : at_ W k ≤ 1000000 := by rw [at_in hkn]; exact hW _ (List.getElem_mem hkn)
          obtain ⟨p, q, ⟨hp1, hp2⟩, f1, f2, f3, f4, f5, f6⟩ := prt_facts (S := S) hT hx hS
          obtain ⟨p', r, ⟨hr1, hr2, hr3⟩, g1, g2, g3, g4⟩ := rest_facts (S := S) hT hx hS (by omega)
          obtain rfl : p = p' := hp1.trans hr1.symm
          have HQ : Hid (prt T W S k = q) := hp2.symm
          have HRR : Hid (rst T W S k = r) := hr2.symm
          have HPS : Hid (psum T W S (k + 1) = psum T W S k + q) := by show psum T W S (k + 1) = psum T W S k + q; rw [psum_succ, HQ.out]
          have hps1 := HPT.out (k + 1) hkn
          have hps2 := HPT.out k hk
          have hlf : ((T - psum T W S k : Nat) : Int) - (q : Int) = ((T - psum T W S (k + 1) : Nat) : Int) := by have := HPS.out; omega
          have hlf0 : (0 : Int) ≤ ((T - psum T W S k : Nat) : Int) := by omega
          have hlf1 : ((T - psum T W S k : Nat) : Int) ≤ 1000000 := by omega
          have hq1 : (q : Int) ≤ 1000000 := by have := HPS.out; omega
          have HR0 : Hid (0 ≤ (r : Int) ∧ (r : Int) < (S : Int)) := ⟨by omega, by omega⟩
          obtain ⟨l0, hl0⟩ : ∃ l0, l0 = T - psum T W S k := ⟨_, rfl⟩
          obtain ⟨l1, hl1⟩ : ∃ l1, l1 = T - psum T W S (k + 1) := ⟨_, rfl⟩
          rw [← hl0] at hlf hlf0 hlf1 ⊢
          rw [← hl1] at hlf
          have HL1 := Lib.hid hl1
          clear hc hx hp1 hp2 hr1 hr2 hr3 hps1 hps2 hl0 hl1 hb
          go_wp2_with (at_builtin; refine wpList_append_own_at _ rfl (.tmp 44) (.tmp 53) _ rfl w.heap.size 2 i0 _ 1 8 Tryd.underlying22 hi0 hz0 hz1 hz2 rfl (by decide) _ k (ints (rowF k (prt T W S))) rfl (HV.out.1.alloc _) ⟨wr.heap.size, 0, none⟩ 1 1 [.int .i64 (q : Int)] rfl rfl (one_int _ _ _ _ rfl) (by intro u hu; simp at hu; subst hu; rfl) (by unfold maxLen; omega) (by omega) (by have := HB.out.size; simp; omega) ?_)
          intro v' w2 hown hgr _ hloc
          have O1 : Hid (w2.ownsRow w.heap.size 2 1 v' (k + 1) (ints (rowF (k + 1) (prt T W S)))) := by
            have e : rowF (k + 1) (prt T W S) = rowF k (prt T W S) ++ [q] := by simp [rowF, List.range_succ, HQ.out]
            rw [e, ints_snoc]
            exact hown
          have HU : Hid (w2.ownsRow w.heap.size 2 1 u9 k (ints (rowF k (rst T W S)))) := by
            refine (HV.out.2.1.alloc _).kept hgr ?_
            cases hu : u9.ownBlock with
            | none => exact .inl rfl
            | some g => exact .inr (fun e => HV.out.2.2 g e.symm hu)
          have HAP : Hid (Apart v' u9) := HV.out.2.2.first (s := wr.heap.size + 1) (by simpa using hloc) (fun g hg => by have := (HV.out.2.1.lt g hg).2; omega)
          have B2 : Hid (Below w.heap.size w w2) := (HB.out.alloc HB.out.size _).grown hgr (by have := HB.out.size; simp; omega) (fun k hk => (HV.out.1.lt k hk).1)
          clear hown hgr hloc HV HB
          have c1 : w2.cell? ⟨b, o + k, none⟩ = some (.int .i64 ((at_ W k : Nat) : Int)) := (B2.out.cell (p := ⟨b, o + k, none⟩) HBB.out).trans HCE.out
          go_wp2_with (at_builtin; refine wpList_append_own_at _ rfl (.tmp 55) (.tmp 64) _ rfl w.heap.size 2 i0 _ 1 8 Tryd.underlying22 hi0 hz0 hz1 hz2 rfl (by decide) _ k (ints (rowF k (rst T W S))) rfl (HU.out.alloc _) ⟨w2.heap.size, 0, none⟩ 1 1 [.int .i64 (r : Int)] rfl rfl (one_int _ _ _ _ rfl) (by intro u hu; simp at hu; subst hu; rfl) (by unfold maxLen; omega) (by omega) (by have := B2.out.size; simp; omega) ?_)
          intro u' w3 hown hgr _ hloc
          have O2 : Hid (w3.ownsRow w.heap.size 2 1 u' (k + 1) (ints (rowF (k + 1) (rst T W S)))) := by
            have e : rowF (k + 1) (rst T W S) = rowF k (rst T W S) ++ [r] := by simp [rowF, List.range_succ, HRR.out]
            rw [e, ints_snoc]
            exact hown
          have O3 : Hid (w3.ownsRow w.heap.size 2 1 v' (k + 1) (ints (rowF (k + 1) (prt T W S)))) := by
            refine (O1.out.alloc _).kept hgr ?_
            cases hu : v'.ownBlock with
            | none => exact .inl rfl
            | some g => exact .inr (fun e => HAP.out g hu e.symm)
          have HAP2 : Hid (Apart v' u') := (HAP.out.symm.first (s := w2.heap.size + 1) (by simpa using hloc) (fun g hg => by have := (O1.out.lt g hg).2; omega)).symm
          have B3 : Hid (Below w.heap.size w w3) := (B2.out.alloc B2.out.size _).grown hgr (by have := B2.out.size; simp; omega) (fun k hk => (HU.out.lt k hk).1)
          clear hown hgr hloc HU O1 HAP B2
          obtain ⟨gp, cp, rfl⟩ := own_some O3.out (by omega)
          have c2 : w3.cell? ⟨gp, k, none⟩ = some (.int .i64 (q : Int)) := by
            rw [O3.out.cellAt k (by omega)]
            exact ints_at (by rw [rowF_at (by omega), HQ.out])
          go_wp2_with fail
          go_roundw
          case rel => exact ⟨k + 1, by omega, by rw [← HL1.out], by go_num, ⟨O3.out, O2.out, HAP2.out⟩, B3⟩
          case measure => simp [intOf]; omega
        · obtain rfl : k = W.length := by omega
          have hd1 : decide (W.length < W.length) = false := decide_eq_false (Nat.lt_irrefl _)
          have hd2 : decide ((W.length : Int) < (W.length : Int)) = false := decide_eq_false (Int.lt_irrefl _)
          have hn0 : 0 < W.length := Nat.pos_of_ne_zero fun e => by
            have h1 := HSS.out
            rw [List.eq_nil_of_length_eq_zero e] at h1
            simp [sumN] at h1
            omega
          obtain ⟨gp, cp, e1⟩ := own_some HV.out.1 hn0
          obtain ⟨gr, cr, e2⟩ := own_some HV.out.2.1 hn0
          subst e1
          subst e2
          have hne : Hid (gp ≠ gr) := fun e => HV.out.2.2 gp (by simp [Value.ownBlock]) (by simp [Value.ownBlock, e])
          have HP0 : Hid (RowI wr w.heap.size gp 2 W.length cp (pv T W S order 0)) := by
            have h1 := HV.out.1
            have e : (List.range W.length).map (fun i => Value.int .i64 (pv T W S order 0 i)) = ints (rowF W.length (prt T W S)) := by
              rw [pv_zero]
              simp only [ints, rowF, List.map_map]
              rfl
            unfold RowI
            rw [e]
            exact h1
          have HR0 : Hid (RowI wr w.heap.size gr 2 W.length cr (gv T W S order 0)) := by
            have h1 := HV.out.2.1
            have e : (List.range W.length).map (fun i => Value.int .i64 (gv T W S order 0 i)) = ints (rowF W.length (rst T W S)) := by
              rw [gv_zero]
              simp only [ints, rowF, List.map_map]
              rfl
            unfold RowI
            rw [e]
            exact h1
          obtain ⟨L, hL⟩ : ∃ L, L = T - psum T W S W.length := ⟨_, rfl⟩
          rw [← hL]
          have HL := Lib.hid hL
          have hLT : L ≤ T := by omega
          have HLW : Hid (L < W.length) := by have := left_lt (T := T) hS HSS.out; show L < W.length; omega
          have HOL := Lib.hid HO.out.len
          have hS9 : (S : Int) ≤ 1000000000 := by omega
          clear hL HV hk hk0 hk5
          go_wp2_with fail
          go_loopw [10] (fun l wq => ∃ t : Nat, t ≤ L ∧ l = .int .i64 ((L - t : Nat) : Int) ∧ Hid (RowI wq w.heap.size gp 2 W.length cp (pv T W S order t) ∧ RowI wq w.heap.size gr 2 W.length cr (gv T W S order t)) ∧ Hid (Below w.heap.size w wq)) (fun l _ => (intOf l).toNat)
          case atStart => exact ⟨0, Nat.zero_le _, rfl, ⟨HP0.out, HR0.out⟩, HB⟩
          case round =>
            clear HP0 HR0 HB
            obtain ⟨t, ht, rfl, HV, HB⟩ := hrel
            by_cases htl : t < L
            · obtain ⟨m, hm⟩ : ∃ m, L - t = m + 1 := ⟨L - t - 1, by omega⟩
              rw [hm]
              have hm0 : (0 : Int) ≤ (m : Int) := by omega
              have hm5 : (m : Int) ≤ 1000000 := by omega
              have k1 : decide ((0 : Int) < (m : Int) + 1) = true := decide_eq_true (by omega)
              have k2 : decide (0 < m + 1) = true := decide_eq_true (by omega)
              have k3 : (m : Int) + 1 - 1 = (m : Int) := by omega
              have HT : Hid (t < order.length) := by have := HOL.out; have := HLW.out; show t < order.length; omega
              go_wp2_with fail
              go_loopw [12, 13] (fun b i wz => ∃ x k : Nat, k ≤ W.length ∧ x < W.length ∧ b = .int .i64 (x : Int) ∧ i = .int .i64 (k : Int) ∧ Hid ((∀ y, y < k → gv T W S order t y ≤ gv T W S order t x) ∧ (∀ y, y < x → gv T W S order t y < gv T W S order t x) ∧ (x ≤ k)) ∧ Hid (RowI wz w.heap.size gp 2 W.length cp (pv T W S order t) ∧ RowI wz w.heap.size gr 2 W.length cr (gv T W S order t)) ∧ Hid (Below w.heap.size w wz)) (fun _ i _ => W.length - (intOf i).toNat)
              case atStart => exact ⟨0, 0, Nat.zero_le _, hn0, rfl, rfl, ⟨fun y h => by omega, fun y h => by omega, Nat.le_refl _⟩, HV, HB⟩
              case round =>
                clear HV HB
                obtain ⟨x, k, hk, hx, rfl, rfl, HX, HV, HB⟩ := hrel
                have hk0 : (0 : Int) ≤ (k : Int) := by omega
                have hk5 : (k : Int) ≤ 1000 := by omega
                have hx0 : (0 : Int) ≤ (x : Int) := by omega
                have hx5 : (x : Int) < (W.length : Int) := by omega
                have cx : wr.cell? ⟨gr, x, none⟩ = some (.int .i64 (gv T W S order t x)) := HV.out.2.cell hx
                have HGX := Lib.hid (gv_le (T := T) (W := W) (order := order) hS (i := x) (t := t))
                by_cases hkn : k < W.length
                · have hd1 : decide (k < W.length) = true := decide_eq_true hkn
                  have hd2 : decide ((k : Int) < (W.length : Int)) = true := decide_eq_true (by omega)
                  have hkn1 : (k : Int) < (W.length : Int) := by omega
                  have ck : wr.cell? ⟨gr, k, none⟩ = some (.int .i64 (gv T W S order t k)) := HV.out.2.cell hkn
                  have HV2 : Hid (∀ q, RowI (wr.drewN q) w.heap.size gp 2 W.length cp (pv T W S order t) ∧ RowI (wr.drewN q) w.heap.size gr 2 W.length cr (gv T W S order t)) := fun q => ⟨HV.out.1.drewN q, HV.out.2.drewN q⟩
                  have HB2 : Hid (∀ q, Below w.heap.size w (wr.drewN q)) := fun q => ⟨HB.out.os, HB.out.tape, HB.out.output, HB.out.size, HB.out.block⟩
                  by_cases hgt : gv T W S order t x < gv T W S order t k
                  · have q1 : decide (gv T W S order t x < gv T W S order t k) = true := decide_eq_true hgt
                    have HX2 : Hid ((∀ y, y < k + 1 → gv T W S order t y ≤ gv T W S order t k) ∧ (∀ y, y < k → gv T W S order t y < gv T W S order t k) ∧ (k ≤ k + 1)) := by
                      refine ⟨fun y hy => ?_, fun y hy => ?_, by omega⟩
                      · by_cases e : y = k
                        · rw [e]; exact Int.le_refl _
                        · have := HX.out.1 y (by omega); omega
                      · have := HX.out.1 y hy; omega
                    clear hgt
                    obtain ⟨gx, hgx⟩ : ∃ gx, gx = gv T W S order t x := ⟨_, rfl⟩
                    obtain ⟨gk, hgk⟩ : ∃ gk, gk = gv T W S order t k := ⟨_, rfl⟩
                    rw [← hgx] at cx q1
                    rw [← hgk] at ck q1
                    clear hgx hgk
                    go_wp2_with fail
                    go_quiet (fail)
                    go_wp2_with fail
                    go_roundw
                    case rel => exact ⟨k, k + 1, hkn, hkn, rfl, by go_num, HX2, HV2.out _, HB2.out _⟩
                    case measure => simp [intOf]; omega
                  · have q1 : decide (gv T W S order t x < gv T W S order t k) = false := decide_eq_false hgt
                    have HX2 : Hid ((∀ y, y < k + 1 → gv T W S order t y ≤ gv T W S order t x) ∧ (∀ y, y < x → gv T W S order t y < gv T W S order t x) ∧ (x ≤ k + 1)) := by
                      refine ⟨fun y hy => ?_, HX.out.2.1, by have := HX.out.2.2; omega⟩
                      by_cases e : y = k
                      · rw [e]; omega
                      · exact HX.out.1 y (by omega)
                    clear hgt
                    obtain ⟨gx, hgx⟩ : ∃ gx, gx = gv T W S order t x := ⟨_, rfl⟩
                    obtain ⟨gk, hgk⟩ : ∃ gk, gk = gv T W S order t k := ⟨_, rfl⟩
                    rw [← hgx] at cx q1
                    rw [← hgk] at ck q1
                    clear hgx hgk
                    go_wp2_with fail
                    go_quiet (fail)
                    go_wp2_with fail
                    go_roundw
                    case rel => exact ⟨x, k + 1, hkn, hx, rfl, by go_num, HX2, HV2.out _, HB2.out _⟩
                    case measure => simp [intOf]; omega
                · obtain rfl : k = W.length := by omega
                  have hd1 : decide (W.length < W.length) = false := decide_eq_false (Nat.lt_irrefl _)
                  have hd2 : decide ((W.length : Int) < (W.length : Int)) = false := decide_eq_false (Int.lt_irrefl _)
                  have HBEST : Hid (x = order[t]'(HT.out)) := best_is HO.out HT.out hx HX.out.1 HX.out.2.1
                  have HS1 : Hid (updI (pv T W S order t) x (pv T W S order t x + 1) = pv T W S order (t + 1)) := by rw [HBEST.out]; exact pv_step HO.out HT.out
                  have HS2 : Hid (updI (gv T W S order t) x (-1) = gv T W S order (t + 1)) := by rw [HBEST.out]; exact gv_step' HO.out HT.out
                  have cp1 : wr.cell? ⟨gp, x, none⟩ = some (.int .i64 (pv T W S order t x)) := HV.out.1.cell hx
                  have hpv := pv_le (T := T) (order := order) (t := t) hS HSS.out hx
                  have fp := HV.out.1.free x
                  have fr := HV.out.2.free x
                  have lp := HV.out.1.lt.2
                  have lr := HV.out.2.lt.2
                  have HN1 : Hid (RowI ((wr.setCell ⟨gp, x, none⟩ (.int .i64 (pv T W S order t x + 1))).setCell ⟨gr, x, none⟩ (.int .i64 (-1))) w.heap.size gp 2 W.length cp (pv T W S order (t + 1)) ∧ RowI ((wr.setCell ⟨gp, x, none⟩ (.int .i64 (pv T W S order t x + 1))).setCell ⟨gr, x, none⟩ (.int .i64 (-1))) w.heap.size gr 2 W.length cr (gv T W S order (t + 1))) := by
                    have a1 := HV.out.1.put (i := x) (pv T W S order t x + 1)
                    rw [HS1.out] at a1
                    have a2 : RowI (wr.setCell ⟨gp, x, none⟩ (.int .i64 (pv T W S order t x + 1))) w.heap.size gr 2 W.length cr (gv T W S order t) := HV.out.2.other ((Far.refl gp wr).put x _) (Ne.symm hne.out)
                    have a3 := a2.put (i := x) (-1)
                    rw [HS2.out] at a3
                    exact ⟨a1.other ((Far.refl gr _).put x _) hne.out, a3⟩
                  have HB3 : Hid (Below w.heap.size w ((wr.setCell ⟨gp, x, none⟩ (.int .i64 (pv T W S order t x + 1))).setCell ⟨gr, x, none⟩ (.int .i64 (-1)))) := (HB.out.setCell (by show _ ≤ gp; exact HV.out.1.lt.1) _).setCell (by show _ ≤ gr; exact HV.out.2.lt.1) _
                  have hne1 : ¬ gp = gr := hne.out
                  have hne2 : ¬ gr = gp := fun e => hne.out e.symm
                  have hlm : Hid (L - (t + 1) = m) := by show L - (t + 1) = m; omega
                  have htl1 : t + 1 ≤ L := htl
                  clear HX HGX
                  generalize pv T W S order t x = px at *
                  go_wp2_with fail
                  go_roundw
                  case rel => exact ⟨t + 1, htl1, by rw [hlm.out], HN1, HB3⟩
                  case measure => simp [intOf] <;> omega
            · obtain rfl : t = L := by omega
              have k1 : decide ((0 : Int) < ((t - t : Nat) : Int)) = false := decide_eq_false (by omega)
              have k2 : ((t - t : Nat) : Int) = 0 := by omega
              have HFIN : Hid (IS wr (.slice (some ⟨gp, 0, none⟩) W.length cp) (toI (shares T W S order))) := by
                have h1 := HV.out.1.is
                rw [pv_fin] at h1
                unfold shares
                rw [← HL.out]
                exact h1
              go_wp2_with fail
              go_ret2
              exact ⟨.slice (some ⟨gp, 0, none⟩) W.length cp, rfl, by rw [← HSS.out]; exact HFIN.out, HB.out, fun q hq => by cases hq; exact HV.out.1.lt.1⟩
theorem rshare_ok (T : Nat) (W : List Nat) (order : List Nat) (v : Value) (w : World) (hT : T ≤ 1000000) (hW : ∀ x ∈ W, x ≤ 1000000) (hl : W.length ≤ 1000) (hS : 0 < sumN W W.length) (ho : IsOrder T W (sumN W W.length) order) (h : IS w v (toI W)) : Calls Tryd.prog 16 #[.int .i64 (T : Int), v] w (RSharePost T W order w) :=
  (rshare_full T W order v w hT hW hl hS ho h).mono fun e w' ⟨v', h1, h2, h3, _⟩ => ⟨v', h1, h2, h3⟩
end So
end Go.Proofs.YtfopmaeaclbknaaDoor
