/- Contracts of settle.sum and Revenue, and of the reference's Same. Printed by gen_prc.py. -/
import Derived.Test.YtfopmaeaclbknaaDoorPk38
namespace Go.Proofs.YtfopmaeaclbknaaDoor.Pr
open Go.ChangeShapes Go.WideShapes Go.ChangeAt Go.RowKit Go.Maps Go.WideMaps Gn Cat Lex So
set_option linter.unusedVariables false
set_option linter.unusedSimpArgs false
theorem sum_range_of {M : Int} (hM : 0 ≤ M) : ∀ l : List Int, (∀ x ∈ l, 0 ≤ x ∧ x ≤ M) → 0 ≤ l.sum ∧ l.sum ≤ l.length * M
  | [], _ => by simp
  | x :: l, h => by
    have h1 := sum_range_of hM l fun y hy => h y (List.mem_cons_of_mem _ hy)
    have h2 := h x (List.mem_cons_self ..)
    have e : ((x :: l).length : Int) * M = l.length * M + M := by rw [List.length_cons, Int.natCast_add, Int.add_mul]; simp
    rw [List.sum_cons, e]
    omega
theorem take_sum_succ {l : List Int} {k : Nat} (h : k < l.length) : (l.take (k + 1)).sum = (l.take k).sum + l[k] := by
  rw [List.take_succ_eq_append_getElem h, List.sum_append]
  simp
theorem sum_any (xs : List Int) (v : Value) (w : World) (hl : xs.length ≤ 1000) (hx : ∀ x ∈ xs, 0 ≤ x ∧ x ≤ 1000000000) (h : IS w v xs) : Calls Tryd.prog 68 #[v] w fun e w' => e = .returned (.int .i64 xs.sum) ∧ Below w.heap.size w w' := by
  obtain ⟨A, c, rfl, _, _, hc⟩ := is_cases h
  have HC := Lib.hid hc
  have HX := Lib.hid hx
  have hl6 : (xs.length : Int) ≤ 1000 := by omega
  clear h hc hx
  go_enter Tryd.func68, Tryd.ntmps68
  go_wp2_with fail
  go_loopw [8, 3] (fun iv sv wr => ∃ k : Nat, k ≤ xs.length ∧ iv = .int .i64 (k : Int) ∧ sv = .int .i64 (xs.take k).sum ∧ Hid (Below w.heap.size w wr)) (fun iv _ _ => xs.length - (intOf iv).toNat)
  case atStart => exact ⟨0, Nat.zero_le _, rfl, rfl, Below.refl _ _⟩
  case round =>
    obtain ⟨k, hk, rfl, rfl, HB⟩ := hrel
    have hk0 : (0 : Int) ≤ (k : Int) := by omega
    have hk5 : (k : Int) ≤ 1000 := by omega
    have hs := sum_range_of (M := 1000000000) (by omega) (xs.take k) fun x hx => HX.out x (List.mem_of_mem_take hx)
    have hs2 : (xs.take k).length ≤ 1000 := by rw [List.length_take]; omega
    have HSS := Lib.hid (fun (h : k < xs.length) => take_sum_succ h)
    have HSE : Hid (k = xs.length → (xs.take k).sum = xs.sum) := by rintro rfl; rw [List.take_length]
    obtain ⟨s, hs3⟩ : ∃ s, s = (xs.take k).sum := ⟨_, rfl⟩
    rw [← hs3] at hs HSS HSE ⊢
    have s0 : 0 ≤ s := hs.1
    have s1 : s ≤ 1000000000000 := by
      have h2 : ((xs.take k).length : Int) * 1000000000 ≤ 1000 * 1000000000 := Int.mul_le_mul_of_nonneg_right (by omega) (by omega)
      omega
    clear hs hs2 hs3
    by_cases hkn : k < xs.length
    · have hd1 : decide (k < xs.length) = true := decide_eq_true hkn
      have hd2 : decide ((k : Int) < (xs.length : Int)) = true := decide_eq_true (by omega)
      have hkn1 : (k : Int) < (xs.length : Int) := by omega
      obtain ⟨b, o, eA, hb, hcc⟩ := HC.out (by omega)
      subst eA
      have c1 : wr.cell? ⟨b, o + k, none⟩ = some (.int .i64 xs[k]) := (HB.out.cell (p := ⟨b, o + k, none⟩) hb).trans (hcc k _ (List.getElem?_eq_getElem hkn))
      have hx := HX.out _ (List.getElem_mem hkn)
      have HS2 := Lib.hid (HSS.out hkn)
      generalize xs[k] = x at *
      clear hcc hb HSS HSE
      go_wp2_with fail
      go_roundw
      case rel => exact ⟨k + 1, hkn, by go_num, by rw [HS2.out], HB.out⟩
      case measure => simp [intOf]; omega
    · obtain rfl : k = xs.length := by omega
      have hd1 : decide (xs.length < xs.length) = false := decide_eq_false (Nat.lt_irrefl _)
      have hd2 : decide ((xs.length : Int) < (xs.length : Int)) = false := decide_eq_false (Int.lt_irrefl _)
      have HE := Lib.hid (HSE.out rfl)
      clear HSS HSE
      go_wp2_with fail
      go_ret
      exact ⟨by rw [← HE.out]; rfl, HB.out⟩
/-- the dues that count -/
def dues (vs : List Inv) : List Int := (vs.filter fun v => decide (0 ≤ v.due ∧ v.due ≤ 1000000)).map Inv.due
theorem dues_take {vs : List Inv} {k : Nat} (h : k < vs.length) : dues (vs.take (k + 1)) = dues (vs.take k) ++ if 0 ≤ vs[k].due ∧ vs[k].due ≤ 1000000 then [vs[k].due] else [] := by
  unfold dues
  rw [List.take_succ_eq_append_getElem h, List.filter_append, List.map_append]
  by_cases e : 0 ≤ vs[k].due ∧ vs[k].due ≤ 1000000
  · rw [if_pos e]; simp [e]
  · rw [if_neg e]; simp [e]
theorem dues_len (vs : List Inv) : (dues vs).length ≤ vs.length := by unfold dues; rw [List.length_map]; exact List.length_filter_le _ _
theorem dues_range (vs : List Inv) : ∀ x ∈ dues vs, 0 ≤ x ∧ x ≤ 1000000000 := by
  intro x hx
  obtain ⟨v, hv, rfl⟩ := List.mem_map.1 hx
  have := (List.mem_filter.1 hv).2
  simp at this
  omega
set_option maxHeartbeats 4000000 in
set_option maxRecDepth 100000 in
theorem revenue_any (vs : List Inv) (v : Value) (w : World) (hl : vs.length ≤ 100) (h : InvS w v vs) : Calls Tryd.prog 44 #[v] w fun e w' => e = .returned (.int .i64 (dues vs).sum) ∧ Below w.heap.size w w' := by
  obtain ⟨j0, hj0, hy0, hy1, hy2⟩ := info_parts (show (Tryd.prog.info? 2).map (fun i => (i.zero, i.size, i.bytes)) = some (some (.int .i64 0), 1, 8) by kernel_rfl)
  obtain ⟨A, c, rfl, _, _, hc⟩ := sl_parts h
  have HC := Lib.hid hc
  have HLEN : Hid (vs.length ≤ 100) := hl
  have hl6 : (vs.length : Int) ≤ 100 := by omega
  have CA := Lib.hid So.check_any
  clear h hc hl
  go_enter Tryd.func44, Tryd.ntmps44
  go_wp2_with fail
  go_loopw [8, 3] (fun iv ov wr => ∃ (k n : Nat) (A2 : Option Addr) (c2 : Nat), k ≤ vs.length ∧ n ≤ k ∧ iv = .int .i64 (k : Int) ∧ ov = .slice A2 n c2 ∧ Hid (wr.ownsRow w.heap.size 2 1 (.slice A2 n c2) n ((dues (vs.take k)).map fun x => Value.int .i64 x)) ∧ Hid (Below w.heap.size w wr)) (fun iv _ _ => vs.length - (intOf iv).toNat)
  case atStart => exact ⟨0, 0, none, 0, Nat.zero_le _, Nat.zero_le _, rfl, rfl, World.ownsRow_nil _ _ _ _, Below.refl _ _⟩
  case round =>
    obtain ⟨k, n, A2, c2, hk, hnk, rfl, rfl, HO, HB⟩ := hrel
    have hk0 : (0 : Int) ≤ (k : Int) := by omega
    have hk5 : (k : Int) ≤ 100 := by omega
    by_cases hkn : k < vs.length
    · have hd1 : decide (k < vs.length) = true := decide_eq_true hkn
      have hd2 : decide ((k : Int) < (vs.length : Int)) = true := decide_eq_true (by omega)
      have hkn1 : (k : Int) < (vs.length : Int) := by omega
      obtain ⟨b, o, eA, hb, hrow⟩ := HC.out (by omega)
      subst eA
      have hat := inv_at (hrow.below hb HB.out) k hkn
      have HDT := Lib.hid (dues_take hkn)
      generalize vs[k] = x at *
      have HO1 := Lib.hid (own_below HO.out (below_new wr (.cells #[.int .i64 x.bidder, .int .i64 (x.want 0), .int .i64 (x.want 1), .int .i64 (x.want 2), .int .i64 (x.want 3), .int .i64 (x.want 4), .int .i64 (x.want 5), .int .i64 x.reserve, .int .i64 x.net, .int .i64 x.due] 79)))
      have HB1 := Lib.hid (HB.out.alloc HB.out.size (.cells #[.int .i64 x.bidder, .int .i64 (x.want 0), .int .i64 (x.want 1), .int .i64 (x.want 2), .int .i64 (x.want 3), .int .i64 (x.want 4), .int .i64 (x.want 5), .int .i64 x.reserve, .int .i64 x.net, .int .i64 x.due] 79))
      have IX := Lib.hid (Blk.new wr 79 #[.int .i64 x.bidder, .int .i64 (x.want 0), .int .i64 (x.want 1), .int .i64 (x.want 2), .int .i64 (x.want 3), .int .i64 (x.want 4), .int .i64 (x.want 5), .int .i64 x.reserve, .int .i64 x.net, .int .i64 x.due])
      have HN1 : Hid (n ≤ 100) := by have := HLEN.out; show n ≤ 100; omega
      have CX := Lib.hid (CA.out x.due)
      clear hrow hb
      by_cases hd : 0 ≤ x.due ∧ x.due ≤ 1000000
      · have e0 : So.okE x.due = 0 := by unfold So.okE; rw [if_pos hd]
        rw [e0] at CX
        have HD2 : Hid (dues (vs.take (k + 1)) = dues (vs.take k) ++ [x.due]) := by show _ = _; rw [HDT.out, if_pos hd]
        clear hd e0 HDT
        go_wp2_with fail
        refine (CX.out _).mono ?_
        rintro e w3 ⟨rfl, rfl⟩
        clear hat
        generalize wr.alloc (.cells #[.int .i64 x.bidder, .int .i64 (x.want 0), .int .i64 (x.want 1), .int .i64 (x.want 2), .int .i64 (x.want 3), .int .i64 (x.want 4), .int .i64 (x.want 5), .int .i64 x.reserve, .int .i64 x.net, .int .i64 x.due] 79) = wa at *
        generalize wr.heap.size = gi at *
        have ic := inv_cells IX.out
        have il := IX.out.lt
        go_wp2_with (at_builtin; refine wpList_append_own _ rfl _ _ 22 rfl w.heap.size 2 j0 _ 1 8 Tryd.underlying22 hj0 hy0 hy1 hy2 rfl (by decide) (.slice A2 n c2) n _ rfl (HO1.out.alloc _) ⟨wa.heap.size, 0, none⟩ 1 1 [.int .i64 x.due] rfl rfl (cells_new wa _ _) (by intro u hu; simp at hu; subst hu; rfl) (by have := HN1.out; unfold maxLen; omega) (by have := HN1.out; omega) (by have := HB1.out.size; simp; omega) ?_)
        intro v' w4 hown hgr _
        obtain ⟨A5, c5, rfl⟩ := Gn.own_form hown
        have O5 : Hid (w4.ownsRow w.heap.size 2 1 (.slice A5 (n + 1) c5) (n + 1) ((dues (vs.take (k + 1))).map fun x => Value.int .i64 x)) := by show World.ownsRow _ _ _ _ _ _ _; rw [HD2.out, List.map_append]; exact hown
        have B5 : Hid (Below w.heap.size w w4) := (HB1.out.alloc HB1.out.size _).grown hgr (by have := HB1.out.size; simp; omega) (fun q hq => (HO1.out.lt q hq).1)
        clear hown hgr HO HB HO1 HB1
        go_wp2_with fail
        go_roundw
        case rel => exact ⟨k + 1, n + 1, A5, c5, hkn, Nat.succ_le_succ hnk, by go_num, rfl, O5.out, B5.out⟩
        case measure => simp [intOf]; omega
      · have e0 : So.okE x.due = 4 := by unfold So.okE; rw [if_neg hd]
        rw [e0] at CX
        have HD2 : Hid (dues (vs.take (k + 1)) = dues (vs.take k)) := by show _ = _; rw [HDT.out, if_neg hd, List.append_nil]
        clear hd e0 HDT
        go_wp2_with fail
        refine (CX.out _).mono ?_
        rintro e w3 ⟨rfl, rfl⟩
        go_wp2_with fail
        go_roundw
        case rel => exact ⟨k + 1, n, A2, c2, hkn, Nat.le_succ_of_le hnk, by go_num, rfl, (by show World.ownsRow _ _ _ _ _ _ _; rw [HD2.out]; exact HO1.out), HB1.out⟩
        case measure => simp [intOf]; omega
    · obtain rfl : k = vs.length := by omega
      have hd1 : decide (vs.length < vs.length) = false := decide_eq_false (Nat.lt_irrefl _)
      have hd2 : decide ((vs.length : Int) < (vs.length : Int)) = false := decide_eq_false (Int.lt_irrefl _)
      have HI : Hid (IS wr (.slice A2 n c2) (dues vs)) := by
        have h := Sl.of_own HO.out
        rw [List.take_length] at h
        have e : n = (dues vs).length := by have := h.1; simpa using this.symm
        unfold IS
        rw [← e]
        exact h
      have CS := Lib.hid (sum_any (dues vs) _ wr (by have := dues_len vs; have := HLEN.out; omega) (dues_range vs) HI.out)
      obtain ⟨s, hs⟩ : ∃ s, s = (dues vs).sum := ⟨_, rfl⟩
      rw [← hs] at CS
      have HSS := Lib.hid hs
      clear hs
      go_wp2_with fail
      refine CS.out.mono ?_
      rintro e w5 ⟨rfl, d5⟩
      have B5 := Lib.hid (chain0 HB.out d5)
      clear d5
      go_wp2_with fail
      go_ret
      exact ⟨by rw [← HSS.out]; rfl, B5.out⟩
set_option maxHeartbeats 1000000 in
set_option maxRecDepth 100000 in
theorem rsame_yes (L : List Shr) (va vb : Value) (w : World) (hl : L.length ≤ 1000) (ha : ShrS w va L) (hb : ShrS w vb L) : Calls Tryd.prog 35 #[va, vb] w fun e w' => e = .returned (.bool true) ∧ Below w.heap.size w w' := by
  obtain ⟨A1, c1, rfl, _, _, h1⟩ := sl_parts ha
  obtain ⟨A2, c2, rfl, _, _, h2⟩ := sl_parts hb
  have H1 := Lib.hid h1
  have H2 := Lib.hid h2
  have hl6 : (L.length : Int) ≤ 1000 := by omega
  have q1 : ((L.length : Int) != (L.length : Int)) = false := by simp
  clear ha hb h1 h2
  go_enter Tryd.func35, Tryd.ntmps35
  go_wp2_with fail
  go_loopw [5] (fun iv wr => ∃ k : Nat, k ≤ L.length ∧ iv = .int .i64 (k : Int) ∧ Hid (Below w.heap.size w wr)) (fun iv _ => L.length - (intOf iv).toNat)
  case atStart => exact ⟨0, Nat.zero_le _, rfl, Below.refl _ _⟩
  case round =>
    obtain ⟨k, hk, rfl, HW⟩ := hrel
    have hk0 : (0 : Int) ≤ (k : Int) := by omega
    have hk5 : (k : Int) ≤ 1000 := by omega
    by_cases hkn : k < L.length
    · have hd1 : decide (k < L.length) = true := decide_eq_true hkn
      have hd2 : decide ((k : Int) < (L.length : Int)) = true := decide_eq_true (by omega)
      have hkn1 : (k : Int) < (L.length : Int) := by omega
      obtain ⟨b1, o1, e1, hb1, hc1⟩ := H1.out (by omega)
      obtain ⟨b2, o2, e2, hb2, hc2⟩ := H2.out (by omega)
      subst e1 e2
      have d1 := shr_at (hc1.below hb1 HW.out) k hkn
      have d2 := shr_at (hc2.below hb2 HW.out) k hkn
      generalize L[k] = x at *
      have z1 : (x.sel == x.sel) = true := by simp
      have z2 : (x.reserve == x.reserve) = true := by simp
      have z3 : (x.net == x.net) = true := by simp
      clear hc1 hc2 hb1 hb2
      go_wp2_with fail
      go_quiet (fail)
      go_wp2_with fail
      go_roundw
      case rel => exact ⟨k + 1, hkn, by go_num, chain0 HW.out (drewN_below _ _)⟩
      case measure => simp [intOf]; omega
    · have hd1 : decide (k < L.length) = false := decide_eq_false hkn
      have hd2 : decide ((k : Int) < (L.length : Int)) = false := decide_eq_false (by omega)
      go_wp2_with fail
      go_ret
      exact ⟨rfl, HW.out⟩
end Go.Proofs.YtfopmaeaclbknaaDoor.Pr
