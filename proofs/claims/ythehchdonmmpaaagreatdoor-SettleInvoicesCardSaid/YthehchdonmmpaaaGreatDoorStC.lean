/- What Settle needs of the texts of Proceeds. Printed by gen_stc.py. -/
import Derived.Test.YthehchdonmmpaaaGreatDoorPs17
import Derived.Test.YthehchdonmmpaaaGreatDoorPs07
import Derived.Test.YthehchdonmmpaaaGreatDoorPs13
import Derived.Test.YthehchdonmmpaaaGreatDoorPs12
import Derived.Lib.ItoaLen
import Derived.Lib.AppendIntMem
import Derived.ProofKit
namespace Go.Proofs.YthehchdonmmpaaaGreatDoor.Pr
open Go.ChangeShapes Go.WideShapes Go.ChangeAt Go.RowKit Gn Cat Lex So
set_option linter.unusedVariables false
set_option linter.unusedSimpArgs false
/-- a setup of which the products are known -/
structure SetP (w : World) (v1 : Value) (ps : List Prod) : Prop where
  sl : PS w v1 ps
  len : ps.length ≤ 5000
  names : ∀ p ∈ ps, p.name.size ≤ maxLen
theorem SetP.keep {w w' : World} {v1 : Value} {ps : List Prod} (h : SetP w v1 ps) (b : Below w.heap.size w w') : SetP w' v1 ps := ⟨h.sl.keep b, h.len, h.names⟩
def invOk (ps : List Prod) (nb : Nat) (x : Inv) : Bool := decide (0 ≤ x.bidder) && (decide (x.bidder < (nb : Int)) && (!eq6 x.want zero6 && (rfitsB x.want ps && (decide (x.reserve = sumE Prod.reserve x.want ps) && (decide (0 ≤ x.net) && (decide (x.net ≤ 1000000) && decide (x.due = x.reserve + x.net)))))))
theorem inv_cells {w : World} {g : Nat} {t : TypeId} {x : Inv} (h : Blk w g t #[.int .i64 x.bidder, .int .i64 (x.want 0), .int .i64 (x.want 1), .int .i64 (x.want 2), .int .i64 (x.want 3), .int .i64 (x.want 4), .int .i64 (x.want 5), .int .i64 x.reserve, .int .i64 x.net, .int .i64 x.due]) :
    w.cell? ⟨g, 0, none⟩ = some (.int .i64 x.bidder) ∧ w.cell? ⟨g, 1, none⟩ = some (.int .i64 (x.want 0)) ∧ w.cell? ⟨g, 2, none⟩ = some (.int .i64 (x.want 1)) ∧ w.cell? ⟨g, 3, none⟩ = some (.int .i64 (x.want 2)) ∧ w.cell? ⟨g, 4, none⟩ = some (.int .i64 (x.want 3)) ∧ w.cell? ⟨g, 5, none⟩ = some (.int .i64 (x.want 4)) ∧ w.cell? ⟨g, 6, none⟩ = some (.int .i64 (x.want 5)) ∧ w.cell? ⟨g, 7, none⟩ = some (.int .i64 x.reserve) ∧ w.cell? ⟨g, 8, none⟩ = some (.int .i64 x.net) ∧ w.cell? ⟨g, 9, none⟩ = some (.int .i64 x.due) :=
  ⟨h.cell 0, h.cell 1, h.cell 2, h.cell 3, h.cell 4, h.cell 5, h.cell 6, h.cell 7, h.cell 8, h.cell 9⟩
theorem fmt_some {b : Nat → Int} {l : List Prod} (h : rfitsB b l = true) : ((fmtS b l).toList == ([] : List UInt8)) = false ∧ (fmtS b l).toList.isEmpty = false := by
  have : 0 < (fmtS b l).size := by unfold fmtS; rw [if_pos h, ByteArray.size_append, ByteArray.size_append]; show 0 < 1 + _ + 1; omega
  exact ⟨bytes_ne_nil this, bytes_isEmpty this⟩
theorem fmt_none {b : Nat → Int} {l : List Prod} (h : rfitsB b l = false) : fmtS b l = ⟨#[]⟩ := by unfold fmtS; rw [h]; rfl
theorem sum_range {b : Nat → Int} {l : List Prod} : 0 ≤ sumE Prod.reserve b l ∧ sumE Prod.reserve b l ≤ 24000000 := by
  unfold sumE
  split
  · rename_i h
    have hz := checkE_zero h.1
    have := sw_le (f := Prod.reserve) (b := b) (l := l) (validB_iff.1 h.2) (fun p hp => by have := rangeOk_iff.1 (checkGo_range l 0 hz.2.2 p hp).1; omega) hz.2.1 l.length (Nat.le_refl _)
    omega
  · omega
theorem map_range_set {T : Type} (m i : Nat) (f : Nat → T) (x : T) : ((List.range m).map f).set i x = (List.range m).map fun j => if j = i then x else f j := by
  refine List.ext_getElem (by simp) fun j h1 h2 => ?_
  simp only [List.getElem_set, List.getElem_map, List.getElem_range]
  by_cases e : i = j
  · rw [if_pos e, if_pos e.symm]
  · rw [if_neg e, if_neg fun h => e h.symm]
def intA (m : Nat) (f : Nat → Int) : Array Value := ((List.range m).map fun i => Value.int .i64 (f i)).toArray
theorem intA_get {m : Nat} {f : Nat → Int} {i : Nat} (h : i < m) : (intA m f)[i]? = some (.int .i64 (f i)) := by simp [intA, h]
theorem intA_set {m : Nat} {f : Nat → Int} {i : Nat} (v : Int) : (intA m f).setIfInBounds i (.int .i64 v) = intA m (upd f i v) := by
  unfold intA
  rw [List.setIfInBounds_toArray, map_range_set]
  congr 1
  refine List.map_congr_left fun j _ => ?_
  unfold upd
  by_cases e : j = i
  · subst e; simp
  · simp [e]
theorem intA_made (m : Nat) : madeCells #[Value.int .i64 0] m = intA m fun _ => 0 := by
  apply Array.ext_getElem?
  intro j
  by_cases hj : j < m <;> simp [madeCells, intA, Nat.mod_one, hj]
theorem is_of_blk {w : World} {g m : Nat} {t : TypeId} {f : Nat → Int} (h : Blk w g t (intA m f)) (hm : m ≤ maxLen) : IS w (.slice (some ⟨g, 0, none⟩) m m) ((List.range m).map f) := by
  have e : ((List.range m).map f).length = m := by simp
  refine ⟨by simp, some ⟨g, 0, none⟩, m, by rw [e], by rw [e]; exact Nat.le_refl _, hm, fun _ => ⟨g, 0, rfl, h.lt, fun j u hu => ?_⟩⟩
  rw [Nat.zero_add, h.cell]
  unfold intA
  simpa using hu
theorem run_make_one {P : Program} (t e : TypeId) (i : TypeInfo) (z : Value) (ht : P.underlying t = some (.slice e)) (hi : P.info? e = some i) (hz : i.zero = some z) (hs : i.size = 1) (hb : i.bytes = 8) (h1 : z.cells = #[z]) (n : Nat) (hn : n ≤ 1000) (w : World) :
    (Instr.makeSlice t (.int .i64 (n : Int)) (.int .i64 (n : Int))).run P w = .ok (.slice (some ⟨w.heap.size, 0, none⟩) n n) (w.alloc (.cells (madeCells #[z] n) e)) := by
  have hr := run_make (P := P) w t e i z ht hi hz .i64 .i64 n n (by omega) (by omega) (by rw [hb]; omega) (by omega)
  simp only [Int.toNat_natCast, hs, Nat.mul_one, h1] at hr
  exact hr
def decS (v : Int) : ByteArray := ⟨(Lib.itoa v).toArray⟩
def I64 (v : Int) : Prop := -9223372036854775808 ≤ v ∧ v ≤ 9223372036854775807
theorem decS_size {v : Int} (h : I64 v) : (decS v).size ≤ 21 := by
  show ((Lib.itoa v).toArray).size ≤ 21
  rw [List.size_toArray]
  exact Lib.itoa_length_le v h.1 h.2
theorem tab_keep {w w' : World} (h : Am.Tab w) (b : Below w.heap.size w w') : Am.Tab w' := Lib.tabBelow_of_tabIs h w' b
theorem fmt_any (v : Int) (w : World) (h : I64 v) (ht : Am.Tab w) : Calls Tryz.prog 55 #[.int .i64 v, .int .i64 10] w fun e w' => e = .returned (.string (decS v)) ∧ Below w.heap.size w w' := by
  refine (Tryz.strconv_FormatInt_10 v h.1 h.2 w ht).mono ?_
  rintro e w1 ⟨rfl, k, os, hw⟩
  exact ⟨rfl, by rw [hw]; exact Am.grow_below w k os⟩
theorem sum_range_of {M : Int} (hM : 0 ≤ M) : ∀ l : List Int, (∀ x ∈ l, 0 ≤ x ∧ x ≤ M) → 0 ≤ l.sum ∧ l.sum ≤ l.length * M
  | [], _ => by simp
  | x :: l, h => by
    have h1 := sum_range_of hM l fun y hy => h y (List.mem_cons_of_mem _ hy)
    have h2 := h x (List.mem_cons_self ..)
    have e : ((x :: l).length : Int) * M = l.length * M + M := by rw [List.length_cons, Int.natCast_add, Int.add_mul]; simp
    rw [List.sum_cons, e]
    omega
theorem take_sum_succ {l : List Int} {k : Nat} (h : k < l.length) : (l.take (k + 1)).sum = (l.take k).sum + l[k] := by
  rw [List.take_succ_eq_append_getElem h, List.sum_append]
  simp
theorem sum_any (xs : List Int) (v : Value) (w : World) (hl : xs.length ≤ 1000) (hx : ∀ x ∈ xs, 0 ≤ x ∧ x ≤ 1000000000) (h : IS w v xs) : Calls Tryz.prog 26 #[v] w fun e w' => e = .returned (.int .i64 xs.sum) ∧ Below w.heap.size w w' := by
  obtain ⟨A, c, rfl, _, _, hc⟩ := is_cases h
  have HC := Lib.hid hc
  have HX := Lib.hid hx
  have hl6 : (xs.length : Int) ≤ 1000 := by omega
  clear h hc hx
  go_enter Tryz.func26, Tryz.ntmps26
  go_wp2_with fail
  go_loopw [8, 3] (fun iv sv wr => ∃ k : Nat, k ≤ xs.length ∧ iv = .int .i64 (k : Int) ∧ sv = .int .i64 (xs.take k).sum ∧ Hid (Below w.heap.size w wr)) (fun iv _ _ => xs.length - (intOf iv).toNat)
  case atStart => exact ⟨0, Nat.zero_le _, rfl, rfl, Below.refl _ _⟩
  case round =>
    obtain ⟨k, hk, rfl, rfl, HB⟩ := hrel
    have hk0 : (0 : Int) ≤ (k : Int) := by omega
    have hk5 : (k : Int) ≤ 1000 := by omega
    have hs := sum_range_of (M := 1000000000) (by omega) (xs.take k) fun x hx => HX.out x (List.mem_of_mem_take hx)
    have hs2 : (xs.take k).length ≤ 1000 := by rw [List.length_take]; omega
    have HSS := Lib.hid (fun (h : k < xs.length) => take_sum_succ h)
    have HSE : Hid (k = xs.length → (xs.take k).sum = xs.sum) := by rintro rfl; rw [List.take_length]
    obtain ⟨s, hs3⟩ : ∃ s, s = (xs.take k).sum := ⟨_, rfl⟩
    rw [← hs3] at hs HSS HSE ⊢
    have s0 : 0 ≤ s := hs.1
    have s1 : s ≤ 1000000000000 := by
      have h2 : ((xs.take k).length : Int) * 1000000000 ≤ 1000 * 1000000000 := Int.mul_le_mul_of_nonneg_right (by omega) (by omega)
      omega
    clear hs hs2 hs3
    by_cases hkn : k < xs.length
    · have hd1 : decide (k < xs.length) = true := decide_eq_true hkn
      have hd2 : decide ((k : Int) < (xs.length : Int)) = true := decide_eq_true (by omega)
      have hkn1 : (k : Int) < (xs.length : Int) := by omega
      obtain ⟨b, o, eA, hb, hcc⟩ := HC.out (by omega)
      subst eA
      have c1 : wr.cell? ⟨b, o + k, none⟩ = some (.int .i64 xs[k]) := (HB.out.cell (p := ⟨b, o + k, none⟩) hb).trans (hcc k _ (List.getElem?_eq_getElem hkn))
      have hx := HX.out _ (List.getElem_mem hkn)
      have HS2 := Lib.hid (HSS.out hkn)
      generalize xs[k] = x at *
      clear hcc hb HSS HSE
      go_wp2_with fail
      go_roundw
      case rel => exact ⟨k + 1, hkn, by go_num, by rw [HS2.out], HB.out⟩
      case measure => simp [intOf]; omega
    · obtain rfl : k = xs.length := by omega
      have hd1 : decide (xs.length < xs.length) = false := decide_eq_false (Nat.lt_irrefl _)
      have hd2 : decide ((xs.length : Int) < (xs.length : Int)) = false := decide_eq_false (Int.lt_irrefl _)
      have HE := Lib.hid (HSE.out rfl)
      clear HSS HSE
      go_wp2_with fail
      go_ret
      exact ⟨by rw [← HE.out]; rfl, HB.out⟩
/-- the dues that count -/
def dues (vs : List Inv) : List Int := (vs.filter fun v => decide (0 ≤ v.due ∧ v.due ≤ 1000000)).map Inv.due
theorem dues_take {vs : List Inv} {k : Nat} (h : k < vs.length) : dues (vs.take (k + 1)) = dues (vs.take k) ++ if 0 ≤ vs[k].due ∧ vs[k].due ≤ 1000000 then [vs[k].due] else [] := by
  unfold dues
  rw [List.take_succ_eq_append_getElem h, List.filter_append, List.map_append]
  by_cases e : 0 ≤ vs[k].due ∧ vs[k].due ≤ 1000000
  · rw [if_pos e]; simp [e]
  · rw [if_neg e]; simp [e]
theorem dues_len (vs : List Inv) : (dues vs).length ≤ vs.length := by unfold dues; rw [List.length_map]; exact List.length_filter_le _ _
theorem dues_range (vs : List Inv) : ∀ x ∈ dues vs, 0 ≤ x ∧ x ≤ 1000000000 := by
  intro x hx
  obtain ⟨v, hv, rfl⟩ := List.mem_map.1 hx
  have := (List.mem_filter.1 hv).2
  simp at this
  omega
set_option maxHeartbeats 4000000 in
set_option maxRecDepth 100000 in
theorem revenue_any (vs : List Inv) (v : Value) (w : World) (hl : vs.length ≤ 100) (h : InvS w v vs) : Calls Tryz.prog 10 #[v] w fun e w' => e = .returned (.int .i64 (dues vs).sum) ∧ Below w.heap.size w w' := by
  obtain ⟨j0, hj0, hy0, hy1, hy2⟩ := info_parts (show (Tryz.prog.info? 2).map (fun i => (i.zero, i.size, i.bytes)) = some (some (.int .i64 0), 1, 8) by kernel_rfl)
  obtain ⟨A, c, rfl, _, _, hc⟩ := sl_parts h
  have HC := Lib.hid hc
  have HLEN : Hid (vs.length ≤ 100) := hl
  have hl6 : (vs.length : Int) ≤ 100 := by omega
  have CA := Lib.hid So.check_any
  clear h hc hl
  go_enter Tryz.func10, Tryz.ntmps10
  go_wp2_with fail
  go_loopw [8, 3] (fun iv ov wr => ∃ (k n : Nat) (A2 : Option Addr) (c2 : Nat), k ≤ vs.length ∧ n ≤ k ∧ iv = .int .i64 (k : Int) ∧ ov = .slice A2 n c2 ∧ Hid (wr.ownsRow w.heap.size 2 1 (.slice A2 n c2) n ((dues (vs.take k)).map fun x => Value.int .i64 x)) ∧ Hid (Below w.heap.size w wr)) (fun iv _ _ => vs.length - (intOf iv).toNat)
  case atStart => exact ⟨0, 0, none, 0, Nat.zero_le _, Nat.zero_le _, rfl, rfl, World.ownsRow_nil _ _ _ _, Below.refl _ _⟩
  case round =>
    obtain ⟨k, n, A2, c2, hk, hnk, rfl, rfl, HO, HB⟩ := hrel
    have hk0 : (0 : Int) ≤ (k : Int) := by omega
    have hk5 : (k : Int) ≤ 100 := by omega
    by_cases hkn : k < vs.length
    · have hd1 : decide (k < vs.length) = true := decide_eq_true hkn
      have hd2 : decide ((k : Int) < (vs.length : Int)) = true := decide_eq_true (by omega)
      have hkn1 : (k : Int) < (vs.length : Int) := by omega
      obtain ⟨b, o, eA, hb, hrow⟩ := HC.out (by omega)
      subst eA
      have hat := inv_at (hrow.below hb HB.out) k hkn
      have HDT := Lib.hid (dues_take hkn)
      generalize vs[k] = x at *
      have HO1 := Lib.hid (own_below HO.out (below_new wr (.cells #[.int .i64 x.bidder, .int .i64 (x.want 0), .int .i64 (x.want 1), .int .i64 (x.want 2), .int .i64 (x.want 3), .int .i64 (x.want 4), .int .i64 (x.want 5), .int .i64 x.reserve, .int .i64 x.net, .int .i64 x.due] 42)))
      have HB1 := Lib.hid (HB.out.alloc HB.out.size (.cells #[.int .i64 x.bidder, .int .i64 (x.want 0), .int .i64 (x.want 1), .int .i64 (x.want 2), .int .i64 (x.want 3), .int .i64 (x.want 4), .int .i64 (x.want 5), .int .i64 x.reserve, .int .i64 x.net, .int .i64 x.due] 42))
      have IX := Lib.hid (Blk.new wr 42 #[.int .i64 x.bidder, .int .i64 (x.want 0), .int .i64 (x.want 1), .int .i64 (x.want 2), .int .i64 (x.want 3), .int .i64 (x.want 4), .int .i64 (x.want 5), .int .i64 x.reserve, .int .i64 x.net, .int .i64 x.due])
      have HN1 : Hid (n ≤ 100) := by have := HLEN.out; show n ≤ 100; omega
      have CX := Lib.hid (CA.out x.due)
      clear hrow hb
      by_cases hd : 0 ≤ x.due ∧ x.due ≤ 1000000
      · have e0 : So.okE x.due = 0 := by unfold So.okE; rw [if_pos hd]
        rw [e0] at CX
        have HD2 : Hid (dues (vs.take (k + 1)) = dues (vs.take k) ++ [x.due]) := by show _ = _; rw [HDT.out, if_pos hd]
        clear hd e0 HDT
        go_wp2_with fail
        refine (CX.out _).mono ?_
        rintro e w3 ⟨rfl, rfl⟩
        clear hat
        generalize wr.alloc (.cells #[.int .i64 x.bidder, .int .i64 (x.want 0), .int .i64 (x.want 1), .int .i64 (x.want 2), .int .i64 (x.want 3), .int .i64 (x.want 4), .int .i64 (x.want 5), .int .i64 x.reserve, .int .i64 x.net, .int .i64 x.due] 42) = wa at *
        generalize wr.heap.size = gi at *
        have ic := inv_cells IX.out
        have il := IX.out.lt
        go_wp2_with (at_builtin; refine wpList_append_own _ rfl _ _ 54 rfl w.heap.size 2 j0 _ 1 8 Tryz.underlying54 hj0 hy0 hy1 hy2 rfl (by decide) (.slice A2 n c2) n _ rfl (HO1.out.alloc _) ⟨wa.heap.size, 0, none⟩ 1 1 [.int .i64 x.due] rfl rfl (cells_new wa _ _) (by intro u hu; simp at hu; subst hu; rfl) (by have := HN1.out; unfold maxLen; omega) (by have := HN1.out; omega) (by have := HB1.out.size; simp; omega) ?_)
        intro v' w4 hown hgr _
        obtain ⟨A5, c5, rfl⟩ := Gn.own_form hown
        have O5 : Hid (w4.ownsRow w.heap.size 2 1 (.slice A5 (n + 1) c5) (n + 1) ((dues (vs.take (k + 1))).map fun x => Value.int .i64 x)) := by show World.ownsRow _ _ _ _ _ _ _; rw [HD2.out, List.map_append]; exact hown
        have B5 : Hid (Below w.heap.size w w4) := (HB1.out.alloc HB1.out.size _).grown hgr (by have := HB1.out.size; simp; omega) (fun q hq => (HO1.out.lt q hq).1)
        clear hown hgr HO HB HO1 HB1
        go_wp2_with fail
        go_roundw
        case rel => exact ⟨k + 1, n + 1, A5, c5, hkn, Nat.succ_le_succ hnk, by go_num, rfl, O5.out, B5.out⟩
        case measure => simp [intOf]; omega
      · have e0 : So.okE x.due = 4 := by unfold So.okE; rw [if_neg hd]
        rw [e0] at CX
        have HD2 : Hid (dues (vs.take (k + 1)) = dues (vs.take k)) := by show _ = _; rw [HDT.out, if_neg hd, List.append_nil]
        clear hd e0 HDT
        go_wp2_with fail
        refine (CX.out _).mono ?_
        rintro e w3 ⟨rfl, rfl⟩
        go_wp2_with fail
        go_roundw
        case rel => exact ⟨k + 1, n, A2, c2, hkn, Nat.le_succ_of_le hnk, by go_num, rfl, (by show World.ownsRow _ _ _ _ _ _ _; rw [HD2.out]; exact HO1.out), HB1.out⟩
        case measure => simp [intOf]; omega
    · obtain rfl : k = vs.length := by omega
      have hd1 : decide (vs.length < vs.length) = false := decide_eq_false (Nat.lt_irrefl _)
      have hd2 : decide ((vs.length : Int) < (vs.length : Int)) = false := decide_eq_false (Int.lt_irrefl _)
      have HI : Hid (IS wr (.slice A2 n c2) (dues vs)) := by
        have h := Sl.of_own HO.out
        rw [List.take_length] at h
        have e : n = (dues vs).length := by have := h.1; simpa using this.symm
        unfold IS
        rw [← e]
        exact h
      have CS := Lib.hid (sum_any (dues vs) _ wr (by have := dues_len vs; have := HLEN.out; omega) (dues_range vs) HI.out)
      obtain ⟨s, hs⟩ : ∃ s, s = (dues vs).sum := ⟨_, rfl⟩
      rw [← hs] at CS
      have HSS := Lib.hid hs
      clear hs
      go_wp2_with fail
      refine CS.out.mono ?_
      rintro e w5 ⟨rfl, d5⟩
      have B5 := Lib.hid (chain0 HB.out d5)
      clear d5
      go_wp2_with fail
      go_ret
      exact ⟨by rw [← HSS.out]; rfl, B5.out⟩
theorem ba_ext {a b : ByteArray} (h : a.data.toList = b.data.toList) : a = b := by
  obtain ⟨⟨x⟩⟩ := a
  obtain ⟨⟨y⟩⟩ := b
  simp at h
  rw [h]
theorem add_big (a b : ByteArray) (h : a.size + b.size ≤ 100000) (W : World) : (Op.stringOp .add a b).run Tryz.prog W = .ok (.string (a ++ b)) W := run_string_add_sum W _ _ (by omega)
theorem is_three (w : World) (a b c : Int) : IS (w.alloc (.cells #[.int .i64 a, .int .i64 b, .int .i64 c] 2)) (.slice (some ⟨w.heap.size, 0, none⟩) 3 3) [a, b, c] := by
  have h := is_of_blk (m := 3) (f := fun i => match i with | 0 => a | 1 => b | _ => c) (Blk.new w 2 #[.int .i64 a, .int .i64 b, .int .i64 c]) (by unfold maxLen; omega)
  exact h
theorem is_one (w : World) (a : Int) : IS (w.alloc (.cells #[.int .i64 a] 2)) (.slice (some ⟨w.heap.size, 0, none⟩) 1 1) [a] := by
  have h := is_of_blk (m := 1) (f := fun _ => a) (Blk.new w 2 #[.int .i64 a]) (by unfold maxLen; omega)
  exact h
end Go.Proofs.YthehchdonmmpaaaGreatDoor.Pr
