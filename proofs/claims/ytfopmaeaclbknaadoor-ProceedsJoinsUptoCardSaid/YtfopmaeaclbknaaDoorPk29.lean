/- Contract of the reference's Check of a list of sellers. Printed by gen_pr3.py. Plain laws on maps of the call's own, over any program: look-ups whose answer is known; a map of texts to bools, a map of numbers to numbers. -/
import Derived.Test.YtfopmaeaclbknaaDoorPk28
import Derived.Deep.LoopGhost
import Derived.Maps.Own
import Derived.Maps.OwnOps
import Derived.Maps.OwnSet
import Derived.Maps.Views
import Derived.StringKeys
import Derived.Test.YtfopmaeaclbknaaDoorPk00
namespace Go.Proofs.YtfopmaeaclbknaaDoor.Pr
open Go.ChangeShapes Go.WideShapes Go.ChangeAt Go.RowKit Gn Cat Lex
set_option linter.unusedVariables false
set_option linter.unusedSimpArgs false
/-- which products are owned, in memory -/
def boolArr (n : Nat) (o : Own) : Array Value := ((List.range n).map fun k => Value.bool (o k).isSome).toArray
theorem boolArr_get {n k : Nat} (o : Own) (h : k < n) : (boolArr n o)[k]? = some (.bool (o k).isSome) := by simp [boolArr, h]
theorem boolArr_set {n k : Nat} (o : Own) (i : Nat) : (boolArr n o).setIfInBounds k (.bool true) = boolArr n (o.put k i) := by
  apply Array.ext_getElem?
  intro j
  unfold boolArr
  rw [Array.getElem?_setIfInBounds]
  by_cases hj : j < n
  · by_cases e : k = j
    · subst e
      simp [hj, Own.put]
    · have e2 : ¬ j = k := fun h => e h.symm
      simp [hj, e, e2, Own.put]
  · by_cases e : k = j
    · subst e
      simp [hj]
    · simp [hj, e]
theorem boolArr_made (n : Nat) : madeCells #[Value.bool false] n = boolArr n (fun _ => none) := by
  apply Array.ext_getElem?
  intro j
  by_cases hj : j < n <;> simp [madeCells, boolArr, Nat.mod_one, hj]
theorem run_make_bools {P : Program} (t e : TypeId) (i : TypeInfo) (ht : P.underlying t = some (.slice e)) (hi : P.info? e = some i) (hz : i.zero = some (.bool false)) (hs : i.size = 1) (hb : i.bytes = 1) (n : Nat) (hn : n ≤ 1000) (w : World) :
    (Instr.makeSlice t (.int .i64 (n : Int)) (.int .i64 (n : Int))).run P w = .ok (.slice (some ⟨w.heap.size, 0, none⟩) n n) (w.alloc (.cells (boolArr n fun _ => none) e)) := by
  have hr := run_make (P := P) w t e i (.bool false) ht hi hz .i64 .i64 n n (by omega) (by omega) (by rw [hb]; omega) (by omega)
  simp only [Int.toNat_natCast, hs, Nat.mul_one] at hr
  rw [show (Value.bool false).cells = #[Value.bool false] from rfl, boolArr_made] at hr
  exact hr
/-- the memory of the reference's Check at work -/
structure RcSt (w wr : World) (g : Nat) (n : Nat) (o : Own) : Prop where
  b : Blk wr g 4 (boolArr n o)
  below : Below w.heap.size w wr
section
variable {w wr : World} {g n : Nat} {o : Own}
theorem RcSt.keep (h : RcSt w wr g n o) {w2 : World} (b : Below wr.heap.size wr w2) : RcSt w w2 g n o := ⟨h.b.below' b, chain0 h.below b⟩
theorem RcSt.put (h : RcSt w wr g n o) (hg : w.heap.size ≤ g) (k i : Nat) : RcSt w (wr.setCell ⟨g, k, none⟩ (.bool true)) g n (o.put k i) :=
  ⟨by have := h.b.put k (.bool true); rwa [boolArr_set o i] at this, h.below.setCell (by show w.heap.size ≤ g; exact hg) _⟩
end
/-- the first error of what is left, in a check whose answer is R -/
def RIs (n : Nat) (l : List Sel) (k : Nat) (o : Own) (R : Except Int Own) : Prop := ownF n (ownGo n l (l.drop k) k o) = R
abbrev RPost (R : Except Int Own) (w : World) (e : Ending) (w' : World) : Prop := e = .returned (.int .i64 (errOf R)) ∧ Below w.heap.size w w'
theorem restR_err {n : Nat} {l : List Sel} {k : Nat} (e : Int) : ownF n (restR n l k (.error e)) = .error e := rfl
set_option maxHeartbeats 4000000 in
set_option maxRecDepth 100000 in
theorem rsel_some (A1 : Option Addr) (n c1 : Nat) (v2 v3 v4 : Value) (ps : List Prod) (l : List Sel) (A : Option Addr) (c : Nat) (w : World) (hn0 : 0 < n) (hn : n ≤ 6) (hl0 : 0 < l.length) (hl : l.length ≤ 6) (hv : SelOk w l) (hp : ∀ x ∈ l, x.ps.length ≤ 1000) (h : SelS w (.slice A l.length c) l)
    (CC : ∀ W, Below w.heap.size w W → Calls Tryd.prog 65 #[.slice A1 n c1] W fun e w' => e = .returned (.int .i64 0) ∧ Below W.heap.size W w') :
    Calls Tryd.prog 38 #[.agg #[.slice A1 n c1, v2, v3, v4], .slice A l.length c] w (RPost (ownR n l) w) := by
  obtain ⟨i0, hi0, hz0, hz1, hz2⟩ := info_parts (show (Tryd.prog.info? 4).map (fun i => (i.zero, i.size, i.bytes)) = some (some (.bool false), 1, 1) by kernel_rfl)
  have HM := Lib.hid (fun w => run_make_bools (P := Tryd.prog) 115 4 i0 Tryd.underlying115 hi0 hz0 hz1 hz2 n (by omega) w)
  obtain ⟨A', c', e', _, _, hr⟩ := sl_parts h
  injection e' with e1 e2 e3
  subst e1 e3
  have HR := Lib.hid hr
  have HV := Lib.hid (fun (k : Nat) (hk : k < l.length) => hv _ (List.getElem_mem hk))
  have HLEN : Hid (l.length ≤ 6) := hl
  have HPS := Lib.hid (fun (k : Nat) (hk : k < l.length) => hp _ (List.getElem_mem hk))
  have CC := Lib.hid CC
  have q0 : ((l.length : Int) == 0) = false := beq_eq_false_iff_ne.2 (by omega)
  have q1 : decide (6 < l.length) = false := decide_eq_false (by omega)
  have q2 : decide ((6 : Int) < (l.length : Int)) = false := decide_eq_false (by omega)
  have hn6 : (n : Int) ≤ 6 := by omega
  obtain ⟨R, hR⟩ : ∃ R, R = ownR n l := ⟨_, rfl⟩
  rw [← hR]
  have HR0 : Hid (RIs n l 0 (fun _ => none) R) := by show ownF n _ = R; rw [hR]; rfl
  have BX := Lib.hid (below_new w (.cells #[.slice A1 n c1, v2, v3, v4] 48))
  have bx := (Blk.new w 48 #[.slice A1 n c1, v2, v3, v4])
  clear h hr hl hR hv hp
  go_enter Tryd.func38, Tryd.ntmps38
  go_wp2_with fail
  refine (CC.out _ BX.out).mono ?_
  rintro e w1 ⟨rfl, d1⟩
  have B1 := Lib.hid (chain0 BX.out d1)
  have bx1 := bx.below' d1
  have cx := bx1.c4
  have hm := HM.out w1
  clear d1 bx BX CC HM
  go_wp2_with fail
  have ST0 : Hid (RcSt w (w1.alloc (.cells (boolArr n fun _ => none) 4)) w1.heap.size n (fun _ => none)) := ⟨Blk.new _ _ _, B1.out.alloc B1.out.size _⟩
  have hgw : w.heap.size ≤ w1.heap.size := B1.out.size
  clear hm cx bx1 B1 q0 q1 q2
  generalize w1.alloc (.cells (boolArr n fun _ => none) 4) = w2 at *
  generalize w1.heap.size = g at *
  go_loopw [7] (fun iv wr => ∃ (k : Nat) (ow : Own), k ≤ l.length ∧ iv = .int .i64 (k : Int) ∧ Hid (RIs n l k ow R) ∧ Hid (RcSt w wr g n ow)) (fun iv _ => l.length - (intOf iv).toNat)
  case atStart => exact ⟨0, fun _ => none, Nat.zero_le _, rfl, HR0, ST0⟩
  case round =>
    clear ST0 HR0
    obtain ⟨k, ow, hk, rfl, HRI, HS⟩ := hrel
    have hk0 : (0 : Int) ≤ (k : Int) := by omega
    have hk5 : (k : Int) ≤ 6 := by have := HLEN.out; omega
    have hl6 : (l.length : Int) ≤ 6 := by have := HLEN.out; omega
    by_cases hkn : k < l.length
    · have hd1 : decide (k < l.length) = true := decide_eq_true hkn
      have hd2 : decide ((k : Int) < (l.length : Int)) = true := decide_eq_true (by omega)
      have hkn1 : (k : Int) < (l.length : Int) := by omega
      obtain ⟨b, o, e1, hb, hrow⟩ := HR.out (by omega)
      subst e1
      have HAT := Lib.hid (fun W (bw : Below w.heap.size w W) => fun j (hj : j < l.length) => sel_at (hrow.below hb bw) j hj)
      have hat := HAT.out _ HS.out.below k hkn
      have HSP := Lib.hid (ownGo_drop (n := n) hkn ow)
      have HSR := Lib.hid (fun h1 h2 => ownGo_rest (n := n) hkn ow h1 h2)
      obtain ⟨hnm, hvs⟩ := HV.out k hkn
      have hpl := HPS.out k hkn
      have CN := Lib.hid (fun W => refIsName_any l[k].name W hnm)
      have HAK := Lib.hid (fun W bw => HAT.out W bw k hkn)
      obtain ⟨x, hx⟩ : ∃ x, x = l[k] := ⟨_, rfl⟩
      rw [← hx] at hat HSP HSR hvs hpl CN HAK
      obtain ⟨nm, vx, px⟩ := x
      dsimp only at hat HSP HSR hvs hpl CN HAK
      obtain ⟨Ap, cp, hvx, _, _, hrp⟩ := sl_parts hvs
      subst hvx
      have HRP := Lib.hid hrp
      clear hx hnm hvs hrow hrp
      cases hq : nameOk nm with
      | false =>
        have HE : Hid (R = .error 5) := by have := HRI.out; unfold RIs at this; rw [HSP.out, hq] at this; exact this.symm
        clear HSP HSR
        go_wp2_with fail
        refine (CN.out _).mono ?_
        rintro e w3 ⟨rfl, d3⟩
        have B3 := Lib.hid (chain0 HS.out.below d3)
        rw [hq]
        clear d3
        go_wp2_with fail
        go_ret
        exact ⟨by rw [HE.out]; rfl, B3.out⟩
      | true =>
        have HQ := Lib.hid hq
        go_wp2_with fail
        refine (CN.out _).mono ?_
        rintro e w3 ⟨rfl, d3⟩
        have HS3 := Lib.hid (HS.out.keep d3)
        rw [HQ.out]
        clear d3 hat HS hq
        go_wp2_with fail
        go_loopw [8] (fun iv wr => ∃ j : Nat, j ≤ k ∧ iv = .int .i64 (j : Int) ∧ Hid (hasName (l.take j) nm = false) ∧ Hid (RcSt w wr g n ow)) (fun iv _ => k - (intOf iv).toNat)
        case atStart => exact ⟨0, Nat.zero_le _, rfl, hasName_zero _, HS3.out⟩
        case round =>
          clear HS3
          obtain ⟨j, hj, rfl, HNF, HS⟩ := hrel
          have hj0 : (0 : Int) ≤ (j : Int) := by omega
          have hj5 : (j : Int) ≤ 6 := by omega
          by_cases hjk : j < k
          · have hf1 : decide (j < k) = true := decide_eq_true hjk
            have hf2 : decide ((j : Int) < (k : Int)) = true := decide_eq_true (by omega)
            have hjl : j < l.length := by omega
            have hjl1 : (j : Int) < (l.length : Int) := by omega
            have hat := HAK.out _ HS.out.below
            have hau := HAT.out _ HS.out.below j hjl
            have HNX := Lib.hid (hasName_take hjl nm)
            obtain ⟨yn, hyn⟩ : ∃ yn, yn = l[j].name := ⟨_, rfl⟩
            obtain ⟨yv, hyv⟩ : ∃ yv, yv = l[j].v := ⟨_, rfl⟩
            rw [← hyn, ← hyv] at hau
            rw [← hyn] at HNX
            clear hyn hyv
            cases hq : eqB yn nm with
            | true =>
              have hq2 : (yn.toList == nm.toList) = true := hq
              have HE : Hid (R = .error 7) := by
                have h1 := HRI.out; unfold RIs at h1; rw [HSP.out, HQ.out, if_pos rfl] at h1
                have h2 : hasName (l.take k) nm = true := by
                  have h3 : hasName (l.take (j + 1)) nm = true := by rw [HNX.out, hq, Bool.or_true]
                  unfold hasName at h3 ⊢
                  rw [List.any_eq_true] at h3 ⊢
                  obtain ⟨z, hz, hz2⟩ := h3
                  exact ⟨z, (List.take_subset_take_left _ (by omega)) hz, hz2⟩
                rw [h2, if_pos rfl] at h1
                exact h1.symm
              clear hq
              go_wp2_with fail
              go_quiet (fail)
              go_wp2_with fail
              go_ret
              exact ⟨by rw [HE.out]; rfl, chain0 HS.out.below (drewN_below _ _)⟩
            | false =>
              have hq2 : (yn.toList == nm.toList) = false := hq
              have HN2 : Hid (hasName (l.take (j + 1)) nm = false) := by show _ = _; rw [HNX.out, hq, HNF.out]; rfl
              clear hq
              go_wp2_with fail
              go_quiet (fail)
              go_wp2_with fail
              go_roundw
              case rel => exact ⟨j + 1, hjk, by go_num, HN2.out, HS.out.keep (drewN_below _ _)⟩
              case measure => simp [intOf]; omega
          · obtain rfl : j = k := by omega
            have hf1 : decide (j < j) = false := decide_eq_false (Nat.lt_irrefl _)
            have hf2 : decide ((j : Int) < (j : Int)) = false := decide_eq_false (Int.lt_irrefl _)
            have HT0 : Hid (ownF n (restR n l j (takeP n j px ow)) = R) := by have := HRI.out; unfold RIs at this; rw [HSR.out HQ.out HNF.out] at this; exact this
            clear HSP HSR HNF HRI
            go_wp2_with fail
            clear hf1 hf2
            go_loopw [9] (fun iv wr => ∃ (i : Nat) (o2 : Own), i ≤ px.length ∧ iv = .int .i64 (i : Int) ∧ Hid (ownF n (restR n l j (takeP n j (px.drop i) o2)) = R) ∧ Hid (RcSt w wr g n o2)) (fun iv _ => px.length - (intOf iv).toNat)
            case atStart => exact ⟨0, ow, Nat.zero_le _, rfl, HT0.out, HS.out⟩
            case round =>
              clear HT0 HS
              obtain ⟨i, o2, hi, rfl, HT, HS⟩ := hrel
              have hi0' : (0 : Int) ≤ (i : Int) := by omega
              have hi5 : (i : Int) ≤ 1000 := by omega
              have hat := HAK.out _ HS.out.below
              by_cases hin : i < px.length
              · have hf1 : decide (i < px.length) = true := decide_eq_true hin
                have hf2 : decide ((i : Int) < (px.length : Int)) = true := decide_eq_true (by omega)
                have hin1 : (i : Int) < (px.length : Int) := by omega
                obtain ⟨bp, op, e1, hbp, hcp⟩ := HRP.out (by omega)
                subst e1
                have ct : wr.cell? ⟨bp, op + i, none⟩ = some (.int .i64 px[i]) := (HS.out.below.cell (p := ⟨bp, op + i, none⟩) hbp).trans (hcp i _ (by simp [hin]))
                have HTD := Lib.hid (takeP_drop (n := n) (i := j) hin o2)
                generalize px[i] = p at *
                clear hcp hbp
                by_cases p0 : p < 0
                · have y1 : decide (p < 0) = true := decide_eq_true p0
                  have HE : Hid (R = .error 6) := by have := HT.out; rw [HTD.out, if_pos (Or.inl p0)] at this; exact this.symm
                  clear p0
                  go_wp2_with fail
                  go_ret
                  exact ⟨by rw [HE.out]; rfl, HS.out.below⟩
                have y1 : decide (p < 0) = false := decide_eq_false p0
                by_cases p1 : (n : Int) ≤ p
                · have y2 : decide ((n : Int) ≤ p) = true := decide_eq_true p1
                  have HE : Hid (R = .error 6) := by have := HT.out; rw [HTD.out, if_pos (Or.inr p1)] at this; exact this.symm
                  clear p0 p1
                  go_wp2_with fail
                  go_ret
                  exact ⟨by rw [HE.out]; rfl, HS.out.below⟩
                have y2 : decide ((n : Int) ≤ p) = false := decide_eq_false p1
                obtain ⟨m, rfl⟩ : ∃ m : Nat, p = (m : Int) := ⟨p.toNat, by omega⟩
                have hmn : m < n := by omega
                have hm0 : (0 : Int) ≤ (m : Int) := by omega
                have hmn1 : (m : Int) < (n : Int) := by omega
                have y3 : decide (n ≤ m) = false := decide_eq_false (by omega)
                have HTE : Hid (takeP n j (px.drop i) o2 = if (o2 m).isSome then .error 7 else takeP n j (px.drop (i + 1)) (o2.put m j)) := by show _ = _; rw [HTD.out, if_neg (by omega)]; rfl
                clear HTD p0 p1
                have co : wr.cell? ⟨g, m, none⟩ = some (.bool (o2 m).isSome) := (HS.out.b.cell m).trans (boolArr_get o2 hmn)
                have cf : wr.frozen? ⟨g, m, none⟩ = false := HS.out.b.free m
                have hgl := HS.out.b.lt
                cases ho : (o2 m).isSome with
                | true =>
                  rw [ho] at co
                  have HE : Hid (R = .error 7) := by have := HT.out; rw [HTE.out, if_pos ho] at this; exact this.symm
                  clear ho
                  go_wp2_with fail
                  go_ret
                  exact ⟨by rw [HE.out]; rfl, HS.out.below⟩
                | false =>
                  rw [ho] at co
                  have HT2 : Hid (ownF n (restR n l j (takeP n j (px.drop (i + 1)) (o2.put m j))) = R) := by have := HT.out; rw [HTE.out, ho, if_neg (by simp)] at this; exact this
                  clear ho
                  go_wp2_with fail
                  go_roundw
                  case rel => exact ⟨i + 1, o2.put m j, hin, by go_num, HT2.out, HS.out.put hgw m j⟩
                  case measure => simp [intOf]; omega
              · obtain rfl : i = px.length := by omega
                have hf1 : decide (px.length < px.length) = false := decide_eq_false (Nat.lt_irrefl _)
                have hf2 : decide ((px.length : Int) < (px.length : Int)) = false := decide_eq_false (Int.lt_irrefl _)
                have HR2 : Hid (RIs n l (j + 1) o2 R) := by have := HT.out; rw [takeP_end] at this; exact this
                go_wp2_with fail
                go_roundw
                case rel => exact ⟨j + 1, o2, hkn, by go_num, HR2.out, HS.out⟩
                case measure => simp [intOf]; omega
    · obtain rfl : k = l.length := by omega
      have hd1 : decide (l.length < l.length) = false := decide_eq_false (Nat.lt_irrefl _)
      have hd2 : decide ((l.length : Int) < (l.length : Int)) = false := decide_eq_false (Int.lt_irrefl _)
      have HF : Hid ((if fullO n ow then Except.ok ow else .error 6) = R) := by have := HRI.out; unfold RIs at this; rw [ownGo_end] at this; exact this
      clear HRI
      go_wp2_with fail
      clear hd1 hd2
      go_loopw [11] (fun iv wr => ∃ i : Nat, i ≤ n ∧ iv = .int .i64 (i : Int) ∧ Hid (∀ q, q < i → (ow q).isSome = true) ∧ Hid (RcSt w wr g n ow)) (fun iv _ => n - (intOf iv).toNat)
      case atStart => exact ⟨0, Nat.zero_le _, rfl, fun q hq => absurd hq (by omega), HS.out⟩
      case round =>
        clear HS
        obtain ⟨i, hi, rfl, HQ, HS⟩ := hrel
        have hi0' : (0 : Int) ≤ (i : Int) := by omega
        have hi5 : (i : Int) ≤ 6 := by omega
        by_cases hin : i < n
        · have hf1 : decide (i < n) = true := decide_eq_true hin
          have hf2 : decide ((i : Int) < (n : Int)) = true := decide_eq_true (by omega)
          have hin1 : (i : Int) < (n : Int) := by omega
          have co : wr.cell? ⟨g, i, none⟩ = some (.bool (ow i).isSome) := (HS.out.b.cell i).trans (boolArr_get ow hin)
          cases ho : (ow i).isSome with
          | true =>
            rw [ho] at co
            have HQ2 : Hid (∀ q, q < i + 1 → (ow q).isSome = true) := by
              intro q hq
              by_cases e : q = i
              · rw [e]; exact ho
              · exact HQ.out q (by omega)
            clear ho
            go_wp2_with fail
            go_roundw
            case rel => exact ⟨i + 1, hin, by go_num, HQ2.out, HS.out⟩
            case measure => simp [intOf]; omega
          | false =>
            rw [ho] at co
            have HE : Hid (R = .error 6) := by
              have := HF.out
              rw [if_neg (fun h => by have := fullO_iff.1 h i hin; rw [ho] at this; cases this)] at this
              exact this.symm
            clear ho
            go_wp2_with fail
            go_ret
            exact ⟨by rw [HE.out]; rfl, HS.out.below⟩
        · obtain rfl : i = n := by omega
          have hf1 : decide (i < i) = false := decide_eq_false (Nat.lt_irrefl _)
          have hf2 : decide ((i : Int) < (i : Int)) = false := decide_eq_false (Int.lt_irrefl _)
          have HE : Hid (R = .ok ow) := by
            have := HF.out
            rw [if_pos (fullO_iff.2 HQ.out)] at this
            exact this.symm
          go_wp2_with fail
          go_ret
          exact ⟨by rw [HE.out]; rfl, HS.out.below⟩
end Go.Proofs.YtfopmaeaclbknaaDoor.Pr
namespace Go.Proofs.YtfopmaeaclbknaaDoor.Mp
open Go.ChangeShapes Go.WideShapes Go.ChangeAt Go.RowKit Go.Maps
section
variable {H : Type} {P : Program} {w : World} {k e t : TypeId} {b n : Nat} {D : DataW H}
theorem look_bool (h : w.ownsMap P k (plainElem P e) b n D) (K : Keyed P k) (ht : P.underlying t = some (.map k e)) (he : P.underlying e = some .bool) (hz : (zeroValue e).run P w = .ok (.bool false) w) {key : Value} {kl : Lit} (hkey : keyOf P k key = some kl) {x : Bool} (hat : D.atKey kl (.lit (.bool false)) = .lit (.bool x)) :
    (Instr.lookup t (.map (some b)) key false).run P w = .ok (.bool x) w := by
  obtain ⟨v, ps, hrun, hv⟩ := h.lookup K ht hz (plainElem_bool he false) hkey
  rw [hat] at hv
  rw [hrun]
  unfold plainElem at hv
  rw [he] at hv
  cases v <;> simp at hv
  rw [hv.1]
theorem look_int {q : IntKind} (h : w.ownsMap P k (plainElem P e) b n D) (K : Keyed P k) (ht : P.underlying t = some (.map k e)) (he : P.underlying e = some (.int q)) (hz : (zeroValue e).run P w = .ok (.int q 0) w) {key : Value} {kl : Lit} (hkey : keyOf P k key = some kl) {c : Int} (hat : D.atKey kl (.lit (.int q 0)) = .lit (.int q c)) :
    (Instr.lookup t (.map (some b)) key false).run P w = .ok (.int q c) w := by
  obtain ⟨c', hrun, h2, _⟩ := h.lookup_int K ht he hz hkey
  rw [hat] at h2
  injection h2 with h2
  injection h2 with _ h2
  rw [hrun, h2]
theorem look_ok_int {q : IntKind} (h : w.ownsMap P k (plainElem P e) b n D) (K : Keyed P k) (ht : P.underlying t = some (.map k e)) (he : P.underlying e = some (.int q)) (hz : (zeroValue e).run P w = .ok (.int q 0) w) {key : Value} {kl : Lit} (hkey : keyOf P k key = some kl) {x : Bool} (hx : Maps.has D kl = x) :
    ∃ c : Int, (Instr.lookup t (.map (some b)) key true).run P w = .ok (.tuple #[.int q c, .bool x]) w := by
  obtain ⟨v, ps, hrun, hv⟩ := h.look_ok K ht hz (plainElem_int he (by cases q <;> decide)) hkey
  obtain ⟨c, rfl, _, _⟩ := plainElem_int_inv he hv
  exact ⟨c, by rw [hrun, hx]⟩
theorem tight {R : Value → Option (DataW H × List MemPlace)} (h : w.ownsMap P k R b n D) : w.ownsMap P k R b (Maps.size D) D := by
  obtain ⟨es, clock, hb, F, hs, rfl⟩ := h
  exact ⟨es, clock, hb, F, by simp [Maps.size, length_sorted], rfl⟩
end
section
variable {P : Program} (w : World)
theorem wpList_lookup_run {ops : Array Oper} {rest : List Oper} {o : Oper} {a : Act} {Q : Exit → Act → World → Prop} (hg : o.guard = none) (m x : Operand) (t : TypeId) (c : Bool) (hop : o.op = Op.lookup t m x c)
    (vm key v : Value) (hm : a.eval m = vm) (hx : a.eval x = key) (hrun : (Instr.lookup t vm key c).run P w = .ok v w) (hK : wpList P ops Q rest (a.put o.dst v) w) : wpList P ops Q (o :: rest) a w := by
  refine wpList_plain hg fun K' hK' => ?_
  unfold Oper.wp
  simp [execOp, hop, hm, hx, hrun, Result.andThen]
  exact hK' _ _ hK
end
end Go.Proofs.YtfopmaeaclbknaaDoor.Mp
