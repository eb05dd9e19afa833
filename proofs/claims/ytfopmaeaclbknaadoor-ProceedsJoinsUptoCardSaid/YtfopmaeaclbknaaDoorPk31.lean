/- Contracts of proceeds.check, Check and of the reference's Check, whole. Printed by gen_pr5.py. Contracts of Points, Reserve, Units. Printed by gen_catF.py. Contract of the reference's Sums. -/
import Derived.Test.YtfopmaeaclbknaaDoorPk29
import Derived.Test.YtfopmaeaclbknaaDoorPk30
import Derived.Test.YtfopmaeaclbknaaDoorPk19
namespace Go.Proofs.YtfopmaeaclbknaaDoor.Pr
open Go.ChangeShapes Go.WideShapes Go.ChangeAt Go.RowKit Go.Maps Go.WideMaps Gn Cat Lex
set_option linter.unusedVariables false
set_option linter.unusedSimpArgs false
theorem selR_bad {ps : List Prod} {l : List Sel} (h : checkE ps ≠ 0) : selR ps l = .error (checkE ps) := by unfold selR; rw [if_neg h]
theorem selR_none {ps : List Prod} {l : List Sel} (h : checkE ps = 0) (h0 : l.length = 0) : selR ps l = .error 1 := by unfold selR; rw [if_pos h, if_pos h0]
theorem selR_long {ps : List Prod} {l : List Sel} (h : checkE ps = 0) (h0 : 6 < l.length) : selR ps l = .error 3 := by unfold selR; rw [if_pos h, if_neg (by omega), if_pos h0]
theorem selR_some {ps : List Prod} {l : List Sel} (h : checkE ps = 0) (h0 : 0 < l.length) (h6 : l.length ≤ 6) : selR ps l = ownR ps.length l := by unfold selR; rw [if_pos h, if_neg (by omega), if_neg (by omega)]
/-- a setup of which the products are known -/
structure SetP (w : World) (v1 : Value) (ps : List Prod) : Prop where
  sl : PS w v1 ps
  len : ps.length ≤ 5000
  names : ∀ p ∈ ps, p.name.size ≤ maxLen
theorem SetP.keep {w w' : World} {v1 : Value} {ps : List Prod} (h : SetP w v1 ps) (b : Below w.heap.size w w') : SetP w' v1 ps := ⟨h.sl.keep b, h.len, h.names⟩
structure SellP (w : World) (v : Value) (l : List Sel) : Prop where
  sl : SelS w v l
  ok : SelOk w l
  few : ∀ x ∈ l, x.ps.length ≤ 1000
  size : l.length * 40 ≤ 140737488355328
theorem SellP.keep {w w' : World} {v : Value} {l : List Sel} (h : SellP w v l) (b : Below w.heap.size w w') : SellP w' v l := ⟨h.sl.keep b, h.ok.keep b, h.few, h.size⟩
set_option maxHeartbeats 1000000 in
theorem check_any (ps : List Prod) (l : List Sel) (v1 v2 v3 v4 v : Value) (w : World) (hs : SetP w v1 ps) (hl : SellP w v l) : Calls Tryd.prog 61 #[.agg #[v1, v2, v3, v4], v] w (OwnPost ps.length (selR ps l) w) := by
  have CC := Lib.hid (fun W (b : Below w.heap.size w W) => Cat.check_any ps v1 W hs.len (hs.sl.keep b) hs.names)
  have HS := Lib.hid hs
  have HL := Lib.hid hl
  obtain ⟨A1, c1, rfl, _⟩ := ps_cases hs.sl
  obtain ⟨A, c, rfl, _⟩ := sl_parts hl.sl
  have BX := Lib.hid (below_new w (.cells #[.slice A1 ps.length c1, v2, v3, v4] 48))
  have bx := Blk.new w 48 #[.slice A1 ps.length c1, v2, v3, v4]
  have hl0 : (0 : Int) ≤ (l.length : Int) := by omega
  by_cases hE : checkE ps = 0
  case neg =>
    have HR := Lib.hid (selR_bad (l := l) hE)
    obtain ⟨x, hx⟩ : ∃ x, x = checkE ps := ⟨_, rfl⟩
    rw [← hx] at hE HR
    have CX := Lib.hid (fun W b => by have := CC.out W b; unfold CheckPost at this; rw [← hx] at this; exact this)
    have q1 : (x != 0) = true := by simpa using hE
    clear hE hx hs hl CC
    go_enter Tryd.func61, Tryd.ntmps61
    go_wp2_with fail
    refine (CX.out _ BX.out).mono ?_
    rintro e w1 ⟨rfl, d1⟩
    have B1 := Lib.hid (chain0 BX.out d1)
    have bx1 := (bx.below' d1).c4
    clear d1
    go_wp2_with fail
    go_ret2
    exact OwnPost.err HR.out B1.out
  have CX := Lib.hid (fun W b => by have := CC.out W b; unfold CheckPost at this; rw [hE] at this; exact this)
  by_cases h0 : l.length = 0
  · have HR := Lib.hid (selR_none hE h0)
    have q1 : ((l.length : Int) == 0) = true := beq_iff_eq.2 (by omega)
    rw [h0] at q1 ⊢
    clear hE h0 hs hl CC hl0
    go_enter Tryd.func61, Tryd.ntmps61
    go_wp2_with fail
    refine (CX.out _ BX.out).mono ?_
    rintro e w1 ⟨rfl, d1⟩
    have B1 := Lib.hid (chain0 BX.out d1)
    have bx1 := (bx.below' d1).c4
    clear d1
    go_wp2_with fail
    go_ret2
    exact OwnPost.err HR.out B1.out
  have q1 : ((l.length : Int) == 0) = false := beq_eq_false_iff_ne.2 (by omega)
  by_cases h6 : 6 < l.length
  · have HR := Lib.hid (selR_long hE h6)
    have q2 : decide (6 < l.length) = true := decide_eq_true h6
    have q3 : decide ((6 : Int) < (l.length : Int)) = true := decide_eq_true (by omega)
    clear hE h0 h6 hs hl CC
    go_enter Tryd.func61, Tryd.ntmps61
    go_wp2_with fail
    refine (CX.out _ BX.out).mono ?_
    rintro e w1 ⟨rfl, d1⟩
    have B1 := Lib.hid (chain0 BX.out d1)
    have bx1 := (bx.below' d1).c4
    clear d1
    go_wp2_with fail
    go_ret2
    exact OwnPost.err HR.out B1.out
  have HR := Lib.hid (selR_some (l := l) hE (by omega) (by omega))
  have hz := checkE_zero hE
  have q2 : decide (6 < l.length) = false := decide_eq_false h6
  have q3 : decide ((6 : Int) < (l.length : Int)) = false := decide_eq_false (by omega)
  have CO := Lib.hid (fun W (b : Below w.heap.size w W) => owners_some A1 ps.length c1 v2 v3 v4 l A c W hz.1 hz.2.1 (by omega) (hl.ok.keep b) hl.few (hl.sl.keep b))
  clear hE h0 h6 hs hl CC hz
  go_enter Tryd.func61, Tryd.ntmps61
  go_wp2_with fail
  refine (CX.out _ BX.out).mono ?_
  rintro e w1 ⟨rfl, d1⟩
  have B1 := Lib.hid (chain0 BX.out d1)
  have bx1 := (bx.below' d1).c4
  clear d1
  go_wp2_with fail
  refine (CO.out _ B1.out).mono ?_
  intro e w2 hpost
  cases hR : ownR ps.length l with
  | error x =>
    rw [hR] at hpost
    obtain ⟨rfl, d2⟩ := hpost
    have B2 := Lib.hid (chain0 B1.out d2)
    have HE := Lib.hid hR
    clear d2 hR
    go_wp2_with fail
    go_ret2
    exact OwnPost.err (HR.out.trans HE.out) B2.out
  | ok o =>
    rw [hR] at hpost
    obtain ⟨b, rfl, hm, hb, d2⟩ := hpost
    have B2 := Lib.hid (chain0 B1.out d2)
    have HM := Lib.hid hm
    have hb2 : w.heap.size ≤ b := Nat.le_trans B1.out.size hb
    have HE := Lib.hid hR
    clear d2 hm hb hR
    go_wp2_with fail
    go_ret2
    exact OwnPost.ok (HR.out.trans HE.out) HM.out hb2 B2.out
set_option maxHeartbeats 1000000 in
theorem rselCheck_any (ps : List Prod) (l : List Sel) (v1 v2 v3 v4 v : Value) (w : World) (hs : SetP w v1 ps) (hl : SellP w v l) : Calls Tryd.prog 38 #[.agg #[v1, v2, v3, v4], v] w (RPost (selR ps l) w) := by
  have CC := Lib.hid (fun W (b : Below w.heap.size w W) => rcheck_any ps v1 W hs.len (hs.sl.keep b) hs.names)
  have HS := Lib.hid hs
  have HL := Lib.hid hl
  obtain ⟨A1, c1, rfl, _⟩ := ps_cases hs.sl
  obtain ⟨A, c, rfl, _⟩ := sl_parts hl.sl
  have BX := Lib.hid (below_new w (.cells #[.slice A1 ps.length c1, v2, v3, v4] 48))
  have bx := Blk.new w 48 #[.slice A1 ps.length c1, v2, v3, v4]
  have hl0 : (0 : Int) ≤ (l.length : Int) := by omega
  by_cases hE : checkE ps = 0
  case neg =>
    have HR := Lib.hid (selR_bad (l := l) hE)
    obtain ⟨x, hx⟩ : ∃ x, x = checkE ps := ⟨_, rfl⟩
    rw [← hx] at hE HR
    have CX := Lib.hid (fun W b => by have := CC.out W b; unfold CheckPost at this; rw [← hx] at this; exact this)
    have q1 : (x != 0) = true := by simpa using hE
    clear hE hx hs hl CC
    go_enter Tryd.func38, Tryd.ntmps38
    go_wp2_with fail
    refine (CX.out _ BX.out).mono ?_
    rintro e w1 ⟨rfl, d1⟩
    have B1 := Lib.hid (chain0 BX.out d1)
    have bx1 := (bx.below' d1).c4
    clear d1
    go_wp2_with fail
    go_ret
    exact ⟨by rw [HR.out]; rfl, B1.out⟩
  have CX := Lib.hid (fun W b => by have := CC.out W b; unfold CheckPost at this; rw [hE] at this; exact this)
  by_cases h0 : l.length = 0
  · have HR := Lib.hid (selR_none hE h0)
    have q1 : ((l.length : Int) == 0) = true := beq_iff_eq.2 (by omega)
    rw [h0] at q1 ⊢
    clear hE h0 hs hl CC hl0
    go_enter Tryd.func38, Tryd.ntmps38
    go_wp2_with fail
    refine (CX.out _ BX.out).mono ?_
    rintro e w1 ⟨rfl, d1⟩
    have B1 := Lib.hid (chain0 BX.out d1)
    have bx1 := (bx.below' d1).c4
    clear d1
    go_wp2_with fail
    go_ret
    exact ⟨by rw [HR.out]; rfl, B1.out⟩
  have q1 : ((l.length : Int) == 0) = false := beq_eq_false_iff_ne.2 (by omega)
  by_cases h6 : 6 < l.length
  · have HR := Lib.hid (selR_long hE h6)
    have q2 : decide (6 < l.length) = true := decide_eq_true h6
    have q3 : decide ((6 : Int) < (l.length : Int)) = true := decide_eq_true (by omega)
    clear hE h0 h6 hs hl CC
    go_enter Tryd.func38, Tryd.ntmps38
    go_wp2_with fail
    refine (CX.out _ BX.out).mono ?_
    rintro e w1 ⟨rfl, d1⟩
    have B1 := Lib.hid (chain0 BX.out d1)
    have bx1 := (bx.below' d1).c4
    clear d1
    go_wp2_with fail
    go_ret
    exact ⟨by rw [HR.out]; rfl, B1.out⟩
  have HR := Lib.hid (selR_some (l := l) hE (by omega) (by omega))
  have hz := checkE_zero hE
  clear bx BX
  rw [HR.out]
  exact rsel_some A1 ps.length c1 v2 v3 v4 ps l A c w hz.1 hz.2.1 (by omega) (by omega) hl.ok hl.few hl.sl (fun W b => CX.out W b)
theorem selCheck_any (ps : List Prod) (l : List Sel) (v1 v2 v3 v4 v : Value) (w : World) (hs : SetP w v1 ps) (hl : SellP w v l) : Calls Tryd.prog 37 #[.agg #[v1, v2, v3, v4], v] w (RPost (selR ps l) w) := by
  have CC := Lib.hid (fun W (b : Below w.heap.size w W) => check_any ps l v1 v2 v3 v4 v W (hs.keep b) (hl.keep b))
  obtain ⟨A1, c1, rfl, _⟩ := ps_cases hs.sl
  obtain ⟨A, c, rfl, _⟩ := sl_parts hl.sl
  have BX := Lib.hid (below_new w (.cells #[.slice A1 ps.length c1, v2, v3, v4] 48))
  clear hs hl
  go_enter Tryd.func37, Tryd.ntmps37
  go_wp2_with fail
  refine (CC.out _ BX.out).mono ?_
  intro e w1 hpost
  cases hR : selR ps l with
  | error x =>
    rw [hR] at hpost
    obtain ⟨rfl, d1⟩ := hpost
    have B1 := Lib.hid (chain0 BX.out d1)
    have HE := Lib.hid hR
    clear d1 hR
    go_wp2_with fail
    go_ret
    exact ⟨by rw [HE.out]; rfl, B1.out⟩
  | ok o =>
    rw [hR] at hpost
    obtain ⟨b, rfl, hm, hb, d1⟩ := hpost
    have B1 := Lib.hid (chain0 BX.out d1)
    have HE := Lib.hid hR
    clear d1 hm hb hR
    go_wp2_with fail
    go_ret
    exact ⟨by rw [HE.out]; rfl, B1.out⟩
end Go.Proofs.YtfopmaeaclbknaaDoor.Pr
namespace Go.Proofs.YtfopmaeaclbknaaDoor
open Go.ChangeShapes Go.WideShapes Go.ChangeAt Go.RowKit
set_option linter.unusedVariables false
set_option linter.unusedSimpArgs false
namespace Cat
open Lex
theorem reserve_any (l : List Prod) (v : Value) (b : Nat → Int) (w : World) (hl : l.length ≤ 5000) (h : PS w v l) (hn : ∀ p ∈ l, p.name.size ≤ maxLen) :
    Calls Tryd.prog 84 #[v, .agg (arr b)] w fun e w' => e = .returned (.int .i64 (sumE Prod.reserve b l)) ∧ Below w.heap.size w w' := by
  have CS : Hid (∀ w', Below w.heap.size w w' → Calls Tryd.prog 115 #[.agg #[v, .int .i64 (b 0), .int .i64 (b 1), .int .i64 (b 2), .int .i64 (b 3), .int .i64 (b 4), .int .i64 (b 5)], .func (.func 116) #[] #[]] w' fun e w2 => e = .returned (.int .i64 (sumE Prod.reserve b l)) ∧ Below w'.heap.size w' w2) := by
    intro w' hb
    have h' := Sl.keep h hb
    obtain ⟨A, c, rfl, k1, k2, ha⟩ := ps_cases h'
    unfold sumE
    by_cases hz : checkE l = 0
    · cases hv : validB b with
      | false => rw [if_neg (by simp)]; exact sum_bad2 l A c b _ w' hl h' hn hz hv
      | true =>
        rw [if_pos ⟨hz, rfl⟩]
        obtain ⟨b1, o1, rfl, _, r⟩ := ha (checkE_zero hz).1
        exact sum_reserve l b1 o1 c b w' k1 k2 r hn hz hv
    · rw [if_neg (fun e => hz e.1)]
      exact sum_bad l A c b _ w' hl h' hn hz
  obtain ⟨A, c, rfl, _, _, _⟩ := ps_cases h
  clear h hn
  generalize sumE Prod.reserve b l = r at *
  unfold arr
  go_enter Tryd.func84, Tryd.ntmps84
  go_wp2_with fail
  refine (CS.out _ (below_new _ _)).mono ?_
  rintro e w1 ⟨rfl, d1⟩
  have B1 := Lib.hid (chain1 (Below.refl _ _) d1)
  clear d1
  go_wp2_with fail
  go_ret
  exact ⟨rfl, B1.out⟩
end Cat
end Go.Proofs.YtfopmaeaclbknaaDoor
namespace Go.Proofs.YtfopmaeaclbknaaDoor
open Go.ChangeShapes Go.WideShapes Go.ChangeAt Go.RowKit
set_option linter.unusedVariables false
set_option linter.unusedSimpArgs false
namespace Cat
open Lex
def lin (s x : Int) (j : Nat) : Int := s + j * x
theorem lin_zero (s x : Int) : lin s x 0 = s := by simp [lin]
theorem lin_succ (s x : Int) (j : Nat) : lin s x (j + 1) = lin s x j + x := by
  unfold lin
  rw [Int.natCast_add, Int.add_mul]
  omega
theorem lin_le {s x : Int} {j : Nat} (hj : j ≤ 4) (h0 : 0 ≤ s) (h1 : s ≤ 24000000) (h2 : 0 ≤ x) (h3 : x ≤ 1000000) : 0 ≤ lin s x j ∧ lin s x j ≤ 100000000 := by
  unfold lin
  have h4 : 0 ≤ (j : Int) * x := Int.mul_nonneg (by omega) h2
  have h5 : (j : Int) * x ≤ 4 * 1000000 := Int.mul_le_mul (by omega) h3 h2 (by omega)
  constructor <;> omega
def sums3 (g : Int) (b : Nat → Int) (l : List Prod) : Value := .tuple #[.int .i64 (sumE Prod.points b l), .int .i64 (sumE Prod.reserve b l), .int .i64 (sumE (gw g) b l)]
theorem rsums_bad (l : List Prod) (A : Option Addr) (c : Nat) (g : Int) (b : Nat → Int) (w : World) (hl : l.length ≤ 5000) (h : PS w (.slice A l.length c) l) (hn : ∀ p ∈ l, p.name.size ≤ maxLen) (hz : checkE l ≠ 0) :
    Calls Tryd.prog 85 #[.slice A l.length c, .int .i64 g, .agg (arr b)] w fun e w' => e = .returned (.tuple #[.int .i64 0, .int .i64 0, .int .i64 0]) ∧ Below w.heap.size w w' := by
  have CC := Lib.hid (fun w' (k : Below w.heap.size w w') => rcheck_any l (.slice A l.length c) w' hl (Sl.keep h k) hn)
  have hz2 : (checkE l != 0) = true := by simpa using hz
  clear h hn hz
  unfold arr
  go_enter Tryd.func85, Tryd.ntmps85
  go_wp2_with fail
  refine (CC.out _ (below_new _ _)).mono ?_
  rintro e w1 ⟨rfl, b1⟩
  have B1 := Lib.hid (chain1 (Below.refl _ _) b1)
  clear b1
  go_wp2_with fail
  go_ret3
  exact ⟨rfl, B1.out⟩
theorem rsums_bad2 (l : List Prod) (A : Option Addr) (c : Nat) (g : Int) (b : Nat → Int) (w : World) (hl : l.length ≤ 5000) (h : PS w (.slice A l.length c) l) (hn : ∀ p ∈ l, p.name.size ≤ maxLen) (hz : checkE l = 0) (hv : validB b = false) :
    Calls Tryd.prog 85 #[.slice A l.length c, .int .i64 g, .agg (arr b)] w fun e w' => e = .returned (.tuple #[.int .i64 0, .int .i64 0, .int .i64 0]) ∧ Below w.heap.size w w' := by
  have CC := Lib.hid (fun w' (k : Below w.heap.size w w') => rcheck_any l (.slice A l.length c) w' hl (Sl.keep h k) hn)
  have CB := Lib.hid (fun w => valid_no b w hv)
  have hz2 : (checkE l != 0) = false := by simpa using hz
  have HK := Lib.hid (fun w1 (k : Below (w.alloc (.cells (arr b) 77)).heap.size (w.alloc (.cells (arr b) 77)) w1) => (box_new w b 77).below k (by go_size))
  clear h hn hz hv
  unfold arr at CB
  unfold arr
  go_enter Tryd.func85, Tryd.ntmps85
  go_wp2_with fail
  refine (CC.out _ (below_new _ _)).mono ?_
  rintro e w1 ⟨rfl, b1⟩
  have k1 := (HK.out _ b1)
  have c1 := k1.cells
  have g1 := k1.lt
  have B1 := Lib.hid (chain1 (Below.refl _ _) b1)
  clear b1 k1
  go_wp2_with fail
  refine (CB.out _).mono ?_
  rintro e w2 ⟨rfl, b2⟩
  have B2 := Lib.hid (chain0 B1.out b2)
  clear b2
  go_wp2_with fail
  go_ret3
  exact ⟨rfl, B2.out⟩
set_option maxHeartbeats 1000000 in
theorem rsums_some (l : List Prod) (b1 o1 c : Nat) (g : Int) (b : Nat → Int) (w : World) (hc : l.length ≤ c) (hm : c ≤ maxLen) (h1 : ProdRow w b1 o1 l) (hn : ∀ p ∈ l, p.name.size ≤ maxLen) (hz : checkE l = 0) (hv : validB b = true) :
    Calls Tryd.prog 85 #[.slice (some ⟨b1, o1, none⟩) l.length c, .int .i64 g, .agg (arr b)] w fun e w' => e = .returned (.tuple #[.int .i64 (sw Prod.points b l l.length), .int .i64 (sw Prod.reserve b l l.length), .int .i64 (sw (gw g) b l l.length)]) ∧ Below w.heap.size w w' := by
  obtain ⟨h0, h6, hg⟩ := checkE_zero hz
  have hb1 : b1 < w.heap.size := block_lt_of_cell (h1.at_ 0 h0).1
  have HR := Lib.hid fun w' => h1.below (w' := w') hb1
  have CC := Lib.hid (fun w' (k : Below w.heap.size w w') => rcheck_some l b1 o1 c w' h6 h0 hc hm (HR.out w' k) hn)
  have CB := Lib.hid (fun w => valid_yes b w hv)
  have hz2 : (checkE l != 0) = false := by simpa using hz
  have HK := Lib.hid (fun w1 (k : Below (w.alloc (.cells (arr b) 77)).heap.size (w.alloc (.cells (arr b) 77)) w1) => (box_new w b 77).below k (by go_size))
  have HV := Lib.hid (validB_iff.1 hv)
  have HP := Lib.hid (fun p hp => rangeOk_iff.1 (checkGo_range l 0 hg p hp).1)
  have HS1 := Lib.hid (sw_le (f := Prod.points) (b := b) (l := l) (validB_iff.1 hv) (fun p hp => by have := rangeOk_iff.1 (checkGo_range l 0 hg p hp).1; omega) h6)
  have HS2 := Lib.hid (sw_le (f := Prod.reserve) (b := b) (l := l) (validB_iff.1 hv) (fun p hp => by have := rangeOk_iff.1 (checkGo_range l 0 hg p hp).1; omega) h6)
  have HS3 := Lib.hid (sw_le (f := gw g) (b := b) (l := l) (validB_iff.1 hv) (fun p hp => by unfold gw; split <;> omega) h6)
  have HU : Hid (∀ f k, sw f b l (k + 1) = sw f b l k + b k * f (l.getD k Prod.none)) := fun _ _ => rfl
  clear h1 hn hz hv hg
  unfold arr at CB
  unfold maxLen at hm
  unfold arr
  go_enter Tryd.func85, Tryd.ntmps85
  go_wp2_with fail
  refine (CC.out _ (below_new _ _)).mono ?_
  rintro e w1 ⟨rfl, d1⟩
  have K1 := Lib.hid (HK.out _ d1)
  have c1 := K1.out.cells
  have g1 := K1.out.lt
  have B1 := Lib.hid (chain1 (Below.refl _ _) d1)
  clear d1
  go_wp2_with fail
  refine (CB.out _).mono ?_
  rintro e w2 ⟨rfl, d2⟩
  have B2 := Lib.hid (chain0 B1.out d2)
  have K2 := Lib.hid (K1.out.below d2 g1)
  clear d2 c1 g1
  go_wp2_with fail
  go_loopw [12, 9, 10, 11] (fun i p r u wr => ∃ k : Nat, k ≤ l.length ∧ i = .int .i64 (k : Int) ∧ p = .int .i64 (sw Prod.points b l k) ∧ r = .int .i64 (sw Prod.reserve b l k) ∧ u = .int .i64 (sw (gw g) b l k) ∧ Hid (Box wr w.heap.size b) ∧ Hid (Below w.heap.size w wr)) (fun i _ _ _ _ => l.length - (intOf i).toNat)
  case atStart => exact ⟨0, by omega, rfl, rfl, rfl, rfl, K2.out, B2.out⟩
  case round =>
    obtain ⟨k, hk, rfl, rfl, rfl, rfl, K, B⟩ := hrel
    by_cases hlt : k < l.length
    · have hd : decide ((k : Int) < (l.length : Int)) = true := by simp; omega
      have hi0 : (0 : Int) ≤ (k : Int) := by omega
      have hk6 : k < 6 := by omega
      have h6k : (k : Int) < 6 := by omega
      have hs1 := HS1.out k (by omega)
      have hs2 := HS2.out k (by omega)
      have hs3 := HS3.out k (by omega)
      have E1 := Lib.hid (HU.out Prod.points k)
      have E2 := Lib.hid (HU.out Prod.reserve k)
      have E3 := Lib.hid (HU.out (gw g) k)
      rw [getD_prod l k hlt] at E1 E2 E3
      have hp := HP.out l[k] (List.getElem_mem hlt)
      have hbb := HV.out k hk6
      have HRK := Lib.hid (fun w' hb => (HR.out w' hb).at_ k hlt)
      generalize l[k] = p at *
      generalize sw Prod.points b l k = s1 at *
      generalize sw Prod.reserve b l k = s2 at *
      generalize sw (gw g) b l k = s3 at *
      have HB1 := Lib.hid (show ∀ j : Nat, j ≤ 4 → 0 ≤ lin s1 p.points j ∧ lin s1 p.points j ≤ 100000000 from fun j hj => lin_le hj (by omega) (by omega) (by omega) (by omega))
      have HB2 := Lib.hid (show ∀ j : Nat, j ≤ 4 → 0 ≤ lin s2 p.reserve j ∧ lin s2 p.reserve j ≤ 100000000 from fun j hj => lin_le hj (by omega) (by omega) (by omega) (by omega))
      have HB3 := Lib.hid (show ∀ j : Nat, j ≤ 4 → 0 ≤ lin s3 (gw g p) j ∧ lin s3 (gw g p) j ≤ 100000000 from fun j hj => lin_le hj (by omega) (by omega) (by unfold gw; split <;> omega) (by unfold gw; split <;> omega))
      have hbk := K.out.cell k hk6
      have gz := K.out.lt
      go_wp2_with fail
      go_loopw [13, 9, 10, 11] (fun i p' r u wr => ∃ j : Nat, (j : Int) ≤ b k ∧ i = .int .i64 (j : Int) ∧ p' = .int .i64 (lin s1 p.points j) ∧ r = .int .i64 (lin s2 p.reserve j) ∧ u = .int .i64 (lin s3 (gw g p) j) ∧ Hid (Box wr w.heap.size b) ∧ Hid (Below w.heap.size w wr)) (fun i _ _ _ _ => (b k).toNat - (intOf i).toNat)
      case atStart => exact ⟨0, by omega, rfl, by rw [lin_zero], by rw [lin_zero], by rw [lin_zero], K.out, B.out⟩
      case round =>
        obtain ⟨j, hj, rfl, rfl, rfl, rfl, K3, B3⟩ := hrel
        clear hbk gz
        have hbk := K3.out.cell k hk6
        have gz := K3.out.lt
        by_cases hjl : (j : Int) < b k
        · have hdj : decide ((j : Int) < b k) = true := decide_eq_true hjl
          have hj0 : (0 : Int) ≤ (j : Int) := by omega
          have et := HRK.out _ B3.out
          have hbr : b1 < wr.heap.size := by have := B3.out.size; omega
          have x1 := HB1.out j (by omega)
          have x2 := HB2.out j (by omega)
          have x3 := HB3.out j (by omega)
          have F1 := Lib.hid (lin_succ s1 p.points j)
          have F2 := Lib.hid (lin_succ s2 p.reserve j)
          have F3 := Lib.hid (lin_succ s3 (gw g p) j)
          generalize lin s1 p.points j = a1 at *
          generalize lin s2 p.reserve j = a2 at *
          generalize lin s3 (gw g p) j = a3 at *
          by_cases e : p.group = g
          · have hq : (p.group == g) = true := by simpa using e
            have HG := Lib.hid (show gw g p = 1 by unfold gw; rw [if_pos e])
            clear e
            go_wp2_with fail
            go_roundw
            case rel => exact ⟨j + 1, by omega, by go_num, by rw [F1.out], by rw [F2.out], by rw [F3.out, HG.out], K3.out, B3.out⟩
            case measure => simp [intOf]; omega
          · have hq : (p.group == g) = false := by simpa using e
            have HG := Lib.hid (show gw g p = 0 by unfold gw; rw [if_neg e])
            clear e
            go_wp2_with fail
            go_roundw
            case rel => exact ⟨j + 1, by omega, by go_num, by rw [F1.out], by rw [F2.out], by rw [F3.out, HG.out, Int.add_zero], K3.out, B3.out⟩
            case measure => simp [intOf]; omega
        · have hjb : (j : Int) = b k := by omega
          have hdj : decide ((j : Int) < b k) = false := decide_eq_false hjl
          have F1 := Lib.hid (show lin s1 p.points j = sw Prod.points b l (k + 1) by rw [E1.out]; unfold lin; rw [hjb])
          have F2 := Lib.hid (show lin s2 p.reserve j = sw Prod.reserve b l (k + 1) by rw [E2.out]; unfold lin; rw [hjb])
          have F3 := Lib.hid (show lin s3 (gw g p) j = sw (gw g) b l (k + 1) by rw [E3.out]; unfold lin; rw [hjb])
          clear hjb
          go_wp2_with fail
          go_roundw
          case rel => exact ⟨k + 1, by omega, by go_num, by rw [F1.out], by rw [F2.out], by rw [F3.out], K3.out, B3.out⟩
          case measure => simp [intOf]; omega
    · obtain rfl : k = l.length := by omega
      have hd : decide ((l.length : Int) < (l.length : Int)) = false := by simp
      go_wp2_with fail
      go_ret3
      exact ⟨rfl, B.out⟩
theorem rsums_any (l : List Prod) (v : Value) (g : Int) (b : Nat → Int) (w : World) (hl : l.length ≤ 5000) (h : PS w v l) (hn : ∀ p ∈ l, p.name.size ≤ maxLen) :
    Calls Tryd.prog 85 #[v, .int .i64 g, .agg (arr b)] w fun e w' => e = .returned (sums3 g b l) ∧ Below w.heap.size w w' := by
  obtain ⟨A, c, rfl, k1, k2, ha⟩ := ps_cases h
  unfold sums3 sumE
  by_cases hz : checkE l = 0
  · cases hv : validB b with
    | false => rw [if_neg (by simp), if_neg (by simp), if_neg (by simp)]; exact rsums_bad2 l A c g b w hl h hn hz hv
    | true =>
      rw [if_pos ⟨hz, rfl⟩, if_pos ⟨hz, rfl⟩, if_pos ⟨hz, rfl⟩]
      obtain ⟨b1, o1, rfl, _, r⟩ := ha (checkE_zero hz).1
      exact rsums_some l b1 o1 c g b w k1 k2 r hn hz hv
  · rw [if_neg (fun e => hz e.1), if_neg (fun e => hz e.1), if_neg (fun e => hz e.1)]
    exact rsums_bad l A c g b w hl h hn hz
end Cat
end Go.Proofs.YtfopmaeaclbknaaDoor
