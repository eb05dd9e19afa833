/- Contract of the catalog's Scan. Printed by gen_catM.py. Contracts of the scanner's methods (reference). Printed by gen_lexM.py. Contracts of the Builder's writers, walked at this dump (its copy check's message is refused by the loader). Contracts of Join. Printed by gen_lexJ.py. The examples of the chapter hold. Plain laws on what Tokens computes. The laws on Tokens and names: walks. -/
import Derived.Test.YtaikmgnpfbnjjaaGreatDoorPu10
import Derived.Deep.LoopGhost
import Derived.Test.YtaikmgnpfbnjjaaGreatDoorPu04
import Derived.Test.YtaikmgnpfbnjjaaGreatDoorPu08
import Derived.Lib.Builder
import Derived.Lib.AppendStr
import Derived.Test.YtaikmgnpfbnjjaaGreatDoorShelf
namespace Go.Proofs.YtaikmgnpfbnjjaaGreatDoor
open Go.ChangeShapes Go.WideShapes Go.ChangeAt Go.RowKit
set_option linter.unusedVariables false
set_option linter.unusedSimpArgs false
namespace Cat
open Lex
abbrev put6z (w : World) (x : Nat) : World := (((((w.setCell ⟨x, 0, none⟩ (.int .i64 0)).setCell ⟨x, 1, none⟩ (.int .i64 0)).setCell ⟨x, 2, none⟩ (.int .i64 0)).setCell ⟨x, 3, none⟩ (.int .i64 0)).setCell ⟨x, 4, none⟩ (.int .i64 0)).setCell ⟨x, 5, none⟩ (.int .i64 0)
theorem res_end0 {w : World} {b : Nat} {p : Nat → Int} (h : Box w b p) : Box (put6z w b) b zero6 := res_end h zero6
abbrev ScanPost (s : St) (g : Nat) (w : World) : Ending → World → Prop := fun r w' => r = .returned (.agg (arr s.b)) ∧ Scan 161 157 w' g s.L s.e ∧ Only g w w'
/-- the scanner, the result's block, the bundle's block -/
structure SMid2 (ts te tb : TypeId) (w wx : World) (g x : Nat) (s : St) : Prop where
  scan : Scan ts te wx g s.L s.e
  res : Blk wx w.heap.size tb (arr zero6)
  box : Blk wx x tb (arr s.b)
  new : w.heap.size < x
  only : Only g w wx
section
variable {ts te tb : TypeId} {w wx wy : World} {g x : Nat} {s s' : St} {L : List Tok} {e : Int}
theorem SMid2.step (h : SMid2 ts te tb w wx g x s) (hg : g < w.heap.size) (k : Scan ts te wy g s'.L s'.e) (o : Only g wx wy) (hb : s'.b = s.b) : SMid2 ts te tb w wy g x s' := by
  have := h.new
  exact ⟨k, h.res.only o (by omega), by rw [hb]; exact h.box.only o (by omega), h.new, h.only.trans o⟩
theorem SMid2.put (h : SMid2 ts te tb w wx g x s) (h1 : tb ≠ ts) (h2 : tb ≠ te) (q : Nat → Int) : SMid2 ts te tb w (put6 wx x q) g x ⟨s.L, s.e, q⟩ := by
  have := h.new
  exact ⟨h.scan.six h.box h1 h2 q, h.res.put6_ (by omega) q, h.box.put6s q, h.new, h.only.six (by omega) q⟩
theorem SMid2.done (h : SMid2 ts te tb w wx g x s) (h1 : tb ≠ ts) (h2 : tb ≠ te) (q : Nat → Int) : Scan ts te (put6 wx w.heap.size q) g s.L s.e ∧ Only g w (put6 wx w.heap.size q) :=
  ⟨h.scan.six h.res h1 h2 q, h.only.six (Nat.le_refl _) q⟩
theorem SMid2.done0 (h : SMid2 ts te tb w wx g x s) (h1 : tb ≠ ts) (h2 : tb ≠ te) : Scan ts te (put6z wx w.heap.size) g s.L s.e ∧ Only g w (put6z wx w.heap.size) := h.done h1 h2 zero6
/-- the scanner and the result's block -/
structure SMid1 (ts te tb : TypeId) (w wx : World) (g : Nat) (L : List Tok) (e : Int) : Prop where
  scan : Scan ts te wx g L e
  res : Blk wx w.heap.size tb (arr zero6)
  only : Only g w wx
theorem smid1_new (h : Scan ts te w g L e) (tb : TypeId) : SMid1 ts te tb w (w.alloc (.cells (arr zero6) tb)) g L e :=
  ⟨h.below (below_new w _), Blk.new w tb _, (Only.refl g w).alloc _⟩
theorem SMid1.step {L' : List Tok} {e' : Int} (h : SMid1 ts te tb w wx g L e) (hg : g < w.heap.size) (k : Scan ts te wy g L' e') (o : Only g wx wy) : SMid1 ts te tb w wy g L' e' :=
  ⟨k, h.res.only o (by omega), h.only.trans o⟩
theorem SMid1.below (h : SMid1 ts te tb w wx g L e) (o : Below wx.heap.size wx wy) : SMid1 ts te tb w wy g L e :=
  ⟨h.scan.below o, h.res.below o h.res.lt, h.only.then_below o⟩
theorem SMid1.done (h : SMid1 ts te tb w wx g L e) (h1 : tb ≠ ts) (h2 : tb ≠ te) (q : Nat → Int) : Scan ts te (put6 wx w.heap.size q) g L e ∧ Only g w (put6 wx w.heap.size q) :=
  ⟨h.scan.six h.res h1 h2 q, h.only.six (Nat.le_refl _) q⟩
theorem SMid1.done0 (h : SMid1 ts te tb w wx g L e) (h1 : tb ≠ ts) (h2 : tb ≠ te) : Scan ts te (put6z wx w.heap.size) g L e ∧ Only g w (put6z wx w.heap.size) := h.done h1 h2 zero6
theorem SMid1.two (h : SMid1 ts te tb w wx g L e) : SMid2 ts te tb w (wx.alloc (.cells (arr zero6) tb)) g wx.heap.size ⟨L, e, zero6⟩ :=
  ⟨h.scan.below (below_new _ _), h.res.alloc _, Blk.new wx tb _, h.res.lt, h.only.alloc _⟩
end
theorem acc_next {L : List Tok} {e : Int} {m : ByteArray} (h : accB L e m) : (nextL L e).length < L.length := by
  by_cases he : e = 0
  · subst he
    cases L with
    | nil => exact absurd h (accB_nil m)
    | cons t L => simp [nextL]
  · exact absurd h (err_acc he m)
set_option maxRecDepth 100000 in
theorem scan_err (A : Option Addr) (n c : Nat) (L : List Tok) (e : Int) (g : Nat) (w : World) (hs : Scan 161 157 w g L e) (he : e ≠ 0) : Calls Tryz.prog 113 #[.slice A n c, .pointer (some ⟨g, 0, none⟩)] w (ScanPost ⟨L, e, zero6⟩ g w) := by
  have E0 := Lib.hid (smid1_new hs 23)
  have CE := Lib.hid err_any
  have q1 : (e != 0) = true := by simpa using he
  clear hs he
  go_enter Tryz.func113, Tryz.ntmps113
  go_wp2_with fail
  refine (CE.out _ _ _ _ E0.out.scan).mono ?_
  rintro r w2 ⟨rfl, rfl⟩
  obtain ⟨Z0, Z1, Z2, Z3, Z4, Z5⟩ := E0.out.res.box.cells
  have zf := E0.out.res.box.free
  go_wp2_with fail
  have RE := res_end0 E0.out.res.box
  obtain ⟨X0, X1, X2, X3, X4, X5⟩ := RE.cells
  refine bodyPost_ret (v := .agg (arr zero6)) (by simp [results, Tryz.results113, go_sem, arr, X0, X1, X2, X3, X4, X5, zero6]) rfl ⟨rfl, E0.out.scan, E0.out.only⟩

set_option maxRecDepth 100000 in
theorem scan_bad (l : List Prod) (A : Option Addr) (c : Nat) (L : List Tok) (g : Nat) (w : World) (hl : l.length ≤ 5000) (hp : PS w (.slice A l.length c) l) (hn : ∀ p ∈ l, p.name.size ≤ maxLen) (hs : Scan 161 157 w g L 0) (hz : checkE l ≠ 0) : Calls Tryz.prog 113 #[.slice A l.length c, .pointer (some ⟨g, 0, none⟩)] w (ScanPost ⟨L, checkE l, zero6⟩ g w) := by
  have hg := hs.lt
  have E0 := Lib.hid (smid1_new hs 23)
  have CE := Lib.hid err_any
  have CL := Lib.hid fail_any
  have CC := Lib.hid (fun w' (k : Below w.heap.size w w') => check_any l (.slice A l.length c) w' hl (Sl.keep hp k) hn)
  have q1 : (checkE l != 0) = true := by simpa using hz
  have HX : Hid (failE 0 (checkE l) = checkE l) := (by show failE 0 _ = _; unfold failE; rw [if_pos rfl])
  clear hs hz hp hn
  go_enter Tryz.func113, Tryz.ntmps113
  go_wp2_with fail
  refine (CE.out _ _ _ _ E0.out.scan).mono ?_
  rintro r w2 ⟨rfl, rfl⟩
  go_wp2_with fail
  refine (CC.out _ (below_new _ _)).mono ?_
  rintro r w2 ⟨rfl, d2⟩
  have E2 := Lib.hid (E0.out.below d2)
  clear d2
  go_wp2_with fail
  refine (CL.out _ _ (checkE l) _ _ E2.out.scan).mono ?_
  rintro r w3 ⟨rfl, s3, o3⟩
  rw [HX.out] at s3
  have E3 := Lib.hid (E2.out.step hg s3 o3)
  clear s3 o3
  obtain ⟨Z0, Z1, Z2, Z3, Z4, Z5⟩ := E3.out.res.box.cells
  have zf := E3.out.res.box.free
  go_wp2_with fail
  have RE := res_end0 E3.out.res.box
  obtain ⟨X0, X1, X2, X3, X4, X5⟩ := RE.cells
  refine bodyPost_ret (v := .agg (arr zero6)) (by simp [results, Tryz.results113, go_sem, arr, X0, X1, X2, X3, X4, X5, zero6]) rfl ⟨rfl, E3.out.done0 (by decide) (by decide)⟩

set_option maxRecDepth 100000 in
set_option maxHeartbeats 1000000 in
theorem scan_none (l : List Prod) (b1 o1 c : Nat) (L : List Tok) (g : Nat) (w : World) (hc : l.length ≤ c) (hcm : c ≤ maxLen) (h1 : ProdRow w b1 o1 l) (hne : b1 ≠ g) (hn : ∀ p ∈ l, p.name.size ≤ maxLen) (hs : Scan 161 157 w g L 0) (hm : L.length ≤ 5000) (hz : checkE l = 0) (ha : accB (expL L 0 ⟨#[123]⟩) (expE L 0 ⟨#[123]⟩) ⟨#[125]⟩) :
    Calls Tryz.prog 113 #[.slice (some ⟨b1, o1, none⟩) l.length c, .pointer (some ⟨g, 0, none⟩)] w (ScanPost ⟨nextL (expL L 0 ⟨#[123]⟩) (expE L 0 ⟨#[123]⟩), expE L 0 ⟨#[123]⟩, zero6⟩ g w) := by
  obtain ⟨h0, h6, hgo⟩ := checkE_zero hz
  have hb1 : b1 < w.heap.size := block_lt_of_cell (h1.at_ 0 h0).1
  have hg := hs.lt
  have E0 := Lib.hid (smid1_new hs 23)
  have CE := Lib.hid err_any
  have HR := Lib.hid fun w' k => h1.only (w' := w') (g := g) hb1 k hne
  have HRB := Lib.hid fun w' => h1.below (w' := w') hb1
  have CC := Lib.hid (fun w' (k : Below w.heap.size w w') => check_some l b1 o1 c w' h6 h0 hc hcm (HRB.out w' k) hn)
  have q1 : (checkE l != 0) = false := by simpa using hz
  have CX := Lib.hid (fun w' (h : Scan 161 157 w' g L 0) => expect_any L 0 g ⟨#[123]⟩ w' h (small_len hm))
  have hL1 := expL_len L 0 ⟨#[123]⟩
  have hz' := Lib.hid hz
  generalize expL L 0 ⟨#[123]⟩ = Lx at *
  generalize expE L 0 ⟨#[123]⟩ = ex at *
  have CY := Lib.hid (fun w' (h : Scan 161 157 w' g Lx ex) => accept_yes Lx ex g ⟨#[125]⟩ w' h (small_len (by omega)) ha)
  unfold maxLen at hcm
  clear hs hz h1 hn ha hgo
  go_enter Tryz.func113, Tryz.ntmps113
  go_wp2_with fail
  refine (CE.out _ _ _ _ E0.out.scan).mono ?_
  rintro r w2 ⟨rfl, rfl⟩
  go_wp2_with fail
  refine (CC.out _ (below_new _ _)).mono ?_
  rintro r w2 ⟨rfl, d2⟩
  have E2 := Lib.hid (E0.out.below d2)
  clear d2
  have E3 := Lib.hid (E2.out.two)
  go_wp2_with fail
  refine (CX.out _ E3.out.scan).mono ?_
  rintro r w4 ⟨rfl, s4, o4⟩
  have E4 := Lib.hid (E3.out.step (s' := ⟨Lx, ex, zero6⟩) hg s4 o4 rfl)
  clear s4 o4
  generalize w2.heap.size = x at *
  go_wp2_with fail
  refine (CY.out _ E4.out.scan).mono ?_
  rintro r w5 ⟨rfl, s5, o5⟩
  have E5 := Lib.hid (E4.out.step (s' := ⟨nextL Lx ex, ex, zero6⟩) hg s5 o5 rfl)
  clear s5 o5
  obtain ⟨Q0, Q1, Q2, Q3, Q4, Q5⟩ := E5.out.box.box.cells
  obtain ⟨Z0, Z1, Z2, Z3, Z4, Z5⟩ := E5.out.res.box.cells
  have zf := E5.out.res.box.free
  go_wp2_with fail
  have RE := res_end E5.out.res.box zero6
  obtain ⟨X0, X1, X2, X3, X4, X5⟩ := RE.cells
  refine bodyPost_ret (v := .agg (arr zero6)) (by simp [results, Tryz.results113, go_sem, arr, X0, X1, X2, X3, X4, X5]) rfl ⟨rfl, E5.out.done (by decide) (by decide) _⟩

set_option maxRecDepth 100000 in
set_option maxHeartbeats 2000000 in
theorem scan_some (l : List Prod) (b1 o1 c : Nat) (L : List Tok) (g : Nat) (w : World) (hc : l.length ≤ c) (hcm : c ≤ maxLen) (h1 : ProdRow w b1 o1 l) (hne : b1 ≠ g) (hn : ∀ p ∈ l, p.name.size ≤ maxLen) (hs : Scan 161 157 w g L 0) (hm : L.length ≤ 5000) (hz : checkE l = 0) (ha : ¬ accB (expL L 0 ⟨#[123]⟩) (expE L 0 ⟨#[123]⟩) ⟨#[125]⟩) :
    Calls Tryz.prog 113 #[.slice (some ⟨b1, o1, none⟩) l.length c, .pointer (some ⟨g, 0, none⟩)] w (ScanPost (endF (loopF l (L.length + 1) (elemF l ⟨expL L 0 ⟨#[123]⟩, expE L 0 ⟨#[123]⟩, zero6⟩))) g w) := by
  obtain ⟨h0, h6, hgo⟩ := checkE_zero hz
  have hb1 : b1 < w.heap.size := block_lt_of_cell (h1.at_ 0 h0).1
  have hg := hs.lt
  have E0 := Lib.hid (smid1_new hs 23)
  have CE := Lib.hid err_any
  have HR := Lib.hid fun w' k => h1.only (w' := w') (g := g) hb1 k hne
  have HRB := Lib.hid fun w' => h1.below (w' := w') hb1
  have CC := Lib.hid (fun w' (k : Below w.heap.size w w') => check_some l b1 o1 c w' h6 h0 hc hcm (HRB.out w' k) hn)
  have q1 : (checkE l != 0) = false := by simpa using hz
  have CX := Lib.hid (fun w' (h : Scan 161 157 w' g L 0) => expect_any L 0 g ⟨#[123]⟩ w' h (small_len hm))
  have hL1 := expL_len L 0 ⟨#[123]⟩
  have hz' := Lib.hid hz
  have CEL := Lib.hid (fun w' (k : Only g w w') (s : St) (h : Scan 161 157 w' g s.L s.e) (hm' : s.L.length ≤ 5000) => element_any l b1 o1 c s g w' h6 h0 (HR.out w' k) hne h hm')
  have CAY := Lib.hid (fun w' (s : St) (h : Scan 161 157 w' g s.L s.e) (hm' : s.L.length ≤ 5000) k => accept_yes s.L s.e g ⟨#[44]⟩ w' h (small_len hm') k)
  have CAN := Lib.hid (fun w' (s : St) (h : Scan 161 157 w' g s.L s.e) (hm' : s.L.length ≤ 5000) k => accept_no s.L s.e g ⟨#[44]⟩ w' h (small_len hm') k)
  have CXE := Lib.hid (fun w' (s : St) (h : Scan 161 157 w' g s.L s.e) (hm' : s.L.length ≤ 5000) => expect_any s.L s.e g ⟨#[125]⟩ w' h (small_len hm'))
  have HLE := Lib.hid (elemF_len l)
  have hLL : (expL L 0 ⟨#[123]⟩).length ≤ L.length := hL1
  have HFIN : Hid (∀ s, loopF l (L.length + 1) (elemF l ⟨expL L 0 ⟨#[123]⟩, expE L 0 ⟨#[123]⟩, zero6⟩) = s → ∀ s', s' = endF s → s' = endF (loopF l (L.length + 1) (elemF l ⟨expL L 0 ⟨#[123]⟩, expE L 0 ⟨#[123]⟩, zero6⟩))) := fun s h s' h' => by rw [h, h']
  generalize hF0 : loopF l (L.length + 1) (elemF l ⟨expL L 0 ⟨#[123]⟩, expE L 0 ⟨#[123]⟩, zero6⟩) = fin at *
  have HF0 := Lib.hid hF0
  clear hF0
  generalize expL L 0 ⟨#[123]⟩ = Lx at *
  generalize expE L 0 ⟨#[123]⟩ = ex at *
  have CY := Lib.hid (fun w' (h : Scan 161 157 w' g Lx ex) => accept_no Lx ex g ⟨#[125]⟩ w' h (small_len (by omega)) ha)
  unfold maxLen at hcm
  clear hs hz h1 hn ha hgo
  go_enter Tryz.func113, Tryz.ntmps113
  go_wp2_with fail
  refine (CE.out _ _ _ _ E0.out.scan).mono ?_
  rintro r w2 ⟨rfl, rfl⟩
  go_wp2_with fail
  refine (CC.out _ (below_new _ _)).mono ?_
  rintro r w2 ⟨rfl, d2⟩
  have E2 := Lib.hid (E0.out.below d2)
  clear d2
  have E3 := Lib.hid (E2.out.two)
  go_wp2_with fail
  refine (CX.out _ E3.out.scan).mono ?_
  rintro r w4 ⟨rfl, s4, o4⟩
  have E4 := Lib.hid (E3.out.step (s' := ⟨Lx, ex, zero6⟩) hg s4 o4 rfl)
  clear s4 o4
  generalize w2.heap.size = x at *
  go_wp2_with fail
  refine (CY.out _ E4.out.scan).mono ?_
  rintro r w5 ⟨rfl, s5, o5⟩
  have E5 := Lib.hid (E4.out.step (s' := ⟨Lx, ex, zero6⟩) hg s5 o5 rfl)
  clear s5 o5
  obtain ⟨Q0, Q1, Q2, Q3, Q4, Q5⟩ := E5.out.box.box.cells
  have qf := E5.out.box.box.free
  go_wp2_with fail
  refine (CEL.out _ E5.out.only ⟨Lx, ex, zero6⟩ E5.out.scan (by show Lx.length ≤ _; omega)).mono ?_
  rintro r w6 ⟨rfl, s6, o6⟩
  have E6 := Lib.hid ((E5.out.step (s' := ⟨(elemF l ⟨Lx, ex, zero6⟩).L, (elemF l ⟨Lx, ex, zero6⟩).e, zero6⟩) hg s6 o6 rfl).put (by decide) (by decide) (elemF l ⟨Lx, ex, zero6⟩).b)
  have hL6 := HLE.out ⟨Lx, ex, zero6⟩
  have q6 : Hid (Blk w6 x 23 (arr zero6)) := E5.out.box.only o6 (by have := E5.out.new; omega)
  clear s6 o6 Q0 Q1 Q2 Q3 Q4 Q5 qf
  obtain ⟨Q0, Q1, Q2, Q3, Q4, Q5⟩ := q6.out.box.cells
  have qf := q6.out.box.free
  generalize elemF l ⟨Lx, ex, zero6⟩ = s0 at *
  go_wp2_with fail
  go_loopg [] (L.length + 1) (fun f wr => ∃ s : St, Hid (SMid2 161 157 23 w wr g x s) ∧ s.L.length ≤ 5000 ∧ s.L.length < f ∧ Hid (loopF l f s = fin))
  case atStart => exact ⟨s0, E6.out, by have : s0.L.length ≤ Lx.length := hL6; omega, by have : s0.L.length ≤ Lx.length := hL6; omega, HF0.out⟩
  case round =>
    obtain ⟨s, E, hLm, hLs, HF⟩ := hrel
    obtain ⟨f, rfl⟩ : ∃ f, gk = f + 1 := ⟨gk - 1, by omega⟩
    clear Q0 Q1 Q2 Q3 Q4 Q5 qf
    obtain ⟨Q0, Q1, Q2, Q3, Q4, Q5⟩ := E.out.box.box.cells
    have qf := E.out.box.box.free
    by_cases hk : accB s.L s.e ⟨#[44]⟩
    · have HF2 := Lib.hid (show loopF l f (elemF l ⟨nextL s.L s.e, s.e, s.b⟩) = fin by rw [← HF.out]; conv => (rhs; unfold loopF); rw [if_pos hk])
      have hnx := acc_next hk
      have C1 := Lib.hid (fun w' h => CAY.out w' s h (by omega) hk)
      clear hk HF
      go_wp2_with fail
      refine (C1.out _ E.out.scan).mono ?_
      rintro r w7 ⟨rfl, s7, o7⟩
      have E7 := Lib.hid (E.out.step (s' := ⟨nextL s.L s.e, s.e, s.b⟩) hg s7 o7 rfl)
      clear s7 o7 Q0 Q1 Q2 Q3 Q4 Q5 qf
      obtain ⟨Q0, Q1, Q2, Q3, Q4, Q5⟩ := E7.out.box.box.cells
      have qf := E7.out.box.box.free
      go_wp2_with fail
      refine (CEL.out _ E7.out.only ⟨nextL s.L s.e, s.e, s.b⟩ E7.out.scan (by show (nextL s.L s.e).length ≤ _; omega)).mono ?_
      rintro r w8 ⟨rfl, s8, o8⟩
      have E8 := Lib.hid ((E7.out.step (s' := ⟨(elemF l ⟨nextL s.L s.e, s.e, s.b⟩).L, (elemF l ⟨nextL s.L s.e, s.e, s.b⟩).e, s.b⟩) hg s8 o8 rfl).put (by decide) (by decide) (elemF l ⟨nextL s.L s.e, s.e, s.b⟩).b)
      have hL8 := HLE.out ⟨nextL s.L s.e, s.e, s.b⟩
      have q8 : Hid (Blk w8 x 23 (arr s.b)) := E7.out.box.only o8 (by have := E7.out.new; omega)
      clear s8 o8 Q0 Q1 Q2 Q3 Q4 Q5 qf
      obtain ⟨Q0, Q1, Q2, Q3, Q4, Q5⟩ := q8.out.box.cells
      have qf := q8.out.box.free
      generalize hs9 : elemF l ⟨nextL s.L s.e, s.e, s.b⟩ = s9 at *
      have h89 : s9.L.length ≤ (nextL s.L s.e).length := hL8
      clear hs9
      go_wp2_with fail
      go_roundg f
      case measure => omega
      case rel => exact ⟨s9, E8.out, by omega, by omega, HF2.out⟩
    · have HF2 := Lib.hid (show fin = s by rw [← HF.out]; unfold loopF; rw [if_neg hk])
      have C1 := Lib.hid (fun w' h => CAN.out w' s h (by omega) hk)
      have C2 := Lib.hid (fun w' h => CXE.out w' s h (by omega))
      clear hk HF
      have HE : Hid (endF fin = ⟨expL s.L s.e ⟨#[125]⟩, expE s.L s.e ⟨#[125]⟩, if expE s.L s.e ⟨#[125]⟩ = 0 then s.b else zero6⟩) := by show endF fin = _; rw [HF2.out]; rfl
      clear HF2
      go_wp2_with fail
      refine (C1.out _ E.out.scan).mono ?_
      rintro r w7 ⟨rfl, s7, o7⟩
      have E7 := Lib.hid (E.out.step (s' := s) hg s7 o7 rfl)
      clear s7 o7 Q0 Q1 Q2 Q3 Q4 Q5 qf
      go_wp2_with fail
      refine (C2.out _ E7.out.scan).mono ?_
      rintro r w8 ⟨rfl, s8, o8⟩
      have E8 := Lib.hid (E7.out.step (s' := ⟨expL s.L s.e ⟨#[125]⟩, expE s.L s.e ⟨#[125]⟩, s.b⟩) hg s8 o8 rfl)
      clear s8 o8
      generalize expL s.L s.e ⟨#[125]⟩ = Ly at *
      generalize expE s.L s.e ⟨#[125]⟩ = ey at *
      go_wp2_with fail
      refine (CE.out _ _ _ _ E8.out.scan).mono ?_
      rintro r w9 ⟨rfl, rfl⟩
      by_cases hy : ey = 0
      · have q9 : (ey != 0) = false := by simpa using hy
        rw [if_pos hy] at HE
        clear hy
        obtain ⟨Q0, Q1, Q2, Q3, Q4, Q5⟩ := E8.out.box.box.cells
        obtain ⟨Z0, Z1, Z2, Z3, Z4, Z5⟩ := E8.out.res.box.cells
        have zf := E8.out.res.box.free
        go_wp2_with fail
        have RE := res_end E8.out.res.box s.b
        obtain ⟨X0, X1, X2, X3, X4, X5⟩ := RE.cells
        refine bodyPost_ret (v := .agg (arr s.b)) (by simp [results, Tryz.results113, go_sem, arr, X0, X1, X2, X3, X4, X5]) rfl ?_
        show ScanPost (endF fin) g w _ _
        rw [HE.out]
        exact ⟨rfl, E8.out.done (by decide) (by decide) _⟩
      · have q9 : (ey != 0) = true := by simpa using hy
        rw [if_neg hy] at HE
        clear hy
        obtain ⟨Z0, Z1, Z2, Z3, Z4, Z5⟩ := E8.out.res.box.cells
        have zf := E8.out.res.box.free
        go_wp2_with fail
        have RE := res_end0 E8.out.res.box
        obtain ⟨X0, X1, X2, X3, X4, X5⟩ := RE.cells
        refine bodyPost_ret (v := .agg (arr zero6)) (by simp [results, Tryz.results113, go_sem, arr, X0, X1, X2, X3, X4, X5, zero6]) rfl ?_
        show ScanPost (endF fin) g w _ _
        rw [HE.out]
        exact ⟨rfl, E8.out.done0 (by decide) (by decide)⟩
end Cat
end Go.Proofs.YtaikmgnpfbnjjaaGreatDoor
namespace Go.Proofs.YtaikmgnpfbnjjaaGreatDoor
open Go.ChangeShapes Go.WideShapes Go.ChangeAt Go.RowKit
namespace Lex


end Lex
end Go.Proofs.YtaikmgnpfbnjjaaGreatDoor
namespace Go.Proofs.YtaikmgnpfbnjjaaGreatDoor
open Go.ChangeShapes Go.WideShapes Go.ChangeAt Go.RowKit
namespace Bld
attribute [local irreducible] World.shape?
section
variable (b : Nat) (w : World) (hsh : w.shape? b = some (126, 2))
include hsh
end
/-- the blocks of other types than e, but for block b, are as they were -/
def Keeps (e : TypeId) (b : Nat) (w w' : World) : Prop := ∀ g t cs, Blk w g t cs → t ≠ e → g ≠ b → Blk w' g t cs
section
variable {e : TypeId} {b : Nat} {w w1 w2 : World}
theorem Keeps.trans (h : Keeps e b w w1) (k : Keeps e b w1 w2) : Keeps e b w w2 := fun g t cs x ht hg => k g t cs (h g t cs x ht hg) ht hg
theorem Keeps.put (h : Keeps e b w w1) (o : Nat) (u : Value) : Keeps e b w (w1.setCell ⟨b, o, none⟩ u) := fun g t cs x ht hg => (h g t cs x ht hg).far hg u
theorem Keeps.alloc (h : Keeps e b w w1) (o : Obj) : Keeps e b w (w1.alloc o) := fun g t cs x ht hg => (h g t cs x ht hg).alloc o
theorem Keeps.grown (h : Keeps e b w w1) {base n size : Nat} {v : Value} {xs : List Value} (ho : w1.ownsRow base e size v n xs) (hg : w1.grownBy w2 v.ownBlock) : Keeps e b w w2 :=
  fun _ t cs x ht hb => (h _ t cs x ht hb).grown hg (fun e2 => own_apart ho (h _ t cs x ht hb) (Ne.symm ht) e2.symm)
end
end Bld
end Go.Proofs.YtaikmgnpfbnjjaaGreatDoor
namespace Go.Proofs.YtaikmgnpfbnjjaaGreatDoor
open Go.ChangeShapes Go.WideShapes Go.ChangeAt Go.RowKit
namespace Lex
end Lex
end Go.Proofs.YtaikmgnpfbnjjaaGreatDoor
namespace Go.Proofs.YtaikmgnpfbnjjaaGreatDoor
open Go.ChangeShapes Go.WideShapes Go.ChangeAt Go.RowKit
namespace Lex
theorem Scan.blk {ts te : TypeId} {w : World} {g : Nat} {L : List Tok} {e : Int} (h : Scan ts te w g L e) : ∃ cs, Blk w g ts cs := by
  obtain ⟨A, c, hb, _⟩ := h
  exact ⟨_, hb⟩
def s1 : ByteArray := ⟨#[97, 49, 32, 123, 50]⟩
def s2 : ByteArray := ⟨#[120, 32, 48, 48, 55]⟩
def l1 : List Tok := [⟨1, ⟨#[97, 49]⟩, 0, 0⟩, ⟨3, ⟨#[123]⟩, 0, 3⟩, ⟨2, ⟨#[50]⟩, 2, 4⟩]
end Lex
end Go.Proofs.YtaikmgnpfbnjjaaGreatDoor
namespace Go.Proofs.YtaikmgnpfbnjjaaGreatDoor
open Go.ChangeShapes Go.WideShapes Go.ChangeAt Go.RowKit
namespace Lex
theorem drop_len (s : ByteArray) (k : Nat) : (s.data.toList.drop k).length = s.size - k := by rw [List.length_drop]; rfl
theorem lexGo_len (s : ByteArray) : ∀ (f k : Nat) (l r : List Tok), k ≤ s.size → lexGo s f k l = .ok r → r.length ≤ l.length + (s.size - k)
  | 0, k, l, r, _, h => by
    injection h with h
    subst h
    omega
  | f + 1, k, l, r, hk, h => by
    by_cases hlt : k < s.size
    · by_cases h32 : s[k].toNat = 32
      · rw [lexGo_space hlt h32] at h
        have := lexGo_len s f (k + 1) l r (by omega) h
        omega
      · cases ho : one (s.data.toList.drop k) with
        | error x => rw [lexGo_err hlt h32 ho] at h; cases h
        | ok p =>
          rw [lexGo_tok hlt h32 ho] at h
          have hp := one_len ho
          rw [drop_len] at hp
          have := lexGo_len s f (k + p.len) _ r (by omega) h
          rw [List.length_append, List.length_singleton] at this
          omega
    · rw [lexGo_end (by omega)] at h
      injection h with h
      subst h
      omega
theorem lex_len (s : ByteArray) (hs : s.size ≤ 5000) : (match lex s with | .ok l => l | .error _ => []).length ≤ 5000 := by
  cases h : lex s with
  | error x => simp
  | ok r =>
    unfold lex at h
    split at h
    · cases h
    · have := lexGo_len s _ 0 [] r (by omega) h
      simp at this ⊢
      omega
/-- the tokens of the rest of a text lie one after the other, with spaces between -/
def Cov (s : ByteArray) : Nat → List Tok → Prop
  | a, [] => ∀ j (h : j < s.size), a ≤ j → s[j].toNat = 32
  | a, t :: l => ∃ k n : Nat, a ≤ k ∧ 1 ≤ n ∧ k + n ≤ s.size ∧ t.pos = (k : Int) ∧ t.text = s.extract k (k + n) ∧ (∀ j (h : j < s.size), a ≤ j → j < k → s[j].toNat = 32) ∧ Cov s (k + n) l
theorem Cov.space {s : ByteArray} {a : Nat} {l : List Tok} (h : Cov s (a + 1) l) (hl : a < s.size) (h1 : s[a].toNat = 32) : Cov s a l := by
  cases l with
  | nil =>
    intro j hj ha
    by_cases e : j = a
    · subst e; exact h1
    · exact h j hj (by omega)
  | cons t l =>
    obtain ⟨k, n, ha, hn, hk, hp, ht, hs, hc⟩ := h
    refine ⟨k, n, by omega, hn, hk, hp, ht, fun j hj h2 h3 => ?_, hc⟩
    by_cases e : j = a
    · subst e; exact h1
    · exact hs j hj (by omega) h3
end Lex
end Go.Proofs.YtaikmgnpfbnjjaaGreatDoor
namespace Go.Proofs.YtaikmgnpfbnjjaaGreatDoor
open Go.ChangeShapes Go.WideShapes Go.ChangeAt Go.RowKit
namespace Lex
theorem tokens_any (s : ByteArray) (w : World) (hs : s.size ≤ 5000) : Calls Tryz.prog 111 #[.string s] w (TokPost 157 (lex s) w) := by
  by_cases h : 4000 < s.size
  · exact tokens_long s w (by unfold maxLen; omega) h
  · exact tokens_short s w (by omega)
theorem refTokens_any (s : ByteArray) (w : World) (hs : s.size ≤ 5000) : Calls Tryz.prog 92 #[.string s] w (TokPost 144 (lex s) w) := by
  by_cases h : 4000 < s.size
  · exact refTokens_long s w (by unfold maxLen; omega) h
  · exact refTokens_short s w (by omega)
end Lex
end Go.Proofs.YtaikmgnpfbnjjaaGreatDoor
