/- Contract of the reference's priced. Printed by gen_exb2.py. -/
import Derived.Test.YtjjlhihocllgjaaGreatDoorExb1
import Derived.Test.YtjjlhihocllgjaaGreatDoorPz13
import Derived.Test.YtjjlhihocllgjaaGreatDoorPz11
import Derived.Deep.RegionHeld3
namespace Go.Proofs.YtjjlhihocllgjaaGreatDoor.Ex
open Go.ChangeShapes Go.WideShapes Go.ChangeAt Go.RowKit Gn Cat Lex
set_option linter.unusedVariables false
set_option linter.unusedSimpArgs false
theorem ref_only {w w' : World} {A : Option Addr} {c g : Nat} {l : List Prod} (h : PS w (.slice A l.length c) l) (hA : ∀ b o, A = some ⟨b, o, none⟩ → b ≠ g) (k : Only g w w') : PS w' (.slice A l.length c) l := ps_only h hA k
abbrev RPricedPost (q : PrR) (g : Nat) (w : World) : Ending → World → Prop := fun r w' => r = .returned (.tuple #[.agg (arr q.b), .int .i64 q.v]) ∧ Scan 73 125 w' g q.L q.e ∧ Only g w w'
/-- the scanner, the result's block -/
structure RMidP (w wx : World) (g : Nat) (L : List Tok) (e : Int) : Prop where
  scan : Scan 73 125 wx g L e
  res : Blk wx w.heap.size 25 (arr zero6)
  only : Only g w wx
section
variable {w wx wy : World} {g : Nat} {L L' : List Tok} {e e' : Int}
theorem rmidp_new (h : Scan 73 125 w g L e) : RMidP w (w.alloc (.cells (arr zero6) 25)) g L e := ⟨h.below (below_new w _), Blk.new w 25 (arr zero6), (Only.refl g w).alloc _⟩
theorem RMidP.step (h : RMidP w wx g L e) (hg : g < w.heap.size) (k : Scan 73 125 wy g L' e') (o : Only g wx wy) : RMidP w wy g L' e' := ⟨k, h.res.only o (by omega), h.only.trans o⟩
theorem RMidP.below (h : RMidP w wx g L e) (o : Below wx.heap.size wx wy) : RMidP w wy g L e := ⟨h.scan.below o, h.res.below o h.res.lt, h.only.then_below o⟩
theorem RMidP.done (h : RMidP w wx g L e) (q : Nat → Int) : Scan 73 125 (put6 wx w.heap.size q) g L e ∧ Only g w (put6 wx w.heap.size q) := ⟨h.scan.six h.res (by decide) (by decide) q, h.only.six (Nat.le_refl _) q⟩
end
theorem tok_drop {w : World} {b o : Nat} : ∀ (n : Nat) {L : List Tok}, TokRow w b o L → n ≤ L.length → TokRow w b (o + n * 4) (L.drop n)
  | 0, L, h, _ => by simpa using h
  | n + 1, [], h, hn => by simp at hn
  | n + 1, t :: L, h, hn => by
    have := tok_drop n h.tail (by simpa using hn)
    rw [show o + (n + 1) * 4 = o + 4 + n * 4 by omega]
    exact this
/-- what is left of a scanner's list -/
theorem scan_cut {w : World} {g n c : Nat} {L : List Tok} {A : Option Addr} {b o : Nat} {cs : Array Value} (k1 : Blk w g 73 #[.slice (some ⟨b, o, none⟩) L.length c, .int .i64 0]) (k2 : L.length ≤ c) (k3 : c ≤ maxLen) (e2 : Blk w b 125 cs) (e3 : TokRow w b o L) (hn : n ≤ L.length) (hA : n < c → A = some ⟨b, o + n * 4, none⟩) : Scan 73 125 (w.setCell ⟨g, 0, none⟩ (.slice A (L.drop n).length (c - n))) g (L.drop n) 0 := by
  have h1 := e2.far (p := ⟨g, 0, none⟩) (e2.apart k1 (by decide)) (.slice A (L.drop n).length (c - n))
  refine ⟨A, c - n, k1.put 0 _, by rw [List.length_drop]; omega, by omega, fun h0 => ?_⟩
  rw [List.length_drop] at h0
  exact ⟨b, o + n * 4, cs, hA (by omega), h1, (tok_drop n e3 hn).keep e2 h1⟩
theorem slice_from (L : Nat) (b o c n : Nat) (hn : n ≤ L) (hc : L ≤ c) : ∃ A, (n < c → A = some ⟨b, o + n * 4, none⟩) ∧ ∀ W, (Instr.slice 68 (.slice (some ⟨b, o, none⟩) L c) (some (.int .i64 (n : Int))) none none).run Tryz.prog W = .ok (.slice A (L - n) (c - n)) W := by
  have h := fun W => run_slice_l (P := Tryz.prog) (w := W) 68 (some ⟨b, o, none⟩) L c (by kernel_rfl) .i64 (n : Int) (by omega) (by omega)
  have hz : ∀ W, (sizeOf (Tryz.prog.elem 68)).run Tryz.prog W = .ok 4 W := fun W => by
    have e : Tryz.prog.elem 68 = 125 := by kernel_rfl
    rw [e]
    obtain ⟨i0, hi0, hz0, hz1, hz2⟩ := info_parts rtok_info
    simp [sizeOf, typeInfo, hi0, hz1]
  by_cases hnc : n < c
  · refine ⟨some ⟨b, o + n * 4, none⟩, fun _ => rfl, fun W => ?_⟩
    rw [h W, hz W]
    show Result.ok (sliced _ _ _ _ _) W = _
    unfold sliced
    rw [if_neg (by omega)]
    simp [Addr.add]
  · refine ⟨some ⟨b, o, none⟩, fun k => absurd k hnc, fun W => ?_⟩
    rw [h W, hz W]
    obtain rfl : n = c := by omega
    show Result.ok (sliced _ _ _ _ _) W = _
    unfold sliced
    rw [if_pos (by omega)]
    simp
theorem rp_err {l : List Prod} {L : List Tok} {e : Int} (he : e ≠ 0) : rpricedF l L e = ⟨zero6, 0, L, e⟩ := by unfold rpricedF; rw [if_pos he]
theorem rp_bad {l : List Prod} {L : List Tok} {x : Int} (h : refF l L = .error x) : rpricedF l L 0 = ⟨zero6, 0, L, x⟩ := by unfold rpricedF; rw [if_neg (by simp), h]
theorem rp_ok {l : List Prod} {L R : List Tok} {b : Nat → Int} {n : Nat} (h : refF l L = .ok (b, R, n)) : rpricedF l L 0 = rpriceO b R := by unfold rpricedF; rw [if_neg (by simp), h]
set_option maxHeartbeats 4000000 in
set_option maxRecDepth 100000 in
theorem rpriced_err (l : List Prod) (A : Option Addr) (c : Nat) (L : List Tok) (e : Int) (g : Nat) (w : World) (h6 : l.length ≤ 6) (hp : PS w (.slice A l.length c) l) (hA : ∀ b o, A = some ⟨b, o, none⟩ → b ≠ g) (hs : Scan 73 125 w g L e) (hm : L.length ≤ 5000) (he : e ≠ 0) : Calls Tryz.prog 91 #[.slice A l.length c, .pointer (some ⟨g, 0, none⟩)] w (RPricedPost (rpricedF l L e) g w) := by
  rw [rp_err he]
  have hg := hs.lt
  have q1 : (e != 0) = true := by simpa using he
  have E0 := Lib.hid (rmidp_new hs)
  obtain ⟨A', c', k1, _⟩ := hs
  have hc2 := (k1.alloc (.cells (arr zero6) 25)).c2
  have hc3 := k1.c2
  clear hp hA he k1
  go_enter Tryz.func91, Tryz.ntmps91
  go_upto_region 2 with fail
  have E0 : Hid (RMidP w (w.alloc (.cells #[.int .i64 0, .int .i64 0, .int .i64 0, .int .i64 0, .int .i64 0, .int .i64 0] 25)) g L e) := E0
  generalize w.alloc (.cells #[.int .i64 0, .int .i64 0, .int .i64 0, .int .i64 0, .int .i64 0, .int .i64 0] 25) = w1 at *
  obtain ⟨Z0, Z1, Z2, Z3, Z4, Z5⟩ := E0.out.res.box.cells
  have zf := E0.out.res.box.free
  go_wp2_with fail
  have RE := res_end0 E0.out.res.box
  obtain ⟨X0, X1, X2, X3, X4, X5⟩ := RE.cells
  refine bodyPost_ret (v := .tuple #[.agg (arr zero6), .int .i64 0]) (by simp [results, Tryz.results91, go_sem, arr, X0, X1, X2, X3, X4, X5, zero6]) rfl ⟨rfl, E0.out.done zero6⟩
set_option maxHeartbeats 4000000 in
set_option maxRecDepth 100000 in
theorem rpriced_bad (l : List Prod) (A : Option Addr) (c : Nat) (L : List Tok) (e : Int) (g : Nat) (w : World) (h6 : l.length ≤ 6) (hp : PS w (.slice A l.length c) l) (hA : ∀ b o, A = some ⟨b, o, none⟩ → b ≠ g) (hs : Scan 73 125 w g L e) (hm : L.length ≤ 5000) (he : e = 0) (hz : checkE l = 0) (x : Int) (hr : refF l L = .error x) : Calls Tryz.prog 91 #[.slice A l.length c, .pointer (some ⟨g, 0, none⟩)] w (RPricedPost (rpricedF l L e) g w) := by
  subst he
  rw [rp_bad hr]
  have hx := refF_err_ne hz hr
  have q2 : (x != 0) = true := by simpa using hx
  have hg := hs.lt
  have E0 := Lib.hid (rmidp_new hs)
  have CF := Lib.hid fun W (h : Scan 73 125 W g L 0) => rfail_any L 0 x g W h
  have HXF : Hid (failE 0 x = x) := by show failE 0 x = x; unfold failE; rw [if_pos rfl]
  obtain ⟨A', c', k1, k2, k3, k4⟩ := hs
  have CT := Lib.hid fun W (b : Below w.heap.size w W) => rtokens_any l (.slice A l.length c) L (.slice A' L.length c') W h6 (Sl.keep hp b) hm (Sl.keep ⟨by rw [cellsOf_len], A', c', rfl, k2, k3, fun h0 => by obtain ⟨b, o, cs, e1, e2, e3⟩ := k4 h0; exact ⟨b, o, e1, e2.lt, e3⟩⟩ b)
  have HV := Lib.hid (rtokV_eq (refF l L))
  rw [hr] at CT HV
  have hc3 := k1.c2
  clear hp hA k1 hx hr k4
  go_enter Tryz.func91, Tryz.ntmps91
  go_wp2_with fail
  refine (CT.out _ (below_new _ _)).mono ?_
  rintro r w2 ⟨rfl, d2⟩
  rw [HV.out]
  dsimp only [rtB, rtN, rtE]
  have E2 := Lib.hid (E0.out.below d2)
  have E3 := Lib.hid (E2.out.below (below_new w2 (.cells (arr zero6) 25)))
  clear d2
  go_wp2_with fail
  refine (CF.out _ E3.out.scan).mono ?_
  rintro r w4 ⟨rfl, s4, o4⟩
  rw [HXF.out] at s4
  have E4 := Lib.hid (E3.out.step hg s4 o4)
  clear s4 o4
  obtain ⟨Z0, Z1, Z2, Z3, Z4, Z5⟩ := E4.out.res.box.cells
  have zf := E4.out.res.box.free
  go_wp2_with fail
  have RE := res_end0 E4.out.res.box
  obtain ⟨X0, X1, X2, X3, X4, X5⟩ := RE.cells
  refine bodyPost_ret (v := .tuple #[.agg (arr zero6), .int .i64 0]) (by simp [results, Tryz.results91, go_sem, arr, X0, X1, X2, X3, X4, X5, zero6]) rfl ⟨rfl, E4.out.done zero6⟩
set_option maxHeartbeats 4000000 in
set_option maxRecDepth 100000 in
theorem rpriced_ok (l : List Prod) (A : Option Addr) (c : Nat) (L : List Tok) (e : Int) (g : Nat) (w : World) (h6 : l.length ≤ 6) (hp : PS w (.slice A l.length c) l) (hA : ∀ b o, A = some ⟨b, o, none⟩ → b ≠ g) (hs : Scan 73 125 w g L e) (hm : L.length ≤ 5000) (he : e = 0) (sb : Nat → Int) (R : List Tok) (n : Nat) (hr : refF l L = .ok (sb, R, n)) : Calls Tryz.prog 91 #[.slice A l.length c, .pointer (some ⟨g, 0, none⟩)] w (RPricedPost (rpricedF l L e) g w) := by
  subst he
  rw [rp_ok hr]
  obtain ⟨hR, hnl⟩ := refF_rest hr
  have hR5 : R.length ≤ 5000 := by rw [hR, List.length_drop]; omega
  have hL0 : 0 < L.length := by
    cases L with
    | nil => unfold refF at hr; cases hr
    | cons t L => simp
  have hg := hs.lt
  have E0 := Lib.hid (rmidp_new hs)
  obtain ⟨A', c', k1, k2, k3, k4⟩ := hs
  obtain ⟨b, o, cs, rfl, e2, e3⟩ := k4 hL0
  have CT := Lib.hid fun W (bb : Below w.heap.size w W) => rtokens_any l (.slice A l.length c) L (.slice (some ⟨b, o, none⟩) L.length c') W h6 (Sl.keep hp bb) hm (Sl.keep ⟨by rw [cellsOf_len], _, c', rfl, k2, k3, fun h0 => ⟨b, o, rfl, e2.lt, e3⟩⟩ bb)
  have HV := Lib.hid (rtokV_eq (refF l L))
  rw [hr] at CT HV
  obtain ⟨As, hAs, hsl⟩ := slice_from L.length b o c' n hnl k2
  have HCUT := Lib.hid fun W (bb : Below w.heap.size w W) => scan_cut (A := As) (n := n) (k1.below' bb) k2 k3 (e2.below' bb) (e3.keep e2 (e2.below' bb)) hnl hAs
  rw [← hR] at HCUT
  have hRl : L.length - n = R.length := by rw [hR, List.length_drop]
  rw [hRl] at hsl
  have K1 := Lib.hid k1
  have hn0 : (0 : Int) ≤ (n : Int) := by omega
  have hn1 : (n : Int) ≤ (L.length : Int) := by omega
  have CX := Lib.hid fun W (h : Scan 73 125 W g R 0) => rexpect_any R 0 g ⟨#[64]⟩ W h (small_len hR5)
  have hxl := expL_len R 0 ⟨#[64]⟩
  have CA := Lib.hid fun W (h : Scan 73 125 W g (expL R 0 ⟨#[64]⟩) (expE R 0 ⟨#[64]⟩)) => ramount_any (expL R 0 ⟨#[64]⟩) (expE R 0 ⟨#[64]⟩) 1000000 g W h (small_len (by omega))
  have HR3 : Hid (rpriceO sb R = ⟨sb, amtV (expL R 0 ⟨#[64]⟩) (expE R 0 ⟨#[64]⟩) 1000000, amtL (expL R 0 ⟨#[64]⟩) (expE R 0 ⟨#[64]⟩) 1000000, amtE (expL R 0 ⟨#[64]⟩) (expE R 0 ⟨#[64]⟩) 1000000⟩) := rfl
  generalize rpriceO sb R = Q at *
  generalize expL R 0 ⟨#[64]⟩ = L5 at *
  generalize expE R 0 ⟨#[64]⟩ = e5 at *
  generalize amtV L5 e5 1000000 = v7 at *
  generalize amtL L5 e5 1000000 = L7 at *
  generalize amtE L5 e5 1000000 = e7 at *
  have hc3 := k1.c2
  clear hp hA hr k4 hAs hR hRl e3 e2 k1
  go_enter Tryz.func91, Tryz.ntmps91
  go_wp2_with fail
  refine (CT.out _ (below_new _ _)).mono ?_
  rintro r w2 ⟨rfl, d2⟩
  rw [HV.out]
  dsimp only [rtB, rtN, rtE]
  have E2 := Lib.hid (E0.out.below d2)
  have E3 := Lib.hid (E2.out.below (below_new w2 (.cells (arr sb) 25)))
  have Y3 := Lib.hid (Blk.new w2 25 (arr sb))
  have B3 := Lib.hid ((chain1 (Below.refl _ _) d2).alloc (chain1 (Below.refl _ _) d2).size (.cells (arr sb) 25))
  have hy : Hid (w.heap.size < w2.heap.size) := E2.out.res.lt
  have HSC := Lib.hid (HCUT.out _ B3.out)
  have K3 := Lib.hid (K1.out.below' B3.out)
  clear d2
  unfold arr at *
  go_upto_region 4 with fail
  generalize w2.alloc (.cells #[.int .i64 (sb 0), .int .i64 (sb 1), .int .i64 (sb 2), .int .i64 (sb 3), .int .i64 (sb 4), .int .i64 (sb 5)] 25) = w3 at *
  generalize w2.heap.size = y at *
  have hc4 := K3.out.c2
  have hgl := K3.out.lt
  have hgf := K3.out.free 0
  have hgy : Hid (g < y) := by have := hy.out; show _ < _; omega
  go_upto_region 8 with fail
  have E5 : Hid (RMidP w (w3.setCell ⟨g, 0, none⟩ (.slice As R.length (c' - n))) g R 0) := ⟨HSC.out, E3.out.res.far (p := ⟨g, 0, none⟩) (by show _ ≠ g; omega) _, E3.out.only.put 0 _⟩
  have Y5 : Hid (Blk (w3.setCell ⟨g, 0, none⟩ (.slice As R.length (c' - n))) y 25 (arr sb)) := Y3.out.far (p := ⟨g, 0, none⟩) (by show _ ≠ g; have := hgy.out; omega) _
  generalize w3.setCell ⟨g, 0, none⟩ (.slice As R.length (c' - n)) = w5 at *
  clear E3 Y3 HSC K3 hc4 hgl hgf HCUT K1 B3 E2 hsl hc3
  go_wp2_with fail
  refine (CX.out _ E5.out.scan).mono ?_
  rintro r w6 ⟨rfl, s6, o6⟩
  have E6 := Lib.hid (E5.out.step hg s6 o6)
  have K6 := Lib.hid (Y5.out.only o6 (by have := hgy.out; omega))
  clear s6 o6 E5 Y5
  have HK := Lib.hid (fun W (o : Only g w6 W) => (K6.out.only o (by have := hgy.out; omega)).box.cells)
  have HA6 := HK.out w6 (Only.refl _ _)
  have ly := K6.out.lt
  have ED := Lib.hid (E6.out.below (Below.refl _ _).drew)
  have ZD := ED.out.res.box.free
  have O6 := Lib.hid ((Only.refl g w6).drew)
  go_upto_region 9 with fail
  go_region_held3 (fun W => W.cell? ⟨y, 0, none⟩ = some (.int .i64 (sb 0)) ∧ W.cell? ⟨y, 1, none⟩ = some (.int .i64 (sb 1)) ∧ W.cell? ⟨y, 2, none⟩ = some (.int .i64 (sb 2)) ∧ W.cell? ⟨y, 3, none⟩ = some (.int .i64 (sb 3)) ∧ W.cell? ⟨y, 4, none⟩ = some (.int .i64 (sb 4)) ∧ W.cell? ⟨y, 5, none⟩ = some (.int .i64 (sb 5))) (first | with_reducible exact HA7 | with_reducible exact HK.out _ O6.out | with_reducible exact HQ7 | with_reducible exact HA6) (first | (go_at_call 96; refine (CA.out _ ED.out.scan).mono ?_; rintro r w7 ⟨rfl, s7, o7⟩; have E7 := Lib.hid (ED.out.step hg s7 o7); have HA7 := HK.out _ (O6.out.trans o7); have Z7 := E7.out.res.box.free; have lr7 := E7.out.res.lt; obtain ⟨C0, C1, C2, C3, C4, C5⟩ := E7.out.res.box.cells; have HQ7 := (((K6.out.only (O6.out.trans o7) (by have := hgy.out; omega)).put6_ (x := w.heap.size) (by have := hy.out; omega) sb).box.cells); clear s7 o7))
  have RE := res_end E7.out.res.box sb
  obtain ⟨X0, X1, X2, X3, X4, X5⟩ := RE.cells
  go_wp2_with fail
  refine bodyPost_ret (v := .tuple #[.agg (arr sb), .int .i64 v7]) (by simp [results, Tryz.results91, go_sem, arr, X0, X1, X2, X3, X4, X5]) rfl ?_
  rw [HR3.out]
  have F7 := E7.out.done sb
  with_reducible exact ⟨rfl, F7⟩
end Go.Proofs.YtjjlhihocllgjaaGreatDoor.Ex
