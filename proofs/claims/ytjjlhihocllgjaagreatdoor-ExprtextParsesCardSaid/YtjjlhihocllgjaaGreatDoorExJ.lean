/- Contract of exprtext's expression: an atom. Printed by gen_exJ.py. -/
import Derived.Test.YtjjlhihocllgjaaGreatDoorExI
namespace Go.Proofs.YtjjlhihocllgjaaGreatDoor.Ex
open Go.ChangeShapes Go.WideShapes Go.ChangeAt Go.RowKit Gn Cat Lex
set_option linter.unusedVariables false
set_option linter.unusedSimpArgs false
abbrev put7 (w : World) (x : Nat) (v : Int) (p : Nat → Int) : World := ((((((w.setCell ⟨x, 1, none⟩ (.int .i64 (p 0))).setCell ⟨x, 2, none⟩ (.int .i64 (p 1))).setCell ⟨x, 3, none⟩ (.int .i64 (p 2))).setCell ⟨x, 4, none⟩ (.int .i64 (p 3))).setCell ⟨x, 5, none⟩ (.int .i64 (p 4))).setCell ⟨x, 6, none⟩ (.int .i64 (p 5))).setCell ⟨x, 7, none⟩ (.int .i64 v)
section
variable {ts te tb : TypeId} {w wx : World} {g x : Nat} {L : List Tok} {e : Int} {cs : Array Value} {v : Int} {p : Nat → Int}
theorem scan_put7 (h : Scan ts te w g L e) (hb : Blk w x tb cs) (h1 : tb ≠ ts) (h2 : tb ≠ te) : Scan ts te (put7 w x v p) g L e :=
  (((((((h.put_far hb h1 h2 1 _).put_far (hb.put 1 _) h1 h2 2 _).put_far ((hb.put 1 _).put 2 _) h1 h2 3 _).put_far (((hb.put 1 _).put 2 _).put 3 _) h1 h2 4 _).put_far ((((hb.put 1 _).put 2 _).put 3 _).put 4 _) h1 h2 5 _).put_far (((((hb.put 1 _).put 2 _).put 3 _).put 4 _).put 5 _) h1 h2 6 _).put_far ((((((hb.put 1 _).put 2 _).put 3 _).put 4 _).put 5 _).put 6 _) h1 h2 7 _)
theorem only_put7 (h : Only g w wx) (hx : w.heap.size ≤ x) : Only g w (put7 wx x v p) :=
  (((((((h.put_new (p := ⟨x, 1, none⟩) hx _).put_new (p := ⟨x, 2, none⟩) hx _).put_new (p := ⟨x, 3, none⟩) hx _).put_new (p := ⟨x, 4, none⟩) hx _).put_new (p := ⟨x, 5, none⟩) hx _).put_new (p := ⟨x, 6, none⟩) hx _).put_new (p := ⟨x, 7, none⟩) hx _)
theorem inP_put7 {ok : Nat → Prop} {d : Nat} {t : Tree} (h : InP ok d w t) (hx : ¬ ok x) : InP ok d (put7 w x v p) t :=
  (((((((h.put (p := ⟨x, 1, none⟩) hx _).put (p := ⟨x, 2, none⟩) hx _).put (p := ⟨x, 3, none⟩) hx _).put (p := ⟨x, 4, none⟩) hx _).put (p := ⟨x, 5, none⟩) hx _).put (p := ⟨x, 6, none⟩) hx _).put (p := ⟨x, 7, none⟩) hx _)
theorem far_put7 {y : Nat} (h : Blk w y tb cs) (hne : y ≠ x) : Blk (put7 w x v p) y tb cs :=
  (((((((h.far hne _).far hne _).far hne _).far hne _).far hne _).far hne _).far hne _)
theorem blk_seven {a0 a1 a2 a3 a4 a5 a6 a7 a8 b1 b2 b3 b4 b5 b6 b7 : Value} (hb : Blk w x tb #[a0, a1, a2, a3, a4, a5, a6, a7, a8]) : Blk (((((((w.setCell ⟨x, 1, none⟩ b1).setCell ⟨x, 2, none⟩ b2).setCell ⟨x, 3, none⟩ b3).setCell ⟨x, 4, none⟩ b4).setCell ⟨x, 5, none⟩ b5).setCell ⟨x, 6, none⟩ b6).setCell ⟨x, 7, none⟩ b7) x tb #[a0, b1, b2, b3, b4, b5, b6, b7, a8] := by
  have h0 : Blk (w.setCell ⟨x, 1, none⟩ b1) x tb #[a0, b1, a2, a3, a4, a5, a6, a7, a8] := hb.put 1 b1
  have h1 : Blk ((w.setCell ⟨x, 1, none⟩ b1).setCell ⟨x, 2, none⟩ b2) x tb #[a0, b1, b2, a3, a4, a5, a6, a7, a8] := h0.put 2 b2
  have h2 : Blk (((w.setCell ⟨x, 1, none⟩ b1).setCell ⟨x, 2, none⟩ b2).setCell ⟨x, 3, none⟩ b3) x tb #[a0, b1, b2, b3, a4, a5, a6, a7, a8] := h1.put 3 b3
  have h3 : Blk ((((w.setCell ⟨x, 1, none⟩ b1).setCell ⟨x, 2, none⟩ b2).setCell ⟨x, 3, none⟩ b3).setCell ⟨x, 4, none⟩ b4) x tb #[a0, b1, b2, b3, b4, a5, a6, a7, a8] := h2.put 4 b4
  have h4 : Blk (((((w.setCell ⟨x, 1, none⟩ b1).setCell ⟨x, 2, none⟩ b2).setCell ⟨x, 3, none⟩ b3).setCell ⟨x, 4, none⟩ b4).setCell ⟨x, 5, none⟩ b5) x tb #[a0, b1, b2, b3, b4, b5, a6, a7, a8] := h3.put 5 b5
  have h5 : Blk ((((((w.setCell ⟨x, 1, none⟩ b1).setCell ⟨x, 2, none⟩ b2).setCell ⟨x, 3, none⟩ b3).setCell ⟨x, 4, none⟩ b4).setCell ⟨x, 5, none⟩ b5).setCell ⟨x, 6, none⟩ b6) x tb #[a0, b1, b2, b3, b4, b5, b6, a7, a8] := h4.put 6 b6
  have h6 : Blk (((((((w.setCell ⟨x, 1, none⟩ b1).setCell ⟨x, 2, none⟩ b2).setCell ⟨x, 3, none⟩ b3).setCell ⟨x, 4, none⟩ b4).setCell ⟨x, 5, none⟩ b5).setCell ⟨x, 6, none⟩ b6).setCell ⟨x, 7, none⟩ b7) x tb #[a0, b1, b2, b3, b4, b5, b6, b7, a8] := h5.put 7 b7
  exact h6
theorem blk_put7 {op v0 : Int} {p0 : Nat → Int} {A : Option Addr} {n c : Nat} (hb : Blk w x tb (cells9 op v0 p0 A n c)) : Blk (put7 w x v p) x tb (cells9 op v p A n c) := blk_seven hb
end
set_option maxHeartbeats 4000000 in
set_option maxRecDepth 100000 in
theorem expr_atom (l : List Prod) (d : Nat) (A : Option Addr) (c : Nat) (L : List Tok) (e : Int) (g : Nat) (w : World) (hl : l.length ≤ 5000) (hp : PS w (.slice A l.length c) l) (hA : ∀ b o, A = some ⟨b, o, none⟩ → b ≠ g) (hn : ∀ p ∈ l, p.name.size ≤ maxLen) (hs : Scan 113 109 w g L e) (hm : L.length ≤ 5000) (hk : (peekT L e).kind ≠ 1) :
    Calls Tryz.prog 36 #[.agg #[.slice A l.length c, .pointer (some ⟨g, 0, none⟩)]] w (ExprPost (d + 1) ⟨.mk 1 (n6 (pricedF l L e).b) (pricedF l L e).v [], (pricedF l L e).L, (pricedF l L e).e⟩ g w) := by
  have hg := hs.lt
  have CP := Lib.hid fun W (h : Scan 113 109 W g L e) => peek_any L e g W h (small_len hm)
  have CR := Lib.hid fun W (k : Only g w W) (h : Scan 113 109 W g L e) => priced_any l A c L e g W hl (ps_only hp hA k) hA hn h hm
  generalize pricedF l L e = q at *
  obtain ⟨qb, qv, qL, qe⟩ := q
  dsimp only at CR ⊢
  generalize peekT L e = t at *
  obtain ⟨tk, tt, tv, tp⟩ := t
  dsimp only at CP hk
  have q1 : (tk == 1) = false := by simpa using hk
  have S2 := Lib.hid ((hs.below (below_new w (.cells #[.slice A l.length c, .pointer (some ⟨g, 0, none⟩)] 64))).below (below_new _ (.cells (cells9 0 0 zero6 none 0 0) 28)))
  have K1 := Lib.hid ((Blk.new w 64 #[.slice A l.length c, .pointer (some ⟨g, 0, none⟩)]).alloc (.cells (cells9 0 0 zero6 none 0 0) 28))
  have K2 := Lib.hid (Blk.new (w.alloc (.cells #[.slice A l.length c, .pointer (some ⟨g, 0, none⟩)] 64)) 28 (cells9 0 0 zero6 none 0 0))
  have O2 := Lib.hid (((Only.refl g w).alloc (.cells #[.slice A l.length c, .pointer (some ⟨g, 0, none⟩)] 64)).alloc (.cells (cells9 0 0 zero6 none 0 0) 28))
  have hz : Hid ((w.alloc (.cells #[.slice A l.length c, .pointer (some ⟨g, 0, none⟩)] 64)).heap.size = w.heap.size + 1) := by show _ = _; go_size
  rw [hz.out] at K2
  clear hs hp hA hn hk
  have d2 := K1.out.c2
  go_enter Tryz.func36, Tryz.ntmps36
  go_wp2_with fail
  refine (CP.out _ S2.out).mono ?_
  rintro r w2 ⟨rfl, b2⟩
  have K12 := Lib.hid (K1.out.below' b2)
  have K22 := Lib.hid (K2.out.below' b2)
  have S22 := Lib.hid (S2.out.below b2)
  have O22 := Lib.hid (O2.out.then_below b2)
  clear b2 d2
  have BT := Lib.hid (below_new w2 (.cells #[.int .i64 tk, .string tt, .int .i64 tv, .int .i64 tp] 109))
  have KT := Lib.hid (Blk.new w2 109 #[.int .i64 tk, .string tt, .int .i64 tv, .int .i64 tp])
  have d4 := KT.out.c4
  have d2 := K12.out.c2
  have lp := K12.out.lt
  have lr := K22.out.lt
  have S33 := Lib.hid ((S22.out.below (below_new w2 (.cells #[.int .i64 tk, .string tt, .int .i64 tv, .int .i64 tp] 109))).below (below_new _ (.cells (cells9 1 0 zero6 none 0 0) 28)))
  have O33 := Lib.hid ((O22.out.alloc (.cells #[.int .i64 tk, .string tt, .int .i64 tv, .int .i64 tp] 109)).alloc (.cells (cells9 1 0 zero6 none 0 0) 28))
  have KR3 := Lib.hid ((K22.out.alloc (.cells #[.int .i64 tk, .string tt, .int .i64 tv, .int .i64 tp] 109)).alloc (.cells (cells9 1 0 zero6 none 0 0) 28))
  have KQ3 := Lib.hid (Blk.new (w2.alloc (.cells #[.int .i64 tk, .string tt, .int .i64 tv, .int .i64 tp] 109)) 28 (cells9 1 0 zero6 none 0 0))
  have hz3 : Hid ((w2.alloc (.cells #[.int .i64 tk, .string tt, .int .i64 tv, .int .i64 tp] 109)).heap.size = w2.heap.size + 1) := by show _ = _; go_size
  rw [hz3.out] at KQ3
  go_wp2_with fail
  refine (CR.out _ O33.out S33.out).mono ?_
  rintro r w4 ⟨rfl, s4, o4⟩
  have hxr : Hid (w.heap.size + 1 < w2.heap.size + 1) := Nat.succ_lt_succ lp
  have KQ := Lib.hid (KQ3.out.only o4 (by omega))
  have KR := Lib.hid (KR3.out.only o4 (by omega))
  have S4 := Lib.hid s4
  have O4 := Lib.hid (O33.out.trans o4)
  clear s4 o4 d2 d4 S33 O33 KR3 KQ3 hz3 BT KT lp lr
  generalize w2.heap.size + 1 = x at *
  have C0 : w4.cell? ⟨x, 0, none⟩ = some (.int .i64 1) := KQ.out.cell 0
  have N0 := KQ.out.free 0
  have C1 : w4.cell? ⟨x, 1, none⟩ = some (.int .i64 0) := KQ.out.cell 1
  have N1 := KQ.out.free 1
  have C2 : w4.cell? ⟨x, 2, none⟩ = some (.int .i64 0) := KQ.out.cell 2
  have N2 := KQ.out.free 2
  have C3 : w4.cell? ⟨x, 3, none⟩ = some (.int .i64 0) := KQ.out.cell 3
  have N3 := KQ.out.free 3
  have C4 : w4.cell? ⟨x, 4, none⟩ = some (.int .i64 0) := KQ.out.cell 4
  have N4 := KQ.out.free 4
  have C5 : w4.cell? ⟨x, 5, none⟩ = some (.int .i64 0) := KQ.out.cell 5
  have N5 := KQ.out.free 5
  have C6 : w4.cell? ⟨x, 6, none⟩ = some (.int .i64 0) := KQ.out.cell 6
  have N6 := KQ.out.free 6
  have C7 : w4.cell? ⟨x, 7, none⟩ = some (.int .i64 0) := KQ.out.cell 7
  have N7 := KQ.out.free 7
  have C8 : w4.cell? ⟨x, 8, none⟩ = some (.slice none 0 0) := KQ.out.cell 8
  have N8 := KQ.out.free 8
  have D0 : w4.cell? ⟨w.heap.size + 1, 0, none⟩ = some (.int .i64 0) := KR.out.cell 0
  have M0 := KR.out.free 0
  have D1 : w4.cell? ⟨w.heap.size + 1, 1, none⟩ = some (.int .i64 0) := KR.out.cell 1
  have M1 := KR.out.free 1
  have D2 : w4.cell? ⟨w.heap.size + 1, 2, none⟩ = some (.int .i64 0) := KR.out.cell 2
  have M2 := KR.out.free 2
  have D3 : w4.cell? ⟨w.heap.size + 1, 3, none⟩ = some (.int .i64 0) := KR.out.cell 3
  have M3 := KR.out.free 3
  have D4 : w4.cell? ⟨w.heap.size + 1, 4, none⟩ = some (.int .i64 0) := KR.out.cell 4
  have M4 := KR.out.free 4
  have D5 : w4.cell? ⟨w.heap.size + 1, 5, none⟩ = some (.int .i64 0) := KR.out.cell 5
  have M5 := KR.out.free 5
  have D6 : w4.cell? ⟨w.heap.size + 1, 6, none⟩ = some (.int .i64 0) := KR.out.cell 6
  have M6 := KR.out.free 6
  have D7 : w4.cell? ⟨w.heap.size + 1, 7, none⟩ = some (.int .i64 0) := KR.out.cell 7
  have M7 := KR.out.free 7
  have D8 : w4.cell? ⟨w.heap.size + 1, 8, none⟩ = some (.slice none 0 0) := KR.out.cell 8
  have M8 := KR.out.free 8
  have lx := KQ.out.lt
  have lr := KR.out.lt
  have hne1 : (x == w.heap.size + 1) = false := by have := hxr.out; simp; omega
  have hne2 : (w.heap.size + 1 == x) = false := by have := hxr.out; simp; omega
  have hne3 : ¬ x = w.heap.size + 1 := by have := hxr.out; omega
  have hne4 : ¬ w.heap.size + 1 = x := by have := hxr.out; omega
  dsimp only [arr]
  iterate 26 (first | go_values | go_skip | go_guarded | go_step | go_upon)
  have B7 : Blk (((((((w4.setCell ⟨x, 1, none⟩ (.int .i64 (qb 0))).setCell ⟨x, 2, none⟩ (.int .i64 (qb 1))).setCell ⟨x, 3, none⟩ (.int .i64 (qb 2))).setCell ⟨x, 4, none⟩ (.int .i64 (qb 3))).setCell ⟨x, 5, none⟩ (.int .i64 (qb 4))).setCell ⟨x, 6, none⟩ (.int .i64 (qb 5))).setCell ⟨x, 7, none⟩ (.int .i64 qv)) x 28 (cells9 1 qv qb none 0 0) := blk_put7 (v := qv) (p := qb) KQ.out
  have R7 : Blk (((((((w4.setCell ⟨x, 1, none⟩ (.int .i64 (qb 0))).setCell ⟨x, 2, none⟩ (.int .i64 (qb 1))).setCell ⟨x, 3, none⟩ (.int .i64 (qb 2))).setCell ⟨x, 4, none⟩ (.int .i64 (qb 3))).setCell ⟨x, 5, none⟩ (.int .i64 (qb 4))).setCell ⟨x, 6, none⟩ (.int .i64 (qb 5))).setCell ⟨x, 7, none⟩ (.int .i64 qv)) (w.heap.size + 1) 28 (cells9 0 0 zero6 none 0 0) := far_put7 (x := x) (v := qv) (p := qb) KR.out hne4
  have S7 : Scan 113 109 (((((((w4.setCell ⟨x, 1, none⟩ (.int .i64 (qb 0))).setCell ⟨x, 2, none⟩ (.int .i64 (qb 1))).setCell ⟨x, 3, none⟩ (.int .i64 (qb 2))).setCell ⟨x, 4, none⟩ (.int .i64 (qb 3))).setCell ⟨x, 5, none⟩ (.int .i64 (qb 4))).setCell ⟨x, 6, none⟩ (.int .i64 (qb 5))).setCell ⟨x, 7, none⟩ (.int .i64 qv)) g qL qe := scan_put7 (x := x) (v := qv) (p := qb) S4.out KQ.out (by decide) (by decide)
  have O7 : Only g w (((((((w4.setCell ⟨x, 1, none⟩ (.int .i64 (qb 0))).setCell ⟨x, 2, none⟩ (.int .i64 (qb 1))).setCell ⟨x, 3, none⟩ (.int .i64 (qb 2))).setCell ⟨x, 4, none⟩ (.int .i64 (qb 3))).setCell ⟨x, 5, none⟩ (.int .i64 (qb 4))).setCell ⟨x, 6, none⟩ (.int .i64 (qb 5))).setCell ⟨x, 7, none⟩ (.int .i64 qv)) := only_put7 (x := x) (v := qv) (p := qb) O4.out (by have := hxr.out; omega)
  generalize ((((((w4.setCell ⟨x, 1, none⟩ (.int .i64 (qb 0))).setCell ⟨x, 2, none⟩ (.int .i64 (qb 1))).setCell ⟨x, 3, none⟩ (.int .i64 (qb 2))).setCell ⟨x, 4, none⟩ (.int .i64 (qb 3))).setCell ⟨x, 5, none⟩ (.int .i64 (qb 4))).setCell ⟨x, 6, none⟩ (.int .i64 (qb 5))).setCell ⟨x, 7, none⟩ (.int .i64 qv) = w5 at *
  have B7 := Lib.hid B7
  have R7 := Lib.hid R7
  have S7 := Lib.hid S7
  have O7 := Lib.hid O7
  clear KQ KR S4 O4 C0 C1 C2 C3 C4 C5 C6 C7 C8 D0 D1 D2 D3 D4 D5 D6 D7 D8 N0 N1 N2 N3 N4 N5 N6 N7 N8 M0 M1 M2 M3 M4 M5 M6 M7 M8
  have C0 : w5.cell? ⟨x, 0, none⟩ = some (.int .i64 1) := B7.out.cell 0
  have D0 : w5.cell? ⟨w.heap.size + 1, 0, none⟩ = some (.int .i64 0) := R7.out.cell 0
  have M0 := R7.out.free 0
  have C1 : w5.cell? ⟨x, 1, none⟩ = some (.int .i64 (qb 0)) := B7.out.cell 1
  have D1 : w5.cell? ⟨w.heap.size + 1, 1, none⟩ = some (.int .i64 0) := R7.out.cell 1
  have M1 := R7.out.free 1
  have C2 : w5.cell? ⟨x, 2, none⟩ = some (.int .i64 (qb 1)) := B7.out.cell 2
  have D2 : w5.cell? ⟨w.heap.size + 1, 2, none⟩ = some (.int .i64 0) := R7.out.cell 2
  have M2 := R7.out.free 2
  have C3 : w5.cell? ⟨x, 3, none⟩ = some (.int .i64 (qb 2)) := B7.out.cell 3
  have D3 : w5.cell? ⟨w.heap.size + 1, 3, none⟩ = some (.int .i64 0) := R7.out.cell 3
  have M3 := R7.out.free 3
  have C4 : w5.cell? ⟨x, 4, none⟩ = some (.int .i64 (qb 3)) := B7.out.cell 4
  have D4 : w5.cell? ⟨w.heap.size + 1, 4, none⟩ = some (.int .i64 0) := R7.out.cell 4
  have M4 := R7.out.free 4
  have C5 : w5.cell? ⟨x, 5, none⟩ = some (.int .i64 (qb 4)) := B7.out.cell 5
  have D5 : w5.cell? ⟨w.heap.size + 1, 5, none⟩ = some (.int .i64 0) := R7.out.cell 5
  have M5 := R7.out.free 5
  have C6 : w5.cell? ⟨x, 6, none⟩ = some (.int .i64 (qb 5)) := B7.out.cell 6
  have D6 : w5.cell? ⟨w.heap.size + 1, 6, none⟩ = some (.int .i64 0) := R7.out.cell 6
  have M6 := R7.out.free 6
  have C7 : w5.cell? ⟨x, 7, none⟩ = some (.int .i64 qv) := B7.out.cell 7
  have D7 : w5.cell? ⟨w.heap.size + 1, 7, none⟩ = some (.int .i64 0) := R7.out.cell 7
  have M7 := R7.out.free 7
  have C8 : w5.cell? ⟨x, 8, none⟩ = some (.slice none 0 0) := B7.out.cell 8
  have D8 : w5.cell? ⟨w.heap.size + 1, 8, none⟩ = some (.slice none 0 0) := R7.out.cell 8
  have M8 := R7.out.free 8
  have lx := B7.out.lt
  have lr := R7.out.lt
  iterate 9 (first | go_values | go_skip | go_guarded | go_step | go_upon)
  have R9 : Blk (((((((((w5.setCell ⟨w.heap.size + 1, 0, none⟩ (.int .i64 1)).setCell ⟨w.heap.size + 1, 1, none⟩ (.int .i64 (qb 0))).setCell ⟨w.heap.size + 1, 2, none⟩ (.int .i64 (qb 1))).setCell ⟨w.heap.size + 1, 3, none⟩ (.int .i64 (qb 2))).setCell ⟨w.heap.size + 1, 4, none⟩ (.int .i64 (qb 3))).setCell ⟨w.heap.size + 1, 5, none⟩ (.int .i64 (qb 4))).setCell ⟨w.heap.size + 1, 6, none⟩ (.int .i64 (qb 5))).setCell ⟨w.heap.size + 1, 7, none⟩ (.int .i64 qv)).setCell ⟨w.heap.size + 1, 8, none⟩ (.slice none 0 0)) (w.heap.size + 1) 28 (cells9 1 qv qb none 0 0) := blk_put9 (op := 1) (v := qv) (p := qb) (A := none) (n := 0) (c := 0) R7.out
  have S9 : Scan 113 109 (((((((((w5.setCell ⟨w.heap.size + 1, 0, none⟩ (.int .i64 1)).setCell ⟨w.heap.size + 1, 1, none⟩ (.int .i64 (qb 0))).setCell ⟨w.heap.size + 1, 2, none⟩ (.int .i64 (qb 1))).setCell ⟨w.heap.size + 1, 3, none⟩ (.int .i64 (qb 2))).setCell ⟨w.heap.size + 1, 4, none⟩ (.int .i64 (qb 3))).setCell ⟨w.heap.size + 1, 5, none⟩ (.int .i64 (qb 4))).setCell ⟨w.heap.size + 1, 6, none⟩ (.int .i64 (qb 5))).setCell ⟨w.heap.size + 1, 7, none⟩ (.int .i64 qv)).setCell ⟨w.heap.size + 1, 8, none⟩ (.slice none 0 0)) g qL qe := scan_put9 (op := 1) (v := qv) (p := qb) (A := none) (n := 0) (c := 0) S7.out R7.out (by decide) (by decide)
  have O9 : Only g w (((((((((w5.setCell ⟨w.heap.size + 1, 0, none⟩ (.int .i64 1)).setCell ⟨w.heap.size + 1, 1, none⟩ (.int .i64 (qb 0))).setCell ⟨w.heap.size + 1, 2, none⟩ (.int .i64 (qb 1))).setCell ⟨w.heap.size + 1, 3, none⟩ (.int .i64 (qb 2))).setCell ⟨w.heap.size + 1, 4, none⟩ (.int .i64 (qb 3))).setCell ⟨w.heap.size + 1, 5, none⟩ (.int .i64 (qb 4))).setCell ⟨w.heap.size + 1, 6, none⟩ (.int .i64 (qb 5))).setCell ⟨w.heap.size + 1, 7, none⟩ (.int .i64 qv)).setCell ⟨w.heap.size + 1, 8, none⟩ (.slice none 0 0)) := only_put9 (op := 1) (v := qv) (p := qb) (A := none) (n := 0) (c := 0) (x := w.heap.size + 1) O7.out (by omega)
  generalize ((((((((w5.setCell ⟨w.heap.size + 1, 0, none⟩ (.int .i64 1)).setCell ⟨w.heap.size + 1, 1, none⟩ (.int .i64 (qb 0))).setCell ⟨w.heap.size + 1, 2, none⟩ (.int .i64 (qb 1))).setCell ⟨w.heap.size + 1, 3, none⟩ (.int .i64 (qb 2))).setCell ⟨w.heap.size + 1, 4, none⟩ (.int .i64 (qb 3))).setCell ⟨w.heap.size + 1, 5, none⟩ (.int .i64 (qb 4))).setCell ⟨w.heap.size + 1, 6, none⟩ (.int .i64 (qb 5))).setCell ⟨w.heap.size + 1, 7, none⟩ (.int .i64 qv)).setCell ⟨w.heap.size + 1, 8, none⟩ (.slice none 0 0) = w9 at *
  have R9 := Lib.hid R9
  have S9 := Lib.hid S9
  have O9 := Lib.hid O9
  clear B7 R7 S7 O7 C0 C1 C2 C3 C4 C5 C6 C7 C8 D0 D1 D2 D3 D4 D5 D6 D7 D8 M0 M1 M2 M3 M4 M5 M6 M7 M8 lx lr
  repeat (first | go_values | go_skip | go_guarded | go_step | go_upon)
  exact bodyPost_ret (v := .agg (cells9 1 qv qb none 0 0)) (results_blk rfl rfl R9.out Tryz.underlying28 rfl (by kernel_rfl)) rfl ⟨.mk 1 qb qv none 0 [], rfl, rfl, ⟨Nat.le_refl _, Nat.zero_le _, fun h => absurd h (by simp), fun x hx => by simp at hx⟩, S9.out, O9.out⟩
end Go.Proofs.YtjjlhihocllgjaaGreatDoor.Ex
