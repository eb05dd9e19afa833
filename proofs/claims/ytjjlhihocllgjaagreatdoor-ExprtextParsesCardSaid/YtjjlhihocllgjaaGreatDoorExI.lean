/- Contract of exprtext's argument, by that of expression. Printed by gen_exI.py. -/
import Derived.Test.YtjjlhihocllgjaaGreatDoorExH
namespace Go.Proofs.YtjjlhihocllgjaaGreatDoor.Ex
open Go.ChangeShapes Go.WideShapes Go.ChangeAt Go.RowKit Gn Cat Lex
set_option linter.unusedVariables false
set_option linter.unusedSimpArgs false
abbrev put9 (w : World) (x : Nat) (op v : Int) (p : Nat → Int) (A : Option Addr) (n c : Nat) : World := ((((((((w.setCell ⟨x, 0, none⟩ (.int .i64 op)).setCell ⟨x, 1, none⟩ (.int .i64 (p 0))).setCell ⟨x, 2, none⟩ (.int .i64 (p 1))).setCell ⟨x, 3, none⟩ (.int .i64 (p 2))).setCell ⟨x, 4, none⟩ (.int .i64 (p 3))).setCell ⟨x, 5, none⟩ (.int .i64 (p 4))).setCell ⟨x, 6, none⟩ (.int .i64 (p 5))).setCell ⟨x, 7, none⟩ (.int .i64 v)).setCell ⟨x, 8, none⟩ (.slice A n c)
section
variable {ts te tb : TypeId} {w wx : World} {g x : Nat} {L : List Tok} {e : Int} {cs : Array Value} {op v : Int} {p : Nat → Int} {A : Option Addr} {n c : Nat}
theorem scan_put9 (h : Scan ts te w g L e) (hb : Blk w x tb cs) (h1 : tb ≠ ts) (h2 : tb ≠ te) : Scan ts te (put9 w x op v p A n c) g L e :=
  (((((((((h.put_far hb h1 h2 0 _).put_far (hb.put 0 _) h1 h2 1 _).put_far ((hb.put 0 _).put 1 _) h1 h2 2 _).put_far (((hb.put 0 _).put 1 _).put 2 _) h1 h2 3 _).put_far ((((hb.put 0 _).put 1 _).put 2 _).put 3 _) h1 h2 4 _).put_far (((((hb.put 0 _).put 1 _).put 2 _).put 3 _).put 4 _) h1 h2 5 _).put_far ((((((hb.put 0 _).put 1 _).put 2 _).put 3 _).put 4 _).put 5 _) h1 h2 6 _).put_far (((((((hb.put 0 _).put 1 _).put 2 _).put 3 _).put 4 _).put 5 _).put 6 _) h1 h2 7 _).put_far ((((((((hb.put 0 _).put 1 _).put 2 _).put 3 _).put 4 _).put 5 _).put 6 _).put 7 _) h1 h2 8 _)
theorem only_put9 (h : Only g w wx) (hx : w.heap.size ≤ x) : Only g w (put9 wx x op v p A n c) :=
  (((((((((h.put_new (p := ⟨x, 0, none⟩) hx _).put_new (p := ⟨x, 1, none⟩) hx _).put_new (p := ⟨x, 2, none⟩) hx _).put_new (p := ⟨x, 3, none⟩) hx _).put_new (p := ⟨x, 4, none⟩) hx _).put_new (p := ⟨x, 5, none⟩) hx _).put_new (p := ⟨x, 6, none⟩) hx _).put_new (p := ⟨x, 7, none⟩) hx _).put_new (p := ⟨x, 8, none⟩) hx _)
theorem inP_put9 {ok : Nat → Prop} {d : Nat} {t : Tree} (h : InP ok d w t) (hx : ¬ ok x) : InP ok d (put9 w x op v p A n c) t :=
  (((((((((h.put (p := ⟨x, 0, none⟩) hx _).put (p := ⟨x, 1, none⟩) hx _).put (p := ⟨x, 2, none⟩) hx _).put (p := ⟨x, 3, none⟩) hx _).put (p := ⟨x, 4, none⟩) hx _).put (p := ⟨x, 5, none⟩) hx _).put (p := ⟨x, 6, none⟩) hx _).put (p := ⟨x, 7, none⟩) hx _).put (p := ⟨x, 8, none⟩) hx _)
theorem blk_nine {a0 a1 a2 a3 a4 a5 a6 a7 a8 b0 b1 b2 b3 b4 b5 b6 b7 b8 : Value} (hb : Blk w x tb #[a0, a1, a2, a3, a4, a5, a6, a7, a8]) : Blk (((((((((w.setCell ⟨x, 0, none⟩ b0).setCell ⟨x, 1, none⟩ b1).setCell ⟨x, 2, none⟩ b2).setCell ⟨x, 3, none⟩ b3).setCell ⟨x, 4, none⟩ b4).setCell ⟨x, 5, none⟩ b5).setCell ⟨x, 6, none⟩ b6).setCell ⟨x, 7, none⟩ b7).setCell ⟨x, 8, none⟩ b8) x tb #[b0, b1, b2, b3, b4, b5, b6, b7, b8] := by
  have h0 : Blk (w.setCell ⟨x, 0, none⟩ b0) x tb #[b0, a1, a2, a3, a4, a5, a6, a7, a8] := hb.put 0 b0
  have h1 : Blk ((w.setCell ⟨x, 0, none⟩ b0).setCell ⟨x, 1, none⟩ b1) x tb #[b0, b1, a2, a3, a4, a5, a6, a7, a8] := h0.put 1 b1
  have h2 : Blk (((w.setCell ⟨x, 0, none⟩ b0).setCell ⟨x, 1, none⟩ b1).setCell ⟨x, 2, none⟩ b2) x tb #[b0, b1, b2, a3, a4, a5, a6, a7, a8] := h1.put 2 b2
  have h3 : Blk ((((w.setCell ⟨x, 0, none⟩ b0).setCell ⟨x, 1, none⟩ b1).setCell ⟨x, 2, none⟩ b2).setCell ⟨x, 3, none⟩ b3) x tb #[b0, b1, b2, b3, a4, a5, a6, a7, a8] := h2.put 3 b3
  have h4 : Blk (((((w.setCell ⟨x, 0, none⟩ b0).setCell ⟨x, 1, none⟩ b1).setCell ⟨x, 2, none⟩ b2).setCell ⟨x, 3, none⟩ b3).setCell ⟨x, 4, none⟩ b4) x tb #[b0, b1, b2, b3, b4, a5, a6, a7, a8] := h3.put 4 b4
  have h5 : Blk ((((((w.setCell ⟨x, 0, none⟩ b0).setCell ⟨x, 1, none⟩ b1).setCell ⟨x, 2, none⟩ b2).setCell ⟨x, 3, none⟩ b3).setCell ⟨x, 4, none⟩ b4).setCell ⟨x, 5, none⟩ b5) x tb #[b0, b1, b2, b3, b4, b5, a6, a7, a8] := h4.put 5 b5
  have h6 : Blk (((((((w.setCell ⟨x, 0, none⟩ b0).setCell ⟨x, 1, none⟩ b1).setCell ⟨x, 2, none⟩ b2).setCell ⟨x, 3, none⟩ b3).setCell ⟨x, 4, none⟩ b4).setCell ⟨x, 5, none⟩ b5).setCell ⟨x, 6, none⟩ b6) x tb #[b0, b1, b2, b3, b4, b5, b6, a7, a8] := h5.put 6 b6
  have h7 : Blk ((((((((w.setCell ⟨x, 0, none⟩ b0).setCell ⟨x, 1, none⟩ b1).setCell ⟨x, 2, none⟩ b2).setCell ⟨x, 3, none⟩ b3).setCell ⟨x, 4, none⟩ b4).setCell ⟨x, 5, none⟩ b5).setCell ⟨x, 6, none⟩ b6).setCell ⟨x, 7, none⟩ b7) x tb #[b0, b1, b2, b3, b4, b5, b6, b7, a8] := h6.put 7 b7
  have h8 : Blk (((((((((w.setCell ⟨x, 0, none⟩ b0).setCell ⟨x, 1, none⟩ b1).setCell ⟨x, 2, none⟩ b2).setCell ⟨x, 3, none⟩ b3).setCell ⟨x, 4, none⟩ b4).setCell ⟨x, 5, none⟩ b5).setCell ⟨x, 6, none⟩ b6).setCell ⟨x, 7, none⟩ b7).setCell ⟨x, 8, none⟩ b8) x tb #[b0, b1, b2, b3, b4, b5, b6, b7, b8] := h7.put 8 b8
  exact h8
theorem blk_put9 {op0 v0 : Int} {p0 : Nat → Int} {A0 : Option Addr} {n0 c0 : Nat} (hb : Blk w x tb (cells9 op0 v0 p0 A0 n0 c0)) : Blk (put9 w x op v p A n c) x tb (cells9 op v p A n c) := blk_nine hb
end
abbrev ExprPost (d : Nat) (q : PX) (g : Nat) (w : World) : Ending → World → Prop := fun r w' => ∃ t : Tree, r = .returned t.val ∧ xF d t = q.x ∧ InP (fun b => w.heap.size ≤ b) d w' t ∧ Scan 113 109 w' g q.L q.e ∧ Only g w w'
set_option maxHeartbeats 4000000 in
set_option maxRecDepth 100000 in
theorem arg_err (l : List Prod) (d : Nat) (f : List Tok → Int → PX) (A : Option Addr) (c : Nat) (L : List Tok) (e : Int) (g : Nat) (w : World) (hs : Scan 113 109 w g L e) (he : e ≠ 0) :
    Calls Tryz.prog 77 #[.agg #[.slice A l.length c, .pointer (some ⟨g, 0, none⟩)]] w (ExprPost (d + 1) (argX f L e) g w) := by
  have hq : argX f L e = ⟨x0, L, e⟩ := by unfold argX; rw [if_pos he]
  rw [hq]
  have hg := hs.lt
  have CE := Lib.hid fun W (h : Scan 113 109 W g L e) => err_any L e g W h
  have q1 : (e != 0) = true := by simpa using he
  have S2 := Lib.hid ((hs.below (below_new w (.cells #[.slice A l.length c, .pointer (some ⟨g, 0, none⟩)] 64))).below (below_new _ (.cells (cells9 0 0 zero6 none 0 0) 28)))
  have K1 := Lib.hid ((Blk.new w 64 #[.slice A l.length c, .pointer (some ⟨g, 0, none⟩)]).alloc (.cells (cells9 0 0 zero6 none 0 0) 28))
  have K2 := Lib.hid (Blk.new (w.alloc (.cells #[.slice A l.length c, .pointer (some ⟨g, 0, none⟩)] 64)) 28 (cells9 0 0 zero6 none 0 0))
  have O2 := Lib.hid (((Only.refl g w).alloc (.cells #[.slice A l.length c, .pointer (some ⟨g, 0, none⟩)] 64)).alloc (.cells (cells9 0 0 zero6 none 0 0) 28))
  have hz : Hid ((w.alloc (.cells #[.slice A l.length c, .pointer (some ⟨g, 0, none⟩)] 64)).heap.size = w.heap.size + 1) := by show _ = _; go_size
  rw [hz.out] at K2
  clear hs he hq
  have d2 := K1.out.c2
  go_enter Tryz.func77, Tryz.ntmps77
  go_wp2_with fail
  refine (CE.out _ S2.out).mono ?_
  rintro r w2 ⟨rfl, rfl⟩
  go_wp2_with fail
  exact bodyPost_ret (v := .agg (cells9 0 0 zero6 none 0 0)) (results_blk rfl rfl K2.out Tryz.underlying28 rfl (by kernel_rfl)) rfl ⟨noTree, rfl, rfl, inP_none _ _ _, S2.out, O2.out⟩
set_option maxHeartbeats 4000000 in
set_option maxRecDepth 100000 in
theorem arg_ok (l : List Prod) (d : Nat) (f : List Tok → Int → PX) (A : Option Addr) (c : Nat) (L : List Tok) (g : Nat) (w : World) (hs : Scan 113 109 w g L 0)
    (HE : ∀ W, Only g w W → Scan 113 109 W g L 0 → Calls Tryz.prog 36 #[.agg #[.slice A l.length c, .pointer (some ⟨g, 0, none⟩)]] W (ExprPost d (f L 0) g W)) :
    Calls Tryz.prog 77 #[.agg #[.slice A l.length c, .pointer (some ⟨g, 0, none⟩)]] w (ExprPost d (argX f L 0) g w) := by
  have hq : argX f L 0 = f L 0 := by unfold argX; rw [if_neg (by simp)]
  rw [hq]
  generalize f L 0 = q at *
  have hg := hs.lt
  have CE := Lib.hid fun W (h : Scan 113 109 W g L 0) => err_any L 0 g W h
  have S2 := Lib.hid ((hs.below (below_new w (.cells #[.slice A l.length c, .pointer (some ⟨g, 0, none⟩)] 64))).below (below_new _ (.cells (cells9 0 0 zero6 none 0 0) 28)))
  have K1 := Lib.hid ((Blk.new w 64 #[.slice A l.length c, .pointer (some ⟨g, 0, none⟩)]).alloc (.cells (cells9 0 0 zero6 none 0 0) 28))
  have K2 := Lib.hid (Blk.new (w.alloc (.cells #[.slice A l.length c, .pointer (some ⟨g, 0, none⟩)] 64)) 28 (cells9 0 0 zero6 none 0 0))
  have O2 := Lib.hid (((Only.refl g w).alloc (.cells #[.slice A l.length c, .pointer (some ⟨g, 0, none⟩)] 64)).alloc (.cells (cells9 0 0 zero6 none 0 0) 28))
  have hz : Hid ((w.alloc (.cells #[.slice A l.length c, .pointer (some ⟨g, 0, none⟩)] 64)).heap.size = w.heap.size + 1) := by show _ = _; go_size
  rw [hz.out] at K2
  have HE := Lib.hid HE
  clear hs hq
  have d2 := K1.out.c2
  go_enter Tryz.func77, Tryz.ntmps77
  go_wp2_with fail
  refine (CE.out _ S2.out).mono ?_
  rintro r w2 ⟨rfl, rfl⟩
  go_wp2_with fail
  refine (HE.out _ O2.out S2.out).mono ?_
  rintro r w3 ⟨t, rfl, hx, hi, s3, o3⟩
  have K3 := Lib.hid (K2.out.only o3 (by omega))
  have L2 := Lib.hid K2.out.lt
  have S3 := Lib.hid s3
  have O3 := Lib.hid (O2.out.trans o3)
  have I3 := Lib.hid hi
  have HX := Lib.hid hx
  clear s3 o3 hi hx
  obtain ⟨op, p, v, B, cb, ks⟩ := t
  have C0 : w3.cell? ⟨w.heap.size + 1, 0, none⟩ = some (.int .i64 0) := K3.out.cell 0
  have N0 := K3.out.free 0
  have C1 : w3.cell? ⟨w.heap.size + 1, 1, none⟩ = some (.int .i64 0) := K3.out.cell 1
  have N1 := K3.out.free 1
  have C2 : w3.cell? ⟨w.heap.size + 1, 2, none⟩ = some (.int .i64 0) := K3.out.cell 2
  have N2 := K3.out.free 2
  have C3 : w3.cell? ⟨w.heap.size + 1, 3, none⟩ = some (.int .i64 0) := K3.out.cell 3
  have N3 := K3.out.free 3
  have C4 : w3.cell? ⟨w.heap.size + 1, 4, none⟩ = some (.int .i64 0) := K3.out.cell 4
  have N4 := K3.out.free 4
  have C5 : w3.cell? ⟨w.heap.size + 1, 5, none⟩ = some (.int .i64 0) := K3.out.cell 5
  have N5 := K3.out.free 5
  have C6 : w3.cell? ⟨w.heap.size + 1, 6, none⟩ = some (.int .i64 0) := K3.out.cell 6
  have N6 := K3.out.free 6
  have C7 : w3.cell? ⟨w.heap.size + 1, 7, none⟩ = some (.int .i64 0) := K3.out.cell 7
  have N7 := K3.out.free 7
  have C8 : w3.cell? ⟨w.heap.size + 1, 8, none⟩ = some (.slice none 0 0) := K3.out.cell 8
  have N8 := K3.out.free 8
  have l3 := K3.out.lt
  dsimp only [Tree.val, Tree.op, Tree.want, Tree.value, Tree.a, Tree.c, Tree.args]
  go_wp2_with fail
  have K4 := Lib.hid (blk_put9 (op := op) (v := v) (p := p) (A := B) (n := ks.length) (c := cb) K3.out)
  have I4 := inP_put9 (op := op) (v := v) (p := p) (A := B) (n := ks.length) (c := cb) (x := w.heap.size + 1) I3.out (fun ok => by have := L2.out; omega)
  have P4 := scan_put9 (op := op) (v := v) (p := p) (A := B) (n := ks.length) (c := cb) S3.out K3.out (by decide) (by decide)
  have O4 := only_put9 (op := op) (v := v) (p := p) (A := B) (n := ks.length) (c := cb) (x := w.heap.size + 1) O3.out (by omega)
  exact bodyPost_ret (v := .agg (cells9 op v p B ks.length cb)) (results_blk rfl rfl K4.out Tryz.underlying28 rfl (by kernel_rfl)) rfl ⟨.mk op p v B cb ks, rfl, HX.out, I4.mono (fun b _ ok => by have := L2.out; omega), P4, O4⟩
end Go.Proofs.YtjjlhihocllgjaaGreatDoor.Ex
