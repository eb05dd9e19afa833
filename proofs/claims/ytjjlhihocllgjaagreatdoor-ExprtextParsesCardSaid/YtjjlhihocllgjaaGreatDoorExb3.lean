/- Plain: the memory of the reference's expression. Printed by gen_exb3.py. -/
import Derived.Test.YtjjlhihocllgjaaGreatDoorExJ
import Derived.Deep.AppendLies
namespace Go.Proofs.YtjjlhihocllgjaaGreatDoor.Ex
open Go.ChangeShapes Go.WideShapes Go.ChangeAt Go.RowKit Gn Cat Lex
set_option linter.unusedVariables false
set_option linter.unusedSimpArgs false
/-- the scanner; the parser's block, the result's, the expression's at q; its arguments -/
structure YMid (tx ts te : TypeId) (w wx : World) (g q : Nat) (op v : Int) (p : Nat → Int) (A : Option Addr) (c d : Nat) (ks : List Tree) (L : List Tok) (e : Int) : Prop where
  scan : Scan ts te wx g L e
  res : Blk wx (w.heap.size) tx (cells9 0 0 zero6 none 0 0)
  box : Blk wx q tx (cells9 op v p A ks.length c)
  own : wx.ownsRow (q + 1) tx 9 (.slice A ks.length c) ks.length (ks.flatMap Tree.cells)
  kids : ∀ x ∈ ks, InP (fun b => q < b ∧ (Value.slice A ks.length c).ownBlock ≠ some b) d wx x
  far : w.heap.size < q
  gw : g < w.heap.size
  only : Only g w wx
section
variable {tx ts te : TypeId} {w wx wy : World} {g q : Nat} {op v : Int} {p : Nat → Int} {A : Option Addr} {c d : Nat} {ks : List Tree} {L L' : List Tok} {e e' : Int}
theorem YMid.row_ne (h : YMid tx ts te w wx g q op v p A c d ks L e) {b : Nat} (hb : b ≤ q) : (Value.slice A ks.length c).ownBlock ≠ some b := fun k => by
  have := own_ge h.own k
  omega
theorem YMid.step (h : YMid tx ts te w wx g q op v p A c d ks L e) (k : Scan ts te wy g L' e') (o : Only g wx wy) : YMid tx ts te w wy g q op v p A c d ks L' e' := by
  have hf := h.far
  have hg := h.gw
  exact ⟨k, h.res.only o (by omega), h.box.only o (by omega), h.own.kept (only_grown o) (.inr (h.row_ne (by omega))), fun x hx => (h.kids x hx).only o (fun b ok => by have := ok.1; omega), hf, hg, h.only.trans o⟩
theorem YMid.below (h : YMid tx ts te w wx g q op v p A c d ks L e) (o : Below wx.heap.size wx wy) : YMid tx ts te w wy g q op v p A c d ks L e :=
  h.step (h.scan.below o) (Only.of_below g o)
/-- one argument more -/
theorem YMid.grow (h : YMid tx ts te w wx g q op v p A c d ks L e) (h1 : tx ≠ ts) (h2 : tx ≠ te) (x : Tree) (hx : InP (fun b => q < b ∧ (Value.slice A ks.length c).ownBlock ≠ some b) d wx x) {b2 c2 : Nat}
    (hgr : wx.grownBy wy (Value.slice A ks.length c).ownBlock)
    (hown : wy.ownsRow (q + 1) tx 9 (.slice (some ⟨b2, 0, none⟩) (ks.length + 1) c2) (ks.length + 1) (ks.flatMap Tree.cells ++ x.cells))
    (hat : (Value.slice A ks.length c).ownBlock = some b2 ∨ b2 = wx.heap.size) :
    YMid tx ts te w (wy.setCell ⟨q, 8, none⟩ (.slice (some ⟨b2, 0, none⟩) (ks.length + 1) c2)) g q op v p (some ⟨b2, 0, none⟩) c2 d (ks ++ [x]) L e := by
  have hf := h.far
  have hg := h.gw
  have e1 : (ks ++ [x]).length = ks.length + 1 := by simp
  have e2 : (ks ++ [x]).flatMap Tree.cells = ks.flatMap Tree.cells ++ x.cells := by simp
  have hq : q < b2 := own_ge hown rfl
  have row (b : Nat) (hb : b ≤ q) : some b ≠ (Value.slice A ks.length c).ownBlock := (h.row_ne hb).symm
  have kb := h.box.grown hgr (row q (Nat.le_refl _))
  have kk (y : Tree) (hy : InP (fun b => q < b ∧ (Value.slice A ks.length c).ownBlock ≠ some b) d wx y) : InP (fun b => q < b ∧ (some b2 : Option Nat) ≠ some b) d (wy.setCell ⟨q, 8, none⟩ (.slice (some ⟨b2, 0, none⟩) (ks.length + 1) c2)) y := by
    have m1 : InP (fun b => (q < b ∧ (Value.slice A ks.length c).ownBlock ≠ some b) ∧ b2 ≠ b) d wx y := hy.mono fun b hb ok => ⟨ok, fun e => by
      subst e
      rcases hat with hat | hat
      · exact ok.2 hat
      · omega⟩
    have m2 := m1.grown hgr (fun b ok => ok.1.2)
    have m3 := m2.put (p := ⟨q, 8, none⟩) (fun ok => Nat.lt_irrefl _ ok.1.1) (.slice (some ⟨b2, 0, none⟩) (ks.length + 1) c2)
    exact m3.mono fun b _ ok => ⟨ok.1.1, fun e => ok.2 (by injection e)⟩
  refine ⟨(scan_grown h.scan h.own h1 h2 hgr).put_far kb h1 h2 8 _, (h.res.grown hgr (row _ (by omega))).far (by show _ ≠ q; omega) _, ?_, ?_, ?_, hf, hg, ?_⟩
  · rw [e1]; exact kb.put 8 (.slice (some ⟨b2, 0, none⟩) (ks.length + 1) c2)
  · rw [e1, e2]
    exact hown.kept (put_grown wy q 8 _) (.inr (by simp [Value.ownBlock]; omega))
  · intro y hy
    rcases List.mem_append.1 hy with hy | hy
    · exact kk y (h.kids y hy)
    · obtain rfl : y = x := by simpa using hy
      exact kk y hx
  · have o1 : Only g w wy := ⟨hgr.os.trans h.only.os, hgr.tape.trans h.only.tape, hgr.output.trans h.only.output, Nat.le_trans h.only.size hgr.size, fun k hk hne => (hgr.block k (Nat.lt_of_lt_of_le hk h.only.size) (row k (by omega))).trans (h.only.block k hk hne)⟩
    exact o1.put_new (p := ⟨q, 8, none⟩) (by show w.heap.size ≤ q; omega) _
/-- a number of the expression -/
theorem YMid.put (h : YMid tx ts te w wx g q op v p A c d ks L e) (h1 : tx ≠ ts) (h2 : tx ≠ te) (v' : Int) : YMid tx ts te w (wx.setCell ⟨q, 7, none⟩ (.int .i64 v')) g q op v' p A c d ks L e := by
  have hf := h.far
  have hg := h.gw
  exact ⟨h.scan.put_far h.box h1 h2 7 _, h.res.far (by show _ ≠ q; omega) _, h.box.put 7 _, h.own.kept (put_grown wx q 7 _) (.inr (h.row_ne (Nat.le_refl _))), fun x hx => (h.kids x hx).put (p := ⟨q, 7, none⟩) (fun ok => Nat.lt_irrefl _ ok.1) _, hf, hg, h.only.put_new (p := ⟨q, 7, none⟩) (by show w.heap.size ≤ q; omega) _⟩
/-- the tree that the expression's block holds -/
theorem YMid.tree (h : YMid tx ts te w wx g q op v p A c d ks L e) : InP (fun b => w.heap.size ≤ b) (d + 1) wx (.mk op p v A c ks) := by
  have hf := h.far
  obtain ⟨h0, A', c', e1, k2, k3, k4⟩ := Sl.of_own h.own
  injection e1 with e1 _ e2
  subst e1 e2
  refine ⟨k2, k3, fun hn => ?_, fun x hx => (h.kids x hx).mono fun b _ ok => by have := ok.1; omega⟩
  obtain ⟨b, o, e3, hb, hr⟩ := k4 hn
  refine ⟨b, o, e3, ?_, hb, hr⟩
  have : q + 1 ≤ b := own_ge h.own (by subst e3; rfl)
  omega
end
section
variable {tx ts te : TypeId} {w wx wy : World} {g q : Nat} {op v : Int} {p : Nat → Int} {A : Option Addr} {c d : Nat} {ks : List Tree} {L L' : List Tok} {e e' : Int}
theorem YMid.tree2 (h : YMid tx ts te w wx g q op v p A c d ks L e) : InP (fun b => q < b) (d + 1) wx (.mk op p v A c ks) := by
  obtain ⟨h0, A', c', e1, k2, k3, k4⟩ := Sl.of_own h.own
  injection e1 with e1 _ e2
  subst e1 e2
  refine ⟨k2, k3, fun hn => ?_, fun x hx => (h.kids x hx).mono fun b _ ok => ok.1⟩
  obtain ⟨b, o, e3, hb, hr⟩ := k4 hn
  refine ⟨b, o, e3, ?_, hb, hr⟩
  have : q + 1 ≤ b := own_ge h.own (by subst e3; rfl)
  omega
/-- the result's block takes the expression -/
theorem YMid.done (h : YMid tx ts te w wx g q op v p A c d ks L e) (h1 : tx ≠ ts) (h2 : tx ≠ te) : InP (fun b => w.heap.size ≤ b) (d + 1) (put9 wx (w.heap.size) op v p A ks.length c) (.mk op p v A c ks) ∧ Scan ts te (put9 wx (w.heap.size) op v p A ks.length c) g L e ∧ Only g w (put9 wx (w.heap.size) op v p A ks.length c) := by
  have hf := h.far
  exact ⟨(inP_put9 h.tree2 (fun k => by omega)).mono fun b _ ok => by omega, scan_put9 h.scan h.res h1 h2, only_put9 h.only (by omega)⟩
/-- what was made later lies far from it -/
theorem YMid.fit (h : YMid tx ts te w wx g q op v p A c d ks L e) {t : Tree} (hi : InP (fun b => wx.heap.size ≤ b) d wy t) : InP (fun b => q < b ∧ (Value.slice A ks.length c).ownBlock ≠ some b) d wy t :=
  hi.mono fun b _ ok => ⟨by have := h.box.lt; omega, fun e => by
    rcases h.own.2 with ⟨e1, _⟩ | ⟨g', cap, cur, e1, _, hh, _⟩
    · rw [e1] at e; cases e
    · rw [e1] at e
      obtain rfl : g' = b := by simpa [Value.ownBlock] using e
      rw [Array.getElem?_eq_none ok] at hh
      cases hh⟩
/-- the bundle and the value of the expression -/
theorem YMid.put7 (h : YMid tx ts te w wx g q op v p A c d ks L e) (h1 : tx ≠ ts) (h2 : tx ≠ te) (v' : Int) (p' : Nat → Int) : YMid tx ts te w (put7 wx q v' p') g q op v' p' A c d ks L e := by
  have hf := h.far
  have hg := h.gw
  have hown : (Ex.put7 wx q v' p').ownsRow (q + 1) tx 9 (.slice A ks.length c) ks.length (ks.flatMap Tree.cells) := by
    have hr : ∀ (W : World) (j : Nat) (u : Value), W.ownsRow (q + 1) tx 9 (.slice A ks.length c) ks.length (ks.flatMap Tree.cells) → (W.setCell ⟨q, j, none⟩ u).ownsRow (q + 1) tx 9 (.slice A ks.length c) ks.length (ks.flatMap Tree.cells) := fun W j u k => k.kept (put_grown W q j u) (.inr (h.row_ne (Nat.le_refl _)))
    exact hr _ 7 _ (hr _ 6 _ (hr _ 5 _ (hr _ 4 _ (hr _ 3 _ (hr _ 2 _ (hr _ 1 _ h.own))))))
  exact ⟨scan_put7 h.scan h.box h1 h2, far_put7 h.res (by omega), blk_put7 h.box, hown, fun x hx => inP_put7 (h.kids x hx) (fun ok => Nat.lt_irrefl _ ok.1), hf, hg, only_put7 h.only (by omega)⟩
end
theorem ymid_new {tx ts te : TypeId} {w wx : World} {g : Nat} {L : List Tok} {e : Int} (s : Scan ts te wx g L e) (k2 : Blk wx w.heap.size tx (cells9 0 0 zero6 none 0 0)) (o : Only g w wx) (hg : g < w.heap.size) (d : Nat) : YMid tx ts te w (wx.alloc (.cells (cells9 0 0 zero6 none 0 0) tx)) g wx.heap.size 0 0 zero6 none 0 d [] L e :=
  ⟨s.below (below_new _ _), k2.alloc _, Blk.new wx tx _, ⟨rfl, .inl ⟨rfl, rfl⟩⟩, fun x hx => by simp at hx, k2.lt, hg, o.alloc _⟩
section
variable {tx ts te : TypeId} {w wx : World} {g q : Nat} {op v : Int} {p : Nat → Int} {A : Option Addr} {c d : Nat} {ks : List Tree} {L : List Tok} {e : Int}
/-- the operation -/
theorem YMid.setOp (h : YMid tx ts te w wx g q op v p A c d ks L e) (h1 : tx ≠ ts) (h2 : tx ≠ te) (op' : Int) : YMid tx ts te w (wx.setCell ⟨q, 0, none⟩ (.int .i64 op')) g q op' v p A c d ks L e := by
  have hf := h.far
  have hg := h.gw
  exact ⟨h.scan.put_far h.box h1 h2 0 _, h.res.far (by show _ ≠ q; omega) _, h.box.put 0 _, h.own.kept (put_grown wx q 0 _) (.inr (h.row_ne (Nat.le_refl _))), fun x hx => (h.kids x hx).put (p := ⟨q, 0, none⟩) (fun ok => Nat.lt_irrefl _ ok.1) _, hf, hg, h.only.put_new (p := ⟨q, 0, none⟩) (by show w.heap.size ≤ q; omega) _⟩
/-- the first argument, in a row of its own -/
theorem YMid.first (h : YMid tx ts te w wx g q op v p none 0 d [] L e) (h1 : tx ≠ ts) (h2 : tx ≠ te) (x : Tree) (hx : InP (fun b => q < b) d wx x) : YMid tx ts te w ((wx.alloc (.cells x.cells.toArray tx)).setCell ⟨q, 8, none⟩ (.slice (some ⟨wx.heap.size, 0, none⟩) 1 1)) g q op v p (some ⟨wx.heap.size, 0, none⟩) 1 d [x] L e := by
  have hq := h.box.lt
  refine h.grow h1 h2 x (hx.mono fun b _ ok => ⟨ok, fun e => by cases e⟩) (b2 := wx.heap.size) (c2 := 1) ?_ ?_ (.inr rfl)
  · have b := below_new wx (.cells x.cells.toArray tx)
    exact ⟨b.os, b.tape, b.output, b.size, fun k hk _ => b.block k hk⟩
  · exact ⟨rfl, .inr ⟨wx.heap.size, 1, x.cells.toArray, rfl, by omega, (Blk.new wx tx x.cells.toArray), Nat.le_refl _, by decide, rfl, rfl⟩⟩
end
end Go.Proofs.YtjjlhihocllgjaaGreatDoor.Ex
