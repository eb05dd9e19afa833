/- Plain: the memory of the parser's expression, and what each step leaves of it. -/
import Derived.Test.YtjjlhihocllgjaaGreatDoorExG
import Derived.Deep.AppendLies
namespace Go.Proofs.YtjjlhihocllgjaaGreatDoor.Ex
open Go.ChangeShapes Go.WideShapes Go.ChangeAt Go.RowKit Gn Cat Lex
set_option linter.unusedVariables false
set_option linter.unusedSimpArgs false
theorem own_ge {w : World} {base : Nat} {e : TypeId} {size n : Nat} {v : Value} {xs : List Value} (h : w.ownsRow base e size v n xs) {b : Nat} (hb : v.ownBlock = some b) : base ≤ b := by
  rcases h.2 with ⟨rfl, _⟩ | ⟨g', cap, cur, rfl, h1, hh, _⟩
  · simp [Value.ownBlock] at hb
  · have : g' = b := by simpa [Value.ownBlock] using hb
    omega
theorem only_grown {g : Nat} {w w' : World} (o : Only g w w') : w.grownBy w' (some g) := ⟨o.os, o.tape, o.output, o.size, fun k hk hne => o.block k hk (fun e => hne (by rw [e]))⟩
theorem put_grown (w : World) (g i : Nat) (u : Value) : w.grownBy (w.setCell ⟨g, i, none⟩ u) (some g) :=
  ⟨rfl, rfl, rfl, by rw [World.size_setCell]; exact Nat.le_refl _, fun k hk hne => Below.heap_setCell w ⟨g, i, none⟩ u k (fun e => hne (by rw [e]))⟩
theorem scan_grown {ts te e : TypeId} {w w' : World} {g base size n : Nat} {L : List Tok} {er : Int} {v : Value} {xs : List Value} (h : Scan ts te w g L er) (k : w.ownsRow base e size v n xs) (h1 : e ≠ ts) (h2 : e ≠ te) (hg : w.grownBy w' v.ownBlock) : Scan ts te w' g L er := by
  rcases k.2 with ⟨rfl, _⟩ | ⟨b, cap, cur, rfl, _, hh, _⟩
  · exact h.below ⟨hg.os, hg.tape, hg.output, hg.size, fun j hj => hg.block j hj (by simp [Value.ownBlock])⟩
  · exact h.other (g' := b) (ts' := e) (cs' := cur) ⟨hg.os, hg.tape, hg.output, hg.size, fun j hj hne => hg.block j hj (by simpa [Value.ownBlock] using hne)⟩ hh h1 h2
theorem InP.grown {ok : Nat → Prop} {d : Nat} {w w' : World} {e : Tree} {row : Option Nat} (h : InP ok d w e) (k : w.grownBy w' row) (hr : ∀ b, ok b → row ≠ some b) : InP ok d w' e :=
  h.keep (fun b ho hb => k.block b hb (fun x => hr b ho x.symm)) k.size
abbrev cells9 (op v : Int) (p : Nat → Int) (A : Option Addr) (n c : Nat) : Array Value := #[.int .i64 op, .int .i64 (p 0), .int .i64 (p 1), .int .i64 (p 2), .int .i64 (p 3), .int .i64 (p 4), .int .i64 (p 5), .int .i64 v, .slice A n c]
/-- the scanner; the parser's block, the result's, the expression's at q; its arguments -/
structure XMid (tp tx ts te : TypeId) (w wx : World) (g q : Nat) (pv : Array Value) (op v : Int) (p : Nat → Int) (A : Option Addr) (c d : Nat) (ks : List Tree) (L : List Tok) (e : Int) : Prop where
  scan : Scan ts te wx g L e
  par : Blk wx w.heap.size tp pv
  res : Blk wx (w.heap.size + 1) tx (cells9 0 0 zero6 none 0 0)
  box : Blk wx q tx (cells9 op v p A ks.length c)
  own : wx.ownsRow (q + 1) tx 9 (.slice A ks.length c) ks.length (ks.flatMap Tree.cells)
  kids : ∀ x ∈ ks, InP (fun b => q < b ∧ (Value.slice A ks.length c).ownBlock ≠ some b) d wx x
  far : w.heap.size + 1 < q
  gw : g < w.heap.size
  only : Only g w wx
section
variable {tp tx ts te : TypeId} {w wx wy : World} {g q : Nat} {pv : Array Value} {op v : Int} {p : Nat → Int} {A : Option Addr} {c d : Nat} {ks : List Tree} {L L' : List Tok} {e e' : Int}
theorem XMid.row_ne (h : XMid tp tx ts te w wx g q pv op v p A c d ks L e) {b : Nat} (hb : b ≤ q) : (Value.slice A ks.length c).ownBlock ≠ some b := fun k => by
  have := own_ge h.own k
  omega
theorem XMid.step (h : XMid tp tx ts te w wx g q pv op v p A c d ks L e) (k : Scan ts te wy g L' e') (o : Only g wx wy) : XMid tp tx ts te w wy g q pv op v p A c d ks L' e' := by
  have hf := h.far
  have hg := h.gw
  exact ⟨k, h.par.only o (by omega), h.res.only o (by omega), h.box.only o (by omega), h.own.kept (only_grown o) (.inr (h.row_ne (by omega))), fun x hx => (h.kids x hx).only o (fun b ok => by have := ok.1; omega), hf, hg, h.only.trans o⟩
theorem XMid.below (h : XMid tp tx ts te w wx g q pv op v p A c d ks L e) (o : Below wx.heap.size wx wy) : XMid tp tx ts te w wy g q pv op v p A c d ks L e :=
  h.step (h.scan.below o) (Only.of_below g o)
/-- one argument more -/
theorem XMid.grow (h : XMid tp tx ts te w wx g q pv op v p A c d ks L e) (h1 : tx ≠ ts) (h2 : tx ≠ te) (x : Tree) (hx : InP (fun b => q < b ∧ (Value.slice A ks.length c).ownBlock ≠ some b) d wx x) {b2 c2 : Nat}
    (hgr : wx.grownBy wy (Value.slice A ks.length c).ownBlock)
    (hown : wy.ownsRow (q + 1) tx 9 (.slice (some ⟨b2, 0, none⟩) (ks.length + 1) c2) (ks.length + 1) (ks.flatMap Tree.cells ++ x.cells))
    (hat : (Value.slice A ks.length c).ownBlock = some b2 ∨ b2 = wx.heap.size) :
    XMid tp tx ts te w (wy.setCell ⟨q, 8, none⟩ (.slice (some ⟨b2, 0, none⟩) (ks.length + 1) c2)) g q pv op v p (some ⟨b2, 0, none⟩) c2 d (ks ++ [x]) L e := by
  have hf := h.far
  have hg := h.gw
  have e1 : (ks ++ [x]).length = ks.length + 1 := by simp
  have e2 : (ks ++ [x]).flatMap Tree.cells = ks.flatMap Tree.cells ++ x.cells := by simp
  have hq : q < b2 := own_ge hown rfl
  have row (b : Nat) (hb : b ≤ q) : some b ≠ (Value.slice A ks.length c).ownBlock := (h.row_ne hb).symm
  have kb := h.box.grown hgr (row q (Nat.le_refl _))
  have kk (y : Tree) (hy : InP (fun b => q < b ∧ (Value.slice A ks.length c).ownBlock ≠ some b) d wx y) : InP (fun b => q < b ∧ (some b2 : Option Nat) ≠ some b) d (wy.setCell ⟨q, 8, none⟩ (.slice (some ⟨b2, 0, none⟩) (ks.length + 1) c2)) y := by
    have m1 : InP (fun b => (q < b ∧ (Value.slice A ks.length c).ownBlock ≠ some b) ∧ b2 ≠ b) d wx y := hy.mono fun b hb ok => ⟨ok, fun e => by
      subst e
      rcases hat with hat | hat
      · exact ok.2 hat
      · omega⟩
    have m2 := m1.grown hgr (fun b ok => ok.1.2)
    have m3 := m2.put (p := ⟨q, 8, none⟩) (fun ok => Nat.lt_irrefl _ ok.1.1) (.slice (some ⟨b2, 0, none⟩) (ks.length + 1) c2)
    exact m3.mono fun b _ ok => ⟨ok.1.1, fun e => ok.2 (by injection e)⟩
  refine ⟨(scan_grown h.scan h.own h1 h2 hgr).put_far kb h1 h2 8 _, (h.par.grown hgr (row _ (by omega))).far (by show _ ≠ q; omega) _, (h.res.grown hgr (row _ (by omega))).far (by show _ ≠ q; omega) _, ?_, ?_, ?_, hf, hg, ?_⟩
  · rw [e1]; exact kb.put 8 (.slice (some ⟨b2, 0, none⟩) (ks.length + 1) c2)
  · rw [e1, e2]
    exact hown.kept (put_grown wy q 8 _) (.inr (by simp [Value.ownBlock]; omega))
  · intro y hy
    rcases List.mem_append.1 hy with hy | hy
    · exact kk y (h.kids y hy)
    · obtain rfl : y = x := by simpa using hy
      exact kk y hx
  · have o1 : Only g w wy := ⟨hgr.os.trans h.only.os, hgr.tape.trans h.only.tape, hgr.output.trans h.only.output, Nat.le_trans h.only.size hgr.size, fun k hk hne => (hgr.block k (Nat.lt_of_lt_of_le hk h.only.size) (row k (by omega))).trans (h.only.block k hk hne)⟩
    exact o1.put_new (p := ⟨q, 8, none⟩) (by show w.heap.size ≤ q; omega) _
/-- a number of the expression -/
theorem XMid.put (h : XMid tp tx ts te w wx g q pv op v p A c d ks L e) (h1 : tx ≠ ts) (h2 : tx ≠ te) (v' : Int) : XMid tp tx ts te w (wx.setCell ⟨q, 7, none⟩ (.int .i64 v')) g q pv op v' p A c d ks L e := by
  have hf := h.far
  have hg := h.gw
  exact ⟨h.scan.put_far h.box h1 h2 7 _, h.par.far (by show _ ≠ q; omega) _, h.res.far (by show _ ≠ q; omega) _, h.box.put 7 _, h.own.kept (put_grown wx q 7 _) (.inr (h.row_ne (Nat.le_refl _))), fun x hx => (h.kids x hx).put (p := ⟨q, 7, none⟩) (fun ok => Nat.lt_irrefl _ ok.1) _, hf, hg, h.only.put_new (p := ⟨q, 7, none⟩) (by show w.heap.size ≤ q; omega) _⟩
/-- the tree that the expression's block holds -/
theorem XMid.tree (h : XMid tp tx ts te w wx g q pv op v p A c d ks L e) : InP (fun b => w.heap.size ≤ b) (d + 1) wx (.mk op p v A c ks) := by
  have hf := h.far
  obtain ⟨h0, A', c', e1, k2, k3, k4⟩ := Sl.of_own h.own
  injection e1 with e1 _ e2
  subst e1 e2
  refine ⟨k2, k3, fun hn => ?_, fun x hx => (h.kids x hx).mono fun b _ ok => by have := ok.1; omega⟩
  obtain ⟨b, o, e3, hb, hr⟩ := k4 hn
  refine ⟨b, o, e3, ?_, hb, hr⟩
  have : q + 1 ≤ b := own_ge h.own (by subst e3; rfl)
  omega
end
end Go.Proofs.YtjjlhihocllgjaaGreatDoor.Ex
