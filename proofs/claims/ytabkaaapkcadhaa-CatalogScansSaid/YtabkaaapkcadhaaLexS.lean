/- Plain: a scanner in memory, and what its calls compute. -/
import Derived.Test.YtabkaaapkcadhaaLexD
namespace Go.Proofs.Ytabkaaapkcadhaa
open Go.ChangeShapes Go.WideShapes Go.ChangeAt Go.RowKit

/-- w' is w but for block g and new blocks -/
structure Only (g : Nat) (w w' : World) : Prop where
  os : w'.os = w.os
  tape : w'.tape = w.tape
  output : w'.output = w.output
  size : w.heap.size ≤ w'.heap.size
  block : ∀ k, k < w.heap.size → k ≠ g → w'.heap[k]? = w.heap[k]?
section
variable {g B : Nat} {w w1 w2 : World}
theorem Only.refl (g : Nat) (w : World) : Only g w w := ⟨rfl, rfl, rfl, Nat.le_refl _, fun _ _ _ => rfl⟩
theorem Only.trans (h : Only g w w1) (k : Only g w1 w2) : Only g w w2 :=
  ⟨k.os.trans h.os, k.tape.trans h.tape, k.output.trans h.output, Nat.le_trans h.size k.size, fun i hi hne => (k.block i (Nat.lt_of_lt_of_le hi h.size) hne).trans (h.block i hi hne)⟩
theorem Only.of_below (g : Nat) (h : Below w.heap.size w w1) : Only g w w1 := ⟨h.os, h.tape, h.output, h.size, fun k hk _ => h.block k hk⟩
theorem Only.then_below (h : Only g w w1) (k : Below w1.heap.size w1 w2) : Only g w w2 := h.trans (Only.of_below g k)
theorem Only.put (h : Only g w w1) (o : Nat) (u : Value) : Only g w (w1.setCell ⟨g, o, none⟩ u) :=
  h.trans ⟨rfl, rfl, rfl, by simp [World.setCell], fun k _ hne => Below.heap_setCell _ _ _ _ hne⟩
theorem Only.alloc (h : Only g w w1) (o : Obj) : Only g w (w1.alloc o) := h.then_below (below_new w1 o)
theorem Only.drew (h : Only g w w1) : Only g w w1.drew := ⟨h.os, h.tape, h.output, h.size, h.block⟩
theorem Only.below (h : Only g w w1) (hb : B ≤ g) (hs : B ≤ w.heap.size) : Below B w w1 := ⟨h.os, h.tape, h.output, h.size, fun k hk => h.block k (by omega) (by omega)⟩
theorem Only.after_below {w0 : World} (b : Below w0.heap.size w0 w) (h : Only g w w1) (hg : w0.heap.size ≤ g) : Below w0.heap.size w0 w1 := b.trans (h.below hg b.size)
/-- a store far from g that lies in a new block -/
theorem Only.put_new (h : Only g w w1) {p : Addr} (hp : w.heap.size ≤ p.block) (u : Value) : Only g w (w1.setCell p u) :=
  ⟨h.os, h.tape, h.output, by have := h.size; simpa [World.setCell] using this, fun k hk hne => (Below.heap_setCell _ _ _ _ (by omega)).trans (h.block k hk hne)⟩
theorem Blk.only {t : TypeId} {cs : Array Value} {b : Nat} (h : Blk w b t cs) (o : Only g w w1) (hne : b ≠ g) : Blk w1 b t cs := (o.block b h.lt hne).trans h
end

namespace Lex
def peekT (L : List Tok) (e : Int) : Tok := if e = 0 then L.headD Tok.none else Tok.none
def nextL (L : List Tok) (e : Int) : List Tok := if e = 0 then L.tail else L
def failE (e x : Int) : Int := if e = 0 then x else e
def wrongE (L : List Tok) (e : Int) : Int := failE (if L = [] then failE e 1 else e) 2
def endE (L : List Tok) (e : Int) : Int := if e = 0 ∧ L ≠ [] then 3 else e
theorem tok_none : peekT [] 0 = Tok.none := rfl

/-- a scanner at block g, its tokens' row in a block of the element type -/
def Scan (ts te : TypeId) (w : World) (g : Nat) (L : List Tok) (e : Int) : Prop :=
  ∃ A c, Blk w g ts #[.slice A L.length c, .int .i64 e] ∧ L.length ≤ c ∧ c ≤ maxLen ∧ (0 < L.length → ∃ b o cs, A = some ⟨b, o, none⟩ ∧ Blk w b te cs ∧ TokRow w b o L)
section
variable {ts te : TypeId} {w w' : World} {g : Nat} {L : List Tok} {e : Int}
theorem TokRow.keep {b o : Nat} {cs : Array Value} (h : TokRow w b o L) (h1 : Blk w b te cs) (h2 : Blk w' b te cs) : TokRow w' b o L := by
  intro j u hu
  rw [h2.cell, ← h1.cell]
  exact h j u hu
theorem Scan.lt (h : Scan ts te w g L e) : g < w.heap.size := by
  obtain ⟨A, c, hb, _⟩ := h
  exact hb.lt
theorem Scan.below (h : Scan ts te w g L e) (hb : Below w.heap.size w w') : Scan ts te w' g L e := by
  obtain ⟨A, c, h1, h2, h3, h4⟩ := h
  refine ⟨A, c, h1.below' hb, h2, h3, fun hn => ?_⟩
  obtain ⟨b, o, cs, e1, e2, e3⟩ := h4 hn
  exact ⟨b, o, cs, e1, e2.below' hb, e3.keep e2 (e2.below' hb)⟩
theorem Scan.other {g' : Nat} {ts' : TypeId} {cs' : Array Value} (h : Scan ts te w g L e) (hb : Only g' w w') (hg : Blk w g' ts' cs') (h1 : ts' ≠ ts) (h2 : ts' ≠ te) : Scan ts te w' g L e := by
  obtain ⟨A, c, k1, k2, k3, k4⟩ := h
  refine ⟨A, c, k1.only hb (k1.apart hg (Ne.symm h1)), k2, k3, fun hn => ?_⟩
  obtain ⟨b, o, cs, e1, e2, e3⟩ := k4 hn
  have := e2.only hb (e2.apart hg (Ne.symm h2))
  exact ⟨b, o, cs, e1, this, e3.keep e2 this⟩
theorem Scan.fail (h : Scan ts te w g L e) (hne : te ≠ ts) (x : Int) : Scan ts te (w.setCell ⟨g, 1, none⟩ (.int .i64 x)) g L x := by
  obtain ⟨A, c, k1, k2, k3, k4⟩ := h
  refine ⟨A, c, k1.put 1 _, k2, k3, fun hn => ?_⟩
  obtain ⟨b, o, cs, e1, e2, e3⟩ := k4 hn
  have := e2.far (p := ⟨g, 1, none⟩) (e2.apart k1 hne) (.int .i64 x)
  exact ⟨b, o, cs, e1, this, e3.keep e2 this⟩
theorem TokRow.tail {b o : Nat} {t : Tok} (h : TokRow w b o (t :: L)) : TokRow w b (o + 4) L := by
  intro j u hu
  have := h (4 + j) u (by
    show (t.cells ++ cellsOf L)[4 + j]? = some u
    rw [List.getElem?_append_right (by simp)]
    simpa using hu)
  rw [Nat.add_assoc]
  exact this
/-- the parts of a scanner that has a next token -/
theorem Scan.cons {t : Tok} (h : Scan ts te w g (t :: L) e) : ∃ b o c cs, Blk w g ts #[.slice (some ⟨b, o, none⟩) (L.length + 1) c, .int .i64 e] ∧ L.length + 1 ≤ c ∧ c ≤ maxLen ∧ Blk w b te cs ∧ TokRow w b o (t :: L) := by
  obtain ⟨A, c, k1, k2, k3, k4⟩ := h
  obtain ⟨b, o, cs, rfl, e2, e3⟩ := k4 (by simp)
  exact ⟨b, o, c, cs, k1, by simpa using k2, k3, e2, e3⟩
theorem Scan.nil_ (h : Scan ts te w g [] e) : ∃ A c, Blk w g ts #[.slice A 0 c, .int .i64 e] := by
  obtain ⟨A, c, k1, _⟩ := h
  exact ⟨A, c, k1⟩
theorem Scan.step {t : Tok} {b o c : Nat} {cs : Array Value} (k1 : Blk w g ts #[.slice (some ⟨b, o, none⟩) (L.length + 1) c, .int .i64 e]) (k2 : L.length + 1 ≤ c) (k3 : c ≤ maxLen) (e2 : Blk w b te cs) (e3 : TokRow w b o (t :: L)) (hne : te ≠ ts) {A : Option Addr} (hA : c ≠ 1 → A = some ⟨b, o + 4, none⟩) :
    Scan ts te (w.setCell ⟨g, 0, none⟩ (.slice A L.length (c - 1))) g L e := by
  refine ⟨A, c - 1, k1.put 0 _, by omega, by omega, fun hn => ?_⟩
  have h1 := e2.far (p := ⟨g, 0, none⟩) (e2.apart k1 hne) (.slice A L.length (c - 1))
  exact ⟨b, o + 4, cs, hA (by omega), h1, (e3.keep e2 h1).tail⟩
theorem Scan.mk2 {wF : World} {t : Tok} {b o c : Nat} {cs : Array Value} {A : Option Addr} (k1 : Blk wF g ts #[.slice A L.length (c - 1), .int .i64 e]) (k2 : L.length + 1 ≤ c) (k3 : c ≤ maxLen) (e2 : Blk w b te cs) (e3 : TokRow w b o (t :: L)) (e4 : Blk wF b te cs) (hA : c ≠ 1 → A = some ⟨b, o + 4, none⟩) :
    Scan ts te wF g L e :=
  ⟨A, c - 1, k1, by omega, by omega, fun hn => ⟨b, o + 4, cs, hA (by omega), e4, (e3.keep e2 e4).tail⟩⟩
end
/-- four stores into a block -/
abbrev put4 (w : World) (g : Nat) (a b c d : Value) : World := (((w.setCell ⟨g, 0, none⟩ a).setCell ⟨g, 1, none⟩ b).setCell ⟨g, 2, none⟩ c).setCell ⟨g, 3, none⟩ d
section
variable {w w0 : World} {g B : Nat} {t : TypeId} {a b c d : Value}
theorem put4_blk {x y z u : Value} (h : Blk w g t #[x, y, z, u]) : Blk (put4 w g a b c d) g t #[a, b, c, d] := (((h.put 0 a).put 1 b).put 2 c).put 3 d
theorem put4_far {g' : Nat} {t' : TypeId} {cs : Array Value} (h : Blk w g' t' cs) (hne : g' ≠ g) : Blk (put4 w g a b c d) g' t' cs := (((h.far hne a).far hne b).far hne c).far hne d
theorem put4_below (h : Below B w0 w) (hg : B ≤ g) : Below B w0 (put4 w g a b c d) := (((h.setCell hg a).setCell hg b).setCell hg c).setCell hg d
theorem put4_only {g' : Nat} (h : Only g' w0 w) (hg : w0.heap.size ≤ g) : Only g' w0 (put4 w g a b c d) := (((h.put_new (p := ⟨g, 0, none⟩) hg a).put_new (p := ⟨g, 1, none⟩) hg b).put_new (p := ⟨g, 2, none⟩) hg c).put_new (p := ⟨g, 3, none⟩) hg d
end
end Lex
end Go.Proofs.Ytabkaaapkcadhaa
