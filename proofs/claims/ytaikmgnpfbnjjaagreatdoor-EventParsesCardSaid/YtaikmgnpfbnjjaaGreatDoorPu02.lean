/- Plain laws on memory, over any program: blocks that are known whole, slices whose cells read as a list. Contract of one: marks and the rest. Plain: tokens, and what Tokens computes. Contract of one, all cases joined. Contract of Tokens. -/
import Derived.Test.YtaikmgnpfbnjjaaGreatDoorPu01
import Derived.Laws.OwnMore
import Derived.Laws.Rows
import Derived.Deep.Draws
import Derived.ArgAppend
namespace Go.Proofs.YtaikmgnpfbnjjaaGreatDoor
open Go.ChangeShapes Go.WideShapes Go.ChangeAt Go.RowKit

namespace OpenAdd
theorem add_at (b o k : Nat) : (⟨b, o, none⟩ : Addr).add k = ⟨b, o + k, none⟩ := by
  unfold Addr.add
  split
  · rename_i e; subst e; rfl
  · rfl
end OpenAdd
/-- block g is just the cells cs of the type t -/
def Blk (w : World) (g : Nat) (t : TypeId) (cs : Array Value) : Prop := w.heap[g]? = some (.cells cs t (0, 0))
section
variable {w w' : World} {g : Nat} {t : TypeId} {cs : Array Value}
theorem Blk.lt (h : Blk w g t cs) : g < w.heap.size := by
  rcases Nat.lt_or_ge g w.heap.size with hlt | hge
  · exact hlt
  · unfold Blk at h
    rw [Array.getElem?_eq_none hge] at h
    cases h
theorem Blk.cell (h : Blk w g t cs) (i : Nat) : w.cell? ⟨g, i, none⟩ = cs[i]? := cell_of_row w g i cs t (0, 0) h
theorem Blk.free (h : Blk w g t cs) (i : Nat) : w.frozen? ⟨g, i, none⟩ = false := by
  unfold Blk at h
  simp [World.frozen?, h]
theorem Blk.new (w : World) (t : TypeId) (cs : Array Value) : Blk (w.alloc (.cells cs t)) w.heap.size t cs := heap_alloc_new w _
theorem Blk.drew (h : Blk w g t cs) : Blk w.drew g t cs := h
theorem Blk.drewN (h : Blk w g t cs) (n : Nat) : Blk (w.drewN n) g t cs := h
theorem Blk.alloc (h : Blk w g t cs) (o : Obj) : Blk (w.alloc o) g t cs := (Below.heap_alloc w o g h.lt).trans h
theorem Blk.put (h : Blk w g t cs) (i : Nat) (u : Value) : Blk (w.setCell ⟨g, i, none⟩ u) g t (cs.setIfInBounds i u) := by
  unfold Blk at h ⊢
  simp [World.setCell, Array.getElem?_modify, h]
theorem Blk.far (h : Blk w g t cs) {p : Addr} (hp : g ≠ p.block) (u : Value) : Blk (w.setCell p u) g t cs := (Below.heap_setCell w p u g hp).trans h
theorem Blk.below {B : Nat} (h : Blk w g t cs) (hb : Below B w w') (hg : g < B) : Blk w' g t cs := (hb.block g hg).trans h
theorem Blk.below' (h : Blk w g t cs) (hb : Below w.heap.size w w') : Blk w' g t cs := h.below hb h.lt
theorem Blk.grown {row : Option Nat} (h : Blk w g t cs) (hb : w.grownBy w' row) (hg : some g ≠ row) : Blk w' g t cs := (hb.block g h.lt hg).trans h
theorem Blk.apart {g' : Nat} {t' : TypeId} {cs' : Array Value} (h : Blk w g t cs) (h' : Blk w g' t' cs') (hne : t ≠ t') : g ≠ g' := by
  rintro rfl
  unfold Blk at h h'
  rw [h] at h'
  injection h' with h'
  injection h' with _ ht
  exact hne ht
theorem own_apart {base : Nat} {e : TypeId} {size n : Nat} {v : Value} {xs : List Value} (h : w.ownsRow base e size v n xs) (hg : Blk w g t cs) (hne : e ≠ t) : v.ownBlock ≠ some g := by
  rcases h.2 with ⟨rfl, _⟩ | ⟨g', cap, cur, rfl, _, hh, _⟩
  · simp [Value.ownBlock]
  · intro he
    have : g' = g := by simpa [Value.ownBlock] using he
    subst this
    exact Blk.apart (t := e) hh hg hne rfl
end
theorem own_below {w w' : World} {base : Nat} {e : TypeId} {size n : Nat} {v : Value} {xs : List Value} (h : w.ownsRow base e size v n xs) (b : Below w.heap.size w w') : w'.ownsRow base e size v n xs :=
  h.kept (row := none) ⟨b.os, b.tape, b.output, b.size, fun k hk _ => b.block k hk⟩ (by cases v.ownBlock <;> simp)
/-- what the cells of a block of one to six cells are: facts for a walk -/
theorem Blk.c1 {w : World} {g : Nat} {t : TypeId} {a : Value} (h : Blk w g t #[a]) : w.cell? ⟨g, 0, none⟩ = some a ∧ w.frozen? ⟨g, 0, none⟩ = false := ⟨h.cell 0, h.free 0⟩
theorem Blk.c2 {w : World} {g : Nat} {t : TypeId} {a b : Value} (h : Blk w g t #[a, b]) :
    (w.cell? ⟨g, 0, none⟩ = some a ∧ w.frozen? ⟨g, 0, none⟩ = false) ∧ w.cell? ⟨g, 1, none⟩ = some b ∧ w.frozen? ⟨g, 1, none⟩ = false := ⟨⟨h.cell 0, h.free 0⟩, h.cell 1, h.free 1⟩
theorem Blk.c3 {w : World} {g : Nat} {t : TypeId} {a b c : Value} (h : Blk w g t #[a, b, c]) :
    (w.cell? ⟨g, 0, none⟩ = some a ∧ w.frozen? ⟨g, 0, none⟩ = false) ∧ (w.cell? ⟨g, 1, none⟩ = some b ∧ w.frozen? ⟨g, 1, none⟩ = false) ∧ w.cell? ⟨g, 2, none⟩ = some c ∧ w.frozen? ⟨g, 2, none⟩ = false :=
  ⟨⟨h.cell 0, h.free 0⟩, ⟨h.cell 1, h.free 1⟩, h.cell 2, h.free 2⟩
theorem Blk.c4 {w : World} {g : Nat} {t : TypeId} {a b c d : Value} (h : Blk w g t #[a, b, c, d]) :
    (w.cell? ⟨g, 0, none⟩ = some a ∧ w.frozen? ⟨g, 0, none⟩ = false) ∧ (w.cell? ⟨g, 1, none⟩ = some b ∧ w.frozen? ⟨g, 1, none⟩ = false) ∧ (w.cell? ⟨g, 2, none⟩ = some c ∧ w.frozen? ⟨g, 2, none⟩ = false) ∧ w.cell? ⟨g, 3, none⟩ = some d ∧ w.frozen? ⟨g, 3, none⟩ = false :=
  ⟨⟨h.cell 0, h.free 0⟩, ⟨h.cell 1, h.free 1⟩, ⟨h.cell 2, h.free 2⟩, h.cell 3, h.free 3⟩
theorem Blk.c5 {w : World} {g : Nat} {t : TypeId} {a b c d e : Value} (h : Blk w g t #[a, b, c, d, e]) :
    (w.cell? ⟨g, 0, none⟩ = some a ∧ w.frozen? ⟨g, 0, none⟩ = false) ∧ (w.cell? ⟨g, 1, none⟩ = some b ∧ w.frozen? ⟨g, 1, none⟩ = false) ∧ (w.cell? ⟨g, 2, none⟩ = some c ∧ w.frozen? ⟨g, 2, none⟩ = false) ∧ (w.cell? ⟨g, 3, none⟩ = some d ∧ w.frozen? ⟨g, 3, none⟩ = false) ∧ w.cell? ⟨g, 4, none⟩ = some e ∧ w.frozen? ⟨g, 4, none⟩ = false :=
  ⟨⟨h.cell 0, h.free 0⟩, ⟨h.cell 1, h.free 1⟩, ⟨h.cell 2, h.free 2⟩, ⟨h.cell 3, h.free 3⟩, h.cell 4, h.free 4⟩
theorem Blk.c6 {w : World} {g : Nat} {t : TypeId} {a b c d e f : Value} (h : Blk w g t #[a, b, c, d, e, f]) :
    (w.cell? ⟨g, 0, none⟩ = some a ∧ w.frozen? ⟨g, 0, none⟩ = false) ∧ (w.cell? ⟨g, 1, none⟩ = some b ∧ w.frozen? ⟨g, 1, none⟩ = false) ∧ (w.cell? ⟨g, 2, none⟩ = some c ∧ w.frozen? ⟨g, 2, none⟩ = false) ∧ (w.cell? ⟨g, 3, none⟩ = some d ∧ w.frozen? ⟨g, 3, none⟩ = false) ∧ (w.cell? ⟨g, 4, none⟩ = some e ∧ w.frozen? ⟨g, 4, none⟩ = false) ∧ w.cell? ⟨g, 5, none⟩ = some f ∧ w.frozen? ⟨g, 5, none⟩ = false :=
  ⟨⟨h.cell 0, h.free 0⟩, ⟨h.cell 1, h.free 1⟩, ⟨h.cell 2, h.free 2⟩, ⟨h.cell 3, h.free 3⟩, ⟨h.cell 4, h.free 4⟩, h.cell 5, h.free 5⟩

/-- a first result that lies in a cell, a second one in a slot -/
theorem results_blk_tmp {P : Program} {fn : Func} {p u : Tmp} {ty : TypeId} (h : fn.results = #[.cell p ty, .tmp u]) {tmps : Array Value} {w : World} {g : Nat} {t : TypeId} {cs : Array Value} {d : TypeDesc}
    (hp : tmps.getD p undef = .pointer (some ⟨g, 0, none⟩)) (hg : Blk w g t cs)
    (hu : P.underlying ty = some d) (hd : (match d with | .struct _ | .array _ _ => true | _ => false) = true) (hi : (P.info? ty).map (·.size) = some cs.size) {x : Value} (hx : tmps.getD u undef = x) :
    (results fn tmps).run P w = .ok (.tuple #[.agg cs, x]) w := by
  subst hx
  have hp' : tmps[p]?.getD undef = .pointer (some ⟨g, 0, none⟩) := by simpa using hp
  simp [results, h, hp', asAddr, run_loadVar_row w g t ty cs (0, 0) d hg hu hd hi]
/-- a single result that lies in a cell -/
theorem results_blk {P : Program} {fn : Func} {p : Tmp} {ty : TypeId} (h : fn.results = #[.cell p ty]) {tmps : Array Value} {w : World} {g : Nat} {t : TypeId} {cs : Array Value} {d : TypeDesc}
    (hp : tmps.getD p undef = .pointer (some ⟨g, 0, none⟩)) (hg : Blk w g t cs)
    (hu : P.underlying ty = some d) (hd : (match d with | .struct _ | .array _ _ => true | _ => false) = true) (hi : (P.info? ty).map (·.size) = some cs.size) :
    (results fn tmps).run P w = .ok (.agg cs) w := by
  have hp' : tmps[p]?.getD undef = .pointer (some ⟨g, 0, none⟩) := by simpa using hp
  simp [results, h, hp', asAddr, run_loadVar_row w g t ty cs (0, 0) d hg hu hd hi]

/-- a slice value whose elements' cells (size cells each) read as xs -/
def Sl (w : World) (size : Nat) (v : Value) (n : Nat) (xs : List Value) : Prop :=
  xs.length = n * size ∧ ∃ A c, v = .slice A n c ∧ n ≤ c ∧ c ≤ maxLen ∧ (0 < n → ∃ b off, A = some ⟨b, off, none⟩ ∧ b < w.heap.size ∧ ∀ j u, xs[j]? = some u → w.cell? ⟨b, off + j, none⟩ = some u)
section
variable {w w' : World} {size n : Nat} {v : Value} {xs : List Value}
theorem Sl.nil (w : World) (size : Nat) : Sl w size (.slice none 0 0) 0 [] := ⟨by simp, none, 0, rfl, Nat.le_refl _, by unfold maxLen; omega, fun h => absurd h (by omega)⟩
theorem Sl.keep (h : Sl w size v n xs) (hb : Below w.heap.size w w') : Sl w' size v n xs := by
  obtain ⟨h0, A, c, h1, h2, h3, h4⟩ := h
  refine ⟨h0, A, c, h1, h2, h3, fun hn => ?_⟩
  obtain ⟨b, off, e, hlt, hc⟩ := h4 hn
  exact ⟨b, off, e, Nat.lt_of_lt_of_le hlt hb.size, fun j u hu => (hb.cell (p := ⟨b, off + j, none⟩) hlt).trans (hc j u hu)⟩
theorem Sl.of_own {base : Nat} {e : TypeId} (h : w.ownsRow base e size v n xs) : Sl w size v n xs := by
  refine ⟨h.1, ?_⟩
  rcases h.2 with ⟨rfl, rfl⟩ | ⟨g, cap, cur, rfl, _, hh, hn, hc, hs, ht⟩
  · exact ⟨none, 0, rfl, Nat.le_refl _, by unfold maxLen; omega, fun h => absurd h (by omega)⟩
  · refine ⟨_, cap, rfl, hn, hc, fun _ => ⟨g, 0, rfl, (Array.getElem?_eq_some_iff.1 hh).1, fun j u hu => ?_⟩⟩
    have := h.cells (g := g) rfl j u hu
    rw [← this]
    congr 1
    unfold Addr.add
    split
    · rename_i e; subst e; rfl
    · rfl
end
end Go.Proofs.YtaikmgnpfbnjjaaGreatDoor
namespace Go.Proofs.YtaikmgnpfbnjjaaGreatDoor
open Go.ChangeShapes Go.WideShapes Go.ChangeAt Go.RowKit
set_option linter.unusedVariables false
set_option linter.unusedSimpArgs false
namespace Lex
theorem one_none (s : ByteArray) (a : Nat) (w : World) (hs : s.size ≤ 5000) (ha : a < s.size) (hl : isLet s[a] = false) (hg : isDig s[a] = false) (hm : isMark s[a] = false) :
    Calls Tryz.prog 133 #[.string s, .int .i64 (a : Int)] w fun e w' => e = .returned (.tuple #[.agg #[.int .i64 0, .string ⟨#[]⟩, .int .i64 0, .int .i64 0], .int .i64 2]) ∧ Below w.heap.size w w' := by
  have hb := s[a].toNat_lt
  have CL := Lib.hid (letter_any s[a])
  have CD := Lib.hid (digit_any s[a])
  have WB := Lib.hid (wrap32_byte s[a])
  have CC := Lib.hid (containsRune_any s[a])
  unfold marks at CC
  go_enter Tryz.func133, Tryz.ntmps133
  go_wp2_with (first | (go_at_call 121; (try rw [WB.out]); refine (CL.out _).mono ?_; rintro e w' ⟨rfl, rfl⟩; rw [hl]) | (go_at_call 141; (try rw [WB.out]); refine (CD.out _).mono ?_; rintro e w' ⟨rfl, rfl⟩; rw [hg]) | fail)
  refine (CC.out _).mono ?_
  rintro e w1 ⟨rfl, b1⟩
  rw [hm]
  have B := Lib.hid (chain2 (Below.refl _ _) b1)
  have hB := (((Blk.new w 157 #[.int .i64 0, .string ⟨#[]⟩, .int .i64 0, .int .i64 0]).alloc _)).below' b1
  have hc := hB.c4
  clear b1
  go_wp2_with fail
  have hB4 := (((hB.put 0 (.int .i64 0)).put 1 (.string ⟨#[]⟩)).put 2 (.int .i64 0)).put 3 (.int .i64 0)
  refine bodyPost_ret (v := .tuple #[.agg #[.int .i64 0, .string ⟨#[]⟩, .int .i64 0, .int .i64 0], .int .i64 2]) (results_blk_tmp (p := 4) (u := 5) rfl rfl hB4 Tryz.underlying157 rfl (by kernel_rfl) rfl) rfl ⟨rfl, ?_⟩
  exact (((B.out.setCell (Nat.le_refl _) _).setCell (Nat.le_refl _) _).setCell (Nat.le_refl _) _).setCell (Nat.le_refl _) _

theorem one_mark (s : ByteArray) (a : Nat) (w : World) (hs : s.size ≤ 5000) (ha : a < s.size) (hl : isLet s[a] = false) (hg : isDig s[a] = false) (hm : isMark s[a] = true) :
    Calls Tryz.prog 133 #[.string s, .int .i64 (a : Int)] w fun e w' => e = .returned (.tuple #[.agg #[.int .i64 3, .string (s.extract a (a + 1)), .int .i64 0, .int .i64 (a : Int)], .int .i64 0]) ∧ Below w.heap.size w w' := by
  have hb := s[a].toNat_lt
  have CL := Lib.hid (letter_any s[a])
  have CD := Lib.hid (digit_any s[a])
  have WB := Lib.hid (wrap32_byte s[a])
  have CC := Lib.hid (containsRune_any s[a])
  unfold marks at CC
  go_enter Tryz.func133, Tryz.ntmps133
  go_wp2_with (first | (go_at_call 121; (try rw [WB.out]); refine (CL.out _).mono ?_; rintro e w' ⟨rfl, rfl⟩; rw [hl]) | (go_at_call 141; (try rw [WB.out]); refine (CD.out _).mono ?_; rintro e w' ⟨rfl, rfl⟩; rw [hg]) | fail)
  refine (CC.out _).mono ?_
  rintro e w1 ⟨rfl, b1⟩
  rw [hm]
  have B := Lib.hid (chain2 (Below.refl _ _) b1)
  have hB := (((Blk.new w 157 #[.int .i64 0, .string ⟨#[]⟩, .int .i64 0, .int .i64 0]).alloc (.cells #[.int .i64 0, .string ⟨#[]⟩, .int .i64 0, .int .i64 (a : Int)] 157))).below' b1
  have hB2 := (Blk.new (w.alloc (.cells #[.int .i64 0, .string ⟨#[]⟩, .int .i64 0, .int .i64 0] 157)) 157 #[.int .i64 0, .string ⟨#[]⟩, .int .i64 0, .int .i64 (a : Int)]).below' b1
  have hc := hB.c4
  have hc2 := hB2.c4
  simp at hc2
  have hz : (w.alloc (.cells #[.int .i64 0, .string ⟨#[]⟩, .int .i64 0, .int .i64 0] 157)).heap.size = w.heap.size + 1 := by simp
  rw [hz] at hB2
  clear hz
  clear b1
  go_wp2_with fail
  have i1 : IntKind.i64.wrap ((a : Int) + 1) = (a : Int) + 1 := IntWalk.i64_in _ (by omega)
  have i2 : ((a : Int) + 1).toNat = a + 1 := by omega
  have i3 : (0 : Int) ≤ (a : Int) + 1 := by omega
  have i4 : (a : Int) ≤ (a : Int) + 1 := by omega
  have i5 : a ≤ a + 1 := by omega
  have i6 : a + 1 ≤ s.size := by omega
  have i7 : (a : Int) + 1 ≤ (s.size : Int) := by omega
  go_region
  all_goals go_wp2_with fail
  have hB5 := (((((hB.far (p := ⟨w.heap.size + 1, 0, none⟩) (by show _ ≠ w.heap.size + 1; omega) (.int .i64 3)).far (p := ⟨w.heap.size + 1, 1, none⟩) (by show _ ≠ w.heap.size + 1; omega) (.string (s.extract a (a + 1)))).put 0 (.int .i64 3)).put 1 (.string (s.extract a (a + 1)))).put 2 (.int .i64 0)).put 3 (.int .i64 (a : Int))
  refine bodyPost_ret (v := .tuple #[.agg #[.int .i64 3, .string (s.extract a (a + 1)), .int .i64 0, .int .i64 (a : Int)], .int .i64 0]) (results_blk_tmp (p := 4) (u := 5) rfl rfl hB5.drew Tryz.underlying157 rfl (by kernel_rfl) rfl) rfl ⟨rfl, ?_⟩
  exact ((((((B.out.setCell (Nat.le_succ _) _).setCell (Nat.le_succ _) _).setCell (Nat.le_refl _) _).setCell (Nat.le_refl _) _).setCell (Nat.le_refl _) _).setCell (Nat.le_refl _) _).drew
end Lex
end Go.Proofs.YtaikmgnpfbnjjaaGreatDoor
namespace Go.Proofs.YtaikmgnpfbnjjaaGreatDoor
open Go.ChangeShapes Go.WideShapes Go.ChangeAt Go.RowKit
namespace Lex
structure Tok where
  kind : Int
  text : ByteArray
  value : Int
  pos : Int
def Tok.none : Tok := ⟨0, ⟨#[]⟩, 0, 0⟩
abbrev Tok.cells (t : Tok) : List Value := [.int .i64 t.kind, .string t.text, .int .i64 t.value, .int .i64 t.pos]
def cellsOf (l : List Tok) : List Value := l.flatMap Tok.cells
theorem cellsOf_snoc (l : List Tok) (t : Tok) : cellsOf (l ++ [t]) = cellsOf l ++ t.cells := by simp [cellsOf]
theorem cellsOf_len (l : List Tok) : (cellsOf l).length = l.length * 4 := by
  unfold cellsOf
  induction l with
  | nil => rfl
  | cons t l ih =>
    rw [List.flatMap_cons, List.length_append, ih, List.length_cons]
    show 4 + _ = _
    rw [List.length_cons]
    omega
theorem cellsOf_at (l : List Tok) (i : Nat) (hi : i < l.length) : (cellsOf l)[i * 4]? = some (.int .i64 l[i].kind) ∧ (cellsOf l)[i * 4 + 1]? = some (.string l[i].text) ∧ (cellsOf l)[i * 4 + 2]? = some (.int .i64 l[i].value) ∧ (cellsOf l)[i * 4 + 3]? = some (.int .i64 l[i].pos) := by
  induction l generalizing i with
  | nil => simp at hi
  | cons t l ih =>
    cases i with
    | zero => simp [cellsOf]
    | succ i =>
      have h := ih i (by simpa using hi)
      have e : ∀ j, (cellsOf (t :: l))[(i + 1) * 4 + j]? = (cellsOf l)[i * 4 + j]? := by
        intro j
        rw [show (i + 1) * 4 + j = 4 + (i * 4 + j) by omega]
        show (t.cells ++ cellsOf l)[4 + (i * 4 + j)]? = _
        rw [List.getElem?_append_right (by simp)]
        simp
      have e0 := e 0
      simp only [Nat.add_zero] at e0
      rw [e0, e 1, e 2, e 3]
      exact h
/-- a row of tokens in memory -/
def TokRow (w : World) (b o : Nat) (L : List Tok) : Prop := ∀ j u, (cellsOf L)[j]? = some u → w.cell? ⟨b, o + j, none⟩ = some u
theorem TokRow.at_ {w : World} {b o : Nat} {L : List Tok} (h : TokRow w b o L) (k : Nat) (hk : k < L.length) :
    w.cell? ⟨b, o + k * 4, none⟩ = some (.int .i64 L[k].kind) ∧ w.cell? ⟨b, o + k * 4 + 1, none⟩ = some (.string L[k].text) ∧ w.cell? ⟨b, o + k * 4 + 2, none⟩ = some (.int .i64 L[k].value) ∧ w.cell? ⟨b, o + k * 4 + 3, none⟩ = some (.int .i64 L[k].pos) := by
  obtain ⟨e0, e1, e2, e3⟩ := cellsOf_at L k hk
  exact ⟨h _ _ e0, h _ _ e1, h _ _ e2, h _ _ e3⟩
/-- a token and an error number -/
def oneTok (s : ByteArray) (a : Nat) (p : Piece) : Tok := ⟨p.kind, s.extract a (a + p.len), p.value, a⟩
def lexGo (s : ByteArray) : Nat → Nat → List Tok → Except Int (List Tok)
  | 0, _, l => .ok l
  | f + 1, k, l =>
    if h : k < s.size then
      if s[k].toNat = 32 then lexGo s f (k + 1) l
      else match one (s.data.toList.drop k) with
        | .error e => .error e
        | .ok p => lexGo s f (k + p.len) (l ++ [oneTok s k p])
    else .ok l
def lex (s : ByteArray) : Except Int (List Tok) := if 4000 < s.size then .error 3 else lexGo s (s.size + 1) 0 []
theorem lexGo_space {s : ByteArray} {f k : Nat} {l : List Tok} (h : k < s.size) (h1 : s[k].toNat = 32) : lexGo s (f + 1) k l = lexGo s f (k + 1) l := by
  simp only [lexGo, dif_pos h, if_pos h1]
theorem lexGo_tok {s : ByteArray} {f k : Nat} {l : List Tok} {p : Piece} (h : k < s.size) (h1 : ¬ s[k].toNat = 32) (h2 : one (s.data.toList.drop k) = .ok p) : lexGo s (f + 1) k l = lexGo s f (k + p.len) (l ++ [oneTok s k p]) := by
  simp only [lexGo, dif_pos h, if_neg h1, h2]
theorem lexGo_err {s : ByteArray} {f k : Nat} {l : List Tok} {e : Int} (h : k < s.size) (h1 : ¬ s[k].toNat = 32) (h2 : one (s.data.toList.drop k) = .error e) : lexGo s (f + 1) k l = .error e := by
  simp only [lexGo, dif_pos h, if_neg h1, h2]
theorem lexGo_end {s : ByteArray} {f k : Nat} {l : List Tok} (h : s.size ≤ k) : lexGo s f k l = .ok l := by
  cases f with
  | zero => rfl
  | succ f => simp only [lexGo, dif_neg (show ¬ k < s.size by omega)]
theorem one_err {l : List UInt8} {e : Int} (h : one l = .error e) : e = 2 ∨ e = 3 ∨ e = 4 := by
  cases l with
  | nil => injection h with h; exact .inl h.symm
  | cons b l =>
    simp only [one] at h
    repeat' split at h
    all_goals first
      | (cases h; done)
      | (injection h with h; subst h; simp)
end Lex
end Go.Proofs.YtaikmgnpfbnjjaaGreatDoor
namespace Go.Proofs.YtaikmgnpfbnjjaaGreatDoor
open Go.ChangeShapes Go.WideShapes Go.ChangeAt Go.RowKit
set_option linter.unusedVariables false
set_option linter.unusedSimpArgs false
namespace Lex
theorem inn_of_let {b : UInt8} (h : isLet b = true) : isInn b = true := by simp [isInn, h]
theorem span_all (p : UInt8 → Bool) : ∀ (l : List UInt8) (i : Nat) (h : i < span p l) (h2 : i < l.length), p l[i] = true
  | [], _, h, _ => by simp [span] at h
  | b :: l, i, h, h2 => by
    unfold span at h
    split at h
    · rename_i hb
      cases i with
      | zero => exact hb
      | succ i => exact span_all p l i (by omega) (by simpa using h2)
    · omega
theorem extract_get (s : ByteArray) (a n k : Nat) (h : a + n ≤ s.size) (hk : k < (s.extract a (a + n)).size) : (s.extract a (a + n))[k] = s.data.toList[a + k]'(by simp at hk; simp; omega) := by
  simp [ByteArray.getElem_eq_getElem_data]

theorem one_any (s : ByteArray) (a : Nat) (w : World) (hs : s.size ≤ 5000) (ha : a < s.size) (p : Piece) (h : one (s.data.toList.drop a) = .ok p) :
    Calls Tryz.prog 133 #[.string s, .int .i64 (a : Int)] w fun e w' => e = .returned (.tuple #[.agg #[.int .i64 (p.kind : Int), .string (s.extract a (a + p.len)), .int .i64 (p.value : Int), .int .i64 (a : Int)], .int .i64 0]) ∧ Below w.heap.size w w' := by
  rw [drop_cons s a ha] at h
  simp only [one] at h
  have hrun : ∀ q, q s[a] = true → runLen q s a = span q (s.data.toList.drop (a + 1)) + 1 := fun q hq => by
    unfold runLen
    rw [drop_cons s a ha, span_cons hq]
  cases hl : isLet s[a] with
  | true =>
    rw [if_pos hl] at h
    have hr := hrun isInn (inn_of_let hl)
    split at h
    · cases h
    · injection h with h
      subst h
      have := one_word s a w hs ha hl (by omega)
      rw [hr] at this
      exact this
  | false =>
    rw [if_neg (by simp [hl])] at h
    cases hg : isDig s[a] with
    | true =>
      rw [if_pos hg] at h
      have hr := hrun isDig hg
      split at h
      · cases h
      · rename_i hz
        split at h
        · cases h
        · rename_i h9
          injection h with h
          subst h
          have hle := runLen_le isDig s a (by omega)
          have hsz : (s.extract a (a + runLen isDig s a)).size = runLen isDig s a := by simp; omega
          have hn := fun w => number_good (s.extract a (a + runLen isDig s a)) w (by omega)
            (fun h1 => by
              rw [extract_get s a _ 0 hle]
              have e0 : s.data.toList[a + 0]'(by simp; omega) = s[a] := rfl
              rw [e0]
              intro h48
              exact hz ⟨by omega, h48⟩)
            (fun k hk => by
              rw [extract_get s a _ k hle]
              have hkk : k < span isDig (s.data.toList.drop a) := by rw [hsz] at hk; exact hk
              have := span_all isDig (s.data.toList.drop a) k hkk (by have := span_le isDig (s.data.toList.drop a); omega)
              simpa using this)
          have := one_num s (s.extract a (a + runLen isDig s a)) a w hs ha hl hg rfl _ hn
          rw [hr] at this
          have e : (s.extract a (a + (span isDig (s.data.toList.drop (a + 1)) + 1))).data.toList = (s[a] :: s.data.toList.drop (a + 1)).take (span isDig (s.data.toList.drop (a + 1)) + 1) := by
            rw [← drop_cons s a ha]
            simp [List.extract]
          rw [e] at this
          exact this
    | false =>
      rw [if_neg (by simp [hg])] at h
      cases hm : isMark s[a] with
      | true =>
        rw [if_pos hm] at h
        injection h with h
        subst h
        exact one_mark s a w hs ha hl hg hm
      | false =>
        rw [if_neg (by simp [hm])] at h
        cases h
theorem one_bad (s : ByteArray) (a : Nat) (w : World) (hs : s.size ≤ 5000) (ha : a < s.size) (x : Int) (h : one (s.data.toList.drop a) = .error x) :
    Calls Tryz.prog 133 #[.string s, .int .i64 (a : Int)] w fun e w' => e = .returned (.tuple #[.agg #[.int .i64 0, .string ⟨#[]⟩, .int .i64 0, .int .i64 0], .int .i64 x]) ∧ Below w.heap.size w w' := by
  rw [drop_cons s a ha] at h
  simp only [one] at h
  have hrun : ∀ q, q s[a] = true → runLen q s a = span q (s.data.toList.drop (a + 1)) + 1 := fun q hq => by
    unfold runLen
    rw [drop_cons s a ha, span_cons hq]
  cases hl : isLet s[a] with
  | true =>
    rw [if_pos hl] at h
    have hr := hrun isInn (inn_of_let hl)
    split at h
    · injection h with h
      subst h
      exact one_long s a w hs ha hl (by omega)
    · cases h
  | false =>
    rw [if_neg (by simp [hl])] at h
    cases hg : isDig s[a] with
    | true =>
      rw [if_pos hg] at h
      have hr := hrun isDig hg
      have hle := runLen_le isDig s a (by omega)
      have hsz : (s.extract a (a + runLen isDig s a)).size = runLen isDig s a := by simp; omega
      have e0 : ∀ h, (s.extract a (a + runLen isDig s a))[0]'h = s[a] := fun h => extract_get s a _ 0 hle h
      split at h
      · rename_i hz
        injection h with h
        subst h
        exact one_numerr s (s.extract a (a + runLen isDig s a)) a w hs ha hl hg rfl 2 (.inl rfl) (fun w => number_zero _ w (by unfold maxLen; omega) (by omega) (by rw [e0]; exact hz.2))
      · rename_i hz
        split at h
        · rename_i h9
          injection h with h
          subst h
          exact one_numerr s (s.extract a (a + runLen isDig s a)) a w hs ha hl hg rfl 4 (.inr rfl) (fun w => number_long _ w (by unfold maxLen; omega) (by omega) (by rw [e0]; intro h48; exact hz ⟨by omega, h48⟩))
        · cases h
    | false =>
      rw [if_neg (by simp [hg])] at h
      cases hm : isMark s[a] with
      | true =>
        rw [if_pos hm] at h
        cases h
      | false =>
        rw [if_neg (by simp [hm])] at h
        injection h with h
        subst h
        exact one_none s a w hs ha hl hg hm
end Lex
end Go.Proofs.YtaikmgnpfbnjjaaGreatDoor
namespace Go.Proofs.YtaikmgnpfbnjjaaGreatDoor
open Go.ChangeShapes Go.WideShapes Go.ChangeAt Go.RowKit
namespace Lex
theorem tok_info : (Tryz.prog.info? 157).map (fun i => (i.zero, i.size, i.bytes)) = some (some (.agg #[.int .i64 0, .string ⟨#[]⟩, .int .i64 0, .int .i64 0]), 4, 40) := by kernel_rfl
theorem four_new (w : World) (a b c d : Value) (t : TypeId) : ∀ j u, [a, b, c, d][j]? = some u → (w.alloc (.cells #[a, b, c, d] t)).cell? ((⟨w.heap.size, 0, none⟩ : Addr).add j) = some u := by
  intro j u h
  have hb := Blk.new w t #[a, b, c, d]
  have e : (⟨w.heap.size, 0, none⟩ : Addr).add j = ⟨w.heap.size, j, none⟩ := by
    unfold Addr.add
    split
    · rename_i e; subst e; rfl
    · simp
  rw [e, hb.cell j]
  simpa using h
theorem one_cells4 {a b c d : Value} (ha : a.oneCell' = true) (hb : b.oneCell' = true) (hc : c.oneCell' = true) (hd : d.oneCell' = true) : ∀ u ∈ [a, b, c, d], u.oneCell' = true := by
  intro u hu
  simp at hu
  rcases hu with rfl | rfl | rfl | rfl <;> assumption
def LexErr (r : Except Int (List Tok)) : Int := match r with | .ok _ => 0 | .error e => e
def LexToks (r : Except Int (List Tok)) : List Tok := match r with | .ok l => l | .error _ => []
/-- what Tokens comes to -/
def TokPost (t : TypeId) (r : Except Int (List Tok)) (w : World) (e : Ending) (w' : World) : Prop :=
  ∃ v, e = .returned (.tuple #[v, .int .i64 (LexErr r)]) ∧ w'.ownsRow w.heap.size t 4 v (LexToks r).length (cellsOf (LexToks r)) ∧ Below w.heap.size w w'
theorem TokPost.bad {t : TypeId} {x : Int} {w w' : World} (h : Below w.heap.size w w') : TokPost t (.error x) w (.returned (.tuple #[.slice none 0 0, .int .i64 x])) w' :=
  ⟨_, rfl, World.ownsRow_nil _ _ _ _, h⟩
theorem TokPost.good {t : TypeId} {l : List Tok} {v : Value} {w w' : World} (ho : w'.ownsRow w.heap.size t 4 v l.length (cellsOf l)) (h : Below w.heap.size w w') : TokPost t (.ok l) w (.returned (.tuple #[v, .int .i64 0])) w' :=
  ⟨_, rfl, ho, h⟩
theorem tokens_long (s : ByteArray) (w : World) (hs : s.size ≤ maxLen) (h : 4000 < s.size) : Calls Tryz.prog 111 #[.string s] w (TokPost 157 (lex s) w) := by
  have hx : lex s = .error 3 := by unfold lex; rw [if_pos h]
  rw [hx]
  unfold maxLen at hs
  have hd : decide ((4000 : Int) < (s.size : Int)) = true := by simp; omega
  go_enter Tryz.func111, Tryz.ntmps111
  go_wp2_with fail
  go_ret2
  exact TokPost.bad (Below.refl _ _)
set_option maxRecDepth 100000 in
set_option maxHeartbeats 800000 in
theorem tokens_short (s : ByteArray) (w : World) (h : s.size ≤ 4000) : Calls Tryz.prog 111 #[.string s] w (TokPost 157 (lex s) w) := by
  have hx : lex s = lexGo s (s.size + 1) 0 [] := by unfold lex; rw [if_neg (by omega)]
  rw [hx]
  have hd0 : decide ((4000 : Int) < (s.size : Int)) = false := by simp; omega
  obtain ⟨i0, hi0, hz0, hz1, hz2⟩ := info_parts tok_info
  go_enter Tryz.func111, Tryz.ntmps111
  go_wp2_with fail
  go_loopw [4, 5] (fun v i wr => ∃ (k f : Nat) (L : List Tok), k ≤ s.size ∧ s.size < k + f ∧ L.length ≤ k ∧ i = .int .i64 (k : Int) ∧ Hid (lexGo s f k L = lexGo s (s.size + 1) 0 []) ∧ Hid (wr.ownsRow w.heap.size 157 4 v L.length (cellsOf L)) ∧ Hid (Below w.heap.size w wr)) (fun _ i _ => s.size - (intOf i).toNat)
  case atStart => exact ⟨0, s.size + 1, [], by omega, by omega, by simp, rfl, rfl, World.ownsRow_nil _ _ _ _, Below.refl _ _⟩
  case round =>
    obtain ⟨k, f, L, hk, hf, hL, rfl, HX, HO, HB⟩ := hrel
    obtain ⟨f, rfl⟩ : ∃ g, f = g + 1 := ⟨f - 1, by omega⟩
    by_cases hlt : k < s.size
    · have hd : decide ((k : Int) < (s.size : Int)) = true := by simp; omega
      have hby := s[k].toNat_lt
      by_cases h32 : s[k].toNat = 32
      · have hsp : ((s[k].toNat : Int) == 32) = true := by simp; omega
        have HX2 : Hid (lexGo s f (k + 1) L = lexGo s (s.size + 1) 0 []) := (lexGo_space hlt h32).symm.trans HX.out
        clear h32
        go_wp2_with fail
        go_roundw
        case rel => exact ⟨k + 1, f, L, by omega, by omega, by omega, by go_num, HX2, HO, HB⟩
        case measure => simp [intOf]; omega
      · have hsp : ((s[k].toNat : Int) == 32) = false := by simp; omega
        cases ho : one (s.data.toList.drop k) with
        | error x =>
          have HX2 := Lib.hid ((lexGo_err (f := f) (l := L) hlt h32 ho).symm.trans HX.out)
          have hx0 : (x != 0) = true := by rcases one_err ho with e | e | e <;> subst e <;> rfl
          have C1 := Lib.hid (fun w => one_bad s k w (by omega) hlt x ho)
          clear ho h32 HX
          go_wp2_with (go_at_call 133; refine (C1.out _).mono ?_; rintro e w1 ⟨rfl, b1⟩)
          go_ret2
          rw [← HX2.out]
          exact TokPost.bad ((chain0 HB.out b1).alloc (chain0 HB.out b1).size _)
        | ok p =>
          have HX2 := Lib.hid ((lexGo_tok (f := f) (l := L) hlt h32 ho).symm.trans HX.out)
          have C1 := Lib.hid (fun w => one_any s k w (by omega) hlt p ho)
          have hp := one_len ho
          have hzz : (s.extract k (k + p.len)).size = p.len := by simp at hp ⊢; omega
          have hpl : p.len ≤ s.size - k := by simpa using hp.2
          have hp1 := hp.1
          have HT : Hid ((oneTok s k p).cells = [.int .i64 (p.kind : Int), .string (s.extract k (k + p.len)), .int .i64 (p.value : Int), .int .i64 (k : Int)]) := rfl
          generalize oneTok s k p = tk at *
          generalize s.extract k (k + p.len) = t at *
          have HZ := Lib.hid hzz
          clear ho h32 HX hzz hp
          go_wp2_with fail
          refine (C1.out _).mono ?_
          rintro e w1 ⟨rfl, b1⟩
          have B1 := Lib.hid (chain0 HB.out b1)
          have O1 : Hid (w1.ownsRow w.heap.size 157 4 u4 L.length (cellsOf L)) := own_below HO.out b1
          clear b1 HB HO
          go_wp2_with (at_builtin; refine wpList_append_own _ rfl (.tmp 30) (.tmp 32) _ rfl w.heap.size 157 i0 _ 4 40 Tryz.underlying137 hi0 hz0 hz1 hz2 rfl (by decide) u4 L.length (cellsOf L) rfl ((O1.out.alloc _).alloc _) ⟨w1.heap.size + 1, 0, none⟩ 1 1 [.int .i64 (p.kind : Int), .string t, .int .i64 (p.value : Int), .int .i64 (k : Int)] rfl rfl ?c1 ?c2 ?c3 ?c4 ?c5 ?_)
          case c1 =>
            intro j u hj
            have hz : w1.heap.size + 1 = (w1.alloc (.cells #[.int .i64 (p.kind : Int), .string t, .int .i64 (p.value : Int), .int .i64 (k : Int)] 157)).heap.size := by simp
            rw [hz]
            exact four_new _ _ _ _ _ _ j u hj
          case c2 => exact one_cells4 rfl rfl rfl rfl
          case c3 => unfold maxLen; omega
          case c4 => omega
          case c5 => have := B1.out.size; simp; omega
          intro v' w2 hown hgr _
          have hB := ((Blk.new w1 157 #[.int .i64 (p.kind : Int), .string t, .int .i64 (p.value : Int), .int .i64 (k : Int)]).alloc (.cells #[.int .i64 (p.kind : Int), .string t, .int .i64 (p.value : Int), .int .i64 (k : Int)] 157)).grown hgr (fun e => by have := (O1.out.lt _ e.symm).2; omega)
          have hc := hB.c4
          have O2 : Hid (w2.ownsRow w.heap.size 157 4 v' (L ++ [tk]).length (cellsOf (L ++ [tk]))) := by
            rw [cellsOf_snoc, HT.out, List.length_append]
            exact hown
          have B2 : Hid (Below w.heap.size w w2) := ((B1.out.alloc B1.out.size _).alloc (by have := B1.out.size; simp; omega) _).grown hgr (by have := B1.out.size; simp; omega) (fun k hk => (O1.out.lt k hk).1)
          clear hB hgr hown O1 B1
          have hts : (t.size : Int) = (p.len : Int) := by rw [HZ.out]
          have HS := Lib.hid hts
          have hi1 : (0 : Int) ≤ (k : Int) + (t.size : Int) := by omega
          have hi2 : (k : Int) + (t.size : Int) ≤ 4000 := by omega
          clear hts
          go_wp2_with fail
          go_roundw
          case rel => exact ⟨k + p.len, f, L ++ [tk], by omega, by omega, by rw [List.length_append]; simp; omega, by rw [HS.out]; go_num, HX2, O2, B2⟩
          case measure => have := HS.out; simp [intOf]; omega
    · obtain rfl : k = s.size := by omega
      have hd : decide ((s.size : Int) < (s.size : Int)) = false := by simp
      go_wp2_with fail
      go_ret2
      rw [← HX.out, lexGo_end (Nat.le_refl _)]
      exact TokPost.good HO.out HB.out
end Lex
end Go.Proofs.YtaikmgnpfbnjjaaGreatDoor
