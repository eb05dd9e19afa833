/- Plain: expressions as trees in memory, their nodes, their depth, what Check answers. -/
import Derived.Test.YtjjlhihocllgjaaGreatDoorPz0SeBase
namespace Go.Proofs.YtjjlhihocllgjaaGreatDoor.Ex
open Go.ChangeShapes Go.WideShapes Go.ChangeAt Go.RowKit Gn Cat Lex
set_option linter.unusedVariables false
set_option linter.unusedSimpArgs false
/-- an expression as it lies in memory: its numbers, the slice of its arguments, these themselves -/
inductive Tree where
  | mk (op : Int) (want : Nat → Int) (value : Int) (a : Option Addr) (c : Nat) (args : List Tree)
abbrev Tree.op : Tree → Int | .mk o _ _ _ _ _ => o
abbrev Tree.want : Tree → Nat → Int | .mk _ p _ _ _ _ => p
abbrev Tree.value : Tree → Int | .mk _ _ v _ _ _ => v
abbrev Tree.a : Tree → Option Addr | .mk _ _ _ a _ _ => a
abbrev Tree.c : Tree → Nat | .mk _ _ _ _ c _ => c
abbrev Tree.args : Tree → List Tree | .mk _ _ _ _ _ l => l
abbrev Tree.cells (e : Tree) : List Value := [.int .i64 e.op, .int .i64 (e.want 0), .int .i64 (e.want 1), .int .i64 (e.want 2), .int .i64 (e.want 3), .int .i64 (e.want 4), .int .i64 (e.want 5), .int .i64 e.value, .slice e.a e.args.length e.c]
abbrev Tree.val (e : Tree) : Value := .agg #[.int .i64 e.op, .int .i64 (e.want 0), .int .i64 (e.want 1), .int .i64 (e.want 2), .int .i64 (e.want 3), .int .i64 (e.want 4), .int .i64 (e.want 5), .int .i64 e.value, .slice e.a e.args.length e.c]
theorem tree_len (e : Tree) : e.cells.length = 9 := rfl
/-- the tree lies in memory, in blocks below B; d bounds its depth -/
def In : Nat → Nat → World → Tree → Prop
  | 0, _, _, _ => False
  | d + 1, B, w, e => e.args.length ≤ e.c ∧ e.c ≤ maxLen ∧ (0 < e.args.length → ∃ b o, e.a = some ⟨b, o, none⟩ ∧ b < B ∧ Row w b o (e.args.flatMap Tree.cells)) ∧ ∀ x ∈ e.args, In d B w x
theorem In.keep : ∀ {d B : Nat} {w w' : World} {e : Tree}, In d B w e → Below B w w' → In d B w' e
  | 0, _, _, _, _, h, _ => h
  | d + 1, B, w, w', e, h, k => by
    obtain ⟨h1, h2, h3, h4⟩ := h
    refine ⟨h1, h2, fun hn => ?_, fun x hx => (h4 x hx).keep k⟩
    obtain ⟨b, o, e1, hb, hr⟩ := h3 hn
    exact ⟨b, o, e1, hb, fun j u hu => (k.cell (p := ⟨b, o + j, none⟩) hb).trans (hr j u hu)⟩
theorem In.mono : ∀ {d B B' : Nat} {w : World} {e : Tree}, In d B w e → B ≤ B' → In d B' w e
  | 0, _, _, _, _, h, _ => h
  | d + 1, B, B', w, e, h, k => by
    obtain ⟨h1, h2, h3, h4⟩ := h
    refine ⟨h1, h2, fun hn => ?_, fun x hx => (h4 x hx).mono k⟩
    obtain ⟨b, o, e1, hb, hr⟩ := h3 hn
    exact ⟨b, o, e1, by omega, hr⟩
theorem In.pos : ∀ {d B : Nat} {w : World} {e : Tree}, In d B w e → 0 < d
  | 0, _, _, _, h => h.elim
  | d + 1, _, _, _, _ => Nat.succ_pos d
/-- all nodes, each ahead of its arguments -/
def preF : Nat → Tree → List Tree
  | 0, _ => []
  | d + 1, e => e :: e.args.flatMap (preF d)
def maxL (l : List Nat) : Nat := l.foldl max 0
def depthF : Nat → Tree → Nat
  | 0, _ => 0
  | d + 1, e => maxL (e.args.map (depthF d)) + 1
theorem maxL_snoc (l : List Nat) (x : Nat) : maxL (l ++ [x]) = max (maxL l) x := by unfold maxL; rw [List.foldl_append]; rfl
theorem map_snoc {T U : Type} (f : T → U) (l : List T) (k : Nat) (h : k < l.length) : (l.take (k + 1)).map f = (l.take k).map f ++ [f l[k]] := by
  rw [List.take_succ_eq_append_getElem h, List.map_append]; rfl
theorem flat_snoc {T U : Type} (f : T → List U) (l : List T) (k : Nat) (h : k < l.length) : (l.take (k + 1)).flatMap f = (l.take k).flatMap f ++ f l[k] := by
  rw [List.take_succ_eq_append_getElem h, List.flatMap_append]; simp
theorem maxL_le : ∀ (l : List Nat) (b m : Nat), b ≤ m → (∀ x ∈ l, x ≤ m) → l.foldl max b ≤ m
  | [], b, m, hb, _ => hb
  | a :: l, b, m, hb, h => maxL_le l (max b a) m (by have := h a List.mem_cons_self; omega) (fun x hx => h x (List.mem_cons_of_mem _ hx))
theorem sum_mem {T U : Type} {f : T → List U} : ∀ {l : List T} {x : T}, x ∈ l → (f x).length ≤ (l.flatMap f).length
  | a :: l, x, h => by
    rw [List.flatMap_cons, List.length_append]
    rcases List.mem_cons.1 h with rfl | h
    · omega
    · have := sum_mem (f := f) h; omega
theorem pre_arg {d : Nat} {e x : Tree} (h : x ∈ e.args) : (preF d x).length < (preF (d + 1) e).length := by
  have := sum_mem (f := preF d) h
  show _ < (e.args.flatMap (preF d)).length + 1
  omega
theorem depth_le : ∀ (d : Nat) (e : Tree), depthF d e ≤ (preF d e).length
  | 0, _ => Nat.le_refl _
  | d + 1, e => by
    have h : maxL (e.args.map (depthF d)) ≤ (e.args.flatMap (preF d)).length := by
      refine maxL_le _ 0 _ (Nat.zero_le _) fun x hx => ?_
      obtain ⟨y, hy, rfl⟩ := List.mem_map.1 hx
      exact Nat.le_trans (depth_le d y) (sum_mem hy)
    show _ + 1 ≤ (e.args.flatMap (preF d)).length + 1
    omega
/-- a visit of nodes in order, till one says no: the state, and whether all said yes -/
def foldW (step : Int → Tree → Int) (ok : Int → Tree → Bool) : Int → List Tree → Int × Bool
  | s, [] => (s, true)
  | s, x :: r => if ok s x = true then foldW step ok (step s x) r else (step s x, false)
theorem foldW_append (step : Int → Tree → Int) (ok : Int → Tree → Bool) : ∀ (l r : List Tree) (s : Int), foldW step ok s (l ++ r) = if (foldW step ok s l).2 = true then foldW step ok (foldW step ok s l).1 r else foldW step ok s l
  | [], r, s => by simp [foldW]
  | x :: l, r, s => by
    rw [List.cons_append, foldW, foldW]
    by_cases h : ok s x = true
    · rw [if_pos h, if_pos h]; exact foldW_append step ok l r _
    · rw [if_neg h, if_neg h, if_neg (by simp)]
def total6 (p : Nat → Int) : Int := p 0 + p 1 + p 2 + p 3 + p 4 + p 5
/-- has a node the right form; are its numbers in range? -/
def formB (e : Tree) : Bool :=
  if e.op = 1 then decide (e.args.length = 0)
  else if e.op = 2 ∨ e.op = 3 then decide (1 ≤ e.args.length) && decide (e.args.length ≤ 8) && eq6 e.want zero6 && decide (e.value = 0)
  else if e.op = 4 then decide (e.args.length = 1)
  else if e.op = 5 then decide (e.args.length = 1) && eq6 e.want zero6
  else false
def rangeB (e : Tree) : Bool :=
  if e.op = 2 ∨ e.op = 3 then true
  else if e.value < 1 ∨ 1000000 < e.value then false
  else decide (e.op = 5) || (validB e.want && decide (0 < total6 e.want))
def errN : List Tree → Int
  | [] => 0
  | x :: r => if formB x = false then 2 else if rangeB x = false then 4 else errN r
def wideB (l : List Tree) : Bool := l.any fun x => decide (8 < x.args.length)
def checkX (d : Nat) (e : Tree) : Int :=
  if 6 < depthF d e then 9
  else if (wideB (preF d e) || decide (40 < (preF d e).length)) = true then 3
  else errN (preF d e)
end Go.Proofs.YtjjlhihocllgjaaGreatDoor.Ex
