/- Plain: what the parser computes; expressions in memory whose rows lie in blocks of a kind. -/
import Derived.Test.YtjjlhihocllgjaaGreatDoorExF
import Derived.Test.YtjjlhihocllgjaaGreatDoorEx7
namespace Go.Proofs.YtjjlhihocllgjaaGreatDoor.Ex
open Go.ChangeShapes Go.WideShapes Go.ChangeAt Go.RowKit Gn Cat Lex
set_option linter.unusedVariables false
set_option linter.unusedSimpArgs false
/-- the tree lies in memory, in blocks with ok; d bounds its depth -/
def InP (ok : Nat → Prop) : Nat → World → Tree → Prop
  | 0, _, _ => False
  | d + 1, w, e => e.args.length ≤ e.c ∧ e.c ≤ maxLen ∧ (0 < e.args.length → ∃ b o, e.a = some ⟨b, o, none⟩ ∧ ok b ∧ b < w.heap.size ∧ Row w b o (e.args.flatMap Tree.cells)) ∧ ∀ x ∈ e.args, InP ok d w x
theorem InP.keep {ok : Nat → Prop} : ∀ {d : Nat} {w w' : World} {e : Tree}, InP ok d w e → (∀ b, ok b → b < w.heap.size → w'.heap[b]? = w.heap[b]?) → w.heap.size ≤ w'.heap.size → InP ok d w' e
  | 0, _, _, _, h, _, _ => h
  | d + 1, w, w', e, h, k, hs => by
    obtain ⟨h1, h2, h3, h4⟩ := h
    refine ⟨h1, h2, fun hn => ?_, fun x hx => (h4 x hx).keep k hs⟩
    obtain ⟨b, o, e1, ho, hb, hr⟩ := h3 hn
    exact ⟨b, o, e1, ho, by omega, fun j u hu => (World.cell?_of_block (a := ⟨b, o + j, none⟩) (k b ho hb)).trans (hr j u hu)⟩
theorem InP.mono {ok ok' : Nat → Prop} : ∀ {d : Nat} {w : World} {e : Tree}, InP ok d w e → (∀ b, b < w.heap.size → ok b → ok' b) → InP ok' d w e
  | 0, _, _, h, _ => h
  | d + 1, w, e, h, k => by
    obtain ⟨h1, h2, h3, h4⟩ := h
    refine ⟨h1, h2, fun hn => ?_, fun x hx => (h4 x hx).mono k⟩
    obtain ⟨b, o, e1, ho, hb, hr⟩ := h3 hn
    exact ⟨b, o, e1, k b hb ho, hb, hr⟩
theorem InP.to_in {ok : Nat → Prop} : ∀ {d : Nat} {w : World} {e : Tree}, InP ok d w e → In d w.heap.size w e
  | 0, _, _, h => h.elim
  | d + 1, w, e, h => by
    obtain ⟨h1, h2, h3, h4⟩ := h
    refine ⟨h1, h2, fun hn => ?_, fun x hx => (h4 x hx).to_in⟩
    obtain ⟨b, o, e1, ho, hb, hr⟩ := h3 hn
    exact ⟨b, o, e1, hb, hr⟩
/-- under a call that changes the block g alone -/
theorem InP.only {ok : Nat → Prop} {d g : Nat} {w w' : World} {e : Tree} (h : InP ok d w e) (k : Only g w w') (hg : ∀ b, ok b → b ≠ g) : InP ok d w' e :=
  h.keep (fun b ho hb => k.block b hb (hg b ho)) k.size
theorem InP.below {ok : Nat → Prop} {d : Nat} {w w' : World} {e : Tree} (h : InP ok d w e) (k : Below w.heap.size w w') : InP ok d w' e :=
  h.keep (fun b _ hb => k.block b hb) k.size
/-- a store into a block that is none of these -/
theorem InP.put {ok : Nat → Prop} {d : Nat} {w : World} {e : Tree} (h : InP ok d w e) {p : Addr} (hp : ¬ ok p.block) (u : Value) : InP ok d (w.setCell p u) e :=
  h.keep (fun b ho _ => Below.heap_setCell _ _ _ _ (fun k => hp (k ▸ ho))) (by simp [World.setCell])
abbrev noTree : Tree := .mk 0 zero6 0 none 0 []
abbrev x0 : X := .mk 0 (n6 zero6) 0 []
theorem inP_none (ok : Nat → Prop) (d : Nat) (w : World) : InP ok (d + 1) w noTree :=
  ⟨Nat.le_refl _, Nat.zero_le _, fun h => absurd h (by simp), fun x hx => by simp at hx⟩
theorem xF_none (d : Nat) : xF (d + 1) noTree = x0 := rfl
structure PX where
  x : X
  L : List Tok
  e : Int
structure PXs where
  xs : List X
  L : List Tok
  e : Int
noncomputable def argX (f : List Tok → Int → PX) (L : List Tok) (e : Int) : PX := if e ≠ 0 then ⟨x0, L, e⟩ else f L e
noncomputable def moreF (f : List Tok → Int → PX) : Nat → PXs → PXs
  | 0, s => s
  | k + 1, s => if accB s.L s.e ⟨#[44]⟩ then moreF f k ⟨s.xs ++ [(argX f (nextL s.L s.e) s.e).x], (argX f (nextL s.L s.e) s.e).L, (argX f (nextL s.L s.e) s.e).e⟩ else s
noncomputable def closeX (q : PX) : PX := ⟨q.x, expL q.L q.e ⟨#[41]⟩, expE q.L q.e ⟨#[41]⟩⟩
def opT (L : List Tok) (e : Int) : Int := if (peekT L e).kind = 1 then opW (peekT L e).text else 1
def opE (L : List Tok) (e : Int) : Int := if opT L e = 0 then failE e 2 else e
/-- behind the first argument -/
noncomputable def bodyX (l : List Prod) (f : List Tok → Int → PX) (op : Int) (a : PX) : PX :=
  if op = 2 ∨ op = 3 then closeX ⟨.mk op (n6 zero6) 0 (moreF f (a.L.length + 1) ⟨[a.x], a.L, a.e⟩).xs, (moreF f (a.L.length + 1) ⟨[a.x], a.L, a.e⟩).L, (moreF f (a.L.length + 1) ⟨[a.x], a.L, a.e⟩).e⟩
  else if op = 4 then closeX ⟨.mk op (n6 (pricedF l (expL a.L a.e ⟨#[44]⟩) (expE a.L a.e ⟨#[44]⟩)).b) (pricedF l (expL a.L a.e ⟨#[44]⟩) (expE a.L a.e ⟨#[44]⟩)).v [a.x], (pricedF l (expL a.L a.e ⟨#[44]⟩) (expE a.L a.e ⟨#[44]⟩)).L, (pricedF l (expL a.L a.e ⟨#[44]⟩) (expE a.L a.e ⟨#[44]⟩)).e⟩
  else if op = 5 then closeX ⟨.mk op (n6 zero6) (amtV (expL a.L a.e ⟨#[44]⟩) (expE a.L a.e ⟨#[44]⟩) 1000000) [a.x], amtL (expL a.L a.e ⟨#[44]⟩) (expE a.L a.e ⟨#[44]⟩) 1000000, amtE (expL a.L a.e ⟨#[44]⟩) (expE a.L a.e ⟨#[44]⟩) 1000000⟩
  else closeX ⟨.mk op (n6 zero6) 0 [a.x], a.L, a.e⟩
noncomputable def firstX (f : List Tok → Int → PX) (L : List Tok) (e : Int) : PX := argX f (expL (nextL L e) e ⟨#[40]⟩) (expE (nextL L e) e ⟨#[40]⟩)
/-- the expression that the tokens begin with -/
noncomputable def exprF (l : List Prod) : Nat → List Tok → Int → PX
  | 0 => fun L e => ⟨x0, L, e⟩
  | d + 1 => fun L e =>
    if opT L e = 1 then ⟨.mk 1 (n6 (pricedF l L (opE L e)).b) (pricedF l L (opE L e)).v [], (pricedF l L (opE L e)).L, (pricedF l L (opE L e)).e⟩
    else bodyX l (exprF l d) (opT L e) (firstX (exprF l d) L (opE L e))
theorem argX_len {f : List Tok → Int → PX} (h : ∀ L e, (f L e).L.length ≤ L.length) (L : List Tok) (e : Int) : (argX f L e).L.length ≤ L.length := by
  unfold argX
  split
  · exact Nat.le_refl _
  · exact h L e
theorem moreF_len {f : List Tok → Int → PX} (h : ∀ L e, (f L e).L.length ≤ L.length) : ∀ (k : Nat) (s : PXs), (moreF f k s).L.length ≤ s.L.length
  | 0, s => Nat.le_refl _
  | k + 1, s => by
    unfold moreF
    split
    · exact Nat.le_trans (moreF_len h k _) (Nat.le_trans (argX_len h _ _) (nextL_len _ _))
    · exact Nat.le_refl _
theorem bodyX_len (l : List Prod) {f : List Tok → Int → PX} (h : ∀ L e, (f L e).L.length ≤ L.length) (op : Int) (a : PX) : (bodyX l f op a).L.length ≤ a.L.length := by
  unfold bodyX
  split
  · exact Nat.le_trans (expL_len _ _ _) (moreF_len h _ _)
  · split
    · exact Nat.le_trans (expL_len _ _ _) (Nat.le_trans (pricedF_len l _ _) (expL_len _ _ _))
    · split
      · exact Nat.le_trans (expL_len _ _ _) (Nat.le_trans (amtL_len _ _ _) (expL_len _ _ _))
      · exact expL_len _ _ _
theorem exprF_len (l : List Prod) : ∀ (d : Nat) (L : List Tok) (e : Int), (exprF l d L e).L.length ≤ L.length
  | 0, L, e => Nat.le_refl _
  | d + 1, L, e => by
    unfold exprF
    split
    · exact pricedF_len l L _
    · exact Nat.le_trans (bodyX_len l (exprF_len l d) _ _) (Nat.le_trans (argX_len (exprF_len l d) _ _) (Nat.le_trans (expL_len _ _ _) (nextL_len _ _)))
/-- an operation's word is there: one token at least, no error -/
theorem opT_some {L : List Tok} {e : Int} (h : opT L e ≠ 1) : e = 0 ∧ 0 < L.length := by
  unfold opT at h
  by_cases hk : (peekT L e).kind = 1
  · unfold peekT at hk
    by_cases he : e = 0
    · rw [if_pos he] at hk
      refine ⟨he, ?_⟩
      cases L with
      | nil => exact absurd hk (by decide)
      | cons t L => simp
    · rw [if_neg he] at hk
      exact absurd hk (by decide)
  · rw [if_neg hk] at h
    exact absurd rfl h
/-- the argument's tokens are fewer, where there is no error -/
theorem first_less {L : List Tok} {e : Int} (h : 0 < L.length) (he : expE (nextL L e) e ⟨#[40]⟩ = 0) : (expL (nextL L e) e ⟨#[40]⟩).length < L.length := by
  have h0 : e = 0 := by
    by_cases hx : e = 0
    · exact hx
    · exfalso
      unfold expE at he
      split at he
      · exact hx he
      · simp [wrongE, failE, hx] at he
  subst h0
  refine Nat.lt_of_le_of_lt (expL_len _ _ _) ?_
  unfold nextL
  rw [if_pos rfl]
  cases L with
  | nil => exact absurd h (by simp)
  | cons t L => simp
end Go.Proofs.YtjjlhihocllgjaaGreatDoor.Ex
