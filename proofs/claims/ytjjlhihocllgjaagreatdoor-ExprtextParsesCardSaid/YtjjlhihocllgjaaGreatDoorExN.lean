/- Plain: an expression that was parsed has at most as many nodes as tokens, and two more. -/
import Derived.Test.YtjjlhihocllgjaaGreatDoorExG
import Derived.Test.YtjjlhihocllgjaaGreatDoorPz12
namespace Go.Proofs.YtjjlhihocllgjaaGreatDoor.Ex
open Go.ChangeShapes Go.WideShapes Go.ChangeAt Go.RowKit Gn Cat Lex
set_option linter.unusedVariables false
set_option linter.unusedSimpArgs false
/-- the number of nodes, as deep as d -/
def szX : Nat → X → Nat
  | 0, _ => 0
  | d + 1, .mk _ _ _ args => 1 + (args.map (szX d)).sum
theorem szX_leaf (d : Nat) (op : Int) (p : List Int) (v : Int) : szX d (.mk op p v []) ≤ 1 := by cases d <;> simp [szX]
theorem pre_sz : ∀ (d : Nat) (t : Tree), (preF d t).length = szX d (xF d t)
  | 0, t => rfl
  | d + 1, t => by
    have h : ∀ l : List Tree, (l.flatMap (preF d)).length = ((l.map (xF d)).map (szX d)).sum := by
      intro l
      induction l with
      | nil => rfl
      | cons a l ih => rw [List.flatMap_cons, List.length_append, ih, pre_sz d a]; rfl
    show (t.args.flatMap (preF d)).length + 1 = 1 + _
    rw [h]
    omega
def dl (e : Int) : Nat := if e = 0 then 0 else 1
theorem dl_le {e e' : Int} (h : e ≠ 0 → e' ≠ 0) : dl e ≤ dl e' := by
  unfold dl
  by_cases h0 : e = 0
  · rw [if_pos h0]; exact Nat.zero_le _
  · rw [if_neg h0, if_neg (h h0)]; exact Nat.le_refl _
theorem dl_ne {e : Int} (h : e ≠ 0) : dl e = 1 := if_neg h
theorem exp_ne {L : List Tok} {e : Int} {m : ByteArray} (h : e ≠ 0) : expE L e m ≠ 0 := by rw [(err_exp h m).1]; exact h
theorem amt_ne {L : List Tok} {e m : Int} (h : e ≠ 0) : amtE L e m ≠ 0 := by
  unfold amtE peekT wrongE failE
  simp [h, Tok.none]
theorem priced_ne {l : List Prod} {L : List Tok} {e : Int} (h : e ≠ 0) : (pricedF l L e).e ≠ 0 := by
  have ho : openE L e = e := by
    unfold openE peekT failE
    simp [h, Tok.none]
  have hs : scanF l L e = ⟨L, e, zero6⟩ := by unfold scanF; rw [if_pos h]
  unfold pricedF pricedS
  rw [ho, hs]
  exact amt_ne (exp_ne h)
def SzOk (f : List Tok → Int → PX) : Prop := ∀ L e, (e ≠ 0 → (f L e).e ≠ 0) ∧ (f L e).L.length ≤ L.length ∧ ∀ d, szX d (f L e).x + (f L e).L.length ≤ L.length + 1 + dl (f L e).e
theorem arg_sz {f : List Tok → Int → PX} (h : SzOk f) : SzOk (argX f) := by
  intro L e
  unfold argX
  by_cases he : e ≠ 0
  · rw [if_pos he]
    exact ⟨fun h => h, Nat.le_refl _, fun d => by have := szX_leaf d 0 (n6 zero6) 0; show szX d (.mk 0 (n6 zero6) 0 []) + L.length ≤ _; omega⟩
  · rw [if_neg he]
    exact h L e
theorem more_sz {f : List Tok → Int → PX} (h : SzOk f) : ∀ (k : Nat) (s : PXs), (s.e ≠ 0 → (moreF f k s).e ≠ 0) ∧ ∀ d, ((moreF f k s).xs.map (szX d)).sum + (moreF f k s).L.length + dl s.e ≤ (s.xs.map (szX d)).sum + s.L.length + dl (moreF f k s).e
  | 0, s => ⟨fun h => h, fun d => Nat.le_refl _⟩
  | k + 1, s => by
    unfold moreF
    by_cases ha : accB s.L s.e ⟨#[44]⟩
    · rw [if_pos ha]
      have h0 : s.e = 0 := by
        by_cases he : s.e = 0
        · exact he
        · exact absurd ha (err_acc he _)
      have hx := acc_next ha
      obtain ⟨a1, a2, a3⟩ := arg_sz h (nextL s.L s.e) s.e
      obtain ⟨m1, m2⟩ := more_sz h k ⟨s.xs ++ [(argX f (nextL s.L s.e) s.e).x], (argX f (nextL s.L s.e) s.e).L, (argX f (nextL s.L s.e) s.e).e⟩
      refine ⟨fun he => absurd h0 he, fun d => ?_⟩
      have b2 := m2 d
      have b3 := a3 d
      have hd : dl s.e = 0 := by unfold dl; rw [if_pos h0]
      dsimp only at b2
      simp only [List.map_append, List.map_cons, List.map_nil, List.sum_append, List.sum_cons, List.sum_nil] at b2
      omega
    · rw [if_neg ha]
      exact ⟨fun h => h, fun d => Nat.le_refl _⟩
theorem body_sz (l : List Prod) {f : List Tok → Int → PX} (h : SzOk f) (op : Int) (a : PX) : ∀ d, szX (d + 1) (bodyX l f op a).x + (bodyX l f op a).L.length + dl a.e ≤ 1 + szX d a.x + a.L.length + dl (bodyX l f op a).e := by
  intro d
  unfold bodyX
  split
  · obtain ⟨m1, m2⟩ := more_sz h (a.L.length + 1) ⟨[a.x], a.L, a.e⟩
    have b2 := m2 d
    generalize moreF f (a.L.length + 1) ⟨[a.x], a.L, a.e⟩ = s at *
    have b3 := expL_len s.L s.e ⟨#[41]⟩
    have b4 : dl s.e ≤ dl (expE s.L s.e ⟨#[41]⟩) := dl_le exp_ne
    simp only [List.map_cons, List.map_nil, List.sum_cons, List.sum_nil] at b2
    show 1 + (s.xs.map (szX d)).sum + (expL s.L s.e ⟨#[41]⟩).length + dl a.e ≤ 1 + szX d a.x + a.L.length + dl (expE s.L s.e ⟨#[41]⟩)
    omega
  · have b0 := expL_len a.L a.e ⟨#[44]⟩
    have b1 : dl a.e ≤ dl (expE a.L a.e ⟨#[44]⟩) := dl_le exp_ne
    generalize expL a.L a.e ⟨#[44]⟩ = L2 at *
    generalize expE a.L a.e ⟨#[44]⟩ = e2 at *
    split
    · have b2 := pricedF_len l L2 e2
      have b3 : dl e2 ≤ dl (pricedF l L2 e2).e := dl_le priced_ne
      generalize pricedF l L2 e2 = q at *
      have b4 := expL_len q.L q.e ⟨#[41]⟩
      have b5 : dl q.e ≤ dl (expE q.L q.e ⟨#[41]⟩) := dl_le exp_ne
      show 1 + (szX d a.x + 0) + (expL q.L q.e ⟨#[41]⟩).length + dl a.e ≤ 1 + szX d a.x + a.L.length + dl (expE q.L q.e ⟨#[41]⟩)
      omega
    · split
      · have b2 := amtL_len L2 e2 1000000
        have b3 : dl e2 ≤ dl (amtE L2 e2 1000000) := dl_le amt_ne
        generalize amtL L2 e2 1000000 = qL at *
        generalize amtE L2 e2 1000000 = qe at *
        have b4 := expL_len qL qe ⟨#[41]⟩
        have b5 : dl qe ≤ dl (expE qL qe ⟨#[41]⟩) := dl_le exp_ne
        show 1 + (szX d a.x + 0) + (expL qL qe ⟨#[41]⟩).length + dl a.e ≤ 1 + szX d a.x + a.L.length + dl (expE qL qe ⟨#[41]⟩)
        omega
      · have b4 := expL_len a.L a.e ⟨#[41]⟩
        have b5 : dl a.e ≤ dl (expE a.L a.e ⟨#[41]⟩) := dl_le exp_ne
        show 1 + (szX d a.x + 0) + (expL a.L a.e ⟨#[41]⟩).length + dl a.e ≤ 1 + szX d a.x + a.L.length + dl (expE a.L a.e ⟨#[41]⟩)
        omega
theorem expr_sz (l : List Prod) : ∀ D : Nat, SzOk (exprF l D)
  | 0 => fun L e => ⟨fun h => h, Nat.le_refl _, fun d => by have := szX_leaf d 0 (n6 zero6) 0; show szX d (.mk 0 (n6 zero6) 0 []) + L.length ≤ _; omega⟩
  | D + 1 => fun L e => by
    refine ⟨?_, exprF_len l (D + 1) L e, ?_⟩
    · intro he
      by_cases ho : opT L e = 1
      · have h0 : opE L e = e := by unfold opE; rw [ho, if_neg (by decide)]
        unfold exprF
        rw [if_pos ho, h0]
        exact priced_ne he
      · exact absurd (opT_some ho).1 he
    · intro d
      by_cases ho : opT L e = 1
      · unfold exprF
        rw [if_pos ho]
        dsimp only
        have b1 := szX_leaf d 1 (n6 (pricedF l L (opE L e)).b) (pricedF l L (opE L e)).v
        have b2 := pricedF_len l L (opE L e)
        omega
      · obtain ⟨rfl, h0⟩ := opT_some ho
        have hl := exprF_len l (D + 1) L 0
        cases d with
        | zero =>
          show 0 + _ ≤ _
          omega
        | succ d =>
          have hx : exprF l (D + 1) L 0 = bodyX l (exprF l D) (opT L 0) (firstX (exprF l D) L (opE L 0)) := by
            conv => lhs; unfold exprF
            rw [if_neg ho]
          rw [hx]
          have hb := body_sz l (expr_sz l D) (opT L 0) (firstX (exprF l D) L (opE L 0)) d
          have hf : szX d (firstX (exprF l D) L (opE L 0)).x + (firstX (exprF l D) L (opE L 0)).L.length ≤ L.length + dl (firstX (exprF l D) L (opE L 0)).e := by
            by_cases h2 : opT L 0 = 0
            · have he : opE L 0 = 2 := by unfold opE; rw [if_pos h2]; rfl
              have h3 : firstX (exprF l D) L 2 = ⟨x0, L, 2⟩ := by
                unfold firstX
                have n2 : nextL L 2 = L := by unfold nextL; rw [if_neg (by decide)]
                rw [n2, (err_exp (by decide) _).1, (err_exp (by decide) _).2]
                unfold argX
                rw [if_pos (by decide)]
              rw [he, h3]
              have := szX_leaf d 0 (n6 zero6) 0
              show szX d (.mk 0 (n6 zero6) 0 []) + L.length ≤ L.length + dl 2
              rw [dl_ne (by decide)]
              omega
            · have he : opE L 0 = 0 := by unfold opE; rw [if_neg h2]
              rw [he]
              obtain ⟨_, _, a3⟩ := arg_sz (expr_sz l D) (expL (nextL L 0) 0 ⟨#[40]⟩) (expE (nextL L 0) 0 ⟨#[40]⟩)
              have b1 := expL_len (nextL L 0) 0 ⟨#[40]⟩
              have b2 : (nextL L 0).length < L.length := by
                unfold nextL
                rw [if_pos rfl, List.length_tail]
                omega
              have b3 := a3 d
              show szX d (firstX (exprF l D) L 0).x + (firstX (exprF l D) L 0).L.length ≤ _
              unfold firstX
              omega
          generalize firstX (exprF l D) L (opE L 0) = a at *
          omega
theorem lex_toks_len {s : ByteArray} (h : LexErr (lex s) = 0) : (LexToks (lex s)).length ≤ 4000 := by
  unfold lex at h ⊢
  by_cases hs : 4000 < s.size
  · rw [if_pos hs] at h; cases h
  · rw [if_neg hs] at h ⊢
    cases hx : lexGo s (s.size + 1) 0 [] with
    | error e => exact Nat.zero_le _
    | ok r =>
      have := lexGo_len s (s.size + 1) 0 [] r (Nat.zero_le _) hx
      show r.length ≤ 4000
      simp at this
      omega
end Go.Proofs.YtjjlhihocllgjaaGreatDoor.Ex
