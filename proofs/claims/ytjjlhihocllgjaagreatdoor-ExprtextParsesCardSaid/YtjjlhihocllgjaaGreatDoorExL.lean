/- Contract of exprtext's expression, whole. -/
import Derived.Test.YtjjlhihocllgjaaGreatDoorExK
namespace Go.Proofs.YtjjlhihocllgjaaGreatDoor.Ex
open Go.ChangeShapes Go.WideShapes Go.ChangeAt Go.RowKit Gn Cat Lex
set_option linter.unusedVariables false
set_option linter.unusedSimpArgs false
theorem expr_any (l : List Prod) (A : Option Addr) (c g : Nat) (hl : l.length ≤ 5000) (hA : ∀ b o, A = some ⟨b, o, none⟩ → b ≠ g) (hn : ∀ p ∈ l, p.name.size ≤ maxLen) : ∀ (d : Nat) (L : List Tok) (e : Int) (w : World), PS w (.slice A l.length c) l → Scan 113 109 w g L e → L.length ≤ 5000 → L.length < d →
    Calls Tryz.prog 36 #[.agg #[.slice A l.length c, .pointer (some ⟨g, 0, none⟩)]] w (ExprPost d (exprF l d L e) g w)
  | 0, L, e, w, _, _, _, h => by omega
  | d + 1, L, e, w, hp, hs, hm, hd => by
    by_cases ho : opT L e = 1
    · have hk : (peekT L e).kind ≠ 1 := by
        intro hk
        unfold opT at ho
        rw [if_pos hk] at ho
        rcases opW_cases (peekT L e).text with h | h | h | h | h <;> omega
      have he : opE L e = e := by unfold opE; rw [ho, if_neg (by decide)]
      have hx : exprF l (d + 1) L e = ⟨.mk 1 (n6 (pricedF l L e).b) (pricedF l L e).v [], (pricedF l L e).L, (pricedF l L e).e⟩ := by
        conv => lhs; unfold exprF
        rw [if_pos ho, he]
      rw [hx]
      exact expr_atom l d A c L e g w hl hp hA hn hs hm hk
    · obtain ⟨rfl, h0⟩ := opT_some ho
      obtain ⟨d, rfl⟩ : ∃ d', d = d' + 1 := ⟨d - 1, by omega⟩
      have hk : (peekT L 0).kind = 1 := by
        by_cases hk : (peekT L 0).kind = 1
        · exact hk
        · exfalso; apply ho; unfold opT; rw [if_neg hk]
      have hx : exprF l (d + 1 + 1) L 0 = bodyX l (exprF l (d + 1)) (opT L 0) (firstX (exprF l (d + 1)) L (opE L 0)) := by
        conv => lhs; unfold exprF
        rw [if_neg ho]
      have hop : opT L 0 = opW (peekT L 0).text := by unfold opT; rw [if_pos hk]
      have HARG : ∀ L' e' W, (e' = 0 → L'.length < L.length) → Only g w W → Scan 113 109 W g L' e' → Calls Tryz.prog 77 #[.agg #[.slice A l.length c, .pointer (some ⟨g, 0, none⟩)]] W (ExprPost (d + 1) (argX (exprF l (d + 1)) L' e') g W) := by
        intro L' e' W hlt o h
        by_cases he : e' = 0
        · subst he
          have := hlt rfl
          exact arg_ok l (d + 1) (exprF l (d + 1)) A c L' g W h fun W' o' h' => expr_any l A c g hl hA hn (d + 1) L' 0 W' (ps_only (ps_only hp hA o) hA o') h' (by omega) (by omega)
        · exact arg_err l d (exprF l (d + 1)) A c L' e' g W h he
      have hf := exprF_len l (d + 1)
      rw [hx]
      unfold opE
      rw [hop]
      rcases opW_cases (peekT L 0).text with h | h | h | h | h
      · rw [h, if_pos rfl]
        exact expr_0 l (d + 1) (exprF l (d + 1)) hf A c L g w hl hp hA hn hs hm h0 HARG hk h
      · rw [h, if_neg (by decide)]
        exact expr_2 l (d + 1) (exprF l (d + 1)) hf A c L g w hl hp hA hn hs hm h0 HARG hk h
      · rw [h, if_neg (by decide)]
        exact expr_3 l (d + 1) (exprF l (d + 1)) hf A c L g w hl hp hA hn hs hm h0 HARG hk h
      · rw [h, if_neg (by decide)]
        exact expr_4 l (d + 1) (exprF l (d + 1)) hf A c L g w hl hp hA hn hs hm h0 HARG hk h
      · rw [h, if_neg (by decide)]
        exact expr_5 l (d + 1) (exprF l (d + 1)) hf A c L g w hl hp hA hn hs hm h0 HARG hk h
end Go.Proofs.YtjjlhihocllgjaaGreatDoor.Ex
