/- Plain: a parsed expression wants bundles of the products alone; a parenthesis behind its text is one token too many. -/
import Derived.Test.YtjjlhihocllgjaaDoorExY
import Derived.Test.YtjjlhihocllgjaaDoorExP
namespace Go.Proofs.YtjjlhihocllgjaaDoor.Ex
open Go.ChangeShapes Go.WideShapes Go.ChangeAt Go.RowKit Gn Cat Lex
set_option linter.unusedVariables false
set_option linter.unusedSimpArgs false
/-- all bundles of an expression fit the products -/
def WantP (l : List Prod) : Nat → X → Prop
  | 0, _ => True
  | d + 1, .mk _ want _ args => (∃ b, n6 b = want ∧ rfitsB b l = true) ∧ ∀ x ∈ args, WantP l d x
theorem body_ne {l : List Prod} {f : List Tok → Int → PX} (h : SzOk f) {op : Int} {a : PX} (ha : a.e ≠ 0) : (bodyX l f op a).e ≠ 0 := by
  unfold bodyX
  split
  · exact exp_ne ((more_sz h (a.L.length + 1) ⟨[a.x], a.L, a.e⟩).1 ha)
  · split
    · exact exp_ne (priced_ne (exp_ne ha))
    · split
      · exact exp_ne (amt_ne (exp_ne ha))
      · exact exp_ne ha
section
variable {l : List Prod} (hz : checkE l = 0)
include hz
theorem want_zero : ∃ b, n6 b = n6 zero6 ∧ rfitsB b l = true := ⟨zero6, rfl, rfits_zero hz rfl⟩
theorem want_x0 : ∀ d, WantP l d x0
  | 0 => trivial
  | d + 1 => ⟨want_zero hz, fun x hx => by cases hx⟩
omit hz in
theorem more_want {f : List Tok → Int → PX} (h : SzOk f) (hf : ∀ L e, (f L e).e = 0 → ∀ d, WantP l d (f L e).x) (d : Nat) : ∀ (k : Nat) (s : PXs), (moreF f k s).e = 0 → (∀ x ∈ s.xs, WantP l d x) → ∀ x ∈ (moreF f k s).xs, WantP l d x
  | 0, s, _, hs => hs
  | k + 1, s, he, hs => by
    unfold moreF at he ⊢
    by_cases ha : accB s.L s.e ⟨#[44]⟩
    · rw [if_pos ha] at he ⊢
      have h2 : (argX f (nextL s.L s.e) s.e).e = 0 := by
        by_cases hx : (argX f (nextL s.L s.e) s.e).e = 0
        · exact hx
        · exact absurd he ((more_sz h k ⟨s.xs ++ [(argX f (nextL s.L s.e) s.e).x], (argX f (nextL s.L s.e) s.e).L, (argX f (nextL s.L s.e) s.e).e⟩).1 hx)
      refine more_want h hf d k _ he fun x hx => ?_
      rcases List.mem_append.1 hx with hx | hx
      · exact hs x hx
      · obtain rfl := List.mem_singleton.1 hx
        unfold argX at h2 ⊢
        split at h2
        · rename_i q; exact absurd h2 q
        · rename_i q
          rw [if_neg q]
          exact hf _ _ h2 d
    · rw [if_neg ha] at he ⊢
      exact hs
theorem body_want {f : List Tok → Int → PX} (h : SzOk f) (hf : ∀ L e, (f L e).e = 0 → ∀ d, WantP l d (f L e).x) (op : Int) (a : PX) (ha : ∀ d, WantP l d a.x) (he : (bodyX l f op a).e = 0) : ∀ d, WantP l d (bodyX l f op a).x
  | 0 => trivial
  | d + 1 => by
    unfold bodyX at he ⊢
    split at he
    · rename_i q
      rw [if_pos q]
      have h2 := exp_zero he
      exact ⟨want_zero hz, more_want h hf d _ _ h2 fun x hx => by obtain rfl := List.mem_singleton.1 hx; exact ha d⟩
    · rename_i q
      rw [if_neg q]
      split at he
      · rename_i q2
        rw [if_pos q2]
        have h2 := exp_zero he
        have h3 := priced_zero h2
        obtain ⟨_, h5, _⟩ := priced_app hz [] h2
        exact ⟨⟨_, rfl, h5⟩, fun x hx => by obtain rfl := List.mem_singleton.1 hx; exact ha d⟩
      · rename_i q2
        rw [if_neg q2]
        split
        · exact ⟨want_zero hz, fun x hx => by obtain rfl := List.mem_singleton.1 hx; exact ha d⟩
        · exact ⟨want_zero hz, fun x hx => by obtain rfl := List.mem_singleton.1 hx; exact ha d⟩
theorem expr_want : ∀ (D : Nat) (L : List Tok) (e : Int), (exprF l D L e).e = 0 → ∀ d, WantP l d (exprF l D L e).x
  | 0, L, e, _, d => want_x0 hz d
  | D + 1, L, e, he, d => by
    by_cases ho : opT L e = 1
    · unfold exprF at he ⊢
      rw [if_pos ho] at he ⊢
      obtain ⟨_, h5, _⟩ := priced_app hz [] he
      cases d with
      | zero => trivial
      | succ d => exact ⟨⟨_, rfl, h5⟩, fun x hx => by cases hx⟩
    · have hx : exprF l (D + 1) L e = bodyX l (exprF l D) (opT L e) (firstX (exprF l D) L (opE L e)) := by
        conv => lhs; unfold exprF
        rw [if_neg ho]
      rw [hx] at he ⊢
      refine body_want hz (expr_sz l D) (expr_want D) _ _ (fun d => ?_) he d
      have h2 : (firstX (exprF l D) L (opE L e)).e = 0 := by
        by_cases hq : (firstX (exprF l D) L (opE L e)).e = 0
        · exact hq
        · exact absurd he (body_ne (expr_sz l D) hq)
      unfold firstX argX at h2 ⊢
      split at h2
      · rename_i q; exact absurd h2 q
      · rename_i q
        rw [if_neg q]
        exact expr_want D _ _ h2 d
/-- a function of tokens that looks at no more than it reads -/
def LocOk (f f' : List Tok → Int → PX) (N : Nat) : Prop := ∀ L e M, L.length < N → (f L e).e = 0 → f' (L ++ M) e = ⟨(f L e).x, (f L e).L ++ M, 0⟩
omit hz in
theorem arg_loc {f f' : List Tok → Int → PX} {N : Nat} (h : LocOk f f' N) {L : List Tok} {e : Int} (M : List Tok) (hl : L.length < N) (he : (argX f L e).e = 0) : argX f' (L ++ M) e = ⟨(argX f L e).x, (argX f L e).L ++ M, 0⟩ := by
  unfold argX at he ⊢
  split at he
  · rename_i q; exact absurd he q
  · rename_i q
    rw [if_neg q, if_neg q]
    exact h _ _ M hl he
omit hz in
theorem more_loc {f f' : List Tok → Int → PX} {N : Nat} (hs : SzOk f) (h : LocOk f f' N) (M : List Tok) : ∀ (k k' : Nat) (s : PXs), s.L.length < k → s.L.length + M.length < k' → s.L.length ≤ N → (moreF f k s).e = 0 → (moreF f k s).L ≠ [] → moreF f' k' ⟨s.xs, s.L ++ M, s.e⟩ = ⟨(moreF f k s).xs, (moreF f k s).L ++ M, 0⟩
  | 0, k', s, hk, _, _, _, _ => by omega
  | k + 1, 0, s, hk, hk', _, _, _ => by omega
  | k + 1, k' + 1, s, hk, hk', hN, he, hn => by
    by_cases ha : accB s.L s.e ⟨#[44]⟩
    · have h0 : s.e = 0 := by
        by_cases hx : s.e = 0
        · exact hx
        · exact absurd ha (err_acc hx _)
      have hlt := acc_next ha
      unfold moreF at he hn
      rw [if_pos ha] at he hn
      have h2 : (argX f (nextL s.L s.e) s.e).e = 0 := by
        by_cases hx : (argX f (nextL s.L s.e) s.e).e = 0
        · exact hx
        · exact absurd he ((more_sz hs k ⟨s.xs ++ [(argX f (nextL s.L s.e) s.e).x], (argX f (nextL s.L s.e) s.e).L, (argX f (nextL s.L s.e) s.e).e⟩).1 hx)
      have hla := (arg_sz hs (nextL s.L s.e) s.e).2.1
      have hal := arg_loc h M (show (nextL s.L s.e).length < N by omega) h2
      have ha2 : accB (s.L ++ M) s.e ⟨#[44]⟩ ∧ nextL (s.L ++ M) s.e = nextL s.L s.e ++ M := by
        rw [h0] at ha ⊢
        cases hL : s.L with
        | nil => rw [hL] at ha; exact absurd ha (accB_nil _)
        | cons t R => rw [hL] at ha; exact ⟨ha, rfl⟩
      have e1 : moreF f (k + 1) s = moreF f k ⟨s.xs ++ [(argX f (nextL s.L s.e) s.e).x], (argX f (nextL s.L s.e) s.e).L, (argX f (nextL s.L s.e) s.e).e⟩ := by
        conv => lhs; unfold moreF
        rw [if_pos ha]
      rw [e1]
      have ih := more_loc hs h M k k' ⟨s.xs ++ [(argX f (nextL s.L s.e) s.e).x], (argX f (nextL s.L s.e) s.e).L, (argX f (nextL s.L s.e) s.e).e⟩ (by dsimp only; omega) (by dsimp only; omega) (by dsimp only; omega) he hn
      conv => lhs; unfold moreF
      dsimp only
      rw [if_pos ha2.1, ha2.2, hal]
      dsimp only at ih ⊢
      rw [← ih, h2]
    · have e1 : moreF f (k + 1) s = s := by
        unfold moreF
        rw [if_neg ha]
      rw [e1] at he hn ⊢
      have ha2 : ¬ accB (s.L ++ M) s.e ⟨#[44]⟩ := by
        rw [he] at ha ⊢
        cases hL : s.L with
        | nil => exact absurd hL hn
        | cons t R => rw [hL] at ha; exact ha
      unfold moreF
      rw [if_neg ha2, he]
omit hz in
theorem close_loc {x : X} {L : List Tok} {e : Int} (M : List Tok) (he : (closeX ⟨x, L, e⟩).e = 0) : e = 0 ∧ L ≠ [] ∧ closeX ⟨x, L ++ M, 0⟩ = ⟨(closeX ⟨x, L, e⟩).x, (closeX ⟨x, L, e⟩).L ++ M, 0⟩ := by
  have h1 : expE L e ⟨#[41]⟩ = 0 := he
  obtain rfl := exp_zero h1
  obtain ⟨e1, e2⟩ := exp_app M h1
  refine ⟨rfl, ?_, ?_⟩
  · obtain ⟨t, R, e, _⟩ := exp_head h1
    rw [e]; simp
  · unfold closeX
    dsimp only
    rw [e1, e2]
theorem body_loc {f f' : List Tok → Int → PX} {N : Nat} (hs : SzOk f) (h : LocOk f f' N) (M : List Tok) (op : Int) (a : PX) (hN : a.L.length ≤ N) (he : (bodyX l f op a).e = 0) : bodyX l f' op ⟨a.x, a.L ++ M, a.e⟩ = ⟨(bodyX l f op a).x, (bodyX l f op a).L ++ M, 0⟩ := by
  unfold bodyX at he ⊢
  split at he
  · rename_i q
    rw [if_pos q, if_pos q]
    obtain ⟨c1, c2, c3⟩ := close_loc M he
    have hm := more_loc hs h M (a.L.length + 1) ((a.L ++ M).length + 1) ⟨[a.x], a.L, a.e⟩ (by dsimp only; omega) (by dsimp only; rw [List.length_append]; omega) hN c1 c2
    dsimp only at hm ⊢
    rw [hm]
    exact c3
  · rename_i q
    rw [if_neg q, if_neg q]
    split at he
    · rename_i q2
      rw [if_pos q2, if_pos q2]
      obtain ⟨c1, c2, c3⟩ := close_loc M he
      obtain ⟨p1, _, p3, _⟩ := priced_app hz M c1
      obtain ⟨e1, e2⟩ := exp_app M p3
      dsimp only
      rw [e1.trans p3.symm, e2, p1]
      exact c3
    · rename_i q2
      rw [if_neg q2, if_neg q2]
      split at he
      · rename_i q3
        rw [if_pos q3, if_pos q3]
        obtain ⟨c1, c2, c3⟩ := close_loc M he
        have h4 := amt_zero c1
        obtain ⟨p1, p2, p3⟩ := amt_app M c1
        obtain ⟨e1, e2⟩ := exp_app M h4
        dsimp only
        rw [e1.trans h4.symm, e2, p1, p2, p3]
        exact c3
      · rename_i q3
        rw [if_neg q3, if_neg q3]
        obtain ⟨c1, c2, c3⟩ := close_loc M he
        dsimp only
        rw [c1]
        rw [c1] at c3
        exact c3
theorem expr_loc : ∀ (D D' : Nat), D ≤ D' → LocOk (exprF l D) (exprF l D') D
  | 0, _, _ => fun L e M hl => by omega
  | D + 1, 0, h => by omega
  | D + 1, D' + 1, hD => fun L e M hl he => by
    by_cases ho : opT L e = 1
    · have h0 : opE L e = e := by unfold opE; rw [ho, if_neg (by decide)]
      have e1 : exprF l (D + 1) L e = ⟨.mk 1 (n6 (pricedF l L e).b) (pricedF l L e).v [], (pricedF l L e).L, (pricedF l L e).e⟩ := by
        conv => lhs; unfold exprF
        rw [if_pos ho, h0]
      rw [e1] at he ⊢
      obtain ⟨p1, _, rfl, p4, p5⟩ := priced_app hz M he
      have hp : peekT (L ++ M) 0 = peekT L 0 := by
        cases L with
        | nil => exact absurd rfl p4
        | cons t R => rfl
      have ho2 : opT (L ++ M) 0 = 1 := by unfold opT; rw [hp, if_neg (by rw [p5]; decide)]
      have h02 : opE (L ++ M) 0 = 0 := by unfold opE; rw [ho2, if_neg (by decide)]
      conv => lhs; unfold exprF
      rw [if_pos ho2, h02, p1]
    · obtain ⟨rfl, h0⟩ := opT_some ho
      have hx : exprF l (D + 1) L 0 = bodyX l (exprF l D) (opT L 0) (firstX (exprF l D) L (opE L 0)) := by
        conv => lhs; unfold exprF
        rw [if_neg ho]
      rw [hx] at he ⊢
      have h2 : (firstX (exprF l D) L (opE L 0)).e = 0 := by
        by_cases hq : (firstX (exprF l D) L (opE L 0)).e = 0
        · exact hq
        · exact absurd he (body_ne (expr_sz l D) hq)
      have hp : peekT (L ++ M) 0 = peekT L 0 ∧ nextL (L ++ M) 0 = nextL L 0 ++ M := by
        cases L with
        | nil => simp at h0
        | cons t R => exact ⟨rfl, rfl⟩
      have ho2 : opT (L ++ M) 0 = opT L 0 := by unfold opT; rw [hp.1]
      have hne : opT L 0 ≠ 0 := by
        intro q
        have hE : opE L 0 = 2 := by unfold opE; rw [if_pos q]; rfl
        rw [hE] at h2
        unfold firstX argX at h2
        rw [(err_exp (by decide) _).1, if_pos (by decide)] at h2
        cases h2
      have hE : opE L 0 = 0 := by unfold opE; rw [if_neg hne]
      have hE2 : opE (L ++ M) 0 = 0 := by unfold opE; rw [ho2, if_neg hne]
      have hx2 : exprF l (D' + 1) (L ++ M) 0 = bodyX l (exprF l D') (opT L 0) (firstX (exprF l D') (L ++ M) 0) := by
        conv => lhs; unfold exprF
        rw [if_neg (by rw [ho2]; exact ho), ho2, hE2]
      rw [hE] at h2 he ⊢
      have h3 : expE (nextL L 0) 0 ⟨#[40]⟩ = 0 := by
        by_cases hq : expE (nextL L 0) 0 ⟨#[40]⟩ = 0
        · exact hq
        · unfold firstX argX at h2
          rw [if_pos hq] at h2
          exact absurd h2 hq
      obtain ⟨e1, e2⟩ := exp_app M h3
      have hlt := first_less h0 h3
      have hfl : firstX (exprF l D') (L ++ M) 0 = ⟨(firstX (exprF l D) L 0).x, (firstX (exprF l D) L 0).L ++ M, 0⟩ := by
        unfold firstX at h2 ⊢
        rw [hp.2, e1, e2]
        rw [h3] at h2 ⊢
        exact arg_loc (expr_loc D D' (by omega)) M (by omega) h2
      have hal : (firstX (exprF l D) L 0).L.length ≤ D := by
        have := (arg_sz (expr_sz l D) (expL (nextL L 0) 0 ⟨#[40]⟩) (expE (nextL L 0) 0 ⟨#[40]⟩)).2.1
        unfold firstX
        omega
      have hb := body_loc hz (expr_sz l D) (expr_loc D D' (by omega)) M (opT L 0) (firstX (exprF l D) L 0) hal he
      rw [h2] at hb
      rw [hx2, hfl, hb]
end
/-- one byte more -/
theorem span_app {p : UInt8 → Bool} {c : UInt8} (hc : p c = false) : ∀ l : List UInt8, span p (l ++ [c]) = span p l
  | [] => by rw [List.nil_append, span_stop hc]; rfl
  | b :: l => by
    cases hb : p b with
    | false => rw [List.cons_append, span_stop hb, span_stop hb]
    | true => rw [List.cons_append, span_cons hb, span_cons hb, span_app hc l]
theorem one_app {l : List UInt8} {p : Piece} (h : one l = .ok p) : one (l ++ [41]) = .ok p := by
  cases l with
  | nil => cases h
  | cons b r =>
    have s1 := span_app (p := isInn) (c := 41) (by decide) r
    have s2 := span_app (p := isDig) (c := 41) (by decide) r
    have s3 := span_le isDig r
    have ht : (b :: (r ++ [41])).take (span isDig r + 1) = (b :: r).take (span isDig r + 1) := by
      rw [List.take_succ_cons, List.take_succ_cons, List.take_append_of_le_length s3]
    rw [List.cons_append]
    unfold one at h ⊢
    dsimp only at h ⊢
    rw [s1, s2, ht]
    exact h
theorem lexGo_snoc (s : ByteArray) : ∀ (f k : Nat) (l L : List Tok), k ≤ s.size → s.size < k + f → lexGo s f k l = .ok L → ∃ t, lexGo (s ++ ⟨#[41]⟩) (f + 1) k l = .ok (L ++ [t])
  | 0, k, l, L, hk, hf, _ => by omega
  | f + 1, k, l, L, hk, hf, h => by
    have hsz : (s ++ ⟨#[41]⟩ : ByteArray).size = s.size + 1 := by rw [ByteArray.size_append]; rfl
    have hdat : (s ++ ⟨#[41]⟩ : ByteArray).data.toList = s.data.toList ++ [41] := by rw [ByteArray.data_append, Array.toList_append]
    have hsl : s.data.toList.length = s.size := rfl
    by_cases hlt : k < s.size
    · have hlt2 : k < (s ++ ⟨#[41]⟩ : ByteArray).size := by omega
      have hd1 := drop_cons s k hlt
      have hd2 := drop_cons (s ++ ⟨#[41]⟩) k hlt2
      have hdd : (s ++ ⟨#[41]⟩ : ByteArray).data.toList.drop k = s.data.toList.drop k ++ [41] := by rw [hdat, List.drop_append_of_le_length (by omega)]
      have hc : (s ++ ⟨#[41]⟩ : ByteArray)[k] = s[k] := by
        rw [hdd, hd1, List.cons_append] at hd2
        injection hd2 with q _
        exact q.symm
      by_cases h32 : s[k].toNat = 32
      · rw [lexGo_space hlt h32] at h
        rw [lexGo_space hlt2 (by rw [hc]; exact h32)]
        exact lexGo_snoc s f (k + 1) l L (by omega) (by omega) h
      · cases ho : one (s.data.toList.drop k) with
        | error x => rw [lexGo_err hlt h32 ho] at h; cases h
        | ok p =>
          rw [lexGo_tok hlt h32 ho] at h
          have ho2 := one_app ho
          have hl := one_len ho
          rw [drop_len] at hl
          have htk : oneTok (s ++ ⟨#[41]⟩) k p = oneTok s k p := by
            unfold oneTok
            have : (s ++ ⟨#[41]⟩ : ByteArray).extract k (k + p.len) = s.extract k (k + p.len) := by
              apply ByteArray.ext
              rw [ByteArray.data_extract, ByteArray.data_extract]
              apply Array.ext'
              rw [Array.toList_extract, Array.toList_extract, List.extract_eq_take_drop, List.extract_eq_take_drop, hdd, List.take_append_of_le_length (by rw [List.length_drop, hsl]; omega)]
            rw [this]
          rw [lexGo_tok hlt2 (by rw [hc]; exact h32) (by rw [hdd]; exact ho2), htk]
          exact lexGo_snoc s f (k + p.len) _ L (by omega) (by omega) h
    · have he : k = s.size := by omega
      subst he
      rw [lexGo_end (Nat.le_refl _)] at h
      injection h with h
      subst h
      have hlt2 : s.size < (s ++ ⟨#[41]⟩ : ByteArray).size := by omega
      have hdd : (s ++ ⟨#[41]⟩ : ByteArray).data.toList.drop s.size = [41] := by rw [hdat, ← hsl, List.drop_left]
      have hd2 := drop_cons (s ++ ⟨#[41]⟩) s.size hlt2
      have hc : (s ++ ⟨#[41]⟩ : ByteArray)[s.size] = 41 := by
        rw [hdd] at hd2
        injection hd2 with q _
        exact q.symm
      refine ⟨oneTok (s ++ ⟨#[41]⟩) s.size ⟨3, 1, 0⟩, ?_⟩
      rw [lexGo_tok hlt2 (by rw [hc]; decide) (by rw [hdd]; exact item_mark [] (by decide) (by decide) (by decide)), lexGo_end (by rw [hsz]; exact Nat.le_refl _)]
theorem parse_paren {l : List Prod} {s : ByteArray} (hs : s.size ≤ 3900) {x : X} (h : parseE l s = (0, x)) : (parseE l (s ++ ⟨#[41]⟩)).1 = 3 ∧ ∀ d, WantP l d x := by
  have hz : checkE l = 0 := by
    by_cases hz : checkE l = 0
    · exact hz
    · unfold parseE at h; rw [if_pos hz] at h; exact absurd (congrArg Prod.fst h) hz
  have hl : LexErr (lex s) = 0 := by
    by_cases hl : LexErr (lex s) = 0
    · exact hl
    · unfold parseE at h; rw [if_neg (fun k => k hz), if_pos hl] at h; exact absurd (congrArg Prod.fst h) hl
  unfold parseE at h
  rw [if_neg (fun k => k hz), if_neg (fun k => k hl)] at h
  injection h with h1 h2
  unfold lex at h1 h2 hl
  rw [if_neg (by omega)] at h1 h2 hl
  cases hx : lexGo s (s.size + 1) 0 [] with
  | error e => rw [hx] at hl; unfold LexErr at hl; dsimp only at hl; rcases lexGo_err0 s _ _ _ _ hx with q | q | q <;> omega
  | ok L =>
    rw [hx] at h1 h2
    replace h1 : endE (exprF l (L.length + 7) L 0).L (exprF l (L.length + 7) L 0).e = 0 := h1
    replace h2 : (exprF l (L.length + 7) L 0).x = x := h2
    obtain ⟨t, ht⟩ := lexGo_snoc s (s.size + 1) 0 [] L (Nat.zero_le _) (by omega) hx
    have hq : (exprF l (L.length + 7) L 0).e = 0 ∧ (exprF l (L.length + 7) L 0).L = [] := by
      unfold endE at h1
      split at h1
      · cases h1
      · rename_i q
        refine ⟨h1, ?_⟩
        by_cases hL : (exprF l (L.length + 7) L 0).L = []
        · exact hL
        · exact absurd ⟨h1, hL⟩ q
    have hloc := expr_loc hz (L.length + 7) ((L ++ [t]).length + 7) (by simp) L 0 [t] (by omega) hq.1
    rw [hq.2] at hloc
    refine ⟨?_, by rw [← h2]; exact expr_want hz _ L 0 hq.1⟩
    have hlx : lex (s ++ ⟨#[41]⟩) = .ok (L ++ [t]) := by
      have hsz : (s ++ ⟨#[41]⟩ : ByteArray).size = s.size + 1 := by rw [ByteArray.size_append]; rfl
      unfold lex
      rw [if_neg (by omega), hsz]
      exact ht
    unfold parseE
    rw [if_neg (fun k => k hz), hlx, if_neg (fun k => k rfl)]
    show endE (exprF l ((L ++ [t]).length + 7) (L ++ [t]) 0).L (exprF l ((L ++ [t]).length + 7) (L ++ [t]) 0).e = 3
    rw [hloc]
    rfl
end Go.Proofs.YtjjlhihocllgjaaDoor.Ex
