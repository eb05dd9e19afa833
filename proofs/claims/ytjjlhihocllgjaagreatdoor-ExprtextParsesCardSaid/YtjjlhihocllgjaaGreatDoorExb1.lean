/- Plain: what the reference's parser computes; it answers as the program's. -/
import Derived.Test.YtjjlhihocllgjaaGreatDoorExN
import Derived.Test.YtjjlhihocllgjaaGreatDoorExR
namespace Go.Proofs.YtjjlhihocllgjaaGreatDoor.Ex
open Go.ChangeShapes Go.WideShapes Go.ChangeAt Go.RowKit Gn Cat Lex
set_option linter.unusedVariables false
set_option linter.unusedSimpArgs false
/-- the reference's priced -/
noncomputable def rpriceO (b : Nat → Int) (R : List Tok) : PrR := ⟨b, amtV (expL R 0 ⟨#[64]⟩) (expE R 0 ⟨#[64]⟩) 1000000, amtL (expL R 0 ⟨#[64]⟩) (expE R 0 ⟨#[64]⟩) 1000000, amtE (expL R 0 ⟨#[64]⟩) (expE R 0 ⟨#[64]⟩) 1000000⟩
noncomputable def rpricedF (l : List Prod) (L : List Tok) (e : Int) : PrR :=
  if e ≠ 0 then ⟨zero6, 0, L, e⟩
  else match refF l L with
    | .error x => ⟨zero6, 0, L, x⟩
    | .ok (b, R, _) => rpriceO b R
noncomputable def rbodyX (l : List Prod) (f : List Tok → Int → PX) (op : Int) (a : PX) : PX :=
  if op = 2 ∨ op = 3 then closeX ⟨.mk op (n6 zero6) 0 (moreF f (a.L.length + 1) ⟨[a.x], a.L, a.e⟩).xs, (moreF f (a.L.length + 1) ⟨[a.x], a.L, a.e⟩).L, (moreF f (a.L.length + 1) ⟨[a.x], a.L, a.e⟩).e⟩
  else if op = 4 then closeX ⟨.mk op (n6 (rpricedF l (expL a.L a.e ⟨#[44]⟩) (expE a.L a.e ⟨#[44]⟩)).b) (rpricedF l (expL a.L a.e ⟨#[44]⟩) (expE a.L a.e ⟨#[44]⟩)).v [a.x], (rpricedF l (expL a.L a.e ⟨#[44]⟩) (expE a.L a.e ⟨#[44]⟩)).L, (rpricedF l (expL a.L a.e ⟨#[44]⟩) (expE a.L a.e ⟨#[44]⟩)).e⟩
  else closeX ⟨.mk op (n6 zero6) (amtV (expL a.L a.e ⟨#[44]⟩) (expE a.L a.e ⟨#[44]⟩) 1000000) [a.x], amtL (expL a.L a.e ⟨#[44]⟩) (expE a.L a.e ⟨#[44]⟩) 1000000, amtE (expL a.L a.e ⟨#[44]⟩) (expE a.L a.e ⟨#[44]⟩) 1000000⟩
noncomputable def rfirstX (f : List Tok → Int → PX) (L : List Tok) (e : Int) : PX := f (expL (nameL L e) (nameE L e) ⟨#[40]⟩) (expE (nameL L e) (nameE L e) ⟨#[40]⟩)
noncomputable def rexprF (l : List Prod) : Nat → List Tok → Int → PX
  | 0 => fun L e => ⟨x0, L, e⟩
  | d + 1 => fun L e =>
    if accB L e ⟨#[123]⟩ then ⟨.mk 1 (n6 (rpricedF l L e).b) (rpricedF l L e).v [], (rpricedF l L e).L, (rpricedF l L e).e⟩
    else if opW (nameT L e) = 0 then ⟨x0, nameL L e, failE (nameE L e) 2⟩
    else rbodyX l (rexprF l d) (opW (nameT L e)) (rfirstX (rexprF l d) L e)
/-- the same error, and without one the same -/
def Rel (q q' : PX) : Prop := q.e = q'.e ∧ (q.e = 0 → q.x = q'.x ∧ q.L = q'.L)
theorem Rel.refl (q : PX) : Rel q q := ⟨rfl, fun _ => ⟨rfl, rfl⟩⟩
theorem Rel.eq {q q' : PX} (h : Rel q q') (h0 : q.e = 0) : q = q' := by
  obtain ⟨e1, e2⟩ := h
  obtain ⟨e3, e4⟩ := e2 h0
  obtain ⟨x, L, e⟩ := q
  obtain ⟨x', L', e'⟩ := q'
  dsimp only at e1 e3 e4
  rw [e1, e3, e4]
theorem Rel.bad {q q' : PX} (h : q.e = q'.e) (h0 : q.e ≠ 0) : Rel q q' := ⟨h, fun k => absurd k h0⟩
theorem amt_err {L : List Tok} {e m : Int} (h : e ≠ 0) : amtE L e m = e := by
  unfold amtE peekT wrongE failE
  simp [h, Tok.none]
theorem priced_err {l : List Prod} {L : List Tok} {e : Int} (h : e ≠ 0) : (pricedF l L e).e = e := by
  have ho : openE L e = e := by
    unfold openE peekT failE
    simp [h, Tok.none]
  have hs : scanF l L e = ⟨L, e, zero6⟩ := by unfold scanF; rw [if_pos h]
  unfold pricedF pricedS
  rw [ho, hs]
  show amtE (expL L e ⟨#[64]⟩) (expE L e ⟨#[64]⟩) 1000000 = e
  rw [(err_exp h _).1]
  exact amt_err h
/-- every token has a kind -/
def Kinds (L : List Tok) : Prop := ∀ t ∈ L, t.kind ≠ 0
theorem priced_rel {l : List Prod} (hz : checkE l = 0) {L : List Tok} (hk : Kinds L) (e : Int) : (pricedF l L e).e = (rpricedF l L e).e ∧ ((pricedF l L e).e = 0 → pricedF l L e = rpricedF l L e) := by
  by_cases he : e = 0
  · subst he
    unfold rpricedF
    rw [if_neg (by simp)]
    cases L with
    | nil =>
      have h1 : refF l [] = .error 1 := by unfold refF; rfl
      have h2 : openE [] 0 = 1 := by unfold openE peekT failE; simp [Tok.none]
      have h3 : (pricedF l [] 0).e = 1 := by
        unfold pricedF
        rw [h2]
        have hs : scanF l [] 1 = ⟨[], 1, zero6⟩ := by unfold scanF; rw [if_pos (by decide)]
        unfold pricedS
        rw [hs]
        show amtE (expL [] 1 ⟨#[64]⟩) (expE [] 1 ⟨#[64]⟩) 1000000 = 1
        rw [(err_exp (by decide) _).1]
        exact amt_err (by decide)
      rw [h1]
      dsimp only
      exact ⟨h3, fun h => by rw [h3] at h; cases h⟩
    | cons t R =>
      have hk0 : t.kind ≠ 0 := hk t (by simp)
      by_cases ha : accB (t :: R) 0 ⟨#[123]⟩
      · have h2 : openE (t :: R) 0 = 0 := by
          unfold openE
          rw [if_neg (show ¬ (peekT (t :: R) 0).kind = 0 from hk0), if_pos ha]
        have hs := scan_ref l (t :: R) hz
        have hP : pricedF l (t :: R) 0 = pricedS (scanF l (t :: R) 0) := by unfold pricedF; rw [h2]
        rw [hP]
        cases hr : refF l (t :: R) with
        | error x =>
          rw [hr] at hs
          obtain ⟨q1, q2, _⟩ := hs
          have h3 : (pricedS (scanF l (t :: R) 0)).e = x := by
            unfold pricedS
            dsimp only
            rw [q2, (err_exp q1 _).1]
            exact amt_err q1
          dsimp only
          exact ⟨h3, fun h => absurd (h3.symm.trans h) q1⟩
        | ok r =>
          obtain ⟨b', R', a'⟩ := r
          rw [hr] at hs
          dsimp only at hs ⊢
          rw [hs]
          exact ⟨rfl, fun _ => rfl⟩
      · have h2 : openE (t :: R) 0 = 2 := by
          unfold openE
          rw [if_neg (show ¬ (peekT (t :: R) 0).kind = 0 from hk0), if_neg ha]
          rfl
        have h1 : refF l (t :: R) = .error 2 := by
          unfold refF
          have hm : isM t ⟨#[123]⟩ = false := by
            cases h : isM t ⟨#[123]⟩ with
            | false => rfl
            | true => exact absurd ((accB_cons _ _ _).2 h) ha
          dsimp only
          rw [if_pos hm]
        have h3 : (pricedF l (t :: R) 0).e = 2 := by
          unfold pricedF
          rw [h2]
          have hs : scanF l (t :: R) 2 = ⟨t :: R, 2, zero6⟩ := by unfold scanF; rw [if_pos (by decide)]
          unfold pricedS
          rw [hs]
          show amtE (expL (t :: R) 2 ⟨#[64]⟩) (expE (t :: R) 2 ⟨#[64]⟩) 1000000 = 2
          rw [(err_exp (by decide) _).1]
          exact amt_err (by decide)
        rw [h1]
        dsimp only
        exact ⟨h3, fun h => by rw [h3] at h; cases h⟩
  · have h1 := priced_err (l := l) (L := L) he
    unfold rpricedF
    rw [if_pos he]
    exact ⟨h1, fun h => absurd (h1.symm.trans h) he⟩
/-- what is left lies in what there was -/
theorem next_mem {L : List Tok} {e : Int} : ∀ t ∈ nextL L e, t ∈ L := fun t h => by
  unfold nextL at h
  split at h
  · exact List.mem_of_mem_tail h
  · exact h
theorem exp_mem {L : List Tok} {e : Int} {m : ByteArray} : ∀ t ∈ expL L e m, t ∈ L := fun t h => by
  unfold expL at h
  split at h
  · exact next_mem t h
  · exact h
theorem amt_mem {L : List Tok} {e m : Int} : ∀ t ∈ amtL L e m, t ∈ L := fun t h => by
  unfold amtL at h
  split at h
  · exact next_mem t h
  · exact h
theorem Kinds.sub {L L' : List Tok} (h : Kinds L) (k : ∀ t ∈ L', t ∈ L) : Kinds L' := fun t ht => h t (k t ht)
theorem elem_mem {l : List Prod} {s : St} : ∀ t ∈ (elemF l s).L, t ∈ s.L := fun t h => by
  unfold elemF at h
  have hn : ∀ t ∈ nameL s.L s.e, t ∈ s.L := fun t h => by
    unfold nameL at h
    split at h
    · exact next_mem t h
    · exact h
  split at h
  · exact hn t h
  · unfold elemR at h
    exact hn t (exp_mem t (amt_mem t h))
theorem loop_mem {l : List Prod} : ∀ (f : Nat) (s : St), ∀ t ∈ (loopF l f s).L, t ∈ s.L
  | 0, s => fun t h => h
  | f + 1, s => fun t h => by
    unfold loopF at h
    split at h
    · have h1 := loop_mem f _ t h
      have h2 := elem_mem t h1
      exact next_mem t h2
    · exact h
theorem scan_mem {l : List Prod} {L : List Tok} {e : Int} : ∀ t ∈ (scanF l L e).L, t ∈ L := fun t h => by
  unfold scanF at h
  split at h
  · exact h
  · split at h
    · exact h
    · split at h
      · exact exp_mem t (next_mem t h)
      · unfold endF at h
        exact exp_mem t (elem_mem t (loop_mem _ _ t (exp_mem t h)))
theorem priced_mem {l : List Prod} {L : List Tok} {e : Int} : ∀ t ∈ (pricedF l L e).L, t ∈ L := fun t h => by
  unfold pricedF pricedS at h
  exact scan_mem t (exp_mem t (amt_mem t h))
def MemOk (f : List Tok → Int → PX) : Prop := ∀ L e, ∀ t ∈ (f L e).L, t ∈ L
theorem arg_mem {f : List Tok → Int → PX} (h : MemOk f) : MemOk (argX f) := fun L e t ht => by
  unfold argX at ht
  split at ht
  · exact ht
  · exact h L e t ht
theorem more_mem {f : List Tok → Int → PX} (h : MemOk f) : ∀ (k : Nat) (s : PXs), ∀ t ∈ (moreF f k s).L, t ∈ s.L
  | 0, s => fun t ht => ht
  | k + 1, s => fun t ht => by
    unfold moreF at ht
    split at ht
    · exact next_mem t (arg_mem h _ _ t (more_mem h k _ t ht))
    · exact ht
theorem expr_mem (l : List Prod) : ∀ D : Nat, MemOk (exprF l D)
  | 0 => fun L e t h => h
  | D + 1 => fun L e t h => by
    unfold exprF at h
    split at h
    · exact priced_mem t h
    · have hf : ∀ t ∈ (firstX (exprF l D) L (opE L e)).L, t ∈ L := fun t h => next_mem t (exp_mem t (arg_mem (expr_mem l D) _ _ t h))
      refine hf t ?_
      unfold bodyX at h
      split at h
      · exact more_mem (expr_mem l D) _ _ t (exp_mem t h)
      · split at h
        · exact exp_mem t (priced_mem t (exp_mem t h))
        · split at h
          · exact exp_mem t (amt_mem t (exp_mem t h))
          · exact exp_mem t h
def RelOk (f f' : List Tok → Int → PX) : Prop := ∀ L e, Kinds L → Rel (f L e) (f' L e)
theorem more_rel {f f' : List Tok → Int → PX} (h : RelOk f f') (hm : MemOk f) : ∀ (k : Nat) (s : PXs), Kinds s.L → (moreF f k s).e = (moreF f' k s).e ∧ ((moreF f k s).e = 0 → moreF f k s = moreF f' k s)
  | 0, s, _ => ⟨rfl, fun _ => rfl⟩
  | k + 1, s, hk => by
    unfold moreF
    by_cases ha : accB s.L s.e ⟨#[44]⟩
    · have h0 : s.e = 0 := by
        by_cases hx : s.e = 0
        · exact hx
        · exact absurd ha (err_acc hx _)
      rw [if_pos ha, if_pos ha]
      have hkn : Kinds (nextL s.L s.e) := hk.sub next_mem
      have hr : Rel (argX f (nextL s.L s.e) s.e) (argX f' (nextL s.L s.e) s.e) := by
        unfold argX
        rw [if_neg (by simp [h0]), if_neg (by simp [h0])]
        exact h _ _ hkn
      by_cases hx : (argX f (nextL s.L s.e) s.e).e = 0
      · rw [← hr.eq hx]
        exact more_rel h hm k _ (hkn.sub (arg_mem hm _ _))
      · have hs1 : ∀ (f : List Tok → Int → PX) (k : Nat) (s : PXs), s.e ≠ 0 → moreF f k s = s := by
          intro f k s hs
          cases k with
          | zero => rfl
          | succ k => unfold moreF; rw [if_neg (err_acc hs _)]
        rw [hs1 f k _ hx, hs1 f' k _ (by rw [← hr.1]; exact hx)]
        exact ⟨hr.1, fun k => absurd k hx⟩
    · rw [if_neg ha, if_neg ha]
      exact ⟨rfl, fun _ => rfl⟩
theorem close_rel {q q' : PX} (h : Rel q q') : Rel (closeX q) (closeX q') := by
  by_cases h0 : q.e = 0
  · rw [h.eq h0]; exact Rel.refl _
  · have e1 : (closeX q).e = q.e := (err_exp h0 _).1
    have e2 : (closeX q').e = q'.e := (err_exp (by rw [← h.1]; exact h0) _).1
    exact Rel.bad (by rw [e1, e2, h.1]) (by rw [e1]; exact h0)
theorem more_stop (f : List Tok → Int → PX) (k : Nat) (s : PXs) (hs : s.e ≠ 0) : moreF f k s = s := by
  cases k with
  | zero => rfl
  | succ k => unfold moreF; rw [if_neg (err_acc hs _)]
theorem body_rel {l : List Prod} (hz : checkE l = 0) {f f' : List Tok → Int → PX} (h : RelOk f f') (hm : MemOk f) {op : Int} (hop : op = 2 ∨ op = 3 ∨ op = 4 ∨ op = 5) {a a' : PX} (hr : Rel a a') (hk : Kinds a.L) : Rel (bodyX l f op a) (rbodyX l f' op a') := by
  by_cases h0 : a.e = 0
  · rw [← hr.eq h0]
    unfold bodyX rbodyX
    split
    · refine close_rel ?_
      obtain ⟨e1, e2⟩ := more_rel h hm (a.L.length + 1) ⟨[a.x], a.L, a.e⟩ hk
      exact ⟨e1, fun k => by rw [e2 k]; exact ⟨rfl, rfl⟩⟩
    · split
      · refine close_rel ?_
        obtain ⟨e1, e2⟩ := priced_rel hz (hk.sub (exp_mem (e := a.e) (m := ⟨#[44]⟩))) (expE a.L a.e ⟨#[44]⟩)
        exact ⟨e1, fun k => by rw [e2 k]; exact ⟨rfl, rfl⟩⟩
      · rename_i q1 q2
        rw [if_pos (by omega)]
        exact Rel.refl _
  · have h0' : a'.e ≠ 0 := by rw [← hr.1]; exact h0
    have e1 : (bodyX l f op a).e = a.e := by
      unfold bodyX
      split
      · rw [more_stop f _ ⟨[a.x], a.L, a.e⟩ h0]
        exact (err_exp h0 _).1
      · split
        · have p := priced_err (l := l) (L := expL a.L a.e ⟨#[44]⟩) h0
          show expE _ (pricedF l (expL a.L a.e ⟨#[44]⟩) (expE a.L a.e ⟨#[44]⟩)).e _ = _
          rw [(err_exp h0 _).1, p]
          exact (err_exp h0 _).1
        · split
          · show expE _ (amtE (expL a.L a.e ⟨#[44]⟩) (expE a.L a.e ⟨#[44]⟩) 1000000) _ = _
            rw [(err_exp h0 _).1, amt_err h0]
            exact (err_exp h0 _).1
          · exact (err_exp h0 _).1
    have e2 : (rbodyX l f' op a').e = a'.e := by
      unfold rbodyX
      split
      · rw [more_stop f' _ ⟨[a'.x], a'.L, a'.e⟩ h0']
        exact (err_exp h0' _).1
      · split
        · show expE _ (rpricedF l (expL a'.L a'.e ⟨#[44]⟩) (expE a'.L a'.e ⟨#[44]⟩)).e _ = _
          rw [(err_exp h0' _).1]
          unfold rpricedF
          rw [if_pos h0']
          exact (err_exp h0' _).1
        · show expE _ (amtE (expL a'.L a'.e ⟨#[44]⟩) (expE a'.L a'.e ⟨#[44]⟩) 1000000) _ = _
          rw [(err_exp h0' _).1, amt_err h0']
          exact (err_exp h0' _).1
    exact Rel.bad (by rw [e1, e2, hr.1]) (by rw [e1]; exact h0)
theorem opW_empty : opW ⟨#[]⟩ = 0 := by decide +kernel
theorem opW_some (s : ByteArray) : opW s = 0 ∨ opW s = 2 ∨ opW s = 3 ∨ opW s = 4 ∨ opW s = 5 := by
  unfold opW
  repeat' split
  all_goals simp
theorem rexpr_err (l : List Prod) {D : Nat} {L : List Tok} {e : Int} (he : e ≠ 0) : (rexprF l D L e).e = e := by
  cases D with
  | zero => rfl
  | succ D =>
    have hn : nameT L e = ⟨#[]⟩ := by unfold nameT peekT; simp [he, Tok.none]
    have hE : nameE L e = e := err_name he
    unfold rexprF
    rw [if_neg (err_acc he _), hn, if_pos opW_empty]
    show failE (nameE L e) 2 = e
    rw [hE]
    unfold failE
    rw [if_neg he]
theorem expr_err (l : List Prod) {D : Nat} {L : List Tok} {e : Int} (he : e ≠ 0) : (exprF l D L e).e = e := by
  cases D with
  | zero => rfl
  | succ D =>
    have ho : opT L e = 1 := by
      by_cases ho : opT L e = 1
      · exact ho
      · exact absurd (opT_some ho).1 he
    have h0 : opE L e = e := by unfold opE; rw [ho, if_neg (by decide)]
    unfold exprF
    rw [if_pos ho, h0]
    exact priced_err he
theorem expr_rel {l : List Prod} (hz : checkE l = 0) : ∀ D : Nat, RelOk (exprF l D) (rexprF l D)
  | 0 => fun L e _ => Rel.refl _
  | D + 1 => fun L e hk => by
    by_cases he : e = 0
    · subst he
      by_cases ha : accB L 0 ⟨#[123]⟩
      · have ho : opT L 0 = 1 := by unfold opT; rw [if_neg (by rw [ha.1]; decide)]
        have h0 : opE L 0 = 0 := by unfold opE; rw [ho, if_neg (by decide)]
        obtain ⟨e1, e2⟩ := priced_rel hz hk 0
        unfold exprF rexprF
        rw [if_pos ho, if_pos ha, h0]
        exact ⟨e1, fun k => by rw [e2 k]; exact ⟨rfl, rfl⟩⟩
      · by_cases h1 : (peekT L 0).kind = 1
        · have hT : nameT L 0 = (peekT L 0).text := by unfold nameT; rw [if_pos h1]
          have hE : nameE L 0 = 0 := by unfold nameE; rw [if_pos h1]
          have hL : nameL L 0 = nextL L 0 := by unfold nameL; rw [if_pos h1]
          have ho : opT L 0 = opW (peekT L 0).text := by unfold opT; rw [if_pos h1]
          have hne : opT L 0 ≠ 1 := by
            rw [ho]
            rcases opW_some (peekT L 0).text with h | h | h | h | h <;> omega
          unfold exprF rexprF
          rw [if_neg hne, if_neg ha, hT]
          by_cases hw : opW (peekT L 0).text = 0
          · rw [if_pos hw]
            have hO : opE L 0 = 2 := by unfold opE; rw [ho, if_pos hw]; rfl
            have h3 : firstX (exprF l D) L 2 = ⟨x0, L, 2⟩ := by
              unfold firstX
              have n2 : nextL L 2 = L := by unfold nextL; rw [if_neg (by decide)]
              rw [n2, (err_exp (by decide) _).1, (err_exp (by decide) _).2]
              unfold argX
              rw [if_pos (by decide)]
            have e1 : (bodyX l (exprF l D) (opT L 0) (firstX (exprF l D) L (opE L 0))).e = 2 := by
              rw [ho, hw, hO, h3]
              unfold bodyX
              rw [if_neg (by decide), if_neg (by decide), if_neg (by decide)]
              show expE L 2 ⟨#[41]⟩ = 2
              exact (err_exp (by decide) _).1
            refine Rel.bad ?_ (by rw [e1]; decide)
            rw [e1, hE]
            rfl
          · rw [if_neg hw, ho]
            have hO : opE L 0 = 0 := by unfold opE; rw [ho, if_neg hw]
            rw [hO]
            have hop : opW (peekT L 0).text = 2 ∨ opW (peekT L 0).text = 3 ∨ opW (peekT L 0).text = 4 ∨ opW (peekT L 0).text = 5 := (opW_some (peekT L 0).text).resolve_left hw
            have hkx : Kinds (expL (nextL L 0) 0 ⟨#[40]⟩) := (hk.sub next_mem).sub exp_mem
            refine body_rel hz (expr_rel hz D) (expr_mem l D) hop ?_ (hkx.sub (arg_mem (expr_mem l D) _ _))
            unfold firstX rfirstX
            rw [hE, hL]
            by_cases hx : expE (nextL L 0) 0 ⟨#[40]⟩ = 0
            · rw [hx]
              unfold argX
              rw [if_neg (by simp)]
              exact expr_rel hz D _ _ hkx
            · have e1 : (argX (exprF l D) (expL (nextL L 0) 0 ⟨#[40]⟩) (expE (nextL L 0) 0 ⟨#[40]⟩)).e = expE (nextL L 0) 0 ⟨#[40]⟩ := by
                unfold argX
                rw [if_pos hx]
              exact Rel.bad (by rw [e1, rexpr_err l hx]) (by rw [e1]; exact hx)
        · have ho : opT L 0 = 1 := by unfold opT; rw [if_neg h1]
          have h0 : opE L 0 = 0 := by unfold opE; rw [ho, if_neg (by decide)]
          have hT : nameT L 0 = ⟨#[]⟩ := by unfold nameT; rw [if_neg h1]
          have hE : nameE L 0 = wrongE L 0 := by unfold nameE; rw [if_neg h1]
          obtain ⟨e1, _⟩ := priced_rel hz hk 0
          have hx : (rpricedF l L 0).e = wrongE L 0 ∧ wrongE L 0 ≠ 0 := by
            unfold rpricedF
            rw [if_neg (by simp)]
            cases L with
            | nil =>
              have : refF l [] = .error 1 := by unfold refF; rfl
              rw [this]
              exact ⟨rfl, by decide⟩
            | cons t R =>
              have hm : isM t ⟨#[123]⟩ = false := by
                cases h : isM t ⟨#[123]⟩ with
                | false => rfl
                | true => exact absurd ((accB_cons _ _ _).2 h) ha
              have : refF l (t :: R) = .error 2 := by
                unfold refF
                dsimp only
                rw [if_pos hm]
              rw [this]
              have hw : wrongE (t :: R) 0 = 2 := by unfold wrongE; rw [if_neg (by simp)]; rfl
              rw [hw]
              exact ⟨rfl, by decide⟩
          unfold exprF rexprF
          rw [if_pos ho, if_neg ha, hT, if_pos opW_empty, h0, hE]
          have hfe : failE (wrongE L 0) 2 = wrongE L 0 := by unfold failE; rw [if_neg hx.2]
          refine Rel.bad ?_ ?_
          · show (pricedF l L 0).e = failE (wrongE L 0) 2
            rw [e1, hx.1, hfe]
          · show (pricedF l L 0).e ≠ 0
            rw [e1, hx.1]
            exact hx.2
    · exact Rel.bad (by rw [expr_err l he, rexpr_err l he]) (by rw [expr_err l he]; exact he)
/-- the lexer's tokens have kinds -/
theorem one_kind {l : List UInt8} {p : Piece} (h : one l = .ok p) : p.kind ≠ 0 := by
  cases l with
  | nil => cases h
  | cons b l =>
    simp only [one] at h
    repeat' split at h
    all_goals first
      | (cases h; done)
      | (injection h with h; subst h; intro q; cases q)
theorem lex_kinds {s : ByteArray} : Kinds (LexToks (lex s)) := by
  intro t ht
  unfold lex at ht
  by_cases hs : 4000 < s.size
  · rw [if_pos hs] at ht; cases ht
  · rw [if_neg hs] at ht
    cases hx : lexGo s (s.size + 1) 0 [] with
    | error e => rw [hx] at ht; cases ht
    | ok r =>
      rw [hx] at ht
      rcases lexGo_mem s _ 0 [] r hx t ht with h | ⟨k, p, _, _, h1, rfl⟩
      · cases h
      · have := one_kind h1
        show ((p.kind : Nat) : Int) ≠ 0
        omega
theorem parse_rel {l : List Prod} (hz : checkE l = 0) {s : ByteArray} (he : LexErr (lex s) = 0) {q : PX} (hq : q = rexprF l ((LexToks (lex s)).length + 7) (LexToks (lex s)) 0) : (parseE l s).1 = endE q.L q.e ∧ (endE q.L q.e = 0 → parseE l s = (0, q.x) ∧ q.e = 0 ∧ exprF l ((LexToks (lex s)).length + 7) (LexToks (lex s)) 0 = q) := by
  have hr := expr_rel hz ((LexToks (lex s)).length + 7) (LexToks (lex s)) 0 lex_kinds
  rw [← hq] at hr
  have hp : parseE l s = (endE (exprF l ((LexToks (lex s)).length + 7) (LexToks (lex s)) 0).L (exprF l ((LexToks (lex s)).length + 7) (LexToks (lex s)) 0).e, (exprF l ((LexToks (lex s)).length + 7) (LexToks (lex s)) 0).x) := by
    unfold parseE
    rw [if_neg (fun k => k hz), if_neg (fun k => k he)]
  rw [hp]
  generalize exprF l ((LexToks (lex s)).length + 7) (LexToks (lex s)) 0 = p at *
  by_cases h0 : p.e = 0
  · rw [hr.eq h0]
    have hq0 : q.e = 0 := by rw [← hr.1]; exact h0
    exact ⟨rfl, fun k => ⟨by rw [k], hq0, rfl⟩⟩
  · have h0' : q.e ≠ 0 := by rw [← hr.1]; exact h0
    have e1 : endE p.L p.e = p.e := by unfold endE; rw [if_neg (fun k => h0 k.1)]
    have e2 : endE q.L q.e = q.e := by unfold endE; rw [if_neg (fun k => h0' k.1)]
    exact ⟨by show endE p.L p.e = _; rw [e1, e2, hr.1], fun k => absurd (e2.symm.trans k) h0'⟩
end Go.Proofs.YtjjlhihocllgjaaGreatDoor.Ex
