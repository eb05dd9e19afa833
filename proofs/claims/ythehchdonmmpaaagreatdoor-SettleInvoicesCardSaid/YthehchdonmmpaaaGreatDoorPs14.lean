/- Plain: what Scan of the catalog computes, and that it is what the reference's Tokens computes. Contract of the catalog's element. Contract of the catalog's Scan. Printed by gen_catM.py. The program's fraction.Ceil, Sign and amount.Up. The reference's Uint and Valid of naturals, Valid and Sign of fractions. -/
import Derived.Test.YthehchdonmmpaaaGreatDoorPs12
import Derived.Test.YthehchdonmmpaaaGreatDoorPs09
import Derived.Test.YthehchdonmmpaaaGreatDoorPs13
import Derived.Deep.LoopGhost
import Derived.Test.YthehchdonmmpaaaGreatDoorPs08
namespace Go.Proofs.YthehchdonmmpaaaGreatDoor
open Go.ChangeShapes Go.WideShapes Go.ChangeAt Go.RowKit
set_option linter.unusedVariables false
set_option linter.unusedSimpArgs false
namespace Cat
open Lex
structure St where
  L : List Tok
  e : Int
  b : Nat → Int
def findK (l : List Prod) (name : ByteArray) : Nat := (findP l name).getD 0
def elem2 (l : List Prod) (name : ByteArray) (b : Nat → Int) : Int := if findP l name = none then 6 else if b (findK l name) ≠ 0 then 7 else 0
def amt5 (L : List Tok) (e : Int) : Int := if amtV L e 4 = 0 then failE (amtE L e 4) 4 else amtE L e 4
/-- an element's rest, behind its name -/
noncomputable def elemR (L : List Tok) (e : Int) (k : Nat) (b : Nat → Int) : St :=
  ⟨amtL (expL L e ⟨#[58]⟩) (expE L e ⟨#[58]⟩) 4, amt5 (expL L e ⟨#[58]⟩) (expE L e ⟨#[58]⟩), upd b k (amtV (expL L e ⟨#[58]⟩) (expE L e ⟨#[58]⟩) 4)⟩
noncomputable def elemF (l : List Prod) (s : St) : St :=
  if nameE s.L s.e ≠ 0 then ⟨nameL s.L s.e, nameE s.L s.e, s.b⟩
  else elemR (nameL s.L s.e) (elem2 l (nameT s.L s.e) s.b) (findK l (nameT s.L s.e)) s.b
instance (L : List Tok) (e : Int) (m : ByteArray) : Decidable (accB L e m) := inferInstanceAs (Decidable (_ ∧ _))
noncomputable def loopF (l : List Prod) : Nat → St → St
  | 0, s => s
  | f + 1, s => if accB s.L s.e ⟨#[44]⟩ then loopF l f (elemF l ⟨nextL s.L s.e, s.e, s.b⟩) else s
noncomputable def endF (s : St) : St := ⟨expL s.L s.e ⟨#[125]⟩, expE s.L s.e ⟨#[125]⟩, if expE s.L s.e ⟨#[125]⟩ = 0 then s.b else zero6⟩
noncomputable def scanF (l : List Prod) (L : List Tok) (e : Int) : St :=
  if e ≠ 0 then ⟨L, e, zero6⟩
  else if checkE l ≠ 0 then ⟨L, checkE l, zero6⟩
  else if accB (expL L e ⟨#[123]⟩) (expE L e ⟨#[123]⟩) ⟨#[125]⟩ then ⟨nextL (expL L e ⟨#[123]⟩) (expE L e ⟨#[123]⟩), expE L e ⟨#[123]⟩, zero6⟩
  else endF (loopF l (L.length + 1) (elemF l ⟨expL L e ⟨#[123]⟩, expE L e ⟨#[123]⟩, zero6⟩))
/-- what the reference's Tokens computes from the elements on: the bundle, what is left, and how many tokens are behind it -/
def isM (t : Tok) (m : ByteArray) : Bool := t.kind == 3 && eqB t.text m
def refGo (l : List Prod) : List Tok → (Nat → Int) → Nat → Except Int ((Nat → Int) × List Tok × Nat)
  | [], _, _ => .error 1
  | t :: R, b, at_ =>
    if t.kind ≠ 1 then .error 2
    else if findP l t.text = none then .error 6
    else if b (findK l t.text) ≠ 0 then .error 7
    else match R with
      | [] => .error 1
      | t1 :: R1 => if isM t1 ⟨#[58]⟩ = false then .error 2 else match R1 with
        | [] => .error 1
        | t2 :: R2 => if t2.kind ≠ 2 then .error 2 else if ¬ (1 ≤ t2.value ∧ t2.value ≤ 4) then .error 4 else match R2 with
          | [] => .error 1
          | t3 :: R3 => if isM t3 ⟨#[125]⟩ then .ok (upd b (findK l t.text) t2.value, R3, at_ + 4)
            else if isM t3 ⟨#[44]⟩ then refGo l R3 (upd b (findK l t.text) t2.value) (at_ + 4) else .error 2
def refF (l : List Prod) : List Tok → Except Int ((Nat → Int) × List Tok × Nat)
  | [] => .error 1
  | t :: R => if isM t ⟨#[123]⟩ = false then .error 2 else match R with
    | [] => refGo l [] zero6 1
    | t1 :: R1 => if isM t1 ⟨#[125]⟩ then .ok (zero6, R1, 2) else refGo l (t1 :: R1) zero6 1
def toSt (L : List Tok) : Except Int ((Nat → Int) × List Tok × Nat) → Int × (Nat → Int)
  | .error x => (x, zero6)
  | .ok (b, _, _) => (0, b)
/-- once there is an error, nothing more happens -/
theorem err_name {L : List Tok} {e : Int} (h : e ≠ 0) : nameE L e = e := by
  unfold nameE peekT wrongE failE
  simp [h, Tok.none]
theorem err_acc {L : List Tok} {e : Int} (h : e ≠ 0) (m : ByteArray) : ¬ accB L e m := by
  unfold accB peekT
  simp [h, Tok.none]
theorem err_exp {L : List Tok} {e : Int} (h : e ≠ 0) (m : ByteArray) : expE L e m = e ∧ expL L e m = L := by
  unfold expE expL
  rw [if_neg (err_acc h m), if_neg (err_acc h m)]
  unfold wrongE failE
  simp [h]
theorem err_amt {L : List Tok} {e : Int} (h : e ≠ 0) : amt5 L e = e := by
  unfold amt5 amtE amtV peekT wrongE failE
  simp [h, Tok.none]
theorem elemF_err {l : List Prod} {s : St} (h : s.e ≠ 0) : (elemF l s).e = s.e := by
  unfold elemF
  rw [if_pos (by rw [err_name h]; exact h)]
  exact err_name h
theorem loopF_err {l : List Prod} {s : St} (h : s.e ≠ 0) (f : Nat) : loopF l f s = s := by
  cases f with
  | zero => rfl
  | succ f => unfold loopF; rw [if_neg (err_acc h _)]
theorem endF_err {s : St} (h : s.e ≠ 0) : (endF s).e = s.e ∧ (endF s).b = zero6 := by
  unfold endF
  dsimp only
  rw [(err_exp h _).1, if_neg h]
  exact ⟨rfl, rfl⟩
theorem elemR_err {L : List Tok} {e : Int} {k : Nat} {b : Nat → Int} (h : e ≠ 0) : (elemR L e k b).e = e := by
  unfold elemR
  dsimp only
  rw [(err_exp h _).1]
  exact err_amt h
/-- the heads of a list without an error -/
theorem accB_cons (t : Tok) (L : List Tok) (m : ByteArray) : accB (t :: L) 0 m ↔ isM t m = true := by
  unfold accB isM peekT
  simp [eqB_iff]
theorem accB_nil (m : ByteArray) : ¬ accB [] 0 m := by
  unfold accB peekT
  simp [Tok.none]
theorem exp_yes {t : Tok} {L : List Tok} {m : ByteArray} (h : isM t m = true) : expL (t :: L) 0 m = L ∧ expE (t :: L) 0 m = 0 := by
  unfold expL expE
  rw [if_pos ((accB_cons t L m).2 h), if_pos ((accB_cons t L m).2 h)]
  exact ⟨rfl, rfl⟩
theorem exp_no {t : Tok} {L : List Tok} {m : ByteArray} (h : isM t m = false) : expE (t :: L) 0 m = 2 := by
  unfold expE
  rw [if_neg (fun k => by rw [(accB_cons t L m).1 k] at h; cases h)]
  rfl
theorem exp_nil (m : ByteArray) : expE [] 0 m = 1 := by
  unfold expE
  rw [if_neg (accB_nil m)]
  rfl
/-- an element that does not fail, and one that does -/
theorem elemF_cons {l : List Prod} {t : Tok} {R : List Tok} {b : Nat → Int} (h : t.kind = 1) : elemF l ⟨t :: R, 0, b⟩ = elemR R (elem2 l t.text b) (findK l t.text) b := by
  have h1 : nameE (t :: R) 0 = 0 := by unfold nameE peekT; simp [h]
  have h2 : nameL (t :: R) 0 = R := by unfold nameL peekT nextL; simp [h]
  have h3 : nameT (t :: R) 0 = t.text := by unfold nameT peekT; simp [h]
  unfold elemF
  dsimp only
  rw [if_neg (by simp [h1]), h2, h3]
theorem elemF_nil {l : List Prod} {b : Nat → Int} : (elemF l ⟨[], 0, b⟩).e = 1 := by
  have h1 : nameE [] 0 = 1 := by unfold nameE peekT wrongE failE; simp [Tok.none]
  unfold elemF
  dsimp only
  rw [if_pos (by rw [h1]; decide)]
  exact h1
theorem elemF_bad {l : List Prod} {t : Tok} {R : List Tok} {b : Nat → Int} (h : t.kind ≠ 1) : (elemF l ⟨t :: R, 0, b⟩).e = 2 := by
  have h1 : nameE (t :: R) 0 = 2 := by unfold nameE peekT wrongE failE; simp [h]
  unfold elemF
  dsimp only
  rw [if_pos (by rw [h1]; decide)]
  exact h1
theorem elemR_colon {t1 : Tok} {R : List Tok} {k : Nat} {b : Nat → Int} (h : isM t1 ⟨#[58]⟩ = true) : elemR (t1 :: R) 0 k b = ⟨amtL R 0 4, amt5 R 0, upd b k (amtV R 0 4)⟩ := by
  unfold elemR
  rw [(exp_yes h).1, (exp_yes h).2]
theorem amt_good {t2 : Tok} {R : List Tok} (h : t2.kind = 2) (h1 : 1 ≤ t2.value) (h4 : t2.value ≤ 4) : amtL (t2 :: R) 0 4 = R ∧ amt5 (t2 :: R) 0 = 0 ∧ amtV (t2 :: R) 0 4 = t2.value := by
  have e : amtV (t2 :: R) 0 4 = t2.value := by unfold amtV peekT; simp [h, h4, show 0 ≤ t2.value by omega]
  refine ⟨by unfold amtL peekT nextL; simp [h, h4, show 0 ≤ t2.value by omega], ?_, e⟩
  unfold amt5
  rw [e, if_neg (by omega)]
  unfold amtE peekT
  simp [h, h4, show 0 ≤ t2.value by omega]
theorem amt_range {t2 : Tok} {R : List Tok} (h : t2.kind = 2) (h1 : ¬ (1 ≤ t2.value ∧ t2.value ≤ 4)) : amt5 (t2 :: R) 0 = 4 := by
  by_cases h0 : 0 ≤ t2.value ∧ t2.value ≤ 4
  · have e0 : t2.value = 0 := by omega
    unfold amt5 amtV amtE peekT failE
    simp [h, e0]
  · unfold amt5 amtV amtE peekT failE
    simp [h, h0]
theorem amt_kind {t2 : Tok} {R : List Tok} (h : t2.kind ≠ 2) : amt5 (t2 :: R) 0 = 2 := by
  unfold amt5 amtV amtE peekT wrongE failE
  simp [h]
theorem amt_nil : amt5 [] 0 = 1 := by
  unfold amt5 amtV amtE peekT wrongE failE
  simp [Tok.none]
/-- the loop and the end behind an element -/
noncomputable def restF (l : List Prod) (f : Nat) (s : St) : St := endF (loopF l f (elemF l s))
theorem restF_err {l : List Prod} {f : Nat} {s : St} {x : Int} (h : (elemF l s).e = x) (hx : x ≠ 0) : (restF l f s).e = x ∧ (restF l f s).b = zero6 := by
  have h0 : (elemF l s).e ≠ 0 := by rw [h]; exact hx
  unfold restF
  rw [loopF_err h0, (endF_err h0).1, (endF_err h0).2]
  exact ⟨h, rfl⟩
theorem rest_go (l : List Prod) : ∀ (n f : Nat) (R : List Tok) (b : Nat → Int) (a : Nat), R.length ≤ n → R.length ≤ f →
    match refGo l R b a with
    | .error x => x ≠ 0 ∧ (restF l f ⟨R, 0, b⟩).e = x ∧ (restF l f ⟨R, 0, b⟩).b = zero6
    | .ok (b', R', _) => restF l f ⟨R, 0, b⟩ = ⟨R', 0, b'⟩
  | n, f, [], b, a, _, _ => by
    unfold refGo
    exact ⟨by decide, restF_err elemF_nil (by decide)⟩
  | n, f, t :: R, b, a, hn, hf => by
    unfold refGo
    by_cases hk : t.kind = 1
    · rw [if_neg (by simp [hk])]
      by_cases hf1 : findP l t.text = none
      · rw [if_pos hf1]
        have h2 : elem2 l t.text b = 6 := by unfold elem2; rw [if_pos hf1]
        refine ⟨by decide, restF_err ?_ (by decide)⟩
        rw [elemF_cons hk, elemR_err (by rw [h2]; decide), h2]
      · rw [if_neg hf1]
        by_cases hb : b (findK l t.text) = 0
        · rw [if_neg (by simp [hb])]
          have h2 : elem2 l t.text b = 0 := by unfold elem2; rw [if_neg hf1, if_neg (by simp [hb])]
          have hE : elemF l ⟨t :: R, 0, b⟩ = elemR R 0 (findK l t.text) b := by rw [elemF_cons hk, h2]
          match R, hn, hf with
          | [], _, _ =>
            refine ⟨by decide, restF_err ?_ (by decide)⟩
            rw [hE]
            unfold elemR
            dsimp only
            rw [exp_nil]
            exact err_amt (by decide)
          | t1 :: R1, hn, hf =>
            dsimp only
            cases hc : isM t1 ⟨#[58]⟩ with
            | false =>
              rw [if_pos rfl]
              refine ⟨by decide, restF_err ?_ (by decide)⟩
              rw [hE]
              unfold elemR
              dsimp only
              rw [exp_no hc]
              exact err_amt (by decide)
            | true =>
              rw [if_neg (by simp)]
              rw [elemR_colon hc] at hE
              match R1, hn, hf with
              | [], _, _ =>
                refine ⟨by decide, restF_err ?_ (by decide)⟩
                rw [hE]
                exact amt_nil
              | t2 :: R2, hn, hf =>
                dsimp only
                by_cases h2k : t2.kind = 2
                · rw [if_neg (by simp [h2k])]
                  by_cases hv : 1 ≤ t2.value ∧ t2.value ≤ 4
                  · rw [if_neg (by simp [hv])]
                    obtain ⟨g1, g2, g3⟩ := amt_good (R := R2) h2k hv.1 hv.2
                    rw [g1, g2, g3] at hE
                    match R2, hn, hf with
                    | [], _, _ =>
                      refine ⟨by decide, ?_⟩
                      unfold restF
                      have hl : ∀ f, loopF l f ⟨[], 0, upd b (findK l t.text) t2.value⟩ = ⟨[], 0, upd b (findK l t.text) t2.value⟩ := by
                        intro f
                        cases f with
                        | zero => rfl
                        | succ f => unfold loopF; rw [if_neg (accB_nil _)]
                      rw [hE, hl]
                      unfold endF
                      dsimp only
                      rw [exp_nil]
                      exact ⟨rfl, rfl⟩
                    | t3 :: R3, hn, hf =>
                      dsimp only
                      obtain ⟨f', rfl⟩ : ∃ f', f = f' + 1 := ⟨f - 1, by simp at hf; omega⟩
                      cases hcm : isM t3 ⟨#[44]⟩ with
                      | true =>
                        have hcb : isM t3 ⟨#[125]⟩ = false := by
                          unfold isM at hcm ⊢
                          simp only [Bool.and_eq_true, eqB_iff] at hcm
                          rw [hcm.2]
                          simp [show eqB (⟨#[44]⟩ : ByteArray) ⟨#[125]⟩ = false by decide +kernel]
                        rw [if_neg (by simp [hcb]), if_pos rfl]
                        have hl : restF l (f' + 1) ⟨t :: t1 :: t2 :: t3 :: R3, 0, b⟩ = restF l f' ⟨R3, 0, upd b (findK l t.text) t2.value⟩ := by
                          unfold restF
                          rw [hE]
                          conv => lhs; unfold loopF
                          rw [if_pos ((accB_cons _ _ _).2 hcm)]
                          rfl
                        rw [hl]
                        simp at hn hf
                        have hn' : n - 1 < n := by omega
                        exact rest_go l (n - 1) f' R3 _ _ (by omega) (by omega)
                      | false =>
                        have hl : loopF l (f' + 1) ⟨t3 :: R3, 0, upd b (findK l t.text) t2.value⟩ = ⟨t3 :: R3, 0, upd b (findK l t.text) t2.value⟩ := by
                          unfold loopF
                          rw [if_neg (fun k => by rw [(accB_cons _ _ _).1 k] at hcm; cases hcm)]
                        cases hcb : isM t3 ⟨#[125]⟩ with
                        | true =>
                          rw [if_pos rfl]
                          dsimp only
                          unfold restF
                          rw [hE, hl]
                          unfold endF
                          dsimp only
                          rw [(exp_yes hcb).1, (exp_yes hcb).2, if_pos rfl]
                        | false =>
                          rw [if_neg (by simp), if_neg (by simp)]
                          refine ⟨by decide, ?_⟩
                          unfold restF
                          rw [hE, hl]
                          unfold endF
                          dsimp only
                          rw [exp_no hcb]
                          exact ⟨rfl, rfl⟩
                  · rw [if_pos hv]
                    refine ⟨by decide, restF_err ?_ (by decide)⟩
                    rw [hE]
                    exact amt_range h2k hv
                · rw [if_pos h2k]
                  refine ⟨by decide, restF_err ?_ (by decide)⟩
                  rw [hE]
                  exact amt_kind h2k
        · rw [if_pos hb]
          have h2 : elem2 l t.text b = 7 := by unfold elem2; rw [if_neg hf1, if_pos hb]
          refine ⟨by decide, restF_err ?_ (by decide)⟩
          rw [elemF_cons hk, elemR_err (by rw [h2]; decide), h2]
    · rw [if_pos hk]
      exact ⟨by decide, restF_err (elemF_bad hk) (by decide)⟩
termination_by n => n
/-- Scan is the reference's Tokens -/
theorem scan_ref (l : List Prod) (L : List Tok) (h : checkE l = 0) :
    match refF l L with
    | .error x => x ≠ 0 ∧ (scanF l L 0).e = x ∧ (scanF l L 0).b = zero6
    | .ok (b', R', _) => scanF l L 0 = ⟨R', 0, b'⟩ := by
  have hs : scanF l L 0 = if accB (expL L 0 ⟨#[123]⟩) (expE L 0 ⟨#[123]⟩) ⟨#[125]⟩ then ⟨nextL (expL L 0 ⟨#[123]⟩) (expE L 0 ⟨#[123]⟩), expE L 0 ⟨#[123]⟩, zero6⟩
      else restF l (L.length + 1) ⟨expL L 0 ⟨#[123]⟩, expE L 0 ⟨#[123]⟩, zero6⟩ := by
    unfold scanF restF
    rw [if_neg (by simp), if_neg (by simp [h])]
  rw [hs]
  clear hs
  cases L with
  | nil =>
    unfold refF
    rw [exp_nil, if_neg (err_acc (by decide) _)]
    exact ⟨by decide, restF_err (elemF_err (by simp)) (by decide)⟩
  | cons t R =>
    unfold refF
    dsimp only
    cases hc : isM t ⟨#[123]⟩ with
    | false =>
      rw [if_pos rfl, exp_no hc, if_neg (err_acc (by decide) _)]
      exact ⟨by decide, restF_err (elemF_err (by simp)) (by decide)⟩
    | true =>
      rw [if_neg (by simp), (exp_yes hc).1, (exp_yes hc).2]
      cases R with
      | nil =>
        rw [if_neg (accB_nil _)]
        exact rest_go l 0 _ [] zero6 1 (by simp) (by simp)
      | cons t1 R1 =>
        cases hcb : isM t1 ⟨#[125]⟩ with
        | true =>
          rw [if_pos ((accB_cons _ _ _).2 hcb)]
          dsimp only
          rw [hcb, if_pos rfl]
          rfl
        | false =>
          rw [if_neg (fun k => by rw [(accB_cons _ _ _).1 k] at hcb; cases hcb)]
          dsimp only
          rw [hcb, if_neg (by simp)]
          exact rest_go l _ _ (t1 :: R1) zero6 1 (Nat.le_refl _) (by simp)
end Cat
end Go.Proofs.YthehchdonmmpaaaGreatDoor
namespace Go.Proofs.YthehchdonmmpaaaGreatDoor
open Go.ChangeShapes Go.WideShapes Go.ChangeAt Go.RowKit
set_option linter.unusedVariables false
set_option linter.unusedSimpArgs false
open Cat (arr arr_set)
theorem Blk.box {w : World} {b : Nat} {T : TypeId} {p : Nat → Int} (h : Blk w b T (arr p)) : Cat.Box w b p := ⟨T, h⟩
theorem Lex.Scan.put_far {ts te tb : TypeId} {w : World} {g x : Nat} {L : List Lex.Tok} {e : Int} {cs : Array Value} (h : Lex.Scan ts te w g L e) (hb : Blk w x tb cs) (h1 : tb ≠ ts) (h2 : tb ≠ te) (k : Nat) (v : Value) : Lex.Scan ts te (w.setCell ⟨x, k, none⟩ v) g L e :=
  h.other ((Only.refl x w).put k v) hb h1 h2
/-- six stores into a block -/
abbrev put6 (w : World) (x : Nat) (q : Nat → Int) : World := (((((w.setCell ⟨x, 0, none⟩ (.int .i64 (q 0))).setCell ⟨x, 1, none⟩ (.int .i64 (q 1))).setCell ⟨x, 2, none⟩ (.int .i64 (q 2))).setCell ⟨x, 3, none⟩ (.int .i64 (q 3))).setCell ⟨x, 4, none⟩ (.int .i64 (q 4))).setCell ⟨x, 5, none⟩ (.int .i64 (q 5))
theorem Lex.Scan.six {ts te tb : TypeId} {w : World} {g x : Nat} {L : List Lex.Tok} {e : Int} {cs : Array Value} (h : Lex.Scan ts te w g L e) (hb : Blk w x tb cs) (h1 : tb ≠ ts) (h2 : tb ≠ te) (q : Nat → Int) : Lex.Scan ts te (put6 w x q) g L e :=
  (((((h.put_far hb h1 h2 0 _).put_far (hb.put 0 _) h1 h2 1 _).put_far ((hb.put 0 _).put 1 _) h1 h2 2 _).put_far (((hb.put 0 _).put 1 _).put 2 _) h1 h2 3 _).put_far ((((hb.put 0 _).put 1 _).put 2 _).put 3 _) h1 h2 4 _).put_far (((((hb.put 0 _).put 1 _).put 2 _).put 3 _).put 4 _) h1 h2 5 _
theorem Only.six {w wx : World} {g x : Nat} (h : Only g w wx) (hx : w.heap.size ≤ x) (q : Nat → Int) : Only g w (put6 wx x q) :=
  (((((h.put_new (p := ⟨x, 0, none⟩) hx _).put_new (p := ⟨x, 1, none⟩) hx _).put_new (p := ⟨x, 2, none⟩) hx _).put_new (p := ⟨x, 3, none⟩) hx _).put_new (p := ⟨x, 4, none⟩) hx _).put_new (p := ⟨x, 5, none⟩) hx _
theorem Blk.put6_ {w : World} {b x : Nat} {T : TypeId} {cs : Array Value} (h : Blk w b T cs) (hne : b ≠ x) (q : Nat → Int) : Blk (put6 w x q) b T cs :=
  (((((h.far hne _).far hne _).far hne _).far hne _).far hne _).far hne _
theorem Blk.put6s {w : World} {x : Nat} {T : TypeId} {p : Nat → Int} (h : Blk w x T (arr p)) (q : Nat → Int) : Blk (put6 w x q) x T (arr q) :=
  (((((h.put 0 _).put 1 _).put 2 _).put 3 _).put 4 _).put 5 _
theorem Blk.upd {w : World} {b : Nat} {T : TypeId} {p : Nat → Int} (h : Blk w b T (arr p)) (k : Nat) (hk : k < 6) (x : Int) : Blk (w.setCell ⟨b, k, none⟩ (.int .i64 x)) b T (arr (Cat.upd p k x)) := by
  have := h.put k (.int .i64 x)
  rw [arr_set p k hk] at this
  exact this
namespace Cat
open Lex
theorem Box.only {w w1 : World} {b g : Nat} {p : Nat → Int} (h : Box w b p) (o : Only g w w1) (hne : b ≠ g) : Box w1 b p := by
  obtain ⟨T, k⟩ := h.blk
  exact ⟨T, (o.block b h.lt hne).trans k⟩
theorem only_cell {g : Nat} {w w1 : World} (o : Only g w w1) {a : Addr} (hlt : a.block < w.heap.size) (hne : a.block ≠ g) : w1.cell? a = w.cell? a := World.cell?_of_block (o.block a.block hlt hne)
theorem ProdRow.only {w w' : World} {b o g : Nat} {l : List Prod} (h : ProdRow w b o l) (hb : b < w.heap.size) (hB : Only g w w') (hne : b ≠ g) : ProdRow w' b o l := fun j u hu => by
  rw [only_cell hB (a := ⟨b, o + j, none⟩) hb hne]
  exact h j u hu
theorem nextL_len (L : List Tok) (e : Int) : (nextL L e).length ≤ L.length := by unfold nextL; split <;> simp
theorem nameL_len (L : List Tok) (e : Int) : (nameL L e).length ≤ L.length := by
  unfold nameL
  split
  · exact nextL_len L e
  · exact Nat.le_refl _
theorem expL_len (L : List Tok) (e : Int) (m : ByteArray) : (expL L e m).length ≤ L.length := by
  unfold expL
  split
  · exact nextL_len L e
  · exact Nat.le_refl _
theorem amtL_len (L : List Tok) (e k : Int) : (amtL L e k).length ≤ L.length := by
  unfold amtL
  split
  · exact nextL_len L e
  · exact Nat.le_refl _
theorem elemF_len (l : List Prod) (s : St) : (elemF l s).L.length ≤ s.L.length := by
  unfold elemF
  split
  · exact nameL_len _ _
  · unfold elemR
    exact Nat.le_trans (amtL_len _ _ _) (Nat.le_trans (expL_len _ _ _) (nameL_len _ _))
theorem small_len {n : Nat} (h : n ≤ 5000) : n ≤ maxLen := by unfold maxLen; omega
theorem Box.upd {w : World} {b : Nat} {p : Nat → Int} (h : Box w b p) (k : Nat) (hk : k < 6) (x : Int) : Box (w.setCell ⟨b, k, none⟩ (.int .i64 x)) b (upd p k x) := h.set k hk x
/-- the scanner's block, the two blocks of the call's own -/
structure EMid (ts te tb : TypeId) (w wx : World) (g : Nat) (L : List Tok) (e : Int) (b : Nat → Int) : Prop where
  scan : Scan ts te wx g L e
  box : Blk wx w.heap.size tb (arr b)
  res : Blk wx (w.heap.size + 1) tb (arr zero6)
  only : Only g w wx
section
variable {ts te tb : TypeId} {w wx wy : World} {g : Nat} {L L' : List Tok} {e e' : Int} {b : Nat → Int}
theorem emid_new (h : Scan ts te w g L e) (b : Nat → Int) (tb : TypeId) : EMid ts te tb w ((w.alloc (.cells (arr b) tb)).alloc (.cells (arr zero6) tb)) g L e b := by
  refine ⟨(h.below (below_new w _)).below (below_new _ _), (Blk.new w tb _).alloc _, ?_, ((Only.refl g w).alloc _).alloc _⟩
  have := Blk.new (w.alloc (.cells (arr b) tb)) tb (arr zero6)
  simpa only [World.size_alloc] using this
theorem EMid.step (h : EMid ts te tb w wx g L e b) (hg : g < w.heap.size) (s : Scan ts te wy g L' e') (o : Only g wx wy) : EMid ts te tb w wy g L' e' b :=
  ⟨s, h.box.only o (by omega), h.res.only o (by omega), h.only.trans o⟩
theorem EMid.below (h : EMid ts te tb w wx g L e b) (o : Below wx.heap.size wx wy) : EMid ts te tb w wy g L e b :=
  ⟨h.scan.below o, h.box.below o h.box.lt, h.res.below o h.res.lt, h.only.then_below o⟩
theorem EMid.upd (h : EMid ts te tb w wx g L e b) (h1 : tb ≠ ts) (h2 : tb ≠ te) (k : Nat) (hk : k < 6) (x : Int) : EMid ts te tb w (wx.setCell ⟨w.heap.size, k, none⟩ (.int .i64 x)) g L e (upd b k x) :=
  ⟨h.scan.put_far h.box h1 h2 k _, h.box.upd k hk x, h.res.far (by show w.heap.size + 1 ≠ w.heap.size; omega) _, h.only.put_new (p := ⟨w.heap.size, k, none⟩) (Nat.le_refl _) _⟩
theorem EMid.done (h : EMid ts te tb w wx g L e b) (h1 : tb ≠ ts) (h2 : tb ≠ te) (q : Nat → Int) : Scan ts te (put6 wx (w.heap.size + 1) q) g L e ∧ Only g w (put6 wx (w.heap.size + 1) q) :=
  ⟨h.scan.six h.res h1 h2 q, h.only.six (by omega) q⟩
end
/- from here on printed by gen_catL.py -/
end Cat
end Go.Proofs.YthehchdonmmpaaaGreatDoor
namespace Go.Proofs.YthehchdonmmpaaaGreatDoor
open Go.ChangeShapes Go.WideShapes Go.ChangeAt Go.RowKit
set_option linter.unusedVariables false
set_option linter.unusedSimpArgs false
theorem Lex.Scan.only_apart {ts te tb : TypeId} {w wy : World} {g x : Nat} {L : List Lex.Tok} {e : Int} (h : Lex.Scan ts te w g L e) (o : Only x w wy) {cs : Array Value} (hb : Blk w x tb cs) (h1 : tb ≠ ts) (h2 : tb ≠ te) : Lex.Scan ts te wy g L e := h.other o hb h1 h2
namespace Cat
open Lex
abbrev put6z (w : World) (x : Nat) : World := (((((w.setCell ⟨x, 0, none⟩ (.int .i64 0)).setCell ⟨x, 1, none⟩ (.int .i64 0)).setCell ⟨x, 2, none⟩ (.int .i64 0)).setCell ⟨x, 3, none⟩ (.int .i64 0)).setCell ⟨x, 4, none⟩ (.int .i64 0)).setCell ⟨x, 5, none⟩ (.int .i64 0)
theorem res_end0 {w : World} {b : Nat} {p : Nat → Int} (h : Box w b p) : Box (put6z w b) b zero6 := res_end h zero6
/-- the scanner, the result's block, the bundle's block -/
structure SMid2 (ts te tb : TypeId) (w wx : World) (g x : Nat) (s : St) : Prop where
  scan : Scan ts te wx g s.L s.e
  res : Blk wx w.heap.size tb (arr zero6)
  box : Blk wx x tb (arr s.b)
  new : w.heap.size < x
  only : Only g w wx
section
variable {ts te tb : TypeId} {w wx wy : World} {g x : Nat} {s s' : St} {L : List Tok} {e : Int}
theorem SMid2.step (h : SMid2 ts te tb w wx g x s) (hg : g < w.heap.size) (k : Scan ts te wy g s'.L s'.e) (o : Only g wx wy) (hb : s'.b = s.b) : SMid2 ts te tb w wy g x s' := by
  have := h.new
  exact ⟨k, h.res.only o (by omega), by rw [hb]; exact h.box.only o (by omega), h.new, h.only.trans o⟩
theorem SMid2.put (h : SMid2 ts te tb w wx g x s) (h1 : tb ≠ ts) (h2 : tb ≠ te) (q : Nat → Int) : SMid2 ts te tb w (put6 wx x q) g x ⟨s.L, s.e, q⟩ := by
  have := h.new
  exact ⟨h.scan.six h.box h1 h2 q, h.res.put6_ (by omega) q, h.box.put6s q, h.new, h.only.six (by omega) q⟩
theorem SMid2.done (h : SMid2 ts te tb w wx g x s) (h1 : tb ≠ ts) (h2 : tb ≠ te) (q : Nat → Int) : Scan ts te (put6 wx w.heap.size q) g s.L s.e ∧ Only g w (put6 wx w.heap.size q) :=
  ⟨h.scan.six h.res h1 h2 q, h.only.six (Nat.le_refl _) q⟩
theorem SMid2.done0 (h : SMid2 ts te tb w wx g x s) (h1 : tb ≠ ts) (h2 : tb ≠ te) : Scan ts te (put6z wx w.heap.size) g s.L s.e ∧ Only g w (put6z wx w.heap.size) := h.done h1 h2 zero6
/-- the scanner and the result's block -/
structure SMid1 (ts te tb : TypeId) (w wx : World) (g : Nat) (L : List Tok) (e : Int) : Prop where
  scan : Scan ts te wx g L e
  res : Blk wx w.heap.size tb (arr zero6)
  only : Only g w wx
theorem smid1_new (h : Scan ts te w g L e) (tb : TypeId) : SMid1 ts te tb w (w.alloc (.cells (arr zero6) tb)) g L e :=
  ⟨h.below (below_new w _), Blk.new w tb _, (Only.refl g w).alloc _⟩
theorem SMid1.step {L' : List Tok} {e' : Int} (h : SMid1 ts te tb w wx g L e) (hg : g < w.heap.size) (k : Scan ts te wy g L' e') (o : Only g wx wy) : SMid1 ts te tb w wy g L' e' :=
  ⟨k, h.res.only o (by omega), h.only.trans o⟩
theorem SMid1.below (h : SMid1 ts te tb w wx g L e) (o : Below wx.heap.size wx wy) : SMid1 ts te tb w wy g L e :=
  ⟨h.scan.below o, h.res.below o h.res.lt, h.only.then_below o⟩
theorem SMid1.done (h : SMid1 ts te tb w wx g L e) (h1 : tb ≠ ts) (h2 : tb ≠ te) (q : Nat → Int) : Scan ts te (put6 wx w.heap.size q) g L e ∧ Only g w (put6 wx w.heap.size q) :=
  ⟨h.scan.six h.res h1 h2 q, h.only.six (Nat.le_refl _) q⟩
theorem SMid1.done0 (h : SMid1 ts te tb w wx g L e) (h1 : tb ≠ ts) (h2 : tb ≠ te) : Scan ts te (put6z wx w.heap.size) g L e ∧ Only g w (put6z wx w.heap.size) := h.done h1 h2 zero6
theorem SMid1.two (h : SMid1 ts te tb w wx g L e) : SMid2 ts te tb w (wx.alloc (.cells (arr zero6) tb)) g wx.heap.size ⟨L, e, zero6⟩ :=
  ⟨h.scan.below (below_new _ _), h.res.alloc _, Blk.new wx tb _, h.res.lt, h.only.alloc _⟩
end
theorem acc_next {L : List Tok} {e : Int} {m : ByteArray} (h : accB L e m) : (nextL L e).length < L.length := by
  by_cases he : e = 0
  · subst he
    cases L with
    | nil => exact absurd h (accB_nil m)
    | cons t L => simp [nextL]
  · exact absurd h (err_acc he m)
end Cat
end Go.Proofs.YthehchdonmmpaaaGreatDoor
namespace Go.Proofs.YthehchdonmmpaaaGreatDoor
open Go.ChangeShapes Go.WideShapes Go.ChangeAt Go.RowKit
set_option linter.unusedVariables false
set_option linter.unusedSimpArgs false
namespace Fr
section
variable (A1 A2 : Option Addr) (c1 c2 n d : Nat) (w : World)
theorem nceil_pos (hln : (digs n).length ≤ 40000) (hld : (digs d).length ≤ 40000) (hd0 : d ≠ 0) (hn : NS w (.slice A1 (digs n).length c1) (digs n)) (hd : NS w (.slice A2 (digs d).length c2) (digs d)) : Calls Tryz.prog 65 #[.agg #[.bool false, .slice A1 (digs n).length c1, .slice A2 (digs d).length c2]] w (CeilPost n d w) := by
  have CR := Lib.hid (fun w' (b : Below w.heap.size w w') => nround_pos A1 A2 c1 c2 n d w' hln hld hd0 (hn.keep b) (hd.keep b))
  clear hn hd hln hld hd0
  go_enter Tryz.func65, Tryz.ntmps65
  go_wp2_with fail
  refine (CR.out _ (below_new w _)).mono ?_
  rintro e w1 ⟨v, b, ⟨rfl, b1⟩, h1, h2⟩
  have HC : Hid ((ceilN n d < 9223372036854775808 → v = ((ceilN n d : Nat) : Int) ∧ b = true) ∧ (9223372036854775808 ≤ ceilN n d → v = 0 ∧ b = false)) := ⟨h1, h2⟩
  have B1 := Lib.hid (chain1 (Below.refl _ _) b1)
  clear h1 h2 b1
  go_wp2_with fail
  go_ret2
  exact ⟨_, _, ⟨rfl, B1.out⟩, HC.out⟩
theorem nceil_neg (hln : (digs n).length ≤ 40000) (hld : (digs d).length ≤ 40000) (hd0 : d ≠ 0) (hn : NS w (.slice A1 (digs n).length c1) (digs n)) (hd : NS w (.slice A2 (digs d).length c2) (digs d)) : Calls Tryz.prog 65 #[.agg #[.bool true, .slice A1 (digs n).length c1, .slice A2 (digs d).length c2]] w (SomePost w) := by
  have CR := Lib.hid (fun w' (b : Below w.heap.size w w') => nround_neg A1 A2 c1 c2 n d w' hln hld hd0 (hn.keep b) (hd.keep b))
  clear hn hd hln hld hd0
  go_enter Tryz.func65, Tryz.ntmps65
  go_wp2_with fail
  refine (CR.out _ (below_new w _)).mono ?_
  rintro e w1 ⟨v, b, rfl, b1⟩
  have B1 := Lib.hid (chain1 (Below.refl _ _) b1)
  clear b1
  go_wp2_with fail
  go_ret2
  exact ⟨_, _, rfl, B1.out⟩
theorem nsign_pos (n' : Nat) (v2 : Value) : Calls Tryz.prog 39 #[.agg #[.bool false, .slice A1 n' c1, v2]] w fun e w' => (∃ s : Int, 0 ≤ s ∧ e = .returned (.int .i64 s)) ∧ Below w.heap.size w w' := by
  by_cases h : n' = 0
  · subst h
    have B1 : Hid (Below w.heap.size w (w.alloc (.cells #[.bool false, .slice A1 0 c1, v2] 47))) := below_new w _
    go_enter Tryz.func39, Tryz.ntmps39
    go_wp2_with fail
    go_ret
    exact ⟨⟨0, by omega, rfl⟩, B1.out⟩
  · have q : ((n' : Int) == 0) = false := beq_eq_false_iff_ne.2 (by omega)
    have B1 : Hid (Below w.heap.size w (w.alloc (.cells #[.bool false, .slice A1 n' c1, v2] 47))) := below_new w _
    clear h
    go_enter Tryz.func39, Tryz.ntmps39
    go_wp2_with fail
    go_ret
    exact ⟨⟨1, by omega, rfl⟩, B1.out⟩
theorem nsign_neg (n' : Nat) (v2 : Value) (h : n' ≠ 0) : Calls Tryz.prog 39 #[.agg #[.bool true, .slice A1 n' c1, v2]] w fun e w' => e = .returned (.int .i64 (-1)) ∧ Below w.heap.size w w' := by
  have q : ((n' : Int) == 0) = false := beq_eq_false_iff_ne.2 (by omega)
  have B1 : Hid (Below w.heap.size w (w.alloc (.cells #[.bool true, .slice A1 n' c1, v2] 47))) := below_new w _
  clear h
  go_enter Tryz.func39, Tryz.ntmps39
  go_wp2_with fail
  go_ret
  exact ⟨rfl, B1.out⟩
/-- what Up answers -/
def UpPost (neg : Bool) (n d : Nat) (w : World) (e : Ending) (w' : World) : Prop := e = .returned (.tuple (if neg = false ∧ ceilN n d ≤ 1000000 then #[.int .i64 ((ceilN n d : Nat) : Int), .int .i64 0] else #[.int .i64 0, .int .i64 4])) ∧ Below w.heap.size w w'
end
set_option maxHeartbeats 1000000 in
theorem nup_pos (A1 A2 : Option Addr) (c1 c2 n d : Nat) (w : World) (hln : (digs n).length ≤ 40000) (hld : (digs d).length ≤ 40000) (hd0 : d ≠ 0) (hn : NS w (.slice A1 (digs n).length c1) (digs n)) (hd : NS w (.slice A2 (digs d).length c2) (digs d)) : Calls Tryz.prog 40 #[.agg #[.bool false, .slice A1 (digs n).length c1, .slice A2 (digs d).length c2]] w (UpPost false n d w) := by
  have CC := Lib.hid (fun w' (b : Below w.heap.size w w') => nceil_pos A1 A2 c1 c2 n d w' hln hld hd0 (hn.keep b) (hd.keep b))
  have CS := Lib.hid (fun w' => nsign_pos A1 c1 w' (digs n).length (.slice A2 (digs d).length c2))
  have K0 : Hid (Blk (w.alloc (.cells #[.bool false, .slice A1 (digs n).length c1, .slice A2 (digs d).length c2] 47)) w.heap.size 47 #[.bool false, .slice A1 (digs n).length c1, .slice A2 (digs d).length c2]) := Blk.new w _ _
  have B0 : Hid (Below w.heap.size w (w.alloc (.cells #[.bool false, .slice A1 (digs n).length c1, .slice A2 (digs d).length c2] 47))) := below_new w _
  clear hn hd hln hld hd0
  go_enter Tryz.func40, Tryz.ntmps40
  go_upto_region 1 with fail
  generalize w.alloc (.cells #[.bool false, .slice A1 (digs n).length c1, .slice A2 (digs d).length c2] 47) = w1 at *
  have k1 := K0.out.c3
  go_wp2_with fail
  refine (CC.out _ B0.out).mono ?_
  rintro e w2 ⟨v, b, ⟨rfl, b2⟩, h1, h2⟩
  have B2 := Lib.hid (chain0 B0.out b2)
  have k2 := (K0.out.below' b2).c3
  clear b2 k1
  by_cases hbig : 9223372036854775808 ≤ ceilN n d
  · obtain ⟨rfl, rfl⟩ := h2 hbig
    have HE : Hid (UpPost false n d w (.returned (.tuple #[.int .i64 0, .int .i64 4])) w2) := ⟨by rw [if_neg (by omega)], B2.out⟩
    clear h1 h2 hbig
    go_wp2_with fail
    go_ret2
    exact HE.out
  · obtain ⟨rfl, rfl⟩ := h1 (by omega)
    by_cases hok : ceilN n d ≤ 1000000
    · have CI := Lib.hid (fun w => So.is_yes ((ceilN n d : Nat) : Int) w (by omega) (by omega))
      have HE : Hid (∀ w', Below w.heap.size w w' → UpPost false n d w (.returned (.tuple #[.int .i64 ((ceilN n d : Nat) : Int), .int .i64 0])) w') := fun w' b => ⟨by rw [if_pos ⟨rfl, hok⟩], b⟩
      clear h1 h2 hbig hok
      generalize ceilN n d = c at *
      go_wp2_with fail
      refine (CS.out _).mono ?_
      rintro e w3 ⟨⟨s, hs, rfl⟩, b3⟩
      have B3 := Lib.hid (chain0 B2.out b3)
      have hd1 : decide (s < 0) = false := decide_eq_false (by omega)
      clear b3 hs
      go_wp2_with fail
      refine (CI.out _).mono ?_
      rintro e w4 ⟨rfl, rfl⟩
      go_wp2_with fail
      go_ret2
      exact HE.out _ B3.out
    · have CI := Lib.hid (fun w => So.is_no ((ceilN n d : Nat) : Int) w (by omega))
      have HE : Hid (∀ w', Below w.heap.size w w' → UpPost false n d w (.returned (.tuple #[.int .i64 0, .int .i64 4])) w') := fun w' b => ⟨by rw [if_neg (by omega)], b⟩
      clear h1 h2 hbig hok
      generalize ceilN n d = c at *
      go_wp2_with fail
      refine (CS.out _).mono ?_
      rintro e w3 ⟨⟨s, hs, rfl⟩, b3⟩
      have B3 := Lib.hid (chain0 B2.out b3)
      have hd1 : decide (s < 0) = false := decide_eq_false (by omega)
      clear b3 hs
      go_wp2_with fail
      refine (CI.out _).mono ?_
      rintro e w4 ⟨rfl, rfl⟩
      go_wp2_with fail
      go_ret2
      exact HE.out _ B3.out
set_option maxHeartbeats 1000000 in
theorem nup_neg (A1 A2 : Option Addr) (c1 c2 n d : Nat) (w : World) (hln : (digs n).length ≤ 40000) (hld : (digs d).length ≤ 40000) (hd0 : d ≠ 0) (hn0 : n ≠ 0) (hn : NS w (.slice A1 (digs n).length c1) (digs n)) (hd : NS w (.slice A2 (digs d).length c2) (digs d)) : Calls Tryz.prog 40 #[.agg #[.bool true, .slice A1 (digs n).length c1, .slice A2 (digs d).length c2]] w (UpPost true n d w) := by
  have CC := Lib.hid (fun w' (b : Below w.heap.size w w') => nceil_neg A1 A2 c1 c2 n d w' hln hld hd0 (hn.keep b) (hd.keep b))
  have hl := digs_pos_len hn0
  have CS := Lib.hid (fun w' => nsign_neg A1 c1 w' (digs n).length (.slice A2 (digs d).length c2) (by omega))
  have K0 : Hid (Blk (w.alloc (.cells #[.bool true, .slice A1 (digs n).length c1, .slice A2 (digs d).length c2] 47)) w.heap.size 47 #[.bool true, .slice A1 (digs n).length c1, .slice A2 (digs d).length c2]) := Blk.new w _ _
  have B0 : Hid (Below w.heap.size w (w.alloc (.cells #[.bool true, .slice A1 (digs n).length c1, .slice A2 (digs d).length c2] 47))) := below_new w _
  have HE : Hid (∀ w', Below w.heap.size w w' → UpPost true n d w (.returned (.tuple #[.int .i64 0, .int .i64 4])) w') := fun w' b => ⟨by rw [if_neg (by simp)], b⟩
  clear hn hd hln hld hd0 hn0 hl
  go_enter Tryz.func40, Tryz.ntmps40
  go_upto_region 1 with fail
  generalize w.alloc (.cells #[.bool true, .slice A1 (digs n).length c1, .slice A2 (digs d).length c2] 47) = w1 at *
  have k1 := K0.out.c3
  go_wp2_with fail
  refine (CC.out _ B0.out).mono ?_
  rintro e w2 ⟨v, b, rfl, b2⟩
  have B2 := Lib.hid (chain0 B0.out b2)
  have k2 := (K0.out.below' b2).c3
  clear b2 k1
  cases b
  · go_wp2_with fail
    go_ret2
    exact HE.out _ B2.out
  · go_wp2_with fail
    refine (CS.out _).mono ?_
    rintro e w3 ⟨rfl, b3⟩
    have B3 := Lib.hid (chain0 B2.out b3)
    clear b3
    go_wp2_with fail
    go_ret2
    exact HE.out _ B3.out
end Fr
end Go.Proofs.YthehchdonmmpaaaGreatDoor
namespace Go.Proofs.YthehchdonmmpaaaGreatDoor
open Go.ChangeShapes Go.WideShapes Go.ChangeAt Go.RowKit
set_option linter.unusedVariables false
set_option linter.unusedSimpArgs false
namespace Fr
theorem drop_step {l : List Nat} {j : Nat} (h : j < l.length) : nat (l.drop j) = dg l j + B * nat (l.drop (j + 1)) := by
  rw [List.drop_eq_getElem_cons h, dg_in h]
  rfl
set_option maxHeartbeats 1000000 in
theorem ruint_yes (l : List Nat) (v : Value) (w : World) (hl : l.length ≤ 2) (hd : Dg l) (h : NS w v l) : Calls Tryz.prog 51 #[v] w fun e w' => e = .returned (.tuple #[.int .u64 ((nat l : Nat) : Int), .bool true]) ∧ w = w' := by
  obtain ⟨A, c, rfl, _, _, ha⟩ := ns_cases h
  have q0 : decide ((2 : Int) < (l.length : Int)) = false := decide_eq_false (by omega)
  have q00 : decide (2 < l.length) = false := decide_eq_false (by omega)
  have HD := Lib.hid hd
  have HA := Lib.hid ha
  have HL := Lib.hid hl
  have hl1 : l.length ≤ 100000 := by omega
  clear h hd ha hl
  go_enter Tryz.func51, Tryz.ntmps51
  go_wp2_with fail
  go_loop [4, 5] (fun xv iv => ∃ m : Nat, m ≤ l.length ∧ xv = .int .u64 ((nat (l.drop m) : Nat) : Int) ∧ iv = .int .i64 ((m : Int) - 1)) (fun _ iv => (intOf iv + 1).toNat)
  case atStart => exact ⟨l.length, Nat.le_refl _, by simp [nat], rfl⟩
  case round =>
    obtain ⟨m, hm, rfl, rfl⟩ := hrel
    cases m with
    | zero =>
      have HF : Hid (nat (l.drop 0) = nat l) := rfl
      go_wp2_with fail
      go_ret2
      exact ⟨rfl, rfl⟩
    | succ j =>
      rw [show (((j + 1 : Nat) : Int) - 1) = (j : Int) by omega]
      have hj0 : (0 : Int) ≤ (j : Int) := by omega
      have hj1 : (j : Int) < (l.length : Int) := by omega
      have hdec : decide ((0 : Int) ≤ (j : Int)) = true := decide_eq_true hj0
      obtain ⟨b, o, rfl, _, hc⟩ := HA.out (by omega)
      have hc := hc j (by omega)
      have ww := u64w (dg_lt HD.out j)
      have hb0 : dg l j < B := dg_lt HD.out j
      have hbs := hb0
      unfold B at hbs
      obtain ⟨x, hx⟩ : ∃ x, x = nat (l.drop (j + 1)) := ⟨_, rfl⟩
      have hxb : x < 4294967296 := by
        have h1 := nat_lt (HD.out.drop (j + 1))
        rw [← hx] at h1
        refine Nat.lt_of_lt_of_le h1 (Nat.le_trans (Nat.pow_le_pow_right B_pos (show (l.drop (j + 1)).length ≤ 1 by simp; have := HL.out; omega)) ?_)
        simp [B]
      have hs0 := drop_step (l := l) (j := j) (by omega)
      rw [← hx] at hs0 ⊢
      obtain ⟨t, ht⟩ : ∃ t, t = x * 4294967296 := ⟨_, rfl⟩
      obtain ⟨d, hd⟩ : ∃ d, d = dg l j := ⟨_, rfl⟩
      obtain ⟨s, hs⟩ : ∃ s, s = t + d := ⟨_, rfl⟩
      rw [← hd] at hc ww hbs hs0
      have t1 : IntKind.u64.wrap ((x : Int) * 4294967296) = (t : Int) := by
        rw [IntWalk.u64_in _ (by omega)]; omega
      have t2 : IntKind.u64.wrap ((t : Int) + (d : Int)) = (s : Int) := by
        rw [IntWalk.u64_in _ (by omega)]; omega
      have HR : Hid (nat (l.drop j) = s) := by
        show _ = _
        rw [hs0, hs, ht]; unfold B; omega
      clear hb0 hbs hx hxb hs0 ht hd hs
      go_wp2_with fail
      go_round
      case rel => exact ⟨j, by omega, by rw [HR.out], by go_num⟩
      case measure => simp [intOf]
set_option maxHeartbeats 1000000 in
theorem ruint_no (l : List Nat) (v : Value) (w : World) (hl : 2 < l.length) (hl1 : l.length ≤ 100000) (h : NS w v l) : Calls Tryz.prog 51 #[v] w fun e w' => e = .returned (.tuple #[.int .u64 0, .bool false]) ∧ w = w' := by
  obtain ⟨A, c, rfl, _, _, ha⟩ := ns_cases h
  have q0 : decide ((2 : Int) < (l.length : Int)) = true := decide_eq_true (by omega)
  have q00 : decide (2 < l.length) = true := decide_eq_true (by omega)
  clear h ha hl
  go_enter Tryz.func51, Tryz.ntmps51
  go_wp2_with fail
  go_ret2
  exact ⟨rfl, rfl⟩
theorem ruint_any (n : Nat) (v : Value) (w : World) (hl : (digs n).length ≤ 100000) (h : NS w v (digs n)) : ∃ (u : Nat) (b : Bool), (u < B * B ∧ (n < B * B → u = n ∧ b = true) ∧ (B * B ≤ n → b = false)) ∧ Calls Tryz.prog 51 #[v] w fun e w' => e = .returned (.tuple #[.int .u64 (u : Int), .bool b]) ∧ w = w' := by
  by_cases hn : (digs n).length ≤ 2
  · have h1 : n < B * B := by
      have := lt_digs_len n
      exact Nat.lt_of_lt_of_le this (by rw [← Nat.pow_two]; exact Nat.pow_le_pow_right B_pos hn)
    refine ⟨n, true, ⟨h1, fun _ => ⟨rfl, rfl⟩, fun h => absurd h1 (by omega)⟩, ?_⟩
    have := ruint_yes (digs n) v w hn (Dg.digs n) h
    rw [nat_digs] at this
    exact this
  · refine ⟨0, false, ⟨by decide, fun h2 => ?_, fun _ => rfl⟩, ruint_no (digs n) v w (by omega) hl h⟩
    exact absurd (digs_len_le (n := n) (m := 2) (by rw [Nat.pow_two]; exact h2)) (by omega)
theorem last_dg {l : List Nat} {k : Nat} (h : l.length = k + 1) : l.getLastD 1 = dg l k := by
  rcases List.eq_nil_or_concat l with rfl | ⟨l', b, rfl⟩
  · simp at h
  · have : l'.length = k := by simpa using h
    subst this
    simp [dg]
theorem rnvalid (l : List Nat) (v : Value) (w : World) (b : Bool) (hl : l.length ≤ 1000) (hd : Dg l) (h : NS w v l) (hb : b = decide (l.getLastD 1 ≠ 0)) : Calls Tryz.prog 44 #[v] w fun e w' => e = .returned (.bool b) ∧ w = w' := by
  obtain ⟨A, c, rfl, _, _, ha⟩ := ns_cases h
  rcases Nat.eq_zero_or_pos l.length with h0 | h0
  · obtain rfl : l = [] := List.eq_nil_of_length_eq_zero h0
    obtain rfl : b = true := by rw [hb]; rfl
    clear hb ha h hd
    rw [show ([] : List Nat).length = 0 from rfl]
    go_enter Tryz.func44, Tryz.ntmps44
    go_wp2_with fail
    go_ret
    exact ⟨rfl, rfl⟩
  · obtain ⟨k, hk⟩ : ∃ k, l.length = k + 1 := ⟨l.length - 1, by omega⟩
    rw [last_dg hk] at hb
    obtain ⟨b', o, rfl, _, hc⟩ := ha h0
    have hc := hc k (by omega)
    have ww := dg_lt hd k
    unfold B at ww
    rw [hk] at hl ⊢
    have q1 : (((k + 1 : Nat) : Int) == 0) = false := beq_eq_false_iff_ne.2 (by omega)
    have q2 : (((k : Nat) : Int) + 1 == 0) = false := beq_eq_false_iff_ne.2 (by omega)
    have q3 : (!(((dg l k : Nat) : Int) == 0)) = b := by
      rw [hb]
      by_cases e : dg l k = 0
      · rw [e]; rfl
      · rw [beq_eq_false_iff_ne.2 (show ((dg l k : Nat) : Int) ≠ 0 by omega), decide_eq_true e]; rfl
    have hk1 : (0 : Int) ≤ (k : Int) := by omega
    have hk2 : (k : Int) < ((k + 1 : Nat) : Int) := by omega
    clear hb ha h hd h0 hk ww
    generalize dg l k = d at *
    go_enter Tryz.func44, Tryz.ntmps44
    go_wp2_with fail
    go_ret
    exact ⟨congrArg (fun b => Ending.returned (.bool b)) q3, rfl⟩
def signI (b : Bool) (n : Nat) : Int := if b then -1 else if n = 0 then 0 else 1
theorem rsign_any (b : Bool) (A1 : Option Addr) (c1 n' : Nat) (v2 : Value) (w : World) : Calls Tryz.prog 23 #[.agg #[.bool b, .slice A1 n' c1, v2]] w fun e w' => e = .returned (.int .i64 (signI b n')) ∧ Below w.heap.size w w' := by
  have B1 : Hid (Below w.heap.size w (w.alloc (.cells #[.bool b, .slice A1 n' c1, v2] 47))) := below_new w _
  cases b
  · by_cases h : n' = 0
    · subst h
      go_enter Tryz.func23, Tryz.ntmps23
      go_wp2_with fail
      go_ret
      exact ⟨rfl, B1.out⟩
    · have q : ((n' : Int) == 0) = false := beq_eq_false_iff_ne.2 (by omega)
      have HS : Hid (signI false n' = 1) := by show _ = _; unfold signI; rw [if_neg (by simp), if_neg h]
      rw [HS.out]
      clear h
      go_enter Tryz.func23, Tryz.ntmps23
      go_wp2_with fail
      go_ret
      exact ⟨rfl, B1.out⟩
  · rw [show signI true n' = -1 from rfl]
    go_enter Tryz.func23, Tryz.ntmps23
    go_wp2_with fail
    go_ret
    exact ⟨rfl, B1.out⟩
end Fr
end Go.Proofs.YthehchdonmmpaaaGreatDoor
