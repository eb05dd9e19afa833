/- Plain: what Scan of the catalog computes, and that it is what the reference's Tokens computes. Contract of the catalog's element. -/
import Derived.Test.YtjjlhihocllgjaaGreatDoorPz06
import Derived.Test.YtjjlhihocllgjaaGreatDoorPz03
import Derived.Test.YtjjlhihocllgjaaGreatDoorPz08
namespace Go.Proofs.YtjjlhihocllgjaaGreatDoor
open Go.ChangeShapes Go.WideShapes Go.ChangeAt Go.RowKit
set_option linter.unusedVariables false
set_option linter.unusedSimpArgs false
namespace Cat
open Lex
structure St where
  L : List Tok
  e : Int
  b : Nat → Int
def findK (l : List Prod) (name : ByteArray) : Nat := (findP l name).getD 0
def elem2 (l : List Prod) (name : ByteArray) (b : Nat → Int) : Int := if findP l name = none then 6 else if b (findK l name) ≠ 0 then 7 else 0
def amt5 (L : List Tok) (e : Int) : Int := if amtV L e 4 = 0 then failE (amtE L e 4) 4 else amtE L e 4
/-- an element's rest, behind its name -/
noncomputable def elemR (L : List Tok) (e : Int) (k : Nat) (b : Nat → Int) : St :=
  ⟨amtL (expL L e ⟨#[58]⟩) (expE L e ⟨#[58]⟩) 4, amt5 (expL L e ⟨#[58]⟩) (expE L e ⟨#[58]⟩), upd b k (amtV (expL L e ⟨#[58]⟩) (expE L e ⟨#[58]⟩) 4)⟩
noncomputable def elemF (l : List Prod) (s : St) : St :=
  if nameE s.L s.e ≠ 0 then ⟨nameL s.L s.e, nameE s.L s.e, s.b⟩
  else elemR (nameL s.L s.e) (elem2 l (nameT s.L s.e) s.b) (findK l (nameT s.L s.e)) s.b
instance (L : List Tok) (e : Int) (m : ByteArray) : Decidable (accB L e m) := inferInstanceAs (Decidable (_ ∧ _))
noncomputable def loopF (l : List Prod) : Nat → St → St
  | 0, s => s
  | f + 1, s => if accB s.L s.e ⟨#[44]⟩ then loopF l f (elemF l ⟨nextL s.L s.e, s.e, s.b⟩) else s
noncomputable def endF (s : St) : St := ⟨expL s.L s.e ⟨#[125]⟩, expE s.L s.e ⟨#[125]⟩, if expE s.L s.e ⟨#[125]⟩ = 0 then s.b else zero6⟩
noncomputable def scanF (l : List Prod) (L : List Tok) (e : Int) : St :=
  if e ≠ 0 then ⟨L, e, zero6⟩
  else if checkE l ≠ 0 then ⟨L, checkE l, zero6⟩
  else if accB (expL L e ⟨#[123]⟩) (expE L e ⟨#[123]⟩) ⟨#[125]⟩ then ⟨nextL (expL L e ⟨#[123]⟩) (expE L e ⟨#[123]⟩), expE L e ⟨#[123]⟩, zero6⟩
  else endF (loopF l (L.length + 1) (elemF l ⟨expL L e ⟨#[123]⟩, expE L e ⟨#[123]⟩, zero6⟩))
/-- what the reference's Tokens computes from the elements on: the bundle, what is left, and how many tokens are behind it -/
def isM (t : Tok) (m : ByteArray) : Bool := t.kind == 3 && eqB t.text m
def refGo (l : List Prod) : List Tok → (Nat → Int) → Nat → Except Int ((Nat → Int) × List Tok × Nat)
  | [], _, _ => .error 1
  | t :: R, b, at_ =>
    if t.kind ≠ 1 then .error 2
    else if findP l t.text = none then .error 6
    else if b (findK l t.text) ≠ 0 then .error 7
    else match R with
      | [] => .error 1
      | t1 :: R1 => if isM t1 ⟨#[58]⟩ = false then .error 2 else match R1 with
        | [] => .error 1
        | t2 :: R2 => if t2.kind ≠ 2 then .error 2 else if ¬ (1 ≤ t2.value ∧ t2.value ≤ 4) then .error 4 else match R2 with
          | [] => .error 1
          | t3 :: R3 => if isM t3 ⟨#[125]⟩ then .ok (upd b (findK l t.text) t2.value, R3, at_ + 4)
            else if isM t3 ⟨#[44]⟩ then refGo l R3 (upd b (findK l t.text) t2.value) (at_ + 4) else .error 2
def refF (l : List Prod) : List Tok → Except Int ((Nat → Int) × List Tok × Nat)
  | [] => .error 1
  | t :: R => if isM t ⟨#[123]⟩ = false then .error 2 else match R with
    | [] => refGo l [] zero6 1
    | t1 :: R1 => if isM t1 ⟨#[125]⟩ then .ok (zero6, R1, 2) else refGo l (t1 :: R1) zero6 1
def toSt (L : List Tok) : Except Int ((Nat → Int) × List Tok × Nat) → Int × (Nat → Int)
  | .error x => (x, zero6)
  | .ok (b, _, _) => (0, b)
/-- once there is an error, nothing more happens -/
theorem err_name {L : List Tok} {e : Int} (h : e ≠ 0) : nameE L e = e := by
  unfold nameE peekT wrongE failE
  simp [h, Tok.none]
theorem err_acc {L : List Tok} {e : Int} (h : e ≠ 0) (m : ByteArray) : ¬ accB L e m := by
  unfold accB peekT
  simp [h, Tok.none]
theorem err_exp {L : List Tok} {e : Int} (h : e ≠ 0) (m : ByteArray) : expE L e m = e ∧ expL L e m = L := by
  unfold expE expL
  rw [if_neg (err_acc h m), if_neg (err_acc h m)]
  unfold wrongE failE
  simp [h]
theorem err_amt {L : List Tok} {e : Int} (h : e ≠ 0) : amt5 L e = e := by
  unfold amt5 amtE amtV peekT wrongE failE
  simp [h, Tok.none]
theorem elemF_err {l : List Prod} {s : St} (h : s.e ≠ 0) : (elemF l s).e = s.e := by
  unfold elemF
  rw [if_pos (by rw [err_name h]; exact h)]
  exact err_name h
theorem loopF_err {l : List Prod} {s : St} (h : s.e ≠ 0) (f : Nat) : loopF l f s = s := by
  cases f with
  | zero => rfl
  | succ f => unfold loopF; rw [if_neg (err_acc h _)]
theorem endF_err {s : St} (h : s.e ≠ 0) : (endF s).e = s.e ∧ (endF s).b = zero6 := by
  unfold endF
  dsimp only
  rw [(err_exp h _).1, if_neg h]
  exact ⟨rfl, rfl⟩
theorem elemR_err {L : List Tok} {e : Int} {k : Nat} {b : Nat → Int} (h : e ≠ 0) : (elemR L e k b).e = e := by
  unfold elemR
  dsimp only
  rw [(err_exp h _).1]
  exact err_amt h
/-- the heads of a list without an error -/
theorem accB_cons (t : Tok) (L : List Tok) (m : ByteArray) : accB (t :: L) 0 m ↔ isM t m = true := by
  unfold accB isM peekT
  simp [eqB_iff]
theorem accB_nil (m : ByteArray) : ¬ accB [] 0 m := by
  unfold accB peekT
  simp [Tok.none]
theorem exp_yes {t : Tok} {L : List Tok} {m : ByteArray} (h : isM t m = true) : expL (t :: L) 0 m = L ∧ expE (t :: L) 0 m = 0 := by
  unfold expL expE
  rw [if_pos ((accB_cons t L m).2 h), if_pos ((accB_cons t L m).2 h)]
  exact ⟨rfl, rfl⟩
theorem exp_no {t : Tok} {L : List Tok} {m : ByteArray} (h : isM t m = false) : expE (t :: L) 0 m = 2 := by
  unfold expE
  rw [if_neg (fun k => by rw [(accB_cons t L m).1 k] at h; cases h)]
  rfl
theorem exp_nil (m : ByteArray) : expE [] 0 m = 1 := by
  unfold expE
  rw [if_neg (accB_nil m)]
  rfl
/-- an element that does not fail, and one that does -/
theorem elemF_cons {l : List Prod} {t : Tok} {R : List Tok} {b : Nat → Int} (h : t.kind = 1) : elemF l ⟨t :: R, 0, b⟩ = elemR R (elem2 l t.text b) (findK l t.text) b := by
  have h1 : nameE (t :: R) 0 = 0 := by unfold nameE peekT; simp [h]
  have h2 : nameL (t :: R) 0 = R := by unfold nameL peekT nextL; simp [h]
  have h3 : nameT (t :: R) 0 = t.text := by unfold nameT peekT; simp [h]
  unfold elemF
  dsimp only
  rw [if_neg (by simp [h1]), h2, h3]
theorem elemF_nil {l : List Prod} {b : Nat → Int} : (elemF l ⟨[], 0, b⟩).e = 1 := by
  have h1 : nameE [] 0 = 1 := by unfold nameE peekT wrongE failE; simp [Tok.none]
  unfold elemF
  dsimp only
  rw [if_pos (by rw [h1]; decide)]
  exact h1
theorem elemF_bad {l : List Prod} {t : Tok} {R : List Tok} {b : Nat → Int} (h : t.kind ≠ 1) : (elemF l ⟨t :: R, 0, b⟩).e = 2 := by
  have h1 : nameE (t :: R) 0 = 2 := by unfold nameE peekT wrongE failE; simp [h]
  unfold elemF
  dsimp only
  rw [if_pos (by rw [h1]; decide)]
  exact h1
theorem elemR_colon {t1 : Tok} {R : List Tok} {k : Nat} {b : Nat → Int} (h : isM t1 ⟨#[58]⟩ = true) : elemR (t1 :: R) 0 k b = ⟨amtL R 0 4, amt5 R 0, upd b k (amtV R 0 4)⟩ := by
  unfold elemR
  rw [(exp_yes h).1, (exp_yes h).2]
theorem amt_good {t2 : Tok} {R : List Tok} (h : t2.kind = 2) (h1 : 1 ≤ t2.value) (h4 : t2.value ≤ 4) : amtL (t2 :: R) 0 4 = R ∧ amt5 (t2 :: R) 0 = 0 ∧ amtV (t2 :: R) 0 4 = t2.value := by
  have e : amtV (t2 :: R) 0 4 = t2.value := by unfold amtV peekT; simp [h, h4, show 0 ≤ t2.value by omega]
  refine ⟨by unfold amtL peekT nextL; simp [h, h4, show 0 ≤ t2.value by omega], ?_, e⟩
  unfold amt5
  rw [e, if_neg (by omega)]
  unfold amtE peekT
  simp [h, h4, show 0 ≤ t2.value by omega]
theorem amt_range {t2 : Tok} {R : List Tok} (h : t2.kind = 2) (h1 : ¬ (1 ≤ t2.value ∧ t2.value ≤ 4)) : amt5 (t2 :: R) 0 = 4 := by
  by_cases h0 : 0 ≤ t2.value ∧ t2.value ≤ 4
  · have e0 : t2.value = 0 := by omega
    unfold amt5 amtV amtE peekT failE
    simp [h, e0]
  · unfold amt5 amtV amtE peekT failE
    simp [h, h0]
theorem amt_kind {t2 : Tok} {R : List Tok} (h : t2.kind ≠ 2) : amt5 (t2 :: R) 0 = 2 := by
  unfold amt5 amtV amtE peekT wrongE failE
  simp [h]
theorem amt_nil : amt5 [] 0 = 1 := by
  unfold amt5 amtV amtE peekT wrongE failE
  simp [Tok.none]
/-- the loop and the end behind an element -/
noncomputable def restF (l : List Prod) (f : Nat) (s : St) : St := endF (loopF l f (elemF l s))
theorem restF_err {l : List Prod} {f : Nat} {s : St} {x : Int} (h : (elemF l s).e = x) (hx : x ≠ 0) : (restF l f s).e = x ∧ (restF l f s).b = zero6 := by
  have h0 : (elemF l s).e ≠ 0 := by rw [h]; exact hx
  unfold restF
  rw [loopF_err h0, (endF_err h0).1, (endF_err h0).2]
  exact ⟨h, rfl⟩
theorem rest_go (l : List Prod) : ∀ (n f : Nat) (R : List Tok) (b : Nat → Int) (a : Nat), R.length ≤ n → R.length ≤ f →
    match refGo l R b a with
    | .error x => x ≠ 0 ∧ (restF l f ⟨R, 0, b⟩).e = x ∧ (restF l f ⟨R, 0, b⟩).b = zero6
    | .ok (b', R', _) => restF l f ⟨R, 0, b⟩ = ⟨R', 0, b'⟩
  | n, f, [], b, a, _, _ => by
    unfold refGo
    exact ⟨by decide, restF_err elemF_nil (by decide)⟩
  | n, f, t :: R, b, a, hn, hf => by
    unfold refGo
    by_cases hk : t.kind = 1
    · rw [if_neg (by simp [hk])]
      by_cases hf1 : findP l t.text = none
      · rw [if_pos hf1]
        have h2 : elem2 l t.text b = 6 := by unfold elem2; rw [if_pos hf1]
        refine ⟨by decide, restF_err ?_ (by decide)⟩
        rw [elemF_cons hk, elemR_err (by rw [h2]; decide), h2]
      · rw [if_neg hf1]
        by_cases hb : b (findK l t.text) = 0
        · rw [if_neg (by simp [hb])]
          have h2 : elem2 l t.text b = 0 := by unfold elem2; rw [if_neg hf1, if_neg (by simp [hb])]
          have hE : elemF l ⟨t :: R, 0, b⟩ = elemR R 0 (findK l t.text) b := by rw [elemF_cons hk, h2]
          match R, hn, hf with
          | [], _, _ =>
            refine ⟨by decide, restF_err ?_ (by decide)⟩
            rw [hE]
            unfold elemR
            dsimp only
            rw [exp_nil]
            exact err_amt (by decide)
          | t1 :: R1, hn, hf =>
            dsimp only
            cases hc : isM t1 ⟨#[58]⟩ with
            | false =>
              rw [if_pos rfl]
              refine ⟨by decide, restF_err ?_ (by decide)⟩
              rw [hE]
              unfold elemR
              dsimp only
              rw [exp_no hc]
              exact err_amt (by decide)
            | true =>
              rw [if_neg (by simp)]
              rw [elemR_colon hc] at hE
              match R1, hn, hf with
              | [], _, _ =>
                refine ⟨by decide, restF_err ?_ (by decide)⟩
                rw [hE]
                exact amt_nil
              | t2 :: R2, hn, hf =>
                dsimp only
                by_cases h2k : t2.kind = 2
                · rw [if_neg (by simp [h2k])]
                  by_cases hv : 1 ≤ t2.value ∧ t2.value ≤ 4
                  · rw [if_neg (by simp [hv])]
                    obtain ⟨g1, g2, g3⟩ := amt_good (R := R2) h2k hv.1 hv.2
                    rw [g1, g2, g3] at hE
                    match R2, hn, hf with
                    | [], _, _ =>
                      refine ⟨by decide, ?_⟩
                      unfold restF
                      have hl : ∀ f, loopF l f ⟨[], 0, upd b (findK l t.text) t2.value⟩ = ⟨[], 0, upd b (findK l t.text) t2.value⟩ := by
                        intro f
                        cases f with
                        | zero => rfl
                        | succ f => unfold loopF; rw [if_neg (accB_nil _)]
                      rw [hE, hl]
                      unfold endF
                      dsimp only
                      rw [exp_nil]
                      exact ⟨rfl, rfl⟩
                    | t3 :: R3, hn, hf =>
                      dsimp only
                      obtain ⟨f', rfl⟩ : ∃ f', f = f' + 1 := ⟨f - 1, by simp at hf; omega⟩
                      cases hcm : isM t3 ⟨#[44]⟩ with
                      | true =>
                        have hcb : isM t3 ⟨#[125]⟩ = false := by
                          unfold isM at hcm ⊢
                          simp only [Bool.and_eq_true, eqB_iff] at hcm
                          rw [hcm.2]
                          simp [show eqB (⟨#[44]⟩ : ByteArray) ⟨#[125]⟩ = false by decide +kernel]
                        rw [if_neg (by simp [hcb]), if_pos rfl]
                        have hl : restF l (f' + 1) ⟨t :: t1 :: t2 :: t3 :: R3, 0, b⟩ = restF l f' ⟨R3, 0, upd b (findK l t.text) t2.value⟩ := by
                          unfold restF
                          rw [hE]
                          conv => lhs; unfold loopF
                          rw [if_pos ((accB_cons _ _ _).2 hcm)]
                          rfl
                        rw [hl]
                        simp at hn hf
                        have hn' : n - 1 < n := by omega
                        exact rest_go l (n - 1) f' R3 _ _ (by omega) (by omega)
                      | false =>
                        have hl : loopF l (f' + 1) ⟨t3 :: R3, 0, upd b (findK l t.text) t2.value⟩ = ⟨t3 :: R3, 0, upd b (findK l t.text) t2.value⟩ := by
                          unfold loopF
                          rw [if_neg (fun k => by rw [(accB_cons _ _ _).1 k] at hcm; cases hcm)]
                        cases hcb : isM t3 ⟨#[125]⟩ with
                        | true =>
                          rw [if_pos rfl]
                          dsimp only
                          unfold restF
                          rw [hE, hl]
                          unfold endF
                          dsimp only
                          rw [(exp_yes hcb).1, (exp_yes hcb).2, if_pos rfl]
                        | false =>
                          rw [if_neg (by simp), if_neg (by simp)]
                          refine ⟨by decide, ?_⟩
                          unfold restF
                          rw [hE, hl]
                          unfold endF
                          dsimp only
                          rw [exp_no hcb]
                          exact ⟨rfl, rfl⟩
                  · rw [if_pos hv]
                    refine ⟨by decide, restF_err ?_ (by decide)⟩
                    rw [hE]
                    exact amt_range h2k hv
                · rw [if_pos h2k]
                  refine ⟨by decide, restF_err ?_ (by decide)⟩
                  rw [hE]
                  exact amt_kind h2k
        · rw [if_pos hb]
          have h2 : elem2 l t.text b = 7 := by unfold elem2; rw [if_neg hf1, if_pos hb]
          refine ⟨by decide, restF_err ?_ (by decide)⟩
          rw [elemF_cons hk, elemR_err (by rw [h2]; decide), h2]
    · rw [if_pos hk]
      exact ⟨by decide, restF_err (elemF_bad hk) (by decide)⟩
termination_by n => n
/-- Scan is the reference's Tokens -/
theorem scan_ref (l : List Prod) (L : List Tok) (h : checkE l = 0) :
    match refF l L with
    | .error x => x ≠ 0 ∧ (scanF l L 0).e = x ∧ (scanF l L 0).b = zero6
    | .ok (b', R', _) => scanF l L 0 = ⟨R', 0, b'⟩ := by
  have hs : scanF l L 0 = if accB (expL L 0 ⟨#[123]⟩) (expE L 0 ⟨#[123]⟩) ⟨#[125]⟩ then ⟨nextL (expL L 0 ⟨#[123]⟩) (expE L 0 ⟨#[123]⟩), expE L 0 ⟨#[123]⟩, zero6⟩
      else restF l (L.length + 1) ⟨expL L 0 ⟨#[123]⟩, expE L 0 ⟨#[123]⟩, zero6⟩ := by
    unfold scanF restF
    rw [if_neg (by simp), if_neg (by simp [h])]
  rw [hs]
  clear hs
  cases L with
  | nil =>
    unfold refF
    rw [exp_nil, if_neg (err_acc (by decide) _)]
    exact ⟨by decide, restF_err (elemF_err (by simp)) (by decide)⟩
  | cons t R =>
    unfold refF
    dsimp only
    cases hc : isM t ⟨#[123]⟩ with
    | false =>
      rw [if_pos rfl, exp_no hc, if_neg (err_acc (by decide) _)]
      exact ⟨by decide, restF_err (elemF_err (by simp)) (by decide)⟩
    | true =>
      rw [if_neg (by simp), (exp_yes hc).1, (exp_yes hc).2]
      cases R with
      | nil =>
        rw [if_neg (accB_nil _)]
        exact rest_go l 0 _ [] zero6 1 (by simp) (by simp)
      | cons t1 R1 =>
        cases hcb : isM t1 ⟨#[125]⟩ with
        | true =>
          rw [if_pos ((accB_cons _ _ _).2 hcb)]
          dsimp only
          rw [hcb, if_pos rfl]
          rfl
        | false =>
          rw [if_neg (fun k => by rw [(accB_cons _ _ _).1 k] at hcb; cases hcb)]
          dsimp only
          rw [hcb, if_neg (by simp)]
          exact rest_go l _ _ (t1 :: R1) zero6 1 (Nat.le_refl _) (by simp)
end Cat
end Go.Proofs.YtjjlhihocllgjaaGreatDoor
namespace Go.Proofs.YtjjlhihocllgjaaGreatDoor
open Go.ChangeShapes Go.WideShapes Go.ChangeAt Go.RowKit
set_option linter.unusedVariables false
set_option linter.unusedSimpArgs false
open Cat (arr arr_set)
theorem Blk.box {w : World} {b : Nat} {T : TypeId} {p : Nat → Int} (h : Blk w b T (arr p)) : Cat.Box w b p := ⟨T, h⟩
theorem Lex.Scan.put_far {ts te tb : TypeId} {w : World} {g x : Nat} {L : List Lex.Tok} {e : Int} {cs : Array Value} (h : Lex.Scan ts te w g L e) (hb : Blk w x tb cs) (h1 : tb ≠ ts) (h2 : tb ≠ te) (k : Nat) (v : Value) : Lex.Scan ts te (w.setCell ⟨x, k, none⟩ v) g L e :=
  h.other ((Only.refl x w).put k v) hb h1 h2
/-- six stores into a block -/
abbrev put6 (w : World) (x : Nat) (q : Nat → Int) : World := (((((w.setCell ⟨x, 0, none⟩ (.int .i64 (q 0))).setCell ⟨x, 1, none⟩ (.int .i64 (q 1))).setCell ⟨x, 2, none⟩ (.int .i64 (q 2))).setCell ⟨x, 3, none⟩ (.int .i64 (q 3))).setCell ⟨x, 4, none⟩ (.int .i64 (q 4))).setCell ⟨x, 5, none⟩ (.int .i64 (q 5))
theorem Lex.Scan.six {ts te tb : TypeId} {w : World} {g x : Nat} {L : List Lex.Tok} {e : Int} {cs : Array Value} (h : Lex.Scan ts te w g L e) (hb : Blk w x tb cs) (h1 : tb ≠ ts) (h2 : tb ≠ te) (q : Nat → Int) : Lex.Scan ts te (put6 w x q) g L e :=
  (((((h.put_far hb h1 h2 0 _).put_far (hb.put 0 _) h1 h2 1 _).put_far ((hb.put 0 _).put 1 _) h1 h2 2 _).put_far (((hb.put 0 _).put 1 _).put 2 _) h1 h2 3 _).put_far ((((hb.put 0 _).put 1 _).put 2 _).put 3 _) h1 h2 4 _).put_far (((((hb.put 0 _).put 1 _).put 2 _).put 3 _).put 4 _) h1 h2 5 _
theorem Only.six {w wx : World} {g x : Nat} (h : Only g w wx) (hx : w.heap.size ≤ x) (q : Nat → Int) : Only g w (put6 wx x q) :=
  (((((h.put_new (p := ⟨x, 0, none⟩) hx _).put_new (p := ⟨x, 1, none⟩) hx _).put_new (p := ⟨x, 2, none⟩) hx _).put_new (p := ⟨x, 3, none⟩) hx _).put_new (p := ⟨x, 4, none⟩) hx _).put_new (p := ⟨x, 5, none⟩) hx _
theorem Blk.put6_ {w : World} {b x : Nat} {T : TypeId} {cs : Array Value} (h : Blk w b T cs) (hne : b ≠ x) (q : Nat → Int) : Blk (put6 w x q) b T cs :=
  (((((h.far hne _).far hne _).far hne _).far hne _).far hne _).far hne _
theorem Blk.put6s {w : World} {x : Nat} {T : TypeId} {p : Nat → Int} (h : Blk w x T (arr p)) (q : Nat → Int) : Blk (put6 w x q) x T (arr q) :=
  (((((h.put 0 _).put 1 _).put 2 _).put 3 _).put 4 _).put 5 _
theorem Blk.upd {w : World} {b : Nat} {T : TypeId} {p : Nat → Int} (h : Blk w b T (arr p)) (k : Nat) (hk : k < 6) (x : Int) : Blk (w.setCell ⟨b, k, none⟩ (.int .i64 x)) b T (arr (Cat.upd p k x)) := by
  have := h.put k (.int .i64 x)
  rw [arr_set p k hk] at this
  exact this
namespace Cat
open Lex
theorem Box.only {w w1 : World} {b g : Nat} {p : Nat → Int} (h : Box w b p) (o : Only g w w1) (hne : b ≠ g) : Box w1 b p := by
  obtain ⟨T, k⟩ := h.blk
  exact ⟨T, (o.block b h.lt hne).trans k⟩
theorem only_cell {g : Nat} {w w1 : World} (o : Only g w w1) {a : Addr} (hlt : a.block < w.heap.size) (hne : a.block ≠ g) : w1.cell? a = w.cell? a := World.cell?_of_block (o.block a.block hlt hne)
theorem ProdRow.only {w w' : World} {b o g : Nat} {l : List Prod} (h : ProdRow w b o l) (hb : b < w.heap.size) (hB : Only g w w') (hne : b ≠ g) : ProdRow w' b o l := fun j u hu => by
  rw [only_cell hB (a := ⟨b, o + j, none⟩) hb hne]
  exact h j u hu
theorem nextL_len (L : List Tok) (e : Int) : (nextL L e).length ≤ L.length := by unfold nextL; split <;> simp
theorem nameL_len (L : List Tok) (e : Int) : (nameL L e).length ≤ L.length := by
  unfold nameL
  split
  · exact nextL_len L e
  · exact Nat.le_refl _
theorem expL_len (L : List Tok) (e : Int) (m : ByteArray) : (expL L e m).length ≤ L.length := by
  unfold expL
  split
  · exact nextL_len L e
  · exact Nat.le_refl _
theorem amtL_len (L : List Tok) (e k : Int) : (amtL L e k).length ≤ L.length := by
  unfold amtL
  split
  · exact nextL_len L e
  · exact Nat.le_refl _
theorem elemF_len (l : List Prod) (s : St) : (elemF l s).L.length ≤ s.L.length := by
  unfold elemF
  split
  · exact nameL_len _ _
  · unfold elemR
    exact Nat.le_trans (amtL_len _ _ _) (Nat.le_trans (expL_len _ _ _) (nameL_len _ _))
theorem small_len {n : Nat} (h : n ≤ 5000) : n ≤ maxLen := by unfold maxLen; omega
theorem Box.upd {w : World} {b : Nat} {p : Nat → Int} (h : Box w b p) (k : Nat) (hk : k < 6) (x : Int) : Box (w.setCell ⟨b, k, none⟩ (.int .i64 x)) b (upd p k x) := h.set k hk x
/-- the scanner's block, the two blocks of the call's own -/
structure EMid (ts te tb : TypeId) (w wx : World) (g : Nat) (L : List Tok) (e : Int) (b : Nat → Int) : Prop where
  scan : Scan ts te wx g L e
  box : Blk wx w.heap.size tb (arr b)
  res : Blk wx (w.heap.size + 1) tb (arr zero6)
  only : Only g w wx
section
variable {ts te tb : TypeId} {w wx wy : World} {g : Nat} {L L' : List Tok} {e e' : Int} {b : Nat → Int}
theorem emid_new (h : Scan ts te w g L e) (b : Nat → Int) (tb : TypeId) : EMid ts te tb w ((w.alloc (.cells (arr b) tb)).alloc (.cells (arr zero6) tb)) g L e b := by
  refine ⟨(h.below (below_new w _)).below (below_new _ _), (Blk.new w tb _).alloc _, ?_, ((Only.refl g w).alloc _).alloc _⟩
  have := Blk.new (w.alloc (.cells (arr b) tb)) tb (arr zero6)
  simpa only [World.size_alloc] using this
theorem EMid.step (h : EMid ts te tb w wx g L e b) (hg : g < w.heap.size) (s : Scan ts te wy g L' e') (o : Only g wx wy) : EMid ts te tb w wy g L' e' b :=
  ⟨s, h.box.only o (by omega), h.res.only o (by omega), h.only.trans o⟩
theorem EMid.below (h : EMid ts te tb w wx g L e b) (o : Below wx.heap.size wx wy) : EMid ts te tb w wy g L e b :=
  ⟨h.scan.below o, h.box.below o h.box.lt, h.res.below o h.res.lt, h.only.then_below o⟩
theorem EMid.upd (h : EMid ts te tb w wx g L e b) (h1 : tb ≠ ts) (h2 : tb ≠ te) (k : Nat) (hk : k < 6) (x : Int) : EMid ts te tb w (wx.setCell ⟨w.heap.size, k, none⟩ (.int .i64 x)) g L e (upd b k x) :=
  ⟨h.scan.put_far h.box h1 h2 k _, h.box.upd k hk x, h.res.far (by show w.heap.size + 1 ≠ w.heap.size; omega) _, h.only.put_new (p := ⟨w.heap.size, k, none⟩) (Nat.le_refl _) _⟩
theorem EMid.done (h : EMid ts te tb w wx g L e b) (h1 : tb ≠ ts) (h2 : tb ≠ te) (q : Nat → Int) : Scan ts te (put6 wx (w.heap.size + 1) q) g L e ∧ Only g w (put6 wx (w.heap.size + 1) q) :=
  ⟨h.scan.six h.res h1 h2 q, h.only.six (by omega) q⟩
end
abbrev ElemPost (s : St) (g : Nat) (w : World) : Ending → World → Prop := fun r w' => r = .returned (.agg (arr s.b)) ∧ Scan 113 109 w' g s.L s.e ∧ Only g w w'
set_option maxRecDepth 100000 in
set_option maxHeartbeats 1000000 in
theorem element_err (l : List Prod) (b1 o1 c : Nat) (L : List Tok) (e : Int) (b : Nat → Int) (g : Nat) (w : World) (hs : Scan 113 109 w g L e) (hm : L.length ≤ 5000) (he : nameE L e ≠ 0) :
    Calls Tryz.prog 153 #[.slice (some ⟨b1, o1, none⟩) l.length c, .pointer (some ⟨g, 0, none⟩), .agg (arr b)] w (ElemPost ⟨nameL L e, nameE L e, b⟩ g w) := by
  have hg := hs.lt
  have E0 := Lib.hid (emid_new hs b 25)
  have CN := Lib.hid (fun w' (h : Scan 113 109 w' g L e) => name_any L e g w' h (small_len hm))
  have CE := Lib.hid err_any
  have q1 : (nameE L e != 0) = true := by simpa using he
  have hz : Hid (zero6 0 = 0 ∧ zero6 1 = 0 ∧ zero6 2 = 0 ∧ zero6 3 = 0 ∧ zero6 4 = 0 ∧ zero6 5 = 0) := ⟨rfl, rfl, rfl, rfl, rfl, rfl⟩
  clear hs he
  go_enter Tryz.func153, Tryz.ntmps153
  go_wp2_with fail
  refine (CN.out _ E0.out.scan).mono ?_
  rintro r w1 ⟨rfl, s1, o1⟩
  have E1 := Lib.hid (E0.out.step hg s1 o1)
  clear s1 o1
  go_wp2_with fail
  refine (CE.out _ _ _ _ E1.out.scan).mono ?_
  rintro r w2 ⟨rfl, rfl⟩
  obtain ⟨Q0, Q1, Q2, Q3, Q4, Q5⟩ := E1.out.box.box.cells
  obtain ⟨Z0, Z1, Z2, Z3, Z4, Z5⟩ := E1.out.res.box.cells
  have zf := E1.out.res.box.free
  go_wp2_with fail
  have RE := res_end E1.out.res.box b
  obtain ⟨X0, X1, X2, X3, X4, X5⟩ := RE.cells
  refine bodyPost_ret (v := .agg (arr b)) (by simp [results, Tryz.results153, go_sem, arr, X0, X1, X2, X3, X4, X5]) rfl ⟨rfl, E1.out.done (by decide) (by decide) b⟩
/- from here on printed by gen_catL.py -/
set_option maxRecDepth 100000 in
set_option maxHeartbeats 2000000 in
theorem element_none (l : List Prod) (b1 o1 c : Nat) (L : List Tok) (e : Int) (b : Nat → Int) (g : Nat) (w : World) (h6 : l.length ≤ 6) (h0 : 0 < l.length) (h1 : ProdRow w b1 o1 l) (hne : b1 ≠ g) (hs : Scan 113 109 w g L e) (hm : L.length ≤ 5000) (he : nameE L e = 0) (hf : findP l (nameT L e) = none) :
    Calls Tryz.prog 153 #[.slice (some ⟨b1, o1, none⟩) l.length c, .pointer (some ⟨g, 0, none⟩), .agg (arr b)] w (ElemPost (elemR (nameL L e) 6 (findK l (nameT L e)) b) g w) := by
  have hg := hs.lt
  have hb1 : b1 < w.heap.size := block_lt_of_cell (h1.at_ 0 h0).1
  have HR := Lib.hid fun w' => h1.only (w' := w') (g := g) hb1
  have E0 := Lib.hid (emid_new hs b 25)
  have hL1 := nameL_len L e
  have hL2 := expL_len (nameL L e) 6 ⟨#[58]⟩
  have CN := Lib.hid (fun w' (h : Scan 113 109 w' g L e) => name_any L e g w' h (small_len hm))
  have CE := Lib.hid err_any
  have CF := Lib.hid (fun w' (h : Only g w w') => find_some l b1 o1 c (nameT L e) w' (by omega) (HR.out w' h hne) h0)
  have CX := Lib.hid (fun w' (h : Scan 113 109 w' g (nameL L e) 6) => expect_any (nameL L e) 6 g ⟨#[58]⟩ w' h (small_len (by omega)))
  have CA := Lib.hid (fun w' (h : Scan 113 109 w' g (expL (nameL L e) 6 ⟨#[58]⟩) (expE (nameL L e) 6 ⟨#[58]⟩)) => amount_any _ _ 4 g w' h (small_len (by omega)))
  have CL := Lib.hid fail_any
  have q1 : (nameE L e != 0) = false := by simpa using he
  have hfi : Hid (findI l (nameT L e) = ((findK l (nameT L e) : Nat) : Int)) := rfl
  have hok : Hid (findOk l (nameT L e) = false) := by show (findP _ _).isSome = false; rw [hf]; rfl
  have hk6 : findK l (nameT L e) < 6 := by unfold findK; rw [hf]; decide
  clear hf
  have HD : Hid (elemR (nameL L e) 6 (findK l (nameT L e)) b = ⟨amtL (expL (nameL L e) 6 ⟨#[58]⟩) (expE (nameL L e) 6 ⟨#[58]⟩) 4, amt5 (expL (nameL L e) 6 ⟨#[58]⟩) (expE (nameL L e) 6 ⟨#[58]⟩), upd b (findK l (nameT L e)) (amtV (expL (nameL L e) 6 ⟨#[58]⟩) (expE (nameL L e) 6 ⟨#[58]⟩) 4)⟩) := rfl
  rw [HD.out]
  have H5 : Hid (amt5 (expL (nameL L e) 6 ⟨#[58]⟩) (expE (nameL L e) 6 ⟨#[58]⟩) = if amtV (expL (nameL L e) 6 ⟨#[58]⟩) (expE (nameL L e) 6 ⟨#[58]⟩) 4 = 0 then failE (amtE (expL (nameL L e) 6 ⟨#[58]⟩) (expE (nameL L e) 6 ⟨#[58]⟩) 4) 4 else amtE (expL (nameL L e) 6 ⟨#[58]⟩) (expE (nameL L e) 6 ⟨#[58]⟩) 4) := rfl
  clear HD hL1 hL2
  generalize expE (nameL L e) 6 ⟨#[58]⟩ = ex at *
  generalize expL (nameL L e) 6 ⟨#[58]⟩ = Lx at *
  generalize amtV Lx ex 4 = V at *
  generalize amtE Lx ex 4 = ea at *
  generalize amtL Lx ex 4 = La at *
  have he' := Lib.hid he
  clear hs he h1
  go_enter Tryz.func153, Tryz.ntmps153
  go_wp2_with fail
  refine (CN.out _ E0.out.scan).mono ?_
  rintro r w1 ⟨rfl, s1, o1⟩
  have E1 := Lib.hid (E0.out.step hg s1 o1)
  clear s1 o1
  go_wp2_with fail
  refine (CE.out _ _ _ _ E1.out.scan).mono ?_
  rintro r w2 ⟨rfl, rfl⟩
  go_wp2_with fail
  refine (CF.out _ E1.out.only).mono ?_
  rintro r w2 ⟨rfl, d2⟩
  have E2 := Lib.hid (E1.out.below d2)
  clear d2
  rw [hfi.out, hok.out]
  rw [he'.out] at E2
  go_wp2_with fail
  refine (CL.out _ _ _ _ _ E2.out.scan).mono ?_
  rintro r w3 ⟨rfl, s3, o3⟩
  have E3 := Lib.hid (E2.out.step hg s3 o3)
  clear s3 o3
  go_wp2_with fail
  refine (CX.out _ E3.out.scan).mono ?_
  rintro r w4 ⟨rfl, s4, o4⟩
  have E4 := Lib.hid (E3.out.step hg s4 o4)
  clear s4 o4
  go_wp2_with fail
  refine (CA.out _ E4.out.scan).mono ?_
  rintro r w5 ⟨rfl, s5, o5⟩
  have E5 := Lib.hid (E4.out.step hg s5 o5)
  clear s5 o5

  by_cases hv : V = 0
  · subst hv
    rw [if_pos rfl] at H5
    go_wp2_with fail
    refine (CL.out _ _ _ _ _ E5.out.scan).mono ?_
    rintro r w6 ⟨rfl, s6, o6⟩
    have E6 := Lib.hid (E5.out.step hg s6 o6)
    clear s6 o6
    obtain ⟨Q0, Q1, Q2, Q3, Q4, Q5⟩ := E6.out.box.box.cells
    have qf := E6.out.box.box.free
    have qk := E6.out.box.box.cell (findK l (nameT L e)) hk6
    have EU := Lib.hid (E6.out.upd (by decide) (by decide) (findK l (nameT L e)) hk6 0)
    obtain ⟨U0, U1, U2, U3, U4, U5⟩ := EU.out.box.box.cells
    obtain ⟨Z0, Z1, Z2, Z3, Z4, Z5⟩ := EU.out.res.box.cells
    have zf := EU.out.res.box.free
    go_wp2_with fail
    have RE := res_end EU.out.res.box (upd b (findK l (nameT L e)) 0)
    obtain ⟨X0, X1, X2, X3, X4, X5⟩ := RE.cells

    refine bodyPost_ret (v := .agg (arr (upd b (findK l (nameT L e)) 0))) (by simp [results, Tryz.results153, go_sem, arr, X0, X1, X2, X3, X4, X5]) rfl ⟨rfl, ?_⟩
    rw [H5.out]
    exact EU.out.done (by decide) (by decide) _
  · have q5 : (V == 0) = false := by simpa using hv
    rw [if_neg hv] at H5
    clear hv
    obtain ⟨Q0, Q1, Q2, Q3, Q4, Q5⟩ := E5.out.box.box.cells
    have qf := E5.out.box.box.free
    have qk := E5.out.box.box.cell (findK l (nameT L e)) hk6
    have EU := Lib.hid (E5.out.upd (by decide) (by decide) (findK l (nameT L e)) hk6 V)
    obtain ⟨U0, U1, U2, U3, U4, U5⟩ := EU.out.box.box.cells
    obtain ⟨Z0, Z1, Z2, Z3, Z4, Z5⟩ := EU.out.res.box.cells
    have zf := EU.out.res.box.free
    go_wp2_with fail
    have RE := res_end EU.out.res.box (upd b (findK l (nameT L e)) V)
    obtain ⟨X0, X1, X2, X3, X4, X5⟩ := RE.cells

    refine bodyPost_ret (v := .agg (arr (upd b (findK l (nameT L e)) V))) (by simp [results, Tryz.results153, go_sem, arr, X0, X1, X2, X3, X4, X5]) rfl ⟨rfl, ?_⟩
    rw [H5.out]
    exact EU.out.done (by decide) (by decide) _
set_option maxRecDepth 100000 in
set_option maxHeartbeats 2000000 in
theorem element_twice (l : List Prod) (b1 o1 c : Nat) (L : List Tok) (e : Int) (b : Nat → Int) (g : Nat) (w : World) (h6 : l.length ≤ 6) (h0 : 0 < l.length) (h1 : ProdRow w b1 o1 l) (hne : b1 ≠ g) (hs : Scan 113 109 w g L e) (hm : L.length ≤ 5000) (he : nameE L e = 0) (hf : findP l (nameT L e) ≠ none) (hb : b (findK l (nameT L e)) ≠ 0) :
    Calls Tryz.prog 153 #[.slice (some ⟨b1, o1, none⟩) l.length c, .pointer (some ⟨g, 0, none⟩), .agg (arr b)] w (ElemPost (elemR (nameL L e) 7 (findK l (nameT L e)) b) g w) := by
  have hg := hs.lt
  have hb1 : b1 < w.heap.size := block_lt_of_cell (h1.at_ 0 h0).1
  have HR := Lib.hid fun w' => h1.only (w' := w') (g := g) hb1
  have E0 := Lib.hid (emid_new hs b 25)
  have hL1 := nameL_len L e
  have hL2 := expL_len (nameL L e) 7 ⟨#[58]⟩
  have CN := Lib.hid (fun w' (h : Scan 113 109 w' g L e) => name_any L e g w' h (small_len hm))
  have CE := Lib.hid err_any
  have CF := Lib.hid (fun w' (h : Only g w w') => find_some l b1 o1 c (nameT L e) w' (by omega) (HR.out w' h hne) h0)
  have CX := Lib.hid (fun w' (h : Scan 113 109 w' g (nameL L e) 7) => expect_any (nameL L e) 7 g ⟨#[58]⟩ w' h (small_len (by omega)))
  have CA := Lib.hid (fun w' (h : Scan 113 109 w' g (expL (nameL L e) 7 ⟨#[58]⟩) (expE (nameL L e) 7 ⟨#[58]⟩)) => amount_any _ _ 4 g w' h (small_len (by omega)))
  have CL := Lib.hid fail_any
  have q1 : (nameE L e != 0) = false := by simpa using he
  have hfi : Hid (findI l (nameT L e) = ((findK l (nameT L e) : Nat) : Int)) := rfl
  have hok : Hid (findOk l (nameT L e) = true) := by show (findP _ _).isSome = true; exact Option.isSome_iff_ne_none.2 hf
  have hk6 : findK l (nameT L e) < 6 := by
    obtain ⟨k, hk⟩ := Option.ne_none_iff_exists'.1 hf
    unfold findK
    rw [hk]
    have := findFrom_lt hk
    simpa using (show k < 6 by omega)
  have hk6i : ((findK l (nameT L e) : Nat) : Int) < 6 := by omega
  clear hf
  have qb : (b (findK l (nameT L e)) != 0) = true := by simpa using hb
  clear hb
  have HD : Hid (elemR (nameL L e) 7 (findK l (nameT L e)) b = ⟨amtL (expL (nameL L e) 7 ⟨#[58]⟩) (expE (nameL L e) 7 ⟨#[58]⟩) 4, amt5 (expL (nameL L e) 7 ⟨#[58]⟩) (expE (nameL L e) 7 ⟨#[58]⟩), upd b (findK l (nameT L e)) (amtV (expL (nameL L e) 7 ⟨#[58]⟩) (expE (nameL L e) 7 ⟨#[58]⟩) 4)⟩) := rfl
  rw [HD.out]
  have H5 : Hid (amt5 (expL (nameL L e) 7 ⟨#[58]⟩) (expE (nameL L e) 7 ⟨#[58]⟩) = if amtV (expL (nameL L e) 7 ⟨#[58]⟩) (expE (nameL L e) 7 ⟨#[58]⟩) 4 = 0 then failE (amtE (expL (nameL L e) 7 ⟨#[58]⟩) (expE (nameL L e) 7 ⟨#[58]⟩) 4) 4 else amtE (expL (nameL L e) 7 ⟨#[58]⟩) (expE (nameL L e) 7 ⟨#[58]⟩) 4) := rfl
  clear HD hL1 hL2
  generalize expE (nameL L e) 7 ⟨#[58]⟩ = ex at *
  generalize expL (nameL L e) 7 ⟨#[58]⟩ = Lx at *
  generalize amtV Lx ex 4 = V at *
  generalize amtE Lx ex 4 = ea at *
  generalize amtL Lx ex 4 = La at *
  have he' := Lib.hid he
  clear hs he h1
  go_enter Tryz.func153, Tryz.ntmps153
  go_wp2_with fail
  refine (CN.out _ E0.out.scan).mono ?_
  rintro r w1 ⟨rfl, s1, o1⟩
  have E1 := Lib.hid (E0.out.step hg s1 o1)
  clear s1 o1
  go_wp2_with fail
  refine (CE.out _ _ _ _ E1.out.scan).mono ?_
  rintro r w2 ⟨rfl, rfl⟩
  go_wp2_with fail
  refine (CF.out _ E1.out.only).mono ?_
  rintro r w2 ⟨rfl, d2⟩
  have E2 := Lib.hid (E1.out.below d2)
  clear d2
  rw [hfi.out, hok.out]
  rw [he'.out] at E2
  have bk := E2.out.box.box.cell (findK l (nameT L e)) hk6
  have bl := E2.out.box.lt
  go_wp2_with fail
  refine (CL.out _ _ _ _ _ E2.out.scan).mono ?_
  rintro r w3 ⟨rfl, s3, o3⟩
  have E3 := Lib.hid (E2.out.step hg s3 o3)
  clear s3 o3
  go_wp2_with fail
  refine (CX.out _ E3.out.scan).mono ?_
  rintro r w4 ⟨rfl, s4, o4⟩
  have E4 := Lib.hid (E3.out.step hg s4 o4)
  clear s4 o4
  go_wp2_with fail
  refine (CA.out _ E4.out.scan).mono ?_
  rintro r w5 ⟨rfl, s5, o5⟩
  have E5 := Lib.hid (E4.out.step hg s5 o5)
  clear s5 o5

  by_cases hv : V = 0
  · subst hv
    rw [if_pos rfl] at H5
    go_wp2_with fail
    refine (CL.out _ _ _ _ _ E5.out.scan).mono ?_
    rintro r w6 ⟨rfl, s6, o6⟩
    have E6 := Lib.hid (E5.out.step hg s6 o6)
    clear s6 o6
    obtain ⟨Q0, Q1, Q2, Q3, Q4, Q5⟩ := E6.out.box.box.cells
    have qf := E6.out.box.box.free
    have qk := E6.out.box.box.cell (findK l (nameT L e)) hk6
    have EU := Lib.hid (E6.out.upd (by decide) (by decide) (findK l (nameT L e)) hk6 0)
    obtain ⟨U0, U1, U2, U3, U4, U5⟩ := EU.out.box.box.cells
    obtain ⟨Z0, Z1, Z2, Z3, Z4, Z5⟩ := EU.out.res.box.cells
    have zf := EU.out.res.box.free
    go_wp2_with fail
    have RE := res_end EU.out.res.box (upd b (findK l (nameT L e)) 0)
    obtain ⟨X0, X1, X2, X3, X4, X5⟩ := RE.cells

    refine bodyPost_ret (v := .agg (arr (upd b (findK l (nameT L e)) 0))) (by simp [results, Tryz.results153, go_sem, arr, X0, X1, X2, X3, X4, X5]) rfl ⟨rfl, ?_⟩
    rw [H5.out]
    exact EU.out.done (by decide) (by decide) _
  · have q5 : (V == 0) = false := by simpa using hv
    rw [if_neg hv] at H5
    clear hv
    obtain ⟨Q0, Q1, Q2, Q3, Q4, Q5⟩ := E5.out.box.box.cells
    have qf := E5.out.box.box.free
    have qk := E5.out.box.box.cell (findK l (nameT L e)) hk6
    have EU := Lib.hid (E5.out.upd (by decide) (by decide) (findK l (nameT L e)) hk6 V)
    obtain ⟨U0, U1, U2, U3, U4, U5⟩ := EU.out.box.box.cells
    obtain ⟨Z0, Z1, Z2, Z3, Z4, Z5⟩ := EU.out.res.box.cells
    have zf := EU.out.res.box.free
    go_wp2_with fail
    have RE := res_end EU.out.res.box (upd b (findK l (nameT L e)) V)
    obtain ⟨X0, X1, X2, X3, X4, X5⟩ := RE.cells

    refine bodyPost_ret (v := .agg (arr (upd b (findK l (nameT L e)) V))) (by simp [results, Tryz.results153, go_sem, arr, X0, X1, X2, X3, X4, X5]) rfl ⟨rfl, ?_⟩
    rw [H5.out]
    exact EU.out.done (by decide) (by decide) _
set_option maxRecDepth 100000 in
set_option maxHeartbeats 2000000 in
theorem element_once (l : List Prod) (b1 o1 c : Nat) (L : List Tok) (e : Int) (b : Nat → Int) (g : Nat) (w : World) (h6 : l.length ≤ 6) (h0 : 0 < l.length) (h1 : ProdRow w b1 o1 l) (hne : b1 ≠ g) (hs : Scan 113 109 w g L e) (hm : L.length ≤ 5000) (he : nameE L e = 0) (hf : findP l (nameT L e) ≠ none) (hb : b (findK l (nameT L e)) = 0) :
    Calls Tryz.prog 153 #[.slice (some ⟨b1, o1, none⟩) l.length c, .pointer (some ⟨g, 0, none⟩), .agg (arr b)] w (ElemPost (elemR (nameL L e) 0 (findK l (nameT L e)) b) g w) := by
  have hg := hs.lt
  have hb1 : b1 < w.heap.size := block_lt_of_cell (h1.at_ 0 h0).1
  have HR := Lib.hid fun w' => h1.only (w' := w') (g := g) hb1
  have E0 := Lib.hid (emid_new hs b 25)
  have hL1 := nameL_len L e
  have hL2 := expL_len (nameL L e) 0 ⟨#[58]⟩
  have CN := Lib.hid (fun w' (h : Scan 113 109 w' g L e) => name_any L e g w' h (small_len hm))
  have CE := Lib.hid err_any
  have CF := Lib.hid (fun w' (h : Only g w w') => find_some l b1 o1 c (nameT L e) w' (by omega) (HR.out w' h hne) h0)
  have CX := Lib.hid (fun w' (h : Scan 113 109 w' g (nameL L e) 0) => expect_any (nameL L e) 0 g ⟨#[58]⟩ w' h (small_len (by omega)))
  have CA := Lib.hid (fun w' (h : Scan 113 109 w' g (expL (nameL L e) 0 ⟨#[58]⟩) (expE (nameL L e) 0 ⟨#[58]⟩)) => amount_any _ _ 4 g w' h (small_len (by omega)))
  have CL := Lib.hid fail_any
  have q1 : (nameE L e != 0) = false := by simpa using he
  have hfi : Hid (findI l (nameT L e) = ((findK l (nameT L e) : Nat) : Int)) := rfl
  have hok : Hid (findOk l (nameT L e) = true) := by show (findP _ _).isSome = true; exact Option.isSome_iff_ne_none.2 hf
  have hk6 : findK l (nameT L e) < 6 := by
    obtain ⟨k, hk⟩ := Option.ne_none_iff_exists'.1 hf
    unfold findK
    rw [hk]
    have := findFrom_lt hk
    simpa using (show k < 6 by omega)
  have hk6i : ((findK l (nameT L e) : Nat) : Int) < 6 := by omega
  clear hf
  have qb : (b (findK l (nameT L e)) != 0) = false := by simpa using hb
  clear hb
  have HD : Hid (elemR (nameL L e) 0 (findK l (nameT L e)) b = ⟨amtL (expL (nameL L e) 0 ⟨#[58]⟩) (expE (nameL L e) 0 ⟨#[58]⟩) 4, amt5 (expL (nameL L e) 0 ⟨#[58]⟩) (expE (nameL L e) 0 ⟨#[58]⟩), upd b (findK l (nameT L e)) (amtV (expL (nameL L e) 0 ⟨#[58]⟩) (expE (nameL L e) 0 ⟨#[58]⟩) 4)⟩) := rfl
  rw [HD.out]
  have H5 : Hid (amt5 (expL (nameL L e) 0 ⟨#[58]⟩) (expE (nameL L e) 0 ⟨#[58]⟩) = if amtV (expL (nameL L e) 0 ⟨#[58]⟩) (expE (nameL L e) 0 ⟨#[58]⟩) 4 = 0 then failE (amtE (expL (nameL L e) 0 ⟨#[58]⟩) (expE (nameL L e) 0 ⟨#[58]⟩) 4) 4 else amtE (expL (nameL L e) 0 ⟨#[58]⟩) (expE (nameL L e) 0 ⟨#[58]⟩) 4) := rfl
  clear HD hL1 hL2
  generalize expE (nameL L e) 0 ⟨#[58]⟩ = ex at *
  generalize expL (nameL L e) 0 ⟨#[58]⟩ = Lx at *
  generalize amtV Lx ex 4 = V at *
  generalize amtE Lx ex 4 = ea at *
  generalize amtL Lx ex 4 = La at *
  have he' := Lib.hid he
  clear hs he h1
  go_enter Tryz.func153, Tryz.ntmps153
  go_wp2_with fail
  refine (CN.out _ E0.out.scan).mono ?_
  rintro r w1 ⟨rfl, s1, o1⟩
  have E1 := Lib.hid (E0.out.step hg s1 o1)
  clear s1 o1
  go_wp2_with fail
  refine (CE.out _ _ _ _ E1.out.scan).mono ?_
  rintro r w2 ⟨rfl, rfl⟩
  go_wp2_with fail
  refine (CF.out _ E1.out.only).mono ?_
  rintro r w2 ⟨rfl, d2⟩
  have E2 := Lib.hid (E1.out.below d2)
  clear d2
  rw [hfi.out, hok.out]
  rw [he'.out] at E2
  have bk := E2.out.box.box.cell (findK l (nameT L e)) hk6
  have bl := E2.out.box.lt
  have E3 := E2
  go_wp2_with fail
  refine (CX.out _ E3.out.scan).mono ?_
  rintro r w4 ⟨rfl, s4, o4⟩
  have E4 := Lib.hid (E3.out.step hg s4 o4)
  clear s4 o4
  go_wp2_with fail
  refine (CA.out _ E4.out.scan).mono ?_
  rintro r w5 ⟨rfl, s5, o5⟩
  have E5 := Lib.hid (E4.out.step hg s5 o5)
  clear s5 o5

  by_cases hv : V = 0
  · subst hv
    rw [if_pos rfl] at H5
    go_wp2_with fail
    refine (CL.out _ _ _ _ _ E5.out.scan).mono ?_
    rintro r w6 ⟨rfl, s6, o6⟩
    have E6 := Lib.hid (E5.out.step hg s6 o6)
    clear s6 o6
    obtain ⟨Q0, Q1, Q2, Q3, Q4, Q5⟩ := E6.out.box.box.cells
    have qf := E6.out.box.box.free
    have qk := E6.out.box.box.cell (findK l (nameT L e)) hk6
    have EU := Lib.hid (E6.out.upd (by decide) (by decide) (findK l (nameT L e)) hk6 0)
    obtain ⟨U0, U1, U2, U3, U4, U5⟩ := EU.out.box.box.cells
    obtain ⟨Z0, Z1, Z2, Z3, Z4, Z5⟩ := EU.out.res.box.cells
    have zf := EU.out.res.box.free
    go_wp2_with fail
    have RE := res_end EU.out.res.box (upd b (findK l (nameT L e)) 0)
    obtain ⟨X0, X1, X2, X3, X4, X5⟩ := RE.cells

    refine bodyPost_ret (v := .agg (arr (upd b (findK l (nameT L e)) 0))) (by simp [results, Tryz.results153, go_sem, arr, X0, X1, X2, X3, X4, X5]) rfl ⟨rfl, ?_⟩
    rw [H5.out]
    exact EU.out.done (by decide) (by decide) _
  · have q5 : (V == 0) = false := by simpa using hv
    rw [if_neg hv] at H5
    clear hv
    obtain ⟨Q0, Q1, Q2, Q3, Q4, Q5⟩ := E5.out.box.box.cells
    have qf := E5.out.box.box.free
    have qk := E5.out.box.box.cell (findK l (nameT L e)) hk6
    have EU := Lib.hid (E5.out.upd (by decide) (by decide) (findK l (nameT L e)) hk6 V)
    obtain ⟨U0, U1, U2, U3, U4, U5⟩ := EU.out.box.box.cells
    obtain ⟨Z0, Z1, Z2, Z3, Z4, Z5⟩ := EU.out.res.box.cells
    have zf := EU.out.res.box.free
    go_wp2_with fail
    have RE := res_end EU.out.res.box (upd b (findK l (nameT L e)) V)
    obtain ⟨X0, X1, X2, X3, X4, X5⟩ := RE.cells

    refine bodyPost_ret (v := .agg (arr (upd b (findK l (nameT L e)) V))) (by simp [results, Tryz.results153, go_sem, arr, X0, X1, X2, X3, X4, X5]) rfl ⟨rfl, ?_⟩
    rw [H5.out]
    exact EU.out.done (by decide) (by decide) _
theorem element_any (l : List Prod) (b1 o1 c : Nat) (s : St) (g : Nat) (w : World) (h6 : l.length ≤ 6) (h0 : 0 < l.length) (h1 : ProdRow w b1 o1 l) (hne : b1 ≠ g) (hs : Scan 113 109 w g s.L s.e) (hm : s.L.length ≤ 5000) :
    Calls Tryz.prog 153 #[.slice (some ⟨b1, o1, none⟩) l.length c, .pointer (some ⟨g, 0, none⟩), .agg (arr s.b)] w (ElemPost (elemF l s) g w) := by
  by_cases he : nameE s.L s.e = 0
  · have hE : elemF l s = elemR (nameL s.L s.e) (elem2 l (nameT s.L s.e) s.b) (findK l (nameT s.L s.e)) s.b := by unfold elemF; rw [if_neg (by simp [he])]
    rw [hE]
    unfold elem2
    by_cases hf : findP l (nameT s.L s.e) = none
    · rw [if_pos hf]
      exact element_none l b1 o1 c s.L s.e s.b g w h6 h0 h1 hne hs hm he hf
    · rw [if_neg hf]
      by_cases hb : s.b (findK l (nameT s.L s.e)) = 0
      · rw [if_neg (by simp [hb])]
        exact element_once l b1 o1 c s.L s.e s.b g w h6 h0 h1 hne hs hm he hf hb
      · rw [if_pos hb]
        exact element_twice l b1 o1 c s.L s.e s.b g w h6 h0 h1 hne hs hm he hf hb
  · have hE : elemF l s = ⟨nameL s.L s.e, nameE s.L s.e, s.b⟩ := by unfold elemF; rw [if_pos he]
    rw [hE]
    exact element_err l b1 o1 c s.L s.e s.b g w hs hm he
end Cat
end Go.Proofs.YtjjlhihocllgjaaGreatDoor
