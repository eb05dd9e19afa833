/- Contracts of Format of both, whole. Plain: what Scan of the catalog computes, and that it is what the reference's Tokens computes. -/
import Derived.Test.YtaikmgnpfbnjjaaGreatDoorPu08
import Derived.Test.YtaikmgnpfbnjjaaGreatDoorPu07
import Derived.Test.YtaikmgnpfbnjjaaGreatDoorPu04
namespace Go.Proofs.YtaikmgnpfbnjjaaGreatDoor
open Go.ChangeShapes Go.WideShapes Go.ChangeAt Go.RowKit
set_option linter.unusedVariables false
set_option linter.unusedSimpArgs false
namespace Cat
open Lex
def fmtS (b : Nat → Int) (l : List Prod) : ByteArray := if rfitsB b l = true then ⟨#[123]⟩ ++ joinS (fparts b l l.length) ++ ⟨#[125]⟩ else ⟨#[]⟩
theorem format_bad (l : List Prod) (A : Option Addr) (c : Nat) (b : Nat → Int) (w : World) (hl : l.length ≤ 5000) (h : PS w (.slice A l.length c) l) (hn : ∀ p ∈ l, p.name.size ≤ maxLen) (hz : checkE l ≠ 0) :
    Calls Tryz.prog 45 #[.slice A l.length c, .agg (arr b)] w fun e w' => e = .returned (.string ⟨#[]⟩) ∧ Below w.heap.size w w' := by
  have CC := Lib.hid (fun w' (k : Below w.heap.size w w') => check_any l (.slice A l.length c) w' hl (Sl.keep h k) hn)
  have hz2 : (checkE l != 0) = true := by simpa using hz
  clear h hn hz
  unfold arr
  go_enter Tryz.func45, Tryz.ntmps45
  go_wp2_with fail
  refine (CC.out _ (below_new _ _)).mono ?_
  rintro e w1 ⟨rfl, b1⟩
  have B1 := Lib.hid (chain1 (Below.refl _ _) b1)
  clear b1
  go_wp2_with fail
  go_ret
  exact ⟨rfl, B1.out⟩
theorem format_bad2 (l : List Prod) (A : Option Addr) (c : Nat) (b : Nat → Int) (w : World) (hl : l.length ≤ 5000) (h : PS w (.slice A l.length c) l) (hn : ∀ p ∈ l, p.name.size ≤ maxLen) (hz : checkE l = 0) (hv : fitsB b l.length = false) :
    Calls Tryz.prog 45 #[.slice A l.length c, .agg (arr b)] w fun e w' => e = .returned (.string ⟨#[]⟩) ∧ Below w.heap.size w w' := by
  have CC := Lib.hid (fun w' (k : Below w.heap.size w w') => check_any l (.slice A l.length c) w' hl (Sl.keep h k) hn)
  have CF := Lib.hid (fun w' => fits_any l.length A c b w' hl)
  rw [hv] at CF
  have HK := Lib.hid (fun w1 (k : Below (w.alloc (.cells (arr b) 23)).heap.size (w.alloc (.cells (arr b) 23)) w1) => (box_new w b 23).below k (by go_size))
  have hz2 : (checkE l != 0) = false := by simpa using hz
  clear h hn hz hv
  unfold arr at CF
  unfold arr
  go_enter Tryz.func45, Tryz.ntmps45
  go_wp2_with fail
  refine (CC.out _ (below_new _ _)).mono ?_
  rintro e w1 ⟨rfl, d1⟩
  have K1 := Lib.hid (HK.out _ d1)
  have c1 := K1.out.cells
  have g1 := K1.out.lt
  have B1 := Lib.hid (chain1 (Below.refl _ _) d1)
  clear d1
  go_wp2_with fail
  refine (CF.out _).mono ?_
  rintro e w2 ⟨rfl, d2⟩
  have B2 := Lib.hid (chain0 B1.out d2)
  clear d2
  go_wp2_with fail
  go_ret
  exact ⟨rfl, B2.out⟩
theorem format_any (l : List Prod) (v : Value) (b : Nat → Int) (w : World) (hl : l.length ≤ 5000) (h : PS w v l) (hn : ∀ p ∈ l, p.name.size ≤ maxLen) :
    Calls Tryz.prog 45 #[v, .agg (arr b)] w fun e w' => e = .returned (.string (fmtS b l)) ∧ Below w.heap.size w w' := by
  obtain ⟨A, c, rfl, k1, k2, ha⟩ := ps_cases h
  unfold fmtS rfitsB
  by_cases hz : checkE l = 0
  · cases hv : fitsB b l.length with
    | false => rw [if_neg (by simp)]; exact format_bad2 l A c b w hl h hn hz hv
    | true =>
      rw [if_pos (by rw [hz]; rfl)]
      obtain ⟨b1, o1, rfl, _, r⟩ := ha (checkE_zero hz).1
      exact format_some l b1 o1 c b w k1 k2 r hn hz hv
  · rw [if_neg (by simp [hz])]
    exact format_bad l A c b w hl h hn hz
theorem tl_ne {s : ByteArray} (h : 0 < s.size) : s.toList.isEmpty = false := by
  rw [ByteArray.toList_eq]
  obtain ⟨⟨x⟩⟩ := s
  cases x with
  | nil => exact absurd h (Nat.lt_irrefl 0)
  | cons a b => rfl
theorem Box.drewN {w : World} {b : Nat} {p : Nat → Int} (h : Box w b p) (n : Nat) : Box (w.drewN n) b p := ⟨h.blk⟩
end Cat
end Go.Proofs.YtaikmgnpfbnjjaaGreatDoor
namespace Go.Proofs.YtaikmgnpfbnjjaaGreatDoor
open Go.ChangeShapes Go.WideShapes Go.ChangeAt Go.RowKit
set_option linter.unusedVariables false
set_option linter.unusedSimpArgs false
namespace Cat
open Lex
structure St where
  L : List Tok
  e : Int
  b : Nat → Int
def findK (l : List Prod) (name : ByteArray) : Nat := (findP l name).getD 0
def elem2 (l : List Prod) (name : ByteArray) (b : Nat → Int) : Int := if findP l name = none then 6 else if b (findK l name) ≠ 0 then 7 else 0
def amt5 (L : List Tok) (e : Int) : Int := if amtV L e 4 = 0 then failE (amtE L e 4) 4 else amtE L e 4
/-- an element's rest, behind its name -/
noncomputable def elemR (L : List Tok) (e : Int) (k : Nat) (b : Nat → Int) : St :=
  ⟨amtL (expL L e ⟨#[58]⟩) (expE L e ⟨#[58]⟩) 4, amt5 (expL L e ⟨#[58]⟩) (expE L e ⟨#[58]⟩), upd b k (amtV (expL L e ⟨#[58]⟩) (expE L e ⟨#[58]⟩) 4)⟩
noncomputable def elemF (l : List Prod) (s : St) : St :=
  if nameE s.L s.e ≠ 0 then ⟨nameL s.L s.e, nameE s.L s.e, s.b⟩
  else elemR (nameL s.L s.e) (elem2 l (nameT s.L s.e) s.b) (findK l (nameT s.L s.e)) s.b
instance (L : List Tok) (e : Int) (m : ByteArray) : Decidable (accB L e m) := inferInstanceAs (Decidable (_ ∧ _))
noncomputable def loopF (l : List Prod) : Nat → St → St
  | 0, s => s
  | f + 1, s => if accB s.L s.e ⟨#[44]⟩ then loopF l f (elemF l ⟨nextL s.L s.e, s.e, s.b⟩) else s
noncomputable def endF (s : St) : St := ⟨expL s.L s.e ⟨#[125]⟩, expE s.L s.e ⟨#[125]⟩, if expE s.L s.e ⟨#[125]⟩ = 0 then s.b else zero6⟩
noncomputable def scanF (l : List Prod) (L : List Tok) (e : Int) : St :=
  if e ≠ 0 then ⟨L, e, zero6⟩
  else if checkE l ≠ 0 then ⟨L, checkE l, zero6⟩
  else if accB (expL L e ⟨#[123]⟩) (expE L e ⟨#[123]⟩) ⟨#[125]⟩ then ⟨nextL (expL L e ⟨#[123]⟩) (expE L e ⟨#[123]⟩), expE L e ⟨#[123]⟩, zero6⟩
  else endF (loopF l (L.length + 1) (elemF l ⟨expL L e ⟨#[123]⟩, expE L e ⟨#[123]⟩, zero6⟩))
/-- what the reference's Tokens computes from the elements on: the bundle, what is left, and how many tokens are behind it -/
def isM (t : Tok) (m : ByteArray) : Bool := t.kind == 3 && eqB t.text m
def refGo (l : List Prod) : List Tok → (Nat → Int) → Nat → Except Int ((Nat → Int) × List Tok × Nat)
  | [], _, _ => .error 1
  | t :: R, b, at_ =>
    if t.kind ≠ 1 then .error 2
    else if findP l t.text = none then .error 6
    else if b (findK l t.text) ≠ 0 then .error 7
    else match R with
      | [] => .error 1
      | t1 :: R1 => if isM t1 ⟨#[58]⟩ = false then .error 2 else match R1 with
        | [] => .error 1
        | t2 :: R2 => if t2.kind ≠ 2 then .error 2 else if ¬ (1 ≤ t2.value ∧ t2.value ≤ 4) then .error 4 else match R2 with
          | [] => .error 1
          | t3 :: R3 => if isM t3 ⟨#[125]⟩ then .ok (upd b (findK l t.text) t2.value, R3, at_ + 4)
            else if isM t3 ⟨#[44]⟩ then refGo l R3 (upd b (findK l t.text) t2.value) (at_ + 4) else .error 2
def refF (l : List Prod) : List Tok → Except Int ((Nat → Int) × List Tok × Nat)
  | [] => .error 1
  | t :: R => if isM t ⟨#[123]⟩ = false then .error 2 else match R with
    | [] => refGo l [] zero6 1
    | t1 :: R1 => if isM t1 ⟨#[125]⟩ then .ok (zero6, R1, 2) else refGo l (t1 :: R1) zero6 1
/-- once there is an error, nothing more happens -/
theorem err_name {L : List Tok} {e : Int} (h : e ≠ 0) : nameE L e = e := by
  unfold nameE peekT wrongE failE
  simp [h, Tok.none]
theorem err_acc {L : List Tok} {e : Int} (h : e ≠ 0) (m : ByteArray) : ¬ accB L e m := by
  unfold accB peekT
  simp [h, Tok.none]
theorem err_exp {L : List Tok} {e : Int} (h : e ≠ 0) (m : ByteArray) : expE L e m = e ∧ expL L e m = L := by
  unfold expE expL
  rw [if_neg (err_acc h m), if_neg (err_acc h m)]
  unfold wrongE failE
  simp [h]
theorem err_amt {L : List Tok} {e : Int} (h : e ≠ 0) : amt5 L e = e := by
  unfold amt5 amtE amtV peekT wrongE failE
  simp [h, Tok.none]
theorem elemF_err {l : List Prod} {s : St} (h : s.e ≠ 0) : (elemF l s).e = s.e := by
  unfold elemF
  rw [if_pos (by rw [err_name h]; exact h)]
  exact err_name h
theorem loopF_err {l : List Prod} {s : St} (h : s.e ≠ 0) (f : Nat) : loopF l f s = s := by
  cases f with
  | zero => rfl
  | succ f => unfold loopF; rw [if_neg (err_acc h _)]
theorem endF_err {s : St} (h : s.e ≠ 0) : (endF s).e = s.e ∧ (endF s).b = zero6 := by
  unfold endF
  dsimp only
  rw [(err_exp h _).1, if_neg h]
  exact ⟨rfl, rfl⟩
theorem elemR_err {L : List Tok} {e : Int} {k : Nat} {b : Nat → Int} (h : e ≠ 0) : (elemR L e k b).e = e := by
  unfold elemR
  dsimp only
  rw [(err_exp h _).1]
  exact err_amt h
/-- the heads of a list without an error -/
theorem accB_cons (t : Tok) (L : List Tok) (m : ByteArray) : accB (t :: L) 0 m ↔ isM t m = true := by
  unfold accB isM peekT
  simp [eqB_iff]
theorem accB_nil (m : ByteArray) : ¬ accB [] 0 m := by
  unfold accB peekT
  simp [Tok.none]
theorem exp_yes {t : Tok} {L : List Tok} {m : ByteArray} (h : isM t m = true) : expL (t :: L) 0 m = L ∧ expE (t :: L) 0 m = 0 := by
  unfold expL expE
  rw [if_pos ((accB_cons t L m).2 h), if_pos ((accB_cons t L m).2 h)]
  exact ⟨rfl, rfl⟩
theorem exp_no {t : Tok} {L : List Tok} {m : ByteArray} (h : isM t m = false) : expE (t :: L) 0 m = 2 := by
  unfold expE
  rw [if_neg (fun k => by rw [(accB_cons t L m).1 k] at h; cases h)]
  rfl
theorem exp_nil (m : ByteArray) : expE [] 0 m = 1 := by
  unfold expE
  rw [if_neg (accB_nil m)]
  rfl
/-- an element that does not fail, and one that does -/
theorem elemF_cons {l : List Prod} {t : Tok} {R : List Tok} {b : Nat → Int} (h : t.kind = 1) : elemF l ⟨t :: R, 0, b⟩ = elemR R (elem2 l t.text b) (findK l t.text) b := by
  have h1 : nameE (t :: R) 0 = 0 := by unfold nameE peekT; simp [h]
  have h2 : nameL (t :: R) 0 = R := by unfold nameL peekT nextL; simp [h]
  have h3 : nameT (t :: R) 0 = t.text := by unfold nameT peekT; simp [h]
  unfold elemF
  dsimp only
  rw [if_neg (by simp [h1]), h2, h3]
theorem elemF_nil {l : List Prod} {b : Nat → Int} : (elemF l ⟨[], 0, b⟩).e = 1 := by
  have h1 : nameE [] 0 = 1 := by unfold nameE peekT wrongE failE; simp [Tok.none]
  unfold elemF
  dsimp only
  rw [if_pos (by rw [h1]; decide)]
  exact h1
theorem elemF_bad {l : List Prod} {t : Tok} {R : List Tok} {b : Nat → Int} (h : t.kind ≠ 1) : (elemF l ⟨t :: R, 0, b⟩).e = 2 := by
  have h1 : nameE (t :: R) 0 = 2 := by unfold nameE peekT wrongE failE; simp [h]
  unfold elemF
  dsimp only
  rw [if_pos (by rw [h1]; decide)]
  exact h1
theorem elemR_colon {t1 : Tok} {R : List Tok} {k : Nat} {b : Nat → Int} (h : isM t1 ⟨#[58]⟩ = true) : elemR (t1 :: R) 0 k b = ⟨amtL R 0 4, amt5 R 0, upd b k (amtV R 0 4)⟩ := by
  unfold elemR
  rw [(exp_yes h).1, (exp_yes h).2]
theorem amt_good {t2 : Tok} {R : List Tok} (h : t2.kind = 2) (h1 : 1 ≤ t2.value) (h4 : t2.value ≤ 4) : amtL (t2 :: R) 0 4 = R ∧ amt5 (t2 :: R) 0 = 0 ∧ amtV (t2 :: R) 0 4 = t2.value := by
  have e : amtV (t2 :: R) 0 4 = t2.value := by unfold amtV peekT; simp [h, h4, show 0 ≤ t2.value by omega]
  refine ⟨by unfold amtL peekT nextL; simp [h, h4, show 0 ≤ t2.value by omega], ?_, e⟩
  unfold amt5
  rw [e, if_neg (by omega)]
  unfold amtE peekT
  simp [h, h4, show 0 ≤ t2.value by omega]
theorem amt_range {t2 : Tok} {R : List Tok} (h : t2.kind = 2) (h1 : ¬ (1 ≤ t2.value ∧ t2.value ≤ 4)) : amt5 (t2 :: R) 0 = 4 := by
  by_cases h0 : 0 ≤ t2.value ∧ t2.value ≤ 4
  · have e0 : t2.value = 0 := by omega
    unfold amt5 amtV amtE peekT failE
    simp [h, e0]
  · unfold amt5 amtV amtE peekT failE
    simp [h, h0]
theorem amt_kind {t2 : Tok} {R : List Tok} (h : t2.kind ≠ 2) : amt5 (t2 :: R) 0 = 2 := by
  unfold amt5 amtV amtE peekT wrongE failE
  simp [h]
theorem amt_nil : amt5 [] 0 = 1 := by
  unfold amt5 amtV amtE peekT wrongE failE
  simp [Tok.none]
/-- the loop and the end behind an element -/
noncomputable def restF (l : List Prod) (f : Nat) (s : St) : St := endF (loopF l f (elemF l s))
theorem restF_err {l : List Prod} {f : Nat} {s : St} {x : Int} (h : (elemF l s).e = x) (hx : x ≠ 0) : (restF l f s).e = x ∧ (restF l f s).b = zero6 := by
  have h0 : (elemF l s).e ≠ 0 := by rw [h]; exact hx
  unfold restF
  rw [loopF_err h0, (endF_err h0).1, (endF_err h0).2]
  exact ⟨h, rfl⟩
theorem rest_go (l : List Prod) : ∀ (n f : Nat) (R : List Tok) (b : Nat → Int) (a : Nat), R.length ≤ n → R.length ≤ f →
    match refGo l R b a with
    | .error x => x ≠ 0 ∧ (restF l f ⟨R, 0, b⟩).e = x ∧ (restF l f ⟨R, 0, b⟩).b = zero6
    | .ok (b', R', _) => restF l f ⟨R, 0, b⟩ = ⟨R', 0, b'⟩
  | n, f, [], b, a, _, _ => by
    unfold refGo
    exact ⟨by decide, restF_err elemF_nil (by decide)⟩
  | n, f, t :: R, b, a, hn, hf => by
    unfold refGo
    by_cases hk : t.kind = 1
    · rw [if_neg (by simp [hk])]
      by_cases hf1 : findP l t.text = none
      · rw [if_pos hf1]
        have h2 : elem2 l t.text b = 6 := by unfold elem2; rw [if_pos hf1]
        refine ⟨by decide, restF_err ?_ (by decide)⟩
        rw [elemF_cons hk, elemR_err (by rw [h2]; decide), h2]
      · rw [if_neg hf1]
        by_cases hb : b (findK l t.text) = 0
        · rw [if_neg (by simp [hb])]
          have h2 : elem2 l t.text b = 0 := by unfold elem2; rw [if_neg hf1, if_neg (by simp [hb])]
          have hE : elemF l ⟨t :: R, 0, b⟩ = elemR R 0 (findK l t.text) b := by rw [elemF_cons hk, h2]
          match R, hn, hf with
          | [], _, _ =>
            refine ⟨by decide, restF_err ?_ (by decide)⟩
            rw [hE]
            unfold elemR
            dsimp only
            rw [exp_nil]
            exact err_amt (by decide)
          | t1 :: R1, hn, hf =>
            dsimp only
            cases hc : isM t1 ⟨#[58]⟩ with
            | false =>
              rw [if_pos rfl]
              refine ⟨by decide, restF_err ?_ (by decide)⟩
              rw [hE]
              unfold elemR
              dsimp only
              rw [exp_no hc]
              exact err_amt (by decide)
            | true =>
              rw [if_neg (by simp)]
              rw [elemR_colon hc] at hE
              match R1, hn, hf with
              | [], _, _ =>
                refine ⟨by decide, restF_err ?_ (by decide)⟩
                rw [hE]
                exact amt_nil
              | t2 :: R2, hn, hf =>
                dsimp only
                by_cases h2k : t2.kind = 2
                · rw [if_neg (by simp [h2k])]
                  by_cases hv : 1 ≤ t2.value ∧ t2.value ≤ 4
                  · rw [if_neg (by simp [hv])]
                    obtain ⟨g1, g2, g3⟩ := amt_good (R := R2) h2k hv.1 hv.2
                    rw [g1, g2, g3] at hE
                    match R2, hn, hf with
                    | [], _, _ =>
                      refine ⟨by decide, ?_⟩
                      unfold restF
                      have hl : ∀ f, loopF l f ⟨[], 0, upd b (findK l t.text) t2.value⟩ = ⟨[], 0, upd b (findK l t.text) t2.value⟩ := by
                        intro f
                        cases f with
                        | zero => rfl
                        | succ f => unfold loopF; rw [if_neg (accB_nil _)]
                      rw [hE, hl]
                      unfold endF
                      dsimp only
                      rw [exp_nil]
                      exact ⟨rfl, rfl⟩
                    | t3 :: R3, hn, hf =>
                      dsimp only
                      obtain ⟨f', rfl⟩ : ∃ f', f = f' + 1 := ⟨f - 1, by simp at hf; omega⟩
                      cases hcm : isM t3 ⟨#[44]⟩ with
                      | true =>
                        have hcb : isM t3 ⟨#[125]⟩ = false := by
                          unfold isM at hcm ⊢
                          simp only [Bool.and_eq_true, eqB_iff] at hcm
                          rw [hcm.2]
                          simp [show eqB (⟨#[44]⟩ : ByteArray) ⟨#[125]⟩ = false by decide +kernel]
                        rw [if_neg (by simp [hcb]), if_pos rfl]
                        have hl : restF l (f' + 1) ⟨t :: t1 :: t2 :: t3 :: R3, 0, b⟩ = restF l f' ⟨R3, 0, upd b (findK l t.text) t2.value⟩ := by
                          unfold restF
                          rw [hE]
                          conv => lhs; unfold loopF
                          rw [if_pos ((accB_cons _ _ _).2 hcm)]
                          rfl
                        rw [hl]
                        simp at hn hf
                        have hn' : n - 1 < n := by omega
                        exact rest_go l (n - 1) f' R3 _ _ (by omega) (by omega)
                      | false =>
                        have hl : loopF l (f' + 1) ⟨t3 :: R3, 0, upd b (findK l t.text) t2.value⟩ = ⟨t3 :: R3, 0, upd b (findK l t.text) t2.value⟩ := by
                          unfold loopF
                          rw [if_neg (fun k => by rw [(accB_cons _ _ _).1 k] at hcm; cases hcm)]
                        cases hcb : isM t3 ⟨#[125]⟩ with
                        | true =>
                          rw [if_pos rfl]
                          dsimp only
                          unfold restF
                          rw [hE, hl]
                          unfold endF
                          dsimp only
                          rw [(exp_yes hcb).1, (exp_yes hcb).2, if_pos rfl]
                        | false =>
                          rw [if_neg (by simp), if_neg (by simp)]
                          refine ⟨by decide, ?_⟩
                          unfold restF
                          rw [hE, hl]
                          unfold endF
                          dsimp only
                          rw [exp_no hcb]
                          exact ⟨rfl, rfl⟩
                  · rw [if_pos hv]
                    refine ⟨by decide, restF_err ?_ (by decide)⟩
                    rw [hE]
                    exact amt_range h2k hv
                · rw [if_pos h2k]
                  refine ⟨by decide, restF_err ?_ (by decide)⟩
                  rw [hE]
                  exact amt_kind h2k
        · rw [if_pos hb]
          have h2 : elem2 l t.text b = 7 := by unfold elem2; rw [if_neg hf1, if_pos hb]
          refine ⟨by decide, restF_err ?_ (by decide)⟩
          rw [elemF_cons hk, elemR_err (by rw [h2]; decide), h2]
    · rw [if_pos hk]
      exact ⟨by decide, restF_err (elemF_bad hk) (by decide)⟩
termination_by n => n
/-- Scan is the reference's Tokens -/
theorem scan_ref (l : List Prod) (L : List Tok) (h : checkE l = 0) :
    match refF l L with
    | .error x => x ≠ 0 ∧ (scanF l L 0).e = x ∧ (scanF l L 0).b = zero6
    | .ok (b', R', _) => scanF l L 0 = ⟨R', 0, b'⟩ := by
  have hs : scanF l L 0 = if accB (expL L 0 ⟨#[123]⟩) (expE L 0 ⟨#[123]⟩) ⟨#[125]⟩ then ⟨nextL (expL L 0 ⟨#[123]⟩) (expE L 0 ⟨#[123]⟩), expE L 0 ⟨#[123]⟩, zero6⟩
      else restF l (L.length + 1) ⟨expL L 0 ⟨#[123]⟩, expE L 0 ⟨#[123]⟩, zero6⟩ := by
    unfold scanF restF
    rw [if_neg (by simp), if_neg (by simp [h])]
  rw [hs]
  clear hs
  cases L with
  | nil =>
    unfold refF
    rw [exp_nil, if_neg (err_acc (by decide) _)]
    exact ⟨by decide, restF_err (elemF_err (by simp)) (by decide)⟩
  | cons t R =>
    unfold refF
    dsimp only
    cases hc : isM t ⟨#[123]⟩ with
    | false =>
      rw [if_pos rfl, exp_no hc, if_neg (err_acc (by decide) _)]
      exact ⟨by decide, restF_err (elemF_err (by simp)) (by decide)⟩
    | true =>
      rw [if_neg (by simp), (exp_yes hc).1, (exp_yes hc).2]
      cases R with
      | nil =>
        rw [if_neg (accB_nil _)]
        exact rest_go l 0 _ [] zero6 1 (by simp) (by simp)
      | cons t1 R1 =>
        cases hcb : isM t1 ⟨#[125]⟩ with
        | true =>
          rw [if_pos ((accB_cons _ _ _).2 hcb)]
          dsimp only
          rw [hcb, if_pos rfl]
          rfl
        | false =>
          rw [if_neg (fun k => by rw [(accB_cons _ _ _).1 k] at hcb; cases hcb)]
          dsimp only
          rw [hcb, if_neg (by simp)]
          exact rest_go l _ _ (t1 :: R1) zero6 1 (Nat.le_refl _) (by simp)
end Cat
end Go.Proofs.YtaikmgnpfbnjjaaGreatDoor
