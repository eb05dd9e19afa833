/- Contracts of the catalog's Scan and Parse, whole. Printed by gen_catN.py. Contracts of the reference's is, wrong and Tokens. Printed by gen_catO.py. Contract of the reference's Parse. Printed by gen_catP.py. Contracts of Check of both. Printed by gen_ros.py. -/
import Derived.Test.YtjjlhihocllgjaaDoorPe09
import Derived.Test.YtjjlhihocllgjaaDoorPe06
namespace Go.Proofs.YtjjlhihocllgjaaDoor
open Go.ChangeShapes Go.WideShapes Go.ChangeAt Go.RowKit
set_option linter.unusedVariables false
set_option linter.unusedSimpArgs false
namespace Cat
open Lex
theorem scan_any (l : List Prod) (A : Option Addr) (c : Nat) (L : List Tok) (e : Int) (g : Nat) (w : World) (hl : l.length ≤ 5000) (hp : PS w (.slice A l.length c) l) (hA : ∀ b o, A = some ⟨b, o, none⟩ → b ≠ g) (hn : ∀ p ∈ l, p.name.size ≤ maxLen) (hs : Scan 96 92 w g L e) (hm : L.length ≤ 5000) :
    Calls Tryd.prog 100 #[.slice A l.length c, .pointer (some ⟨g, 0, none⟩)] w (ScanPost (scanF l L e) g w) := by
  by_cases he : e = 0
  · subst he
    by_cases hz : checkE l = 0
    · obtain ⟨A', c', e', k1, k2, ha⟩ := ps_cases hp
      injection e' with e1 _ e2
      subst e1 e2
      obtain ⟨b1, o1, rfl, _, r⟩ := ha (checkE_zero hz).1
      unfold scanF
      rw [if_neg (by simp), if_neg (by simp [hz])]
      by_cases hac : accB (expL L 0 ⟨#[123]⟩) (expE L 0 ⟨#[123]⟩) ⟨#[125]⟩
      · rw [if_pos hac]
        exact scan_none l b1 o1 c L g w k1 k2 r (hA _ _ rfl) hn hs hm hz hac
      · rw [if_neg hac]
        exact scan_some l b1 o1 c L g w k1 k2 r (hA _ _ rfl) hn hs hm hz hac
    · have hS : scanF l L 0 = ⟨L, checkE l, zero6⟩ := by unfold scanF; rw [if_neg (by simp), if_pos hz]
      rw [hS]
      exact scan_bad l A c L g w hl hp hn hs hz
  · have hS : scanF l L e = ⟨L, e, zero6⟩ := by unfold scanF; rw [if_pos he]
    rw [hS]
    exact scan_err A _ c L e g w hs he
theorem lexToks_len (s : ByteArray) (hs : s.size ≤ 5000) : (LexToks (lex s)).length ≤ 5000 := lex_len s hs
theorem loopF_len (l : List Prod) : ∀ (f : Nat) (s : St), (loopF l f s).L.length ≤ s.L.length
  | 0, s => by unfold loopF; exact Nat.le_refl _
  | f + 1, s => by
    unfold loopF
    split
    · exact Nat.le_trans (loopF_len l f _) (Nat.le_trans (elemF_len l _) (nextL_len _ _))
    · exact Nat.le_refl _
theorem lexToks_scan (l : List Prod) (L : List Tok) (h : L.length ≤ 5000) : (scanF l L 0).L.length ≤ 5000 := by
  unfold scanF
  split
  · exact h
  · split
    · exact h
    · split
      · exact Nat.le_trans (Nat.le_trans (nextL_len _ _) (expL_len _ _ _)) h
      · unfold endF
        exact Nat.le_trans (Nat.le_trans (expL_len _ _ _) (Nat.le_trans (loopF_len l _ _) (Nat.le_trans (elemF_len l _) (expL_len _ _ _)))) h
/-- what Parse computes -/
def parseT (l : List Prod) (L : List Tok) : (Nat → Int) × Int :=
  match refF l L with
  | .error x => (zero6, x)
  | .ok (b, R, _) => if R = [] then (b, 0) else (zero6, 3)
def parseF (l : List Prod) (s : ByteArray) : (Nat → Int) × Int :=
  if checkE l ≠ 0 then (zero6, checkE l)
  else if LexErr (lex s) ≠ 0 then (zero6, LexErr (lex s))
  else parseT l (LexToks (lex s))
/-- by the scanner: the same -/
theorem parse_scan {l : List Prod} (L : List Tok) (h : checkE l = 0) : parseT l L = if endE (scanF l L 0).L (scanF l L 0).e = 0 then ((scanF l L 0).b, 0) else (zero6, endE (scanF l L 0).L (scanF l L 0).e) := by
  have := scan_ref l L h
  unfold parseT
  revert this
  cases refF l L with
  | error x =>
    rintro ⟨hx, h1, h2⟩
    have e1 : endE (scanF l L 0).L (scanF l L 0).e = x := by unfold endE; rw [if_neg (by rw [h1]; exact fun k => hx k.1), h1]
    rw [e1, if_neg hx]
  | ok r =>
    obtain ⟨b, R, n⟩ := r
    intro h1
    dsimp only at h1
    rw [h1]
    dsimp only
    by_cases hR : R = []
    · have e1 : endE R 0 = 0 := by unfold endE; rw [if_neg (fun k => k.2 hR)]
      rw [if_pos hR, e1, if_pos rfl]
    · have e1 : endE R 0 = 3 := by unfold endE; rw [if_pos ⟨rfl, hR⟩]
      rw [if_neg hR, e1, if_neg (by decide)]
abbrev ParsePost (r : (Nat → Int) × Int) (w : World) : Ending → World → Prop := fun e w' => e = .returned (.tuple #[.agg (arr r.1), .int .i64 r.2]) ∧ Below w.heap.size w w'
theorem below_six {w wx : World} {x B : Nat} (h : Below B w wx) (hx : B ≤ x) (q : Nat → Int) : Below B w (put6 wx x q) :=
  (((((h.setCell (p := ⟨x, 0, none⟩) hx _).setCell (p := ⟨x, 1, none⟩) hx _).setCell (p := ⟨x, 2, none⟩) hx _).setCell (p := ⟨x, 3, none⟩) hx _).setCell (p := ⟨x, 4, none⟩) hx _).setCell (p := ⟨x, 5, none⟩) hx _
theorem below_sixz {w wx : World} {x B : Nat} (h : Below B w wx) (hx : B ≤ x) : Below B w (put6z wx x) := below_six h hx zero6
end Cat
end Go.Proofs.YtjjlhihocllgjaaDoor
namespace Go.Proofs.YtjjlhihocllgjaaDoor
open Go.ChangeShapes Go.WideShapes Go.ChangeAt Go.RowKit
set_option linter.unusedVariables false
set_option linter.unusedSimpArgs false
namespace Cat
open Lex
def tokAt (U : List Tok) (i : Nat) : Tok := U.getD i Tok.none
def isAt (U : List Tok) (i : Nat) (m : ByteArray) : Bool := decide (i < U.length) && isM (tokAt U i) m
def wrongAt (U : List Tok) (i : Nat) : Int := if U.length ≤ i then 1 else 2
/-- one element of the reference's list, by places -/
def goAt (l : List Prod) (U : List Tok) (b : Nat → Int) (k : Nat) : Except Int ((Nat → Int) × List Tok × Nat) :=
  if U.length ≤ k then .error 1
  else if (tokAt U k).kind ≠ 1 then .error 2
  else if findP l (tokAt U k).text = none then .error 6
  else if b (findK l (tokAt U k).text) ≠ 0 then .error 7
  else if isAt U (k + 1) ⟨#[58]⟩ = false then .error (wrongAt U (k + 1))
  else if U.length ≤ k + 2 ∨ (tokAt U (k + 2)).kind ≠ 2 then .error (wrongAt U (k + 2))
  else if ¬ (1 ≤ (tokAt U (k + 2)).value ∧ (tokAt U (k + 2)).value ≤ 4) then .error 4
  else if isAt U (k + 3) ⟨#[125]⟩ = true then .ok (upd b (findK l (tokAt U k).text) (tokAt U (k + 2)).value, U.drop (k + 4), k + 4)
  else if isAt U (k + 3) ⟨#[44]⟩ = true then refGo l (U.drop (k + 4)) (upd b (findK l (tokAt U k).text) (tokAt U (k + 2)).value) (k + 4)
  else .error (wrongAt U (k + 3))
theorem tokAt_drop (U : List Tok) (k i : Nat) : tokAt (U.drop k) i = tokAt U (k + i) := by simp [tokAt, List.getD]
theorem isAt_drop (U : List Tok) (k i : Nat) (m : ByteArray) : isAt (U.drop k) i m = isAt U (k + i) m := by
  unfold isAt
  rw [tokAt_drop, List.length_drop]
  congr 1
  rw [decide_eq_decide]
  omega
theorem wrongAt_drop (U : List Tok) (k i : Nat) : wrongAt (U.drop k) i = wrongAt U (k + i) := by
  unfold wrongAt
  rw [List.length_drop]
  by_cases h : U.length ≤ k + i
  · rw [if_pos h, if_pos (by omega)]
  · rw [if_neg h, if_neg (by omega)]
/-- the same, behind a place -/
def goD (l : List Prod) (D : List Tok) (b : Nat → Int) (k : Nat) : Except Int ((Nat → Int) × List Tok × Nat) :=
  if D.length ≤ 0 then .error 1
  else if (tokAt D 0).kind ≠ 1 then .error 2
  else if findP l (tokAt D 0).text = none then .error 6
  else if b (findK l (tokAt D 0).text) ≠ 0 then .error 7
  else if isAt D 1 ⟨#[58]⟩ = false then .error (wrongAt D 1)
  else if D.length ≤ 2 ∨ (tokAt D 2).kind ≠ 2 then .error (wrongAt D 2)
  else if ¬ (1 ≤ (tokAt D 2).value ∧ (tokAt D 2).value ≤ 4) then .error 4
  else if isAt D 3 ⟨#[125]⟩ = true then .ok (upd b (findK l (tokAt D 0).text) (tokAt D 2).value, D.drop 4, k + 4)
  else if isAt D 3 ⟨#[44]⟩ = true then refGo l (D.drop 4) (upd b (findK l (tokAt D 0).text) (tokAt D 2).value) (k + 4)
  else .error (wrongAt D 3)
theorem goD_at (l : List Prod) (U : List Tok) (b : Nat → Int) (k : Nat) : goD l (U.drop k) b k = goAt l U b k := by
  unfold goD goAt
  simp only [tokAt_drop, isAt_drop, wrongAt_drop, List.length_drop, List.drop_drop, Nat.add_zero]
  have h0 : (U.length - k ≤ 0) = (U.length ≤ k) := by apply propext; omega
  have h2 : (U.length - k ≤ 2) = (U.length ≤ k + 2) := by apply propext; omega
  simp only [h0, h2]
theorem refGo_D (l : List Prod) (D : List Tok) (b : Nat → Int) (k : Nat) : refGo l D b k = goD l D b k := by
  match D with
  | [] => unfold refGo goD; simp
  | [t] =>
    unfold refGo goD
    simp [tokAt, isAt, wrongAt]
  | [t, t1] =>
    unfold refGo goD
    simp [tokAt, isAt, wrongAt]
  | [t, t1, t2] =>
    unfold refGo goD
    simp [tokAt, isAt, wrongAt]
  | t :: t1 :: t2 :: t3 :: R =>
    unfold refGo goD
    simp [tokAt, isAt, wrongAt]
theorem refGo_at (l : List Prod) (U : List Tok) (b : Nat → Int) (k : Nat) : refGo l (U.drop k) b k = goAt l U b k := by rw [refGo_D, goD_at]
theorem refF_at (l : List Prod) (U : List Tok) : refF l U = if isAt U 0 ⟨#[123]⟩ = false then .error (wrongAt U 0) else if isAt U 1 ⟨#[125]⟩ = true then .ok (zero6, U.drop 2, 2) else refGo l (U.drop 1) zero6 1 := by
  match U with
  | [] => unfold refF; simp [isAt, wrongAt]
  | [t] => unfold refF; simp [tokAt, isAt, wrongAt]
  | t :: t1 :: R => unfold refF; simp [tokAt, isAt, wrongAt]
def rtokV : Except Int ((Nat → Int) × List Tok × Nat) → Value
  | .error x => .tuple #[.agg (arr zero6), .int .i64 0, .int .i64 x]
  | .ok (b, _, n) => .tuple #[.agg (arr b), .int .i64 (n : Int), .int .i64 0]
/-- a list of tokens in memory -/
abbrev TS (w : World) (v : Value) (U : List Tok) : Prop := Sl w 4 v U.length (cellsOf U)
theorem ts_cases {w : World} {v : Value} {U : List Tok} (h : TS w v U) : ∃ A c, v = .slice A U.length c ∧ U.length ≤ c ∧ c ≤ maxLen ∧ (0 < U.length → ∃ b o, A = some ⟨b, o, none⟩ ∧ b < w.heap.size ∧ TokRow w b o U) := by
  obtain ⟨_, A, c, h1, h2, h3, h4⟩ := h
  exact ⟨A, c, h1, h2, h3, h4⟩
theorem tokAt_get {U : List Tok} {k : Nat} (h : k < U.length) : tokAt U k = U[k] := by simp [tokAt, List.getD, h]
theorem tokrow_at {w : World} {b o : Nat} {U : List Tok} (h : TokRow w b o U) (k : Nat) (hk : k < U.length) :
    w.cell? ⟨b, o + k * 4, none⟩ = some (.int .i64 (tokAt U k).kind) ∧ w.cell? ⟨b, o + k * 4 + 1, none⟩ = some (.string (tokAt U k).text) ∧ w.cell? ⟨b, o + k * 4 + 2, none⟩ = some (.int .i64 (tokAt U k).value) ∧ w.cell? ⟨b, o + k * 4 + 3, none⟩ = some (.int .i64 (tokAt U k).pos) := by
  rw [tokAt_get hk]
  exact h.at_ k hk
theorem tokrow_below {w w' : World} {b o : Nat} {U : List Tok} (h : TokRow w b o U) (hb : b < w.heap.size) (hB : Below w.heap.size w w') : TokRow w' b o U := fun j u hu =>
  (hB.cell (p := ⟨b, o + j, none⟩) hb).trans (h j u hu)
/-- the result's block and the bundle's block -/
structure RMid (tb : TypeId) (w wx : World) (b : Nat → Int) : Prop where
  res : Blk wx w.heap.size tb (arr zero6)
  box : Blk wx (w.heap.size + 1) tb (arr b)
  bel : Below w.heap.size w wx
theorem rmid_new (w : World) (tb : TypeId) : RMid tb w ((w.alloc (.cells (arr zero6) tb)).alloc (.cells (arr zero6) tb)) zero6 := by
  refine ⟨(Blk.new w tb _).alloc _, ?_, ((Below.refl _ _).alloc (by go_size) _).alloc (by go_size) _⟩
  have := Blk.new (w.alloc (.cells (arr zero6) tb)) tb (arr zero6)
  simpa only [World.size_alloc] using this
theorem RMid.below {tb : TypeId} {w wx wy : World} {b : Nat → Int} (h : RMid tb w wx b) (k : Below wx.heap.size wx wy) : RMid tb w wy b := ⟨h.res.below' k, h.box.below' k, chain0 h.bel k⟩
theorem RMid.upd {tb : TypeId} {w wx : World} {b : Nat → Int} (h : RMid tb w wx b) (k : Nat) (hk : k < 6) (x : Int) : RMid tb w (wx.setCell ⟨w.heap.size + 1, k, none⟩ (.int .i64 x)) (upd b k x) :=
  ⟨h.res.far (by show w.heap.size ≠ w.heap.size + 1; omega) _, h.box.upd k hk x, h.bel.setCell (p := ⟨w.heap.size + 1, k, none⟩) (by show w.heap.size ≤ w.heap.size + 1; omega) _⟩
abbrev RTokPost (r : Except Int ((Nat → Int) × List Tok × Nat)) (w : World) : Ending → World → Prop := fun e w' => e = .returned (rtokV r) ∧ Below w.heap.size w w'
end Cat
end Go.Proofs.YtjjlhihocllgjaaDoor
namespace Go.Proofs.YtjjlhihocllgjaaDoor
open Go.ChangeShapes Go.WideShapes Go.ChangeAt Go.RowKit
set_option linter.unusedVariables false
set_option linter.unusedSimpArgs false
namespace Cat
open Lex
theorem refGo_rest (l : List Prod) : ∀ (m : Nat) (D : List Tok) (b : Nat → Int) (k : Nat), D.length ≤ m → ∀ b' R n, refGo l D b k = .ok (b', R, n) → ∃ j, n = k + j ∧ R = D.drop j ∧ j ≤ D.length
  | 0, D, b, k, hm, b', R, n, h => by
    obtain rfl : D = [] := List.eq_nil_of_length_eq_zero (by omega)
    unfold refGo at h
    cases h
  | m + 1, D, b, k, hm, b', R, n, h => by
    rw [refGo_D] at h
    unfold goD at h
    by_cases c0 : D.length ≤ 0
    · rw [if_pos c0] at h; cases h
    · rw [if_neg c0] at h
      by_cases c1 : (tokAt D 0).kind ≠ 1
      · rw [if_pos c1] at h; cases h
      · rw [if_neg c1] at h
        by_cases c2 : findP l (tokAt D 0).text = none
        · rw [if_pos c2] at h; cases h
        · rw [if_neg c2] at h
          by_cases c3 : b (findK l (tokAt D 0).text) ≠ 0
          · rw [if_pos c3] at h; cases h
          · rw [if_neg c3] at h
            by_cases c4 : isAt D 1 ⟨#[58]⟩ = false
            · rw [if_pos c4] at h; cases h
            · rw [if_neg c4] at h
              by_cases c5 : D.length ≤ 2 ∨ (tokAt D 2).kind ≠ 2
              · rw [if_pos c5] at h; cases h
              · rw [if_neg c5] at h
                by_cases c6 : ¬ (1 ≤ (tokAt D 2).value ∧ (tokAt D 2).value ≤ 4)
                · rw [if_pos c6] at h; cases h
                · rw [if_neg c6] at h
                  by_cases c7 : isAt D 3 ⟨#[125]⟩ = true
                  · rw [if_pos c7] at h
                    injection h with h
                    injection h with h1 h2
                    injection h2 with h2 h3
                    subst h1 h2 h3
                    refine ⟨4, rfl, rfl, ?_⟩
                    unfold isAt at c7
                    simp at c7
                    omega
                  · rw [if_neg c7] at h
                    by_cases c8 : isAt D 3 ⟨#[44]⟩ = true
                    · rw [if_pos c8] at h
                      have hl : 3 < D.length := by
                        unfold isAt at c8
                        simp at c8
                        omega
                      obtain ⟨j, h1, h2, h3⟩ := refGo_rest l m (D.drop 4) _ _ (by rw [List.length_drop]; omega) _ _ _ h
                      rw [List.length_drop] at h3
                      exact ⟨4 + j, by omega, by rw [h2, List.drop_drop], by omega⟩
                    · rw [if_neg c8] at h; cases h
theorem refF_rest {l : List Prod} {U : List Tok} {b' : Nat → Int} {R : List Tok} {n : Nat} (h : refF l U = .ok (b', R, n)) : R = U.drop n ∧ n ≤ U.length := by
  rw [refF_at] at h
  by_cases c0 : isAt U 0 ⟨#[123]⟩ = false
  · rw [if_pos c0] at h; cases h
  · rw [if_neg c0] at h
    have hl : 0 < U.length := by
      unfold isAt at c0
      simp at c0
      omega
    by_cases c1 : isAt U 1 ⟨#[125]⟩ = true
    · rw [if_pos c1] at h
      injection h with h
      injection h with h1 h2
      injection h2 with h2 h3
      subst h1 h2 h3
      refine ⟨rfl, ?_⟩
      unfold isAt at c1
      simp at c1
      omega
    · rw [if_neg c1] at h
      obtain ⟨j, h1, h2, h3⟩ := refGo_rest l _ (U.drop 1) _ _ (Nat.le_refl _) _ _ _ h
      rw [List.length_drop] at h3
      exact ⟨by rw [h2, List.drop_drop, h1], by omega⟩
/-- what the reference's Tokens gives, in three parts -/
def rtB : Except Int ((Nat → Int) × List Tok × Nat) → Nat → Int
  | .error _ => zero6
  | .ok (b, _, _) => b
def rtN : Except Int ((Nat → Int) × List Tok × Nat) → Nat
  | .error _ => 0
  | .ok (_, _, n) => n
def rtE : Except Int ((Nat → Int) × List Tok × Nat) → Int
  | .error x => x
  | .ok _ => 0
theorem rtokV_eq (r : Except Int ((Nat → Int) × List Tok × Nat)) : rtokV r = .tuple #[.agg (arr (rtB r)), .int .i64 (rtN r : Int), .int .i64 (rtE r)] := by
  cases r with
  | error x => rfl
  | ok r => obtain ⟨b, R, n⟩ := r; rfl
theorem refF_err_ne {l : List Prod} {U : List Tok} {x : Int} (hz : checkE l = 0) (h : refF l U = .error x) : x ≠ 0 := by
  have := scan_ref l U hz
  rw [h] at this
  exact this.1
theorem parseT_parts (l : List Prod) (U : List Tok) (hz : checkE l = 0) : parseT l U = if rtE (refF l U) ≠ 0 then (zero6, rtE (refF l U)) else if rtN (refF l U) < U.length then (zero6, 3) else (rtB (refF l U), 0) := by
  unfold parseT
  cases h : refF l U with
  | error x =>
    have := refF_err_ne hz h
    show (zero6, x) = if x ≠ 0 then (zero6, x) else _
    rw [if_pos this]
  | ok r =>
    obtain ⟨b, R, n⟩ := r
    obtain ⟨h1, h2⟩ := refF_rest h
    have e1 : rtE (.ok (b, R, n)) = 0 := rfl
    have e2 : rtN (.ok (b, R, n)) = n := rfl
    have e3 : rtB (.ok (b, R, n)) = b := rfl
    rw [e1, e2, e3, if_neg (fun h => h rfl)]
    dsimp only
    by_cases c : n < U.length
    · have hR : R ≠ [] := by
        intro e
        rw [e] at h1
        have := congrArg List.length h1
        rw [List.length_drop] at this
        simp at this
        omega
      rw [if_pos c, if_neg hR]
    · have hR : R = [] := by
        rw [h1]
        exact List.drop_eq_nil_of_le (by omega)
      rw [if_neg c, if_pos hR]
end Cat
end Go.Proofs.YtjjlhihocllgjaaDoor
namespace Go.Proofs.YtjjlhihocllgjaaDoor.Ros
open Go.ChangeShapes Go.WideShapes Go.ChangeAt Go.RowKit Gn Cat Lex
set_option linter.unusedVariables false
set_option linter.unusedSimpArgs false
abbrev CheckPost (l : List Bid) (w : World) : Ending → World → Prop := fun e w' => e = .returned (.int .i64 (rosE l)) ∧ Below w.heap.size w w'
theorem check_empty (A : Option Addr) (c : Nat) (w : World) : Calls Tryd.prog 78 #[.slice A 0 c] w (CheckPost [] w) := by
  have HE : Hid (rosE [] = 1) := rfl
  go_enter Tryd.func78, Tryd.ntmps78
  go_wp2_with fail
  go_ret
  exact ⟨by rw [HE.out]; rfl, Below.refl _ _⟩
theorem check_long (l : List Bid) (A : Option Addr) (c : Nat) (w : World) (hl : l.length ≤ 5000) (h : 8 < l.length) : Calls Tryd.prog 78 #[.slice A l.length c] w (CheckPost l w) := by
  have HE := Lib.hid (show rosE l = 3 by unfold rosE; simp [h, show ¬ l.length = 0 by omega])
  have d0 : ((l.length : Int) == 0) = false := beq_eq_false_iff_ne.2 (by omega)
  have d1 : decide ((8 : Int) < (l.length : Int)) = true := by simp; omega
  go_enter Tryd.func78, Tryd.ntmps78
  go_wp2_with fail
  go_ret
  exact ⟨by rw [HE.out]; rfl, Below.refl _ _⟩
set_option maxHeartbeats 800000 in
set_option maxRecDepth 100000 in
theorem check_some (l : List Bid) (b1 o1 c1 : Nat) (w : World) (h8 : l.length ≤ 8) (h0 : 0 < l.length) (hc : l.length ≤ c1) (_hm : c1 ≤ maxLen) (hb1 : b1 < w.heap.size) (h1 : BidRow w b1 o1 l) (hn : ∀ p ∈ l, p.name.size ≤ maxLen) :
    Calls Tryd.prog 78 #[.slice (some ⟨b1, o1, none⟩) l.length c1] w (CheckPost l w) := by
  have HN := Lib.hid fun k (h : k < l.length) => hn l[k] (List.getElem_mem h)
  have HR := Lib.hid fun w' => h1.below (w' := w') hb1
  have HE := Lib.hid (rosE_mid h0 h8)
  have HD := Lib.hid (fun k (h : k < l.length) => rosGo_drop (l := l) (k := k) h)
  unfold maxLen at _hm
  clear hn h1
  have d0 : ((l.length : Int) == 0) = false := beq_eq_false_iff_ne.2 (by omega)
  have d1 : decide ((8 : Int) < (l.length : Int)) = false := by simp; omega
  go_enter Tryd.func78, Tryd.ntmps78
  go_wp2_with fail
  go_loopw [17] (fun i wr => ∃ k : Nat, k ≤ l.length ∧ i = .int .i64 (k : Int) ∧ Hid (rosGo l (l.drop k) k = rosGo l l 0) ∧ Hid (Below w.heap.size w wr)) (fun i _ => l.length - (intOf i).toNat)
  case atStart => exact ⟨0, by omega, rfl, rfl, Below.refl _ _⟩
  case round =>
    clear d0 d1
    obtain ⟨k, hk, rfl, HX, HB0⟩ := hrel
    by_cases hlt : k < l.length
    · have hd : decide ((k : Int) < (l.length : Int)) = true := by simp; omega
      have hi0 : (0 : Int) ≤ (k : Int) := by omega
      have et := BidRow.at_ (HR.out _ HB0.out) k hlt
      have hbr : b1 < wr.heap.size := by have := HB0.out.size; omega
      have HST := Lib.hid (HX.out.symm.trans (HD.out k hlt))
      have hsz := HN.out k hlt
      clear HX
      have htk := HR.out
      generalize hp : l[k] = p at *
      have HP := Lib.hid hp
      clear hp
      have hc1 : 0 < c1 := by omega
      have hkc : k ≤ c1 := by omega
      cases hnm : nameOk p.name with
      | false =>
        have HF := Lib.hid (show rosGo l l 0 = 5 by rw [HST.out, hnm]; rfl)
        go_wp2_with fail
        refine (isName_any p.name _ hsz).mono ?_
        rintro e w1 ⟨rfl, rfl⟩
        rw [hnm]
        go_wp2_with fail
        go_ret
        exact ⟨by rw [HE.out, HF.out]; rfl, HB0.out.alloc HB0.out.size _⟩
      | true =>
        have HST1 := Lib.hid (show rosGo l l 0 = if (findB (l.take k) p.name).isSome then 7 else if bidOk p then rosGo l (l.drop (k + 1)) (k + 1) else 4 by rw [HST.out, hnm]; rfl)
        clear HST
        go_wp2_with fail
        refine (isName_any p.name _ hsz).mono ?_
        rintro e w1 ⟨rfl, rfl⟩
        rw [hnm]
        clear et htk
        have K1 := Lib.hid (Blk.new wr 116 #[.string p.name, .int .i64 p.cls, .int .i64 p.budget, .int .i64 p.points])
        have B1 := Lib.hid (HB0.out.alloc HB0.out.size (.cells #[.string p.name, .int .i64 p.cls, .int .i64 p.budget, .int .i64 p.points] 116))
        have hg := K1.out.lt
        have e1 := K1.out.c4
        generalize wr.alloc _ = W at *
        generalize wr.heap.size = g at *
        cases hf : findOk (l.take k) p.name with
        | true =>
          have HF := Lib.hid (show rosGo l l 0 = 7 by rw [HST1.out]; unfold findOk at hf; rw [hf]; rfl)
          go_wp2_with fail
          go_region_held3 (fun w' => w'.cell? ⟨g, 0, none⟩ = some (.string p.name)) (go_keep) ((go_at_call 105; refine (find_take l b1 o1 c1 k p.name _ (by omega) hk (Nat.lt_of_lt_of_le hb1 (chain0 B1.out (Below.refl _ _).drew).size) (HR.out _ (chain0 B1.out (Below.refl _ _).drew))).mono ?_; rintro r w2 ⟨rfl, b2⟩; have B2 := Lib.hid (chain0 (chain0 B1.out (Below.refl _ _).drew) b2); rw [hf]; have e2 := (K1.out.drew.below' b2).c4; clear b2))
          go_wp2_with fail
          go_ret
          exact ⟨by rw [HE.out, HF.out]; rfl, B2.out⟩
        | false =>
          have HST2 := Lib.hid (show rosGo l l 0 = if bidOk p then rosGo l (l.drop (k + 1)) (k + 1) else 4 by rw [HST1.out]; unfold findOk at hf; rw [hf]; rfl)
          clear HST1
          go_wp2_with fail
          go_region_held3 (fun w' => w'.cell? ⟨g, 0, none⟩ = some (.string p.name)) (go_keep) ((go_at_call 105; refine (find_take l b1 o1 c1 k p.name _ (by omega) hk (Nat.lt_of_lt_of_le hb1 (chain0 B1.out (Below.refl _ _).drew).size) (HR.out _ (chain0 B1.out (Below.refl _ _).drew))).mono ?_; rintro r w2 ⟨rfl, b2⟩; have B2 := Lib.hid (chain0 (chain0 B1.out (Below.refl _ _).drew) b2); rw [hf]; have e2 := (K1.out.drew.below' b2).c4; clear b2))
          clear e1
          by_cases q0 : p.cls < 0
          · have t0 : decide (p.cls < (0 : Int)) = true := decide_eq_true q0
            have HF := Lib.hid (show rosGo l l 0 = 4 by rw [HST2.out, if_neg (fun h => by have := bidOk_iff.1 h; omega)])
            clear q0
            go_wp2_with fail
            go_ret
            exact ⟨by rw [HE.out, HF.out]; rfl, B2.out⟩
          · have t0 : decide (p.cls < (0 : Int)) = false := decide_eq_false q0
            by_cases q1 : 4 < p.cls
            · have t1 : decide ((4 : Int) < p.cls) = true := decide_eq_true q1
              have HF := Lib.hid (show rosGo l l 0 = 4 by rw [HST2.out, if_neg (fun h => by have := bidOk_iff.1 h; omega)])
              clear q0
              clear q1
              go_wp2_with fail
              go_ret
              exact ⟨by rw [HE.out, HF.out]; rfl, B2.out⟩
            · have t1 : decide ((4 : Int) < p.cls) = false := decide_eq_false q1
              by_cases q2 : p.budget < 0
              · have t2 : decide (p.budget < (0 : Int)) = true := decide_eq_true q2
                have HF := Lib.hid (show rosGo l l 0 = 4 by rw [HST2.out, if_neg (fun h => by have := bidOk_iff.1 h; omega)])
                clear q0
                clear q1
                clear q2
                go_wp2_with fail
                go_ret
                exact ⟨by rw [HE.out, HF.out]; rfl, B2.out⟩
              · have t2 : decide (p.budget < (0 : Int)) = false := decide_eq_false q2
                by_cases q3 : 1000000 < p.budget
                · have t3 : decide ((1000000 : Int) < p.budget) = true := decide_eq_true q3
                  have HF := Lib.hid (show rosGo l l 0 = 4 by rw [HST2.out, if_neg (fun h => by have := bidOk_iff.1 h; omega)])
                  clear q0
                  clear q1
                  clear q2
                  clear q3
                  go_wp2_with fail
                  go_ret
                  exact ⟨by rw [HE.out, HF.out]; rfl, B2.out⟩
                · have t3 : decide ((1000000 : Int) < p.budget) = false := decide_eq_false q3
                  by_cases q4 : p.points < 0
                  · have t4 : decide (p.points < (0 : Int)) = true := decide_eq_true q4
                    have HF := Lib.hid (show rosGo l l 0 = 4 by rw [HST2.out, if_neg (fun h => by have := bidOk_iff.1 h; omega)])
                    clear q0
                    clear q1
                    clear q2
                    clear q3
                    clear q4
                    go_wp2_with fail
                    go_ret
                    exact ⟨by rw [HE.out, HF.out]; rfl, B2.out⟩
                  · have t4 : decide (p.points < (0 : Int)) = false := decide_eq_false q4
                    by_cases q5 : 24000 < p.points
                    · have t5 : decide ((24000 : Int) < p.points) = true := decide_eq_true q5
                      have HF := Lib.hid (show rosGo l l 0 = 4 by rw [HST2.out, if_neg (fun h => by have := bidOk_iff.1 h; omega)])
                      clear q0
                      clear q1
                      clear q2
                      clear q3
                      clear q4
                      clear q5
                      go_wp2_with fail
                      go_ret
                      exact ⟨by rw [HE.out, HF.out]; rfl, B2.out⟩
                    · have t5 : decide ((24000 : Int) < p.points) = false := decide_eq_false q5
                      have HF := Lib.hid (show rosGo l (l.drop (k + 1)) (k + 1) = rosGo l l 0 by rw [HST2.out, if_pos (bidOk_iff.2 (by omega))])
                      clear q0
                      clear q1
                      clear q2
                      clear q3
                      clear q4
                      clear q5
                      go_wp2_with fail
                      go_roundw
                      case rel => exact ⟨k + 1, by omega, by go_num, HF, B2.out⟩
                      case measure => simp [intOf]; omega
    · obtain rfl : k = l.length := by omega
      have hd : decide ((l.length : Int) < (l.length : Int)) = false := by simp
      have HZ : Hid (rosGo l l 0 = 0) := by
        rw [← HX.out, List.drop_length]
        rfl
      go_wp2_with fail
      go_ret
      exact ⟨by rw [HE.out, HZ.out]; rfl, HB0.out⟩
theorem check_any (l : List Bid) (v : Value) (w : World) (hl : l.length ≤ 5000) (h : BidS w v l) (hn : ∀ p ∈ l, p.name.size ≤ maxLen) : Calls Tryd.prog 78 #[v] w (CheckPost l w) := by
  obtain ⟨A, c, rfl, h1, h2, ha⟩ := sl_parts h
  by_cases h8 : 8 < l.length
  · exact check_long l A c w hl h8
  · cases l with
    | nil => exact check_empty A c w
    | cons p l =>
      obtain ⟨b, o, rfl, hb, r⟩ := ha (by simp)
      exact check_some _ b o c w (by omega) (by simp) h1 h2 hb r hn
end Go.Proofs.YtjjlhihocllgjaaDoor.Ros
