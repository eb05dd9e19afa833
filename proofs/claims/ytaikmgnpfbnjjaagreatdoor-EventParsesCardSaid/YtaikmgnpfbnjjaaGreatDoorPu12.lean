/- Contracts of the catalog's Scan and Parse, whole. Printed by gen_catN.py. Contracts of the reference's is, wrong and Tokens. Printed by gen_catO.py. -/
import Derived.Test.YtaikmgnpfbnjjaaGreatDoorPu11
namespace Go.Proofs.YtaikmgnpfbnjjaaGreatDoor
open Go.ChangeShapes Go.WideShapes Go.ChangeAt Go.RowKit
set_option linter.unusedVariables false
set_option linter.unusedSimpArgs false
namespace Cat
open Lex
theorem scan_any (l : List Prod) (A : Option Addr) (c : Nat) (L : List Tok) (e : Int) (g : Nat) (w : World) (hl : l.length ≤ 5000) (hp : PS w (.slice A l.length c) l) (hA : ∀ b o, A = some ⟨b, o, none⟩ → b ≠ g) (hn : ∀ p ∈ l, p.name.size ≤ maxLen) (hs : Scan 161 157 w g L e) (hm : L.length ≤ 5000) :
    Calls Tryz.prog 113 #[.slice A l.length c, .pointer (some ⟨g, 0, none⟩)] w (ScanPost (scanF l L e) g w) := by
  by_cases he : e = 0
  · subst he
    by_cases hz : checkE l = 0
    · obtain ⟨A', c', e', k1, k2, ha⟩ := ps_cases hp
      injection e' with e1 _ e2
      subst e1 e2
      obtain ⟨b1, o1, rfl, _, r⟩ := ha (checkE_zero hz).1
      unfold scanF
      rw [if_neg (by simp), if_neg (by simp [hz])]
      by_cases hac : accB (expL L 0 ⟨#[123]⟩) (expE L 0 ⟨#[123]⟩) ⟨#[125]⟩
      · rw [if_pos hac]
        exact scan_none l b1 o1 c L g w k1 k2 r (hA _ _ rfl) hn hs hm hz hac
      · rw [if_neg hac]
        exact scan_some l b1 o1 c L g w k1 k2 r (hA _ _ rfl) hn hs hm hz hac
    · have hS : scanF l L 0 = ⟨L, checkE l, zero6⟩ := by unfold scanF; rw [if_neg (by simp), if_pos hz]
      rw [hS]
      exact scan_bad l A c L g w hl hp hn hs hz
  · have hS : scanF l L e = ⟨L, e, zero6⟩ := by unfold scanF; rw [if_pos he]
    rw [hS]
    exact scan_err A _ c L e g w hs he
theorem lexToks_len (s : ByteArray) (hs : s.size ≤ 5000) : (LexToks (lex s)).length ≤ 5000 := lex_len s hs
theorem loopF_len (l : List Prod) : ∀ (f : Nat) (s : St), (loopF l f s).L.length ≤ s.L.length
  | 0, s => by unfold loopF; exact Nat.le_refl _
  | f + 1, s => by
    unfold loopF
    split
    · exact Nat.le_trans (loopF_len l f _) (Nat.le_trans (elemF_len l _) (nextL_len _ _))
    · exact Nat.le_refl _
theorem lexToks_scan (l : List Prod) (L : List Tok) (h : L.length ≤ 5000) : (scanF l L 0).L.length ≤ 5000 := by
  unfold scanF
  split
  · exact h
  · split
    · exact h
    · split
      · exact Nat.le_trans (Nat.le_trans (nextL_len _ _) (expL_len _ _ _)) h
      · unfold endF
        exact Nat.le_trans (Nat.le_trans (expL_len _ _ _) (Nat.le_trans (loopF_len l _ _) (Nat.le_trans (elemF_len l _) (expL_len _ _ _)))) h
/-- what Parse computes -/
def parseT (l : List Prod) (L : List Tok) : (Nat → Int) × Int :=
  match refF l L with
  | .error x => (zero6, x)
  | .ok (b, R, _) => if R = [] then (b, 0) else (zero6, 3)
def parseF (l : List Prod) (s : ByteArray) : (Nat → Int) × Int :=
  if checkE l ≠ 0 then (zero6, checkE l)
  else if LexErr (lex s) ≠ 0 then (zero6, LexErr (lex s))
  else parseT l (LexToks (lex s))
/-- by the scanner: the same -/
theorem parse_scan {l : List Prod} (L : List Tok) (h : checkE l = 0) : parseT l L = if endE (scanF l L 0).L (scanF l L 0).e = 0 then ((scanF l L 0).b, 0) else (zero6, endE (scanF l L 0).L (scanF l L 0).e) := by
  have := scan_ref l L h
  unfold parseT
  revert this
  cases refF l L with
  | error x =>
    rintro ⟨hx, h1, h2⟩
    have e1 : endE (scanF l L 0).L (scanF l L 0).e = x := by unfold endE; rw [if_neg (by rw [h1]; exact fun k => hx k.1), h1]
    rw [e1, if_neg hx]
  | ok r =>
    obtain ⟨b, R, n⟩ := r
    intro h1
    dsimp only at h1
    rw [h1]
    dsimp only
    by_cases hR : R = []
    · have e1 : endE R 0 = 0 := by unfold endE; rw [if_neg (fun k => k.2 hR)]
      rw [if_pos hR, e1, if_pos rfl]
    · have e1 : endE R 0 = 3 := by unfold endE; rw [if_pos ⟨rfl, hR⟩]
      rw [if_neg hR, e1, if_neg (by decide)]
abbrev ParsePost (r : (Nat → Int) × Int) (w : World) : Ending → World → Prop := fun e w' => e = .returned (.tuple #[.agg (arr r.1), .int .i64 r.2]) ∧ Below w.heap.size w w'
theorem below_six {w wx : World} {x B : Nat} (h : Below B w wx) (hx : B ≤ x) (q : Nat → Int) : Below B w (put6 wx x q) :=
  (((((h.setCell (p := ⟨x, 0, none⟩) hx _).setCell (p := ⟨x, 1, none⟩) hx _).setCell (p := ⟨x, 2, none⟩) hx _).setCell (p := ⟨x, 3, none⟩) hx _).setCell (p := ⟨x, 4, none⟩) hx _).setCell (p := ⟨x, 5, none⟩) hx _
theorem below_sixz {w wx : World} {x B : Nat} (h : Below B w wx) (hx : B ≤ x) : Below B w (put6z wx x) := below_six h hx zero6
set_option maxRecDepth 100000 in
theorem parse_bad (l : List Prod) (v : Value) (s : ByteArray) (w : World) (hl : l.length ≤ 5000) (hp : PS w v l) (hn : ∀ p ∈ l, p.name.size ≤ maxLen) (hz : checkE l ≠ 0) : Calls Tryz.prog 88 #[v, .string s] w (ParsePost (zero6, checkE l) w) := by
  have CC := Lib.hid (fun w' (k : Below w.heap.size w w') => check_any l v w' hl (Sl.keep hp k) hn)
  have HK := Lib.hid (Blk.new w 23 (arr zero6))
  have q1 : (checkE l != 0) = true := by simpa using hz
  obtain ⟨A, c, rfl, _, _, _⟩ := ps_cases hp
  clear hp hz hn
  go_enter Tryz.func88, Tryz.ntmps88
  go_wp2_with fail
  refine (CC.out _ (below_new _ _)).mono ?_
  rintro r w2 ⟨rfl, d2⟩
  have K2 := Lib.hid (HK.out.below' d2)
  have B2 := Lib.hid (chain1 (Below.refl _ _) d2)
  clear d2
  obtain ⟨Z0, Z1, Z2, Z3, Z4, Z5⟩ := K2.out.box.cells
  have zf := K2.out.box.free
  go_wp2_with fail
  have RE := res_end0 K2.out.box
  obtain ⟨X0, X1, X2, X3, X4, X5⟩ := RE.cells
  refine bodyPost_ret (v := .tuple #[.agg (arr zero6), .int .i64 (checkE l)]) (by simp [results, Tryz.results88, go_sem, arr, X0, X1, X2, X3, X4, X5, zero6]) rfl ⟨rfl, below_sixz B2.out (Nat.le_refl _)⟩

set_option maxRecDepth 100000 in
theorem parse_lex (l : List Prod) (v : Value) (s : ByteArray) (w : World) (hl : l.length ≤ 5000) (hp : PS w v l) (hn : ∀ p ∈ l, p.name.size ≤ maxLen) (hss : s.size ≤ 5000) (hz : checkE l = 0) (he : LexErr (lex s) ≠ 0) : Calls Tryz.prog 88 #[v, .string s] w (ParsePost (zero6, LexErr (lex s)) w) := by
  have CC := Lib.hid (fun w' (k : Below w.heap.size w w') => check_any l v w' hl (Sl.keep hp k) hn)
  have CT := Lib.hid (fun w' => tokens_any s w' hss)
  have HK := Lib.hid (Blk.new w 23 (arr zero6))
  have q1 : (checkE l != 0) = false := by simpa using hz
  have q2 : (LexErr (lex s) != 0) = true := by simpa using he
  obtain ⟨A, c, rfl, _, _, _⟩ := ps_cases hp
  clear hp hz hn he
  go_enter Tryz.func88, Tryz.ntmps88
  go_wp2_with fail
  refine (CC.out _ (below_new _ _)).mono ?_
  rintro r w2 ⟨rfl, d2⟩
  have K2 := Lib.hid (HK.out.below' d2)
  have B2 := Lib.hid (chain1 (Below.refl _ _) d2)
  clear d2
  go_wp2_with fail
  refine (CT.out _).mono ?_
  rintro r w3 ⟨v3, rfl, ho, d3⟩
  have K3 := Lib.hid (K2.out.below' d3)
  have B3 := Lib.hid (chain0 B2.out d3)
  obtain ⟨A3, c3, rfl⟩ := own_form ho
  clear d3 ho
  obtain ⟨Z0, Z1, Z2, Z3, Z4, Z5⟩ := K3.out.box.cells
  have zf := K3.out.box.free
  go_wp2_with fail
  have RE := res_end0 K3.out.box
  obtain ⟨X0, X1, X2, X3, X4, X5⟩ := RE.cells
  refine bodyPost_ret (v := .tuple #[.agg (arr zero6), .int .i64 (LexErr (lex s))]) (by simp [results, Tryz.results88, go_sem, arr, X0, X1, X2, X3, X4, X5, zero6]) rfl ⟨rfl, below_sixz B3.out (Nat.le_refl _)⟩

set_option maxRecDepth 100000 in
set_option maxHeartbeats 1000000 in
theorem parse_toks (l : List Prod) (v : Value) (s : ByteArray) (w : World) (hl : l.length ≤ 5000) (hp : PS w v l) (hn : ∀ p ∈ l, p.name.size ≤ maxLen) (hss : s.size ≤ 5000) (hz : checkE l = 0) (he : LexErr (lex s) = 0) : Calls Tryz.prog 88 #[v, .string s] w (ParsePost (parseT l (LexToks (lex s))) w) := by
  have CC := Lib.hid (fun w' (k : Below w.heap.size w w') => check_any l v w' hl (Sl.keep hp k) hn)
  have CT := Lib.hid (fun w' => tokens_any s w' hss)
  have HK := Lib.hid (Blk.new w 23 (arr zero6))
  have q1 : (checkE l != 0) = false := by simpa using hz
  have q2 : (LexErr (lex s) != 0) = false := by simpa using he
  have hL : (LexToks (lex s)).length ≤ 5000 := lexToks_len s hss
  have HP := Lib.hid (parse_scan (LexToks (lex s)) hz)
  have CNS := Lib.hid (fun v w' h => newScanner_any (LexToks (lex s)) v w' hL h)
  obtain ⟨A, c, rfl, _, _, ha⟩ := ps_cases hp
  have HA := Lib.hid (show ∀ b o, A = some ⟨b, o, none⟩ → b < w.heap.size by
    intro b o hb
    have := ha (checkE_zero hz).1
    obtain ⟨b', o', e', h', _⟩ := this
    rw [hb] at e'
    injection e' with e'
    injection e' with e'
    omega)
  have CS := Lib.hid (fun w' g (k : Below w.heap.size w w') (hg : w.heap.size ≤ g) h => scan_any l A c (LexToks (lex s)) 0 g w' hl (Sl.keep hp k) (fun b o hb => by have := HA.out b o hb; omega) hn h hL)
  have CE := Lib.hid end_any
  have hle := lexToks_scan l (LexToks (lex s)) hL
  generalize hgt : LexToks (lex s) = L at *
  have HGT := Lib.hid hgt
  clear hgt
  generalize scanF l L 0 = st at *
  clear hp hz hn he ha
  go_enter Tryz.func88, Tryz.ntmps88
  go_wp2_with fail
  refine (CC.out _ (below_new _ _)).mono ?_
  rintro r w2 ⟨rfl, d2⟩
  have K2 := Lib.hid (HK.out.below' d2)
  have B2 := Lib.hid (chain1 (Below.refl _ _) d2)
  clear d2
  go_wp2_with fail
  refine (CT.out _).mono ?_
  rintro r w3 ⟨v3, rfl, ho, d3⟩
  have K3 := Lib.hid (K2.out.below' d3)
  have B3 := Lib.hid (chain0 B2.out d3)
  rw [HGT.out] at ho
  have HO := Lib.hid (Sl.of_own ho)
  obtain ⟨A3, c3, rfl⟩ := own_form ho
  clear d3 ho
  go_wp2_with fail
  refine (CNS.out _ _ HO.out).mono ?_
  rintro r w4 ⟨g, rfl, hgl, s4, d4⟩
  have K4 := Lib.hid (K3.out.below' d4)
  have S4 := Lib.hid s4
  have hg1 : w.heap.size < g := Nat.lt_of_lt_of_le K3.out.lt hgl
  have B4 := Lib.hid (chain0 B3.out d4)
  clear d4 s4 hgl
  go_wp2_with fail
  refine (CS.out _ g B4.out (by omega) S4.out).mono ?_
  rintro r w5 ⟨rfl, s5, o5⟩
  have K5 := Lib.hid (K4.out.only o5 (by omega))
  have B5 := Lib.hid (Only.after_below B4.out o5 (by omega))
  have S5 := Lib.hid (s5.below (below_new _ (.cells (arr st.b) 23)))
  have HN := Lib.hid (Blk.new w5 23 (arr st.b))
  have K6 := Lib.hid (K5.out.alloc (.cells (arr st.b) 23))
  clear s5 o5
  go_wp2_with fail
  refine (CE.out _ _ _ _ S5.out (small_len hle)).mono ?_
  rintro r w6 ⟨rfl, rfl⟩
  by_cases hq : endE st.L st.e = 0
  · rw [if_pos hq] at HP
    have q3 : (endE st.L st.e != 0) = false := by simpa using hq
    clear hq
    obtain ⟨Q0, Q1, Q2, Q3, Q4, Q5⟩ := HN.out.box.cells
    obtain ⟨Z0, Z1, Z2, Z3, Z4, Z5⟩ := K6.out.box.cells
    have zf := K6.out.box.free
    go_wp2_with fail
    have RE := res_end K6.out.box st.b
    obtain ⟨X0, X1, X2, X3, X4, X5⟩ := RE.cells
    refine bodyPost_ret (v := .tuple #[.agg (arr st.b), .int .i64 0]) (by simp [results, Tryz.results88, go_sem, arr, X0, X1, X2, X3, X4, X5]) rfl ?_
    show ParsePost (parseT l L) w _ _
    rw [HP.out]
    exact ⟨rfl, below_six (B5.out.alloc B5.out.size _) (Nat.le_refl _) _⟩
  · rw [if_neg hq] at HP
    have q3 : (endE st.L st.e != 0) = true := by simpa using hq
    clear hq
    obtain ⟨Z0, Z1, Z2, Z3, Z4, Z5⟩ := K6.out.box.cells
    have zf := K6.out.box.free
    go_wp2_with fail
    have RE := res_end0 K6.out.box
    obtain ⟨X0, X1, X2, X3, X4, X5⟩ := RE.cells
    refine bodyPost_ret (v := .tuple #[.agg (arr zero6), .int .i64 (endE st.L st.e)]) (by simp [results, Tryz.results88, go_sem, arr, X0, X1, X2, X3, X4, X5, zero6]) rfl ?_
    show ParsePost (parseT l L) w _ _
    rw [HP.out]
    exact ⟨rfl, below_sixz (B5.out.alloc B5.out.size _) (Nat.le_refl _)⟩
theorem parse_any (l : List Prod) (v : Value) (s : ByteArray) (w : World) (hl : l.length ≤ 5000) (hp : PS w v l) (hn : ∀ p ∈ l, p.name.size ≤ maxLen) (hss : s.size ≤ 5000) : Calls Tryz.prog 88 #[v, .string s] w (ParsePost (parseF l s) w) := by
  unfold parseF
  by_cases hz : checkE l = 0
  · rw [if_neg (by simp [hz])]
    by_cases he : LexErr (lex s) = 0
    · rw [if_neg (by simp [he])]
      exact parse_toks l v s w hl hp hn hss hz he
    · rw [if_pos he]
      exact parse_lex l v s w hl hp hn hss hz he
  · rw [if_pos hz]
    exact parse_bad l v s w hl hp hn hz
end Cat
end Go.Proofs.YtaikmgnpfbnjjaaGreatDoor
namespace Go.Proofs.YtaikmgnpfbnjjaaGreatDoor
open Go.ChangeShapes Go.WideShapes Go.ChangeAt Go.RowKit
set_option linter.unusedVariables false
set_option linter.unusedSimpArgs false
namespace Cat
open Lex
def tokAt (U : List Tok) (i : Nat) : Tok := U.getD i Tok.none
def isAt (U : List Tok) (i : Nat) (m : ByteArray) : Bool := decide (i < U.length) && isM (tokAt U i) m
def wrongAt (U : List Tok) (i : Nat) : Int := if U.length ≤ i then 1 else 2
/-- one element of the reference's list, by places -/
def goAt (l : List Prod) (U : List Tok) (b : Nat → Int) (k : Nat) : Except Int ((Nat → Int) × List Tok × Nat) :=
  if U.length ≤ k then .error 1
  else if (tokAt U k).kind ≠ 1 then .error 2
  else if findP l (tokAt U k).text = none then .error 6
  else if b (findK l (tokAt U k).text) ≠ 0 then .error 7
  else if isAt U (k + 1) ⟨#[58]⟩ = false then .error (wrongAt U (k + 1))
  else if U.length ≤ k + 2 ∨ (tokAt U (k + 2)).kind ≠ 2 then .error (wrongAt U (k + 2))
  else if ¬ (1 ≤ (tokAt U (k + 2)).value ∧ (tokAt U (k + 2)).value ≤ 4) then .error 4
  else if isAt U (k + 3) ⟨#[125]⟩ = true then .ok (upd b (findK l (tokAt U k).text) (tokAt U (k + 2)).value, U.drop (k + 4), k + 4)
  else if isAt U (k + 3) ⟨#[44]⟩ = true then refGo l (U.drop (k + 4)) (upd b (findK l (tokAt U k).text) (tokAt U (k + 2)).value) (k + 4)
  else .error (wrongAt U (k + 3))
theorem tokAt_drop (U : List Tok) (k i : Nat) : tokAt (U.drop k) i = tokAt U (k + i) := by simp [tokAt, List.getD]
theorem isAt_drop (U : List Tok) (k i : Nat) (m : ByteArray) : isAt (U.drop k) i m = isAt U (k + i) m := by
  unfold isAt
  rw [tokAt_drop, List.length_drop]
  congr 1
  rw [decide_eq_decide]
  omega
theorem wrongAt_drop (U : List Tok) (k i : Nat) : wrongAt (U.drop k) i = wrongAt U (k + i) := by
  unfold wrongAt
  rw [List.length_drop]
  by_cases h : U.length ≤ k + i
  · rw [if_pos h, if_pos (by omega)]
  · rw [if_neg h, if_neg (by omega)]
/-- the same, behind a place -/
def goD (l : List Prod) (D : List Tok) (b : Nat → Int) (k : Nat) : Except Int ((Nat → Int) × List Tok × Nat) :=
  if D.length ≤ 0 then .error 1
  else if (tokAt D 0).kind ≠ 1 then .error 2
  else if findP l (tokAt D 0).text = none then .error 6
  else if b (findK l (tokAt D 0).text) ≠ 0 then .error 7
  else if isAt D 1 ⟨#[58]⟩ = false then .error (wrongAt D 1)
  else if D.length ≤ 2 ∨ (tokAt D 2).kind ≠ 2 then .error (wrongAt D 2)
  else if ¬ (1 ≤ (tokAt D 2).value ∧ (tokAt D 2).value ≤ 4) then .error 4
  else if isAt D 3 ⟨#[125]⟩ = true then .ok (upd b (findK l (tokAt D 0).text) (tokAt D 2).value, D.drop 4, k + 4)
  else if isAt D 3 ⟨#[44]⟩ = true then refGo l (D.drop 4) (upd b (findK l (tokAt D 0).text) (tokAt D 2).value) (k + 4)
  else .error (wrongAt D 3)
theorem goD_at (l : List Prod) (U : List Tok) (b : Nat → Int) (k : Nat) : goD l (U.drop k) b k = goAt l U b k := by
  unfold goD goAt
  simp only [tokAt_drop, isAt_drop, wrongAt_drop, List.length_drop, List.drop_drop, Nat.add_zero]
  have h0 : (U.length - k ≤ 0) = (U.length ≤ k) := by apply propext; omega
  have h2 : (U.length - k ≤ 2) = (U.length ≤ k + 2) := by apply propext; omega
  simp only [h0, h2]
theorem refGo_D (l : List Prod) (D : List Tok) (b : Nat → Int) (k : Nat) : refGo l D b k = goD l D b k := by
  match D with
  | [] => unfold refGo goD; simp
  | [t] =>
    unfold refGo goD
    simp [tokAt, isAt, wrongAt]
  | [t, t1] =>
    unfold refGo goD
    simp [tokAt, isAt, wrongAt]
  | [t, t1, t2] =>
    unfold refGo goD
    simp [tokAt, isAt, wrongAt]
  | t :: t1 :: t2 :: t3 :: R =>
    unfold refGo goD
    simp [tokAt, isAt, wrongAt]
theorem refGo_at (l : List Prod) (U : List Tok) (b : Nat → Int) (k : Nat) : refGo l (U.drop k) b k = goAt l U b k := by rw [refGo_D, goD_at]
theorem refF_at (l : List Prod) (U : List Tok) : refF l U = if isAt U 0 ⟨#[123]⟩ = false then .error (wrongAt U 0) else if isAt U 1 ⟨#[125]⟩ = true then .ok (zero6, U.drop 2, 2) else refGo l (U.drop 1) zero6 1 := by
  match U with
  | [] => unfold refF; simp [isAt, wrongAt]
  | [t] => unfold refF; simp [tokAt, isAt, wrongAt]
  | t :: t1 :: R => unfold refF; simp [tokAt, isAt, wrongAt]
def rtokV : Except Int ((Nat → Int) × List Tok × Nat) → Value
  | .error x => .tuple #[.agg (arr zero6), .int .i64 0, .int .i64 x]
  | .ok (b, _, n) => .tuple #[.agg (arr b), .int .i64 (n : Int), .int .i64 0]
/-- a list of tokens in memory -/
abbrev TS (w : World) (v : Value) (U : List Tok) : Prop := Sl w 4 v U.length (cellsOf U)
theorem ts_cases {w : World} {v : Value} {U : List Tok} (h : TS w v U) : ∃ A c, v = .slice A U.length c ∧ U.length ≤ c ∧ c ≤ maxLen ∧ (0 < U.length → ∃ b o, A = some ⟨b, o, none⟩ ∧ b < w.heap.size ∧ TokRow w b o U) := by
  obtain ⟨_, A, c, h1, h2, h3, h4⟩ := h
  exact ⟨A, c, h1, h2, h3, h4⟩
theorem tokAt_get {U : List Tok} {k : Nat} (h : k < U.length) : tokAt U k = U[k] := by simp [tokAt, List.getD, h]
theorem tokrow_at {w : World} {b o : Nat} {U : List Tok} (h : TokRow w b o U) (k : Nat) (hk : k < U.length) :
    w.cell? ⟨b, o + k * 4, none⟩ = some (.int .i64 (tokAt U k).kind) ∧ w.cell? ⟨b, o + k * 4 + 1, none⟩ = some (.string (tokAt U k).text) ∧ w.cell? ⟨b, o + k * 4 + 2, none⟩ = some (.int .i64 (tokAt U k).value) ∧ w.cell? ⟨b, o + k * 4 + 3, none⟩ = some (.int .i64 (tokAt U k).pos) := by
  rw [tokAt_get hk]
  exact h.at_ k hk
set_option maxRecDepth 100000 in
theorem ris_any (U : List Tok) (v : Value) (k : Nat) (m : ByteArray) (w : World) (hU : U.length ≤ 5000) (h : TS w v U) (hk : k ≤ 6000) : Calls Tryz.prog 117 #[v, .int .i64 (k : Int), .string m] w fun e w' => e = .returned (.bool (isAt U k m)) ∧ w = w' := by
  obtain ⟨A, c, rfl, _, _, ha⟩ := ts_cases h
  unfold isAt
  clear h
  by_cases hlt : k < U.length
  · obtain ⟨b, o, rfl, hb, hr⟩ := ha (by omega)
    have et := tokrow_at hr k hlt
    clear hr ha
    rw [decide_eq_true hlt]
    have hd : decide ((k : Int) < (U.length : Int)) = true := by simp; omega
    have hi0 : (0 : Int) ≤ (k : Int) := by omega
    unfold isM
    generalize tokAt U k = t at *
    cases hq : t.kind == 3 with
    | false =>
      go_enter Tryz.func117, Tryz.ntmps117
      go_wp2_with fail
      go_ret
      exact ⟨rfl, rfl⟩
    | true =>
      cases he : eqB t.text m with
      | true =>
        have he2 : (t.text.toList == m.toList) = true := he
        clear he
        go_enter Tryz.func117, Tryz.ntmps117
        go_wp2_with fail
        go_ret
        exact ⟨rfl, rfl⟩
      | false =>
        have he2 : (t.text.toList == m.toList) = false := he
        clear he
        go_enter Tryz.func117, Tryz.ntmps117
        go_wp2_with fail
        go_ret
        exact ⟨rfl, rfl⟩
  · have hd : decide ((k : Int) < (U.length : Int)) = false := by simp; omega
    rw [decide_eq_false hlt]
    clear ha
    go_enter Tryz.func117, Tryz.ntmps117
    go_wp2_with fail
    go_ret
    exact ⟨rfl, rfl⟩
set_option maxRecDepth 100000 in
theorem rwrong_any (U : List Tok) (v : Value) (k : Nat) (w : World) (hU : U.length ≤ 5000) (h : TS w v U) (hk : k ≤ 6000) : Calls Tryz.prog 118 #[v, .int .i64 (k : Int)] w fun e w' => e = .returned (.int .i64 (wrongAt U k)) ∧ w = w' := by
  obtain ⟨A, c, rfl, _, _, _⟩ := ts_cases h
  unfold wrongAt
  clear h
  by_cases hlt : U.length ≤ k
  · have hd : decide ((U.length : Int) ≤ (k : Int)) = true := by simp; omega
    rw [if_pos hlt]
    go_enter Tryz.func118, Tryz.ntmps118
    go_wp2_with fail
    go_ret
    exact ⟨rfl, rfl⟩
  · have hd : decide ((U.length : Int) ≤ (k : Int)) = false := by simp; omega
    rw [if_neg hlt]
    go_enter Tryz.func118, Tryz.ntmps118
    go_wp2_with fail
    go_ret
    exact ⟨rfl, rfl⟩
theorem tokrow_below {w w' : World} {b o : Nat} {U : List Tok} (h : TokRow w b o U) (hb : b < w.heap.size) (hB : Below w.heap.size w w') : TokRow w' b o U := fun j u hu =>
  (hB.cell (p := ⟨b, o + j, none⟩) hb).trans (h j u hu)
/-- the result's block and the bundle's block -/
structure RMid (tb : TypeId) (w wx : World) (b : Nat → Int) : Prop where
  res : Blk wx w.heap.size tb (arr zero6)
  box : Blk wx (w.heap.size + 1) tb (arr b)
  bel : Below w.heap.size w wx
theorem rmid_new (w : World) (tb : TypeId) : RMid tb w ((w.alloc (.cells (arr zero6) tb)).alloc (.cells (arr zero6) tb)) zero6 := by
  refine ⟨(Blk.new w tb _).alloc _, ?_, ((Below.refl _ _).alloc (by go_size) _).alloc (by go_size) _⟩
  have := Blk.new (w.alloc (.cells (arr zero6) tb)) tb (arr zero6)
  simpa only [World.size_alloc] using this
theorem RMid.below {tb : TypeId} {w wx wy : World} {b : Nat → Int} (h : RMid tb w wx b) (k : Below wx.heap.size wx wy) : RMid tb w wy b := ⟨h.res.below' k, h.box.below' k, chain0 h.bel k⟩
theorem RMid.upd {tb : TypeId} {w wx : World} {b : Nat → Int} (h : RMid tb w wx b) (k : Nat) (hk : k < 6) (x : Int) : RMid tb w (wx.setCell ⟨w.heap.size + 1, k, none⟩ (.int .i64 x)) (upd b k x) :=
  ⟨h.res.far (by show w.heap.size ≠ w.heap.size + 1; omega) _, h.box.upd k hk x, h.bel.setCell (p := ⟨w.heap.size + 1, k, none⟩) (by show w.heap.size ≤ w.heap.size + 1; omega) _⟩
abbrev RTokPost (r : Except Int ((Nat → Int) × List Tok × Nat)) (w : World) : Ending → World → Prop := fun e w' => e = .returned (rtokV r) ∧ Below w.heap.size w w'
set_option maxRecDepth 100000 in
set_option maxHeartbeats 4000000 in
theorem rtokens_any (l : List Prod) (vl : Value) (U : List Tok) (v : Value) (w : World) (hl : l.length ≤ 6) (hp : PS w vl l) (hU : U.length ≤ 5000) (h : TS w v U) : Calls Tryz.prog 93 #[vl, v] w (RTokPost (refF l U) w) := by
  have CI := Lib.hid (fun k m w' (hb : Below w.heap.size w w') (hk : k ≤ 6000) => ris_any U v k m w' hU (Sl.keep h hb) hk)
  have CW := Lib.hid (fun k w' (hb : Below w.heap.size w w') (hk : k ≤ 6000) => rwrong_any U v k w' hU (Sl.keep h hb) hk)
  have CF := Lib.hid (fun n w' (hb : Below w.heap.size w w') => rfind_any l vl n w' (by omega) (Sl.keep hp hb))
  have HRF := Lib.hid (refF_at l U)
  have HGO := Lib.hid (refGo_at l U)
  have R0 := Lib.hid (rmid_new w 23)
  have HT := Lib.hid (fun w' (hb : Below w.heap.size w w') => ts_cases (Sl.keep h hb))
  obtain ⟨A, c, rfl, hcl, hcm, ha⟩ := ts_cases h
  have HA := Lib.hid ha
  have hfk : Hid (∀ n, findP l n ≠ none → findK l n < 6) := fun n hf => by
    obtain ⟨k, hk⟩ := Option.ne_none_iff_exists'.1 hf
    unfold findK
    rw [hk]
    have := findFrom_lt hk
    simpa using (show k < 6 by omega)
  obtain ⟨Al, cl, rfl, _, _, _⟩ := ps_cases hp
  clear h hp ha HT
  unfold maxLen at hcm
  go_enter Tryz.func93, Tryz.ntmps93
  go_wp2_with fail
  refine (CI.out 0 _ _ R0.out.bel (by omega)).mono ?_
  rintro r w1 ⟨rfl, rfl⟩
  cases hi0 : isAt U 0 ⟨#[123]⟩ with
  | false =>
    have HR := Lib.hid (show refF l U = .error (wrongAt U 0) by rw [HRF.out, hi0, if_pos rfl])
    go_wp2_with fail
    refine (CW.out 0 _ R0.out.bel (by omega)).mono ?_
    rintro r w1 ⟨rfl, rfl⟩
    obtain ⟨Z0, Z1, Z2, Z3, Z4, Z5⟩ := R0.out.res.box.cells
    have zf := R0.out.res.box.free
    go_wp2_with fail
    have RE := res_end0 R0.out.res.box
    obtain ⟨X0, X1, X2, X3, X4, X5⟩ := RE.cells
    refine bodyPost_ret (v := .tuple #[.agg (arr zero6), .int .i64 0, .int .i64 (wrongAt U 0)]) (by simp [results, Tryz.results93, go_sem, arr, X0, X1, X2, X3, X4, X5, zero6]) rfl ?_
    show RTokPost (refF l U) w _ _
    rw [HR.out]
    exact ⟨rfl, R0.out.bel⟩
  | true =>
    rw [hi0, if_neg (by simp)] at HRF
    go_wp2_with fail
    refine (CI.out 1 _ _ R0.out.bel (by omega)).mono ?_
    rintro r w1 ⟨rfl, rfl⟩
    cases hi1 : isAt U 1 ⟨#[125]⟩ with
    | true =>
      rw [hi1, if_pos rfl] at HRF
      obtain ⟨Q0, Q1, Q2, Q3, Q4, Q5⟩ := R0.out.box.box.cells
      obtain ⟨Z0, Z1, Z2, Z3, Z4, Z5⟩ := R0.out.res.box.cells
      have zf := R0.out.res.box.free
      go_wp2_with fail
      have RE := res_end0 R0.out.res.box
      obtain ⟨X0, X1, X2, X3, X4, X5⟩ := RE.cells
      refine bodyPost_ret (v := .tuple #[.agg (arr zero6), .int .i64 2, .int .i64 0]) (by simp [results, Tryz.results93, go_sem, arr, X0, X1, X2, X3, X4, X5, zero6]) rfl ?_
      show RTokPost (refF l U) w _ _
      rw [HRF.out]
      exact ⟨rfl, R0.out.bel⟩
    | false =>
      rw [hi1, if_neg (by simp)] at HRF
      have hU1 : 1 ≤ U.length := by
        unfold isAt at hi0
        simp at hi0
        omega
      obtain ⟨bt, ot, rfl, hbt, hrt⟩ := HA.out (by omega)
      have HTR := Lib.hid (fun w' => tokrow_below (w' := w') hrt hbt)
      clear hrt hi0 hi1 HA
      go_wp2_with fail
      go_loopw [8] (fun i wr => ∃ (k : Nat) (b : Nat → Int), i = .int .i64 (k : Int) ∧ 1 ≤ k ∧ k ≤ U.length ∧ Hid (RMid 23 w wr b) ∧ Hid (refGo l (U.drop k) b k = refF l U)) (fun i _ => U.length - (intOf i).toNat)
      case atStart => exact ⟨1, zero6, rfl, by omega, by omega, R0.out, HRF.out.symm⟩
      case round =>
        obtain ⟨k, b, rfl, hk1, hkU, R, HX⟩ := hrel
        have HG := Lib.hid ((HGO.out b k).symm.trans HX.out)
        unfold goAt at HG
        clear HX HRF R0
        have I1 := Lib.hid (fun m w' (hb : Below w.heap.size w w') => show Calls Tryz.prog 117 #[.slice (some ⟨bt, ot, none⟩) U.length c, .int .i64 ((k : Int) + 1), .string m] w' _ from CI.out (k + 1) m w' hb (by omega))
        have I3 := Lib.hid (fun m w' (hb : Below w.heap.size w w') => show Calls Tryz.prog 117 #[.slice (some ⟨bt, ot, none⟩) U.length c, .int .i64 ((k : Int) + 3), .string m] w' _ from CI.out (k + 3) m w' hb (by omega))
        have W0 := Lib.hid (fun w' (hb : Below w.heap.size w w') => show Calls Tryz.prog 118 #[.slice (some ⟨bt, ot, none⟩) U.length c, .int .i64 (k : Int)] w' _ from CW.out k w' hb (by omega))
        have W1 := Lib.hid (fun w' (hb : Below w.heap.size w w') => show Calls Tryz.prog 118 #[.slice (some ⟨bt, ot, none⟩) U.length c, .int .i64 ((k : Int) + 1)] w' _ from CW.out (k + 1) w' hb (by omega))
        have W2 := Lib.hid (fun w' (hb : Below w.heap.size w w') => show Calls Tryz.prog 118 #[.slice (some ⟨bt, ot, none⟩) U.length c, .int .i64 ((k : Int) + 2)] w' _ from CW.out (k + 2) w' hb (by omega))
        have W3 := Lib.hid (fun w' (hb : Below w.heap.size w w') => show Calls Tryz.prog 118 #[.slice (some ⟨bt, ot, none⟩) U.length c, .int .i64 ((k : Int) + 3)] w' _ from CW.out (k + 3) w' hb (by omega))
        have hbr : bt < wr.heap.size := by have := R.out.bel.size; omega
        by_cases c0 : U.length ≤ k
        · rw [if_pos c0] at HG
          have HW := Lib.hid (show wrongAt U k = 1 by unfold wrongAt; rw [if_pos c0])
          rw [← HW.out] at HG
          go_wp2_with fail
          refine (W0.out _ R.out.bel).mono ?_
          rintro r w1 ⟨rfl, rfl⟩
          obtain ⟨Z0, Z1, Z2, Z3, Z4, Z5⟩ := R.out.res.box.cells
          have zf := R.out.res.box.free
          go_wp2_with fail
          have RE := res_end0 R.out.res.box
          obtain ⟨X0, X1, X2, X3, X4, X5⟩ := RE.cells
          refine bodyPost_ret (v := .tuple #[.agg (arr zero6), .int .i64 0, .int .i64 (wrongAt U k)]) (by simp [results, Tryz.results93, go_sem, arr, X0, X1, X2, X3, X4, X5, zero6]) rfl ?_
          show RTokPost (refF l U) w _ _
          rw [← HG.out]
          exact ⟨rfl, below_sixz R.out.bel (Nat.le_refl _)⟩
        · rw [if_neg c0] at HG
          have hlt : k < U.length := by omega
          have et := tokrow_at (HTR.out _ R.out.bel) k hlt
          have hi0 : (0 : Int) ≤ (k : Int) := by omega
          have HWk := Lib.hid (show wrongAt U k = 2 by unfold wrongAt; rw [if_neg c0])
          generalize htk : tokAt U k = t at *
          clear htk
          by_cases ck : t.kind = 1
          · have qk : (t.kind != 1) = false := by simpa using ck
            rw [if_neg (by simp [ck])] at HG
            clear ck HWk
            go_wp2_with fail
            refine (CF.out t.text _ R.out.bel).mono ?_
            rintro r w1 ⟨rfl, d1⟩
            have R1 := Lib.hid (R.out.below d1)
            clear et d1
            by_cases cf : findP l t.text = none
            · have hok : findOk l t.text = false := by unfold findOk; rw [cf]; rfl
              rw [if_pos cf] at HG
              rw [hok]
              clear cf hok
              obtain ⟨Z0, Z1, Z2, Z3, Z4, Z5⟩ := R1.out.res.box.cells
              have zf := R1.out.res.box.free
              go_wp2_with fail
              have RE := res_end0 R1.out.res.box
              obtain ⟨X0, X1, X2, X3, X4, X5⟩ := RE.cells
              refine bodyPost_ret (v := .tuple #[.agg (arr zero6), .int .i64 0, .int .i64 6]) (by simp [results, Tryz.results93, go_sem, arr, X0, X1, X2, X3, X4, X5, zero6]) rfl ?_
              show RTokPost (refF l U) w _ _
              rw [← HG.out]
              exact ⟨rfl, below_sixz R1.out.bel (Nat.le_refl _)⟩
            · have hok : findOk l t.text = true := Option.isSome_iff_ne_none.2 cf
              have hk6 := hfk.out t.text cf
              rw [if_neg cf] at HG
              have hfi : findI l t.text = ((findK l t.text : Nat) : Int) := rfl
              rw [hok, hfi]
              clear cf hok hfi
              generalize findK l t.text = q at *
              have hq0 : (0 : Int) ≤ (q : Int) := by omega
              have hq6 : (q : Int) < 6 := by omega
              have bq := R1.out.box.box.cell q hk6
              have bl := R1.out.box.lt
              by_cases cb : b q = 0
              · have qb : (b q != 0) = false := by simpa using cb
                rw [if_neg (by simp [cb])] at HG
                clear cb
                go_wp2_with fail
                refine (I1.out _ _ R1.out.bel).mono ?_
                rintro r w2 ⟨rfl, rfl⟩
                clear bq
                cases c1 : isAt U (k + 1) ⟨#[58]⟩ with
                | false =>
                  rw [c1, if_pos rfl] at HG
                  clear c1
                  go_wp2_with fail
                  refine (W1.out _ R1.out.bel).mono ?_
                  rintro r w1 ⟨rfl, rfl⟩
                  obtain ⟨Z0, Z1, Z2, Z3, Z4, Z5⟩ := R1.out.res.box.cells
                  have zf := R1.out.res.box.free
                  go_wp2_with fail
                  have RE := res_end0 R1.out.res.box
                  obtain ⟨X0, X1, X2, X3, X4, X5⟩ := RE.cells
                  refine bodyPost_ret (v := .tuple #[.agg (arr zero6), .int .i64 0, .int .i64 (wrongAt U (k + 1))]) (by simp [results, Tryz.results93, go_sem, arr, X0, X1, X2, X3, X4, X5, zero6]) rfl ?_
                  show RTokPost (refF l U) w _ _
                  rw [← HG.out]
                  exact ⟨rfl, below_sixz R1.out.bel (Nat.le_refl _)⟩
                | true =>
                  rw [c1, if_neg (by simp)] at HG
                  clear c1
                  by_cases c2 : U.length ≤ k + 2
                  · have d2 : decide ((U.length : Int) ≤ (k : Int) + 2) = true := decide_eq_true (by omega)
                    have HW := Lib.hid (show refF l U = .error (wrongAt U (k + 2)) by rw [← HG.out, if_pos (.inl c2)])
                    have HG := Lib.hid HW.out.symm
                    go_wp2_with fail
                    refine (W2.out _ R1.out.bel).mono ?_
                    rintro r w1 ⟨rfl, rfl⟩
                    obtain ⟨Z0, Z1, Z2, Z3, Z4, Z5⟩ := R1.out.res.box.cells
                    have zf := R1.out.res.box.free
                    go_wp2_with fail
                    have RE := res_end0 R1.out.res.box
                    obtain ⟨X0, X1, X2, X3, X4, X5⟩ := RE.cells
                    refine bodyPost_ret (v := .tuple #[.agg (arr zero6), .int .i64 0, .int .i64 (wrongAt U (k + 2))]) (by simp [results, Tryz.results93, go_sem, arr, X0, X1, X2, X3, X4, X5, zero6]) rfl ?_
                    show RTokPost (refF l U) w _ _
                    rw [← HG.out]
                    exact ⟨rfl, below_sixz R1.out.bel (Nat.le_refl _)⟩
                  · have d2 : decide ((U.length : Int) ≤ (k : Int) + 2) = false := decide_eq_false (by omega)
                    have et2 := tokrow_at (HTR.out _ R1.out.bel) (k + 2) (by omega)
                    have hbr1 : bt < w1.heap.size := by have := R1.out.bel.size; omega
                    have hi2 : (0 : Int) ≤ (k : Int) + 2 := by omega
                    have hl2 : (k : Int) + 2 < (U.length : Int) := by omega
                    have hn2 : ((k : Int) + 2).toNat = k + 2 := by omega
                    generalize htk2 : tokAt U (k + 2) = t2 at *
                    clear htk2
                    by_cases ck2 : t2.kind = 2
                    · have qk2 : (t2.kind != 2) = false := by simpa using ck2
                      rw [if_neg (by simp [ck2, c2])] at HG
                      clear ck2
                      by_cases cv1 : t2.value < 1
                      · have v1 : decide (t2.value < 1) = true := decide_eq_true cv1
                        rw [if_pos (by omega)] at HG
                        clear cv1
                        obtain ⟨Z0, Z1, Z2, Z3, Z4, Z5⟩ := R1.out.res.box.cells
                        have zf := R1.out.res.box.free
                        go_wp2_with fail
                        have RE := res_end0 R1.out.res.box
                        obtain ⟨X0, X1, X2, X3, X4, X5⟩ := RE.cells
                        refine bodyPost_ret (v := .tuple #[.agg (arr zero6), .int .i64 0, .int .i64 4]) (by simp [results, Tryz.results93, go_sem, arr, X0, X1, X2, X3, X4, X5, zero6]) rfl ?_
                        show RTokPost (refF l U) w _ _
                        rw [← HG.out]
                        exact ⟨rfl, below_sixz R1.out.bel (Nat.le_refl _)⟩
                      · have v1 : decide (t2.value < 1) = false := decide_eq_false cv1
                        by_cases cv4 : 4 < t2.value
                        · have v4 : decide (4 < t2.value) = true := decide_eq_true cv4
                          rw [if_pos (by omega)] at HG
                          clear cv1 cv4
                          obtain ⟨Z0, Z1, Z2, Z3, Z4, Z5⟩ := R1.out.res.box.cells
                          have zf := R1.out.res.box.free
                          go_wp2_with fail
                          have RE := res_end0 R1.out.res.box
                          obtain ⟨X0, X1, X2, X3, X4, X5⟩ := RE.cells
                          refine bodyPost_ret (v := .tuple #[.agg (arr zero6), .int .i64 0, .int .i64 4]) (by simp [results, Tryz.results93, go_sem, arr, X0, X1, X2, X3, X4, X5, zero6]) rfl ?_
                          show RTokPost (refF l U) w _ _
                          rw [← HG.out]
                          exact ⟨rfl, below_sixz R1.out.bel (Nat.le_refl _)⟩
                        · have v4 : decide (4 < t2.value) = false := decide_eq_false cv4
                          rw [if_neg (by omega)] at HG
                          clear cv1 cv4
                          have bf := R1.out.box.box.free
                          have bq := R1.out.box.box.cell q hk6
                          have R2 := Lib.hid (R1.out.upd q hk6 t2.value)
                          go_wp2_with fail
                          refine (I3.out _ _ R2.out.bel).mono ?_
                          rintro r w3 ⟨rfl, rfl⟩
                          clear bf bq et2
                          cases c3 : isAt U (k + 3) ⟨#[125]⟩ with
                          | true =>
                            rw [c3, if_pos rfl] at HG
                            obtain ⟨Q0, Q1, Q2, Q3, Q4, Q5⟩ := R2.out.box.box.cells
                            obtain ⟨Z0, Z1, Z2, Z3, Z4, Z5⟩ := R2.out.res.box.cells
                            have zf := R2.out.res.box.free
                            go_wp2_with fail
                            have RE := res_end R2.out.res.box (upd b q t2.value)
                            obtain ⟨X0, X1, X2, X3, X4, X5⟩ := RE.cells
                            refine bodyPost_ret (v := .tuple #[.agg (arr (upd b q t2.value)), .int .i64 ((k : Int) + 4), .int .i64 0]) (by simp [results, Tryz.results93, go_sem, arr, X0, X1, X2, X3, X4, X5]) rfl ?_
                            show RTokPost (refF l U) w _ _
                            rw [← HG.out]
                            exact ⟨rfl, below_six R2.out.bel (Nat.le_refl _) _⟩
                          | false =>
                            rw [c3, if_neg (by simp)] at HG
                            go_wp2_with fail
                            refine (I3.out _ _ R2.out.bel).mono ?_
                            rintro r w3 ⟨rfl, rfl⟩
                            cases c4 : isAt U (k + 3) ⟨#[44]⟩ with
                            | false =>
                              rw [c4, if_neg (by simp)] at HG
                              go_wp2_with fail
                              refine (W3.out _ R2.out.bel).mono ?_
                              rintro r w1 ⟨rfl, rfl⟩
                              obtain ⟨Z0, Z1, Z2, Z3, Z4, Z5⟩ := R2.out.res.box.cells
                              have zf := R2.out.res.box.free
                              go_wp2_with fail
                              have RE := res_end0 R2.out.res.box
                              obtain ⟨X0, X1, X2, X3, X4, X5⟩ := RE.cells
                              refine bodyPost_ret (v := .tuple #[.agg (arr zero6), .int .i64 0, .int .i64 (wrongAt U (k + 3))]) (by simp [results, Tryz.results93, go_sem, arr, X0, X1, X2, X3, X4, X5, zero6]) rfl ?_
                              show RTokPost (refF l U) w _ _
                              rw [← HG.out]
                              exact ⟨rfl, below_sixz R2.out.bel (Nat.le_refl _)⟩
                            | true =>
                              rw [c4, if_pos rfl] at HG
                              have hk4 : k + 4 ≤ U.length := by
                                unfold isAt at c4
                                simp at c4
                                omega
                              go_wp2_with fail
                              go_roundw
                              case rel => exact ⟨k + 4, _, by go_num, by omega, hk4, R2.out, HG.out⟩
                              case measure => simp [intOf]; omega
                    · have qk2 : (t2.kind != 2) = true := by simpa using ck2
                      have HW := Lib.hid (show refF l U = .error (wrongAt U (k + 2)) by rw [← HG.out, if_pos (.inr ck2)])
                      have HG := Lib.hid HW.out.symm
                      clear ck2
                      go_wp2_with fail
                      refine (W2.out _ R1.out.bel).mono ?_
                      rintro r w1 ⟨rfl, rfl⟩
                      obtain ⟨Z0, Z1, Z2, Z3, Z4, Z5⟩ := R1.out.res.box.cells
                      have zf := R1.out.res.box.free
                      go_wp2_with fail
                      have RE := res_end0 R1.out.res.box
                      obtain ⟨X0, X1, X2, X3, X4, X5⟩ := RE.cells
                      refine bodyPost_ret (v := .tuple #[.agg (arr zero6), .int .i64 0, .int .i64 (wrongAt U (k + 2))]) (by simp [results, Tryz.results93, go_sem, arr, X0, X1, X2, X3, X4, X5, zero6]) rfl ?_
                      show RTokPost (refF l U) w _ _
                      rw [← HG.out]
                      exact ⟨rfl, below_sixz R1.out.bel (Nat.le_refl _)⟩
              · have qb : (b q != 0) = true := by simpa using cb
                rw [if_pos cb] at HG
                clear cb
                obtain ⟨Z0, Z1, Z2, Z3, Z4, Z5⟩ := R1.out.res.box.cells
                have zf := R1.out.res.box.free
                go_wp2_with fail
                have RE := res_end0 R1.out.res.box
                obtain ⟨X0, X1, X2, X3, X4, X5⟩ := RE.cells
                refine bodyPost_ret (v := .tuple #[.agg (arr zero6), .int .i64 0, .int .i64 7]) (by simp [results, Tryz.results93, go_sem, arr, X0, X1, X2, X3, X4, X5, zero6]) rfl ?_
                show RTokPost (refF l U) w _ _
                rw [← HG.out]
                exact ⟨rfl, below_sixz R1.out.bel (Nat.le_refl _)⟩
          · have qk : (t.kind != 1) = true := by simpa using ck
            rw [if_pos ck, ← HWk.out] at HG
            clear ck
            go_wp2_with fail
            refine (W0.out _ R.out.bel).mono ?_
            rintro r w1 ⟨rfl, rfl⟩
            obtain ⟨Z0, Z1, Z2, Z3, Z4, Z5⟩ := R.out.res.box.cells
            have zf := R.out.res.box.free
            go_wp2_with fail
            have RE := res_end0 R.out.res.box
            obtain ⟨X0, X1, X2, X3, X4, X5⟩ := RE.cells
            refine bodyPost_ret (v := .tuple #[.agg (arr zero6), .int .i64 0, .int .i64 (wrongAt U k)]) (by simp [results, Tryz.results93, go_sem, arr, X0, X1, X2, X3, X4, X5, zero6]) rfl ?_
            show RTokPost (refF l U) w _ _
            rw [← HG.out]
            exact ⟨rfl, below_sixz R.out.bel (Nat.le_refl _)⟩
end Cat
end Go.Proofs.YtaikmgnpfbnjjaaGreatDoor
