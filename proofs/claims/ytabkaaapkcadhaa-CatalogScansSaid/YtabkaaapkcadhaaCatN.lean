/- Contracts of the catalog's Scan and Parse, whole. Printed by gen_catN.py. -/
import Derived.Test.YtabkaaapkcadhaaCatM
import Derived.Test.YtabkaaapkcadhaaLexU
namespace Go.Proofs.Ytabkaaapkcadhaa
open Go.ChangeShapes Go.WideShapes Go.ChangeAt Go.RowKit
set_option linter.unusedVariables false
set_option linter.unusedSimpArgs false
namespace Cat
open Lex
theorem scan_any (l : List Prod) (A : Option Addr) (c : Nat) (L : List Tok) (e : Int) (g : Nat) (w : World) (hl : l.length ≤ 5000) (hp : PS w (.slice A l.length c) l) (hA : ∀ b o, A = some ⟨b, o, none⟩ → b ≠ g) (hn : ∀ p ∈ l, p.name.size ≤ maxLen) (hs : Scan 95 33 w g L e) (hm : L.length ≤ 5000) :
    Calls Try.prog 59 #[.slice A l.length c, .pointer (some ⟨g, 0, none⟩)] w (ScanPost (scanF l L e) g w) := by
  by_cases he : e = 0
  · subst he
    by_cases hz : checkE l = 0
    · obtain ⟨A', c', e', k1, k2, ha⟩ := ps_cases hp
      injection e' with e1 _ e2
      subst e1 e2
      obtain ⟨b1, o1, rfl, _, r⟩ := ha (checkE_zero hz).1
      unfold scanF
      rw [if_neg (by simp), if_neg (by simp [hz])]
      by_cases hac : accB (expL L 0 ⟨#[123]⟩) (expE L 0 ⟨#[123]⟩) ⟨#[125]⟩
      · rw [if_pos hac]
        exact scan_none l b1 o1 c L g w k1 k2 r (hA _ _ rfl) hn hs hm hz hac
      · rw [if_neg hac]
        exact scan_some l b1 o1 c L g w k1 k2 r (hA _ _ rfl) hn hs hm hz hac
    · have hS : scanF l L 0 = ⟨L, checkE l, zero6⟩ := by unfold scanF; rw [if_neg (by simp), if_pos hz]
      rw [hS]
      exact scan_bad l A c L g w hl hp hn hs hz
  · have hS : scanF l L e = ⟨L, e, zero6⟩ := by unfold scanF; rw [if_pos he]
    rw [hS]
    exact scan_err A _ c L e g w hs he
theorem lexToks_len (s : ByteArray) (hs : s.size ≤ 5000) : (LexToks (lex s)).length ≤ 5000 := lex_len s hs
theorem loopF_len (l : List Prod) : ∀ (f : Nat) (s : St), (loopF l f s).L.length ≤ s.L.length
  | 0, s => by unfold loopF; exact Nat.le_refl _
  | f + 1, s => by
    unfold loopF
    split
    · exact Nat.le_trans (loopF_len l f _) (Nat.le_trans (elemF_len l _) (nextL_len _ _))
    · exact Nat.le_refl _
theorem lexToks_scan (l : List Prod) (L : List Tok) (h : L.length ≤ 5000) : (scanF l L 0).L.length ≤ 5000 := by
  unfold scanF
  split
  · exact h
  · split
    · exact h
    · split
      · exact Nat.le_trans (Nat.le_trans (nextL_len _ _) (expL_len _ _ _)) h
      · unfold endF
        exact Nat.le_trans (Nat.le_trans (expL_len _ _ _) (Nat.le_trans (loopF_len l _ _) (Nat.le_trans (elemF_len l _) (expL_len _ _ _)))) h
/-- what Parse computes -/
def parseT (l : List Prod) (L : List Tok) : (Nat → Int) × Int :=
  match refF l L with
  | .error x => (zero6, x)
  | .ok (b, R, _) => if R = [] then (b, 0) else (zero6, 3)
def parseF (l : List Prod) (s : ByteArray) : (Nat → Int) × Int :=
  if checkE l ≠ 0 then (zero6, checkE l)
  else if LexErr (lex s) ≠ 0 then (zero6, LexErr (lex s))
  else parseT l (LexToks (lex s))
/-- by the scanner: the same -/
theorem parse_scan {l : List Prod} (L : List Tok) (h : checkE l = 0) : parseT l L = if endE (scanF l L 0).L (scanF l L 0).e = 0 then ((scanF l L 0).b, 0) else (zero6, endE (scanF l L 0).L (scanF l L 0).e) := by
  have := scan_ref l L h
  unfold parseT
  revert this
  cases refF l L with
  | error x =>
    rintro ⟨hx, h1, h2⟩
    have e1 : endE (scanF l L 0).L (scanF l L 0).e = x := by unfold endE; rw [if_neg (by rw [h1]; exact fun k => hx k.1), h1]
    rw [e1, if_neg hx]
  | ok r =>
    obtain ⟨b, R, n⟩ := r
    intro h1
    dsimp only at h1
    rw [h1]
    dsimp only
    by_cases hR : R = []
    · have e1 : endE R 0 = 0 := by unfold endE; rw [if_neg (fun k => k.2 hR)]
      rw [if_pos hR, e1, if_pos rfl]
    · have e1 : endE R 0 = 3 := by unfold endE; rw [if_pos ⟨rfl, hR⟩]
      rw [if_neg hR, e1, if_neg (by decide)]
abbrev ParsePost (r : (Nat → Int) × Int) (w : World) : Ending → World → Prop := fun e w' => e = .returned (.tuple #[.agg (arr r.1), .int .i64 r.2]) ∧ Below w.heap.size w w'
theorem below_six {w wx : World} {x B : Nat} (h : Below B w wx) (hx : B ≤ x) (q : Nat → Int) : Below B w (put6 wx x q) :=
  (((((h.setCell (p := ⟨x, 0, none⟩) hx _).setCell (p := ⟨x, 1, none⟩) hx _).setCell (p := ⟨x, 2, none⟩) hx _).setCell (p := ⟨x, 3, none⟩) hx _).setCell (p := ⟨x, 4, none⟩) hx _).setCell (p := ⟨x, 5, none⟩) hx _
theorem below_sixz {w wx : World} {x B : Nat} (h : Below B w wx) (hx : B ≤ x) : Below B w (put6z wx x) := below_six h hx zero6
set_option maxRecDepth 100000 in
theorem parse_bad (l : List Prod) (v : Value) (s : ByteArray) (w : World) (hl : l.length ≤ 5000) (hp : PS w v l) (hn : ∀ p ∈ l, p.name.size ≤ maxLen) (hz : checkE l ≠ 0) : Calls Try.prog 56 #[v, .string s] w (ParsePost (zero6, checkE l) w) := by
  have CC := Lib.hid (fun w' (k : Below w.heap.size w w') => check_any l v w' hl (Sl.keep hp k) hn)
  have HK := Lib.hid (Blk.new w 60 (arr zero6))
  have q1 : (checkE l != 0) = true := by simpa using hz
  obtain ⟨A, c, rfl, _, _, _⟩ := ps_cases hp
  clear hp hz hn
  go_enter Try.func56, Try.ntmps56
  go_wp2_with fail
  refine (CC.out _ (below_new _ _)).mono ?_
  rintro r w2 ⟨rfl, d2⟩
  have K2 := Lib.hid (HK.out.below' d2)
  have B2 := Lib.hid (chain1 (Below.refl _ _) d2)
  clear d2
  obtain ⟨Z0, Z1, Z2, Z3, Z4, Z5⟩ := K2.out.box.cells
  have zf := K2.out.box.free
  go_wp2_with fail
  have RE := res_end0 K2.out.box
  obtain ⟨X0, X1, X2, X3, X4, X5⟩ := RE.cells
  refine bodyPost_ret (v := .tuple #[.agg (arr zero6), .int .i64 (checkE l)]) (by simp [results, Try.results56, go_sem, arr, X0, X1, X2, X3, X4, X5, zero6]) rfl ⟨rfl, below_sixz B2.out (Nat.le_refl _)⟩

set_option maxRecDepth 100000 in
theorem parse_lex (l : List Prod) (v : Value) (s : ByteArray) (w : World) (hl : l.length ≤ 5000) (hp : PS w v l) (hn : ∀ p ∈ l, p.name.size ≤ maxLen) (hss : s.size ≤ 5000) (hz : checkE l = 0) (he : LexErr (lex s) ≠ 0) : Calls Try.prog 56 #[v, .string s] w (ParsePost (zero6, LexErr (lex s)) w) := by
  have CC := Lib.hid (fun w' (k : Below w.heap.size w w') => check_any l v w' hl (Sl.keep hp k) hn)
  have CT := Lib.hid (fun w' => tokens_any s w' hss)
  have HK := Lib.hid (Blk.new w 60 (arr zero6))
  have q1 : (checkE l != 0) = false := by simpa using hz
  have q2 : (LexErr (lex s) != 0) = true := by simpa using he
  obtain ⟨A, c, rfl, _, _, _⟩ := ps_cases hp
  clear hp hz hn he
  go_enter Try.func56, Try.ntmps56
  go_wp2_with fail
  refine (CC.out _ (below_new _ _)).mono ?_
  rintro r w2 ⟨rfl, d2⟩
  have K2 := Lib.hid (HK.out.below' d2)
  have B2 := Lib.hid (chain1 (Below.refl _ _) d2)
  clear d2
  go_wp2_with fail
  refine (CT.out _).mono ?_
  rintro r w3 ⟨v3, rfl, ho, d3⟩
  have K3 := Lib.hid (K2.out.below' d3)
  have B3 := Lib.hid (chain0 B2.out d3)
  obtain ⟨A3, c3, rfl⟩ := own_form ho
  clear d3 ho
  obtain ⟨Z0, Z1, Z2, Z3, Z4, Z5⟩ := K3.out.box.cells
  have zf := K3.out.box.free
  go_wp2_with fail
  have RE := res_end0 K3.out.box
  obtain ⟨X0, X1, X2, X3, X4, X5⟩ := RE.cells
  refine bodyPost_ret (v := .tuple #[.agg (arr zero6), .int .i64 (LexErr (lex s))]) (by simp [results, Try.results56, go_sem, arr, X0, X1, X2, X3, X4, X5, zero6]) rfl ⟨rfl, below_sixz B3.out (Nat.le_refl _)⟩

set_option maxRecDepth 100000 in
set_option maxHeartbeats 1000000 in
theorem parse_toks (l : List Prod) (v : Value) (s : ByteArray) (w : World) (hl : l.length ≤ 5000) (hp : PS w v l) (hn : ∀ p ∈ l, p.name.size ≤ maxLen) (hss : s.size ≤ 5000) (hz : checkE l = 0) (he : LexErr (lex s) = 0) : Calls Try.prog 56 #[v, .string s] w (ParsePost (parseT l (LexToks (lex s))) w) := by
  have CC := Lib.hid (fun w' (k : Below w.heap.size w w') => check_any l v w' hl (Sl.keep hp k) hn)
  have CT := Lib.hid (fun w' => tokens_any s w' hss)
  have HK := Lib.hid (Blk.new w 60 (arr zero6))
  have q1 : (checkE l != 0) = false := by simpa using hz
  have q2 : (LexErr (lex s) != 0) = false := by simpa using he
  have hL : (LexToks (lex s)).length ≤ 5000 := lexToks_len s hss
  have HP := Lib.hid (parse_scan (LexToks (lex s)) hz)
  have CNS := Lib.hid (fun v w' h => newScanner_any (LexToks (lex s)) v w' hL h)
  obtain ⟨A, c, rfl, _, _, ha⟩ := ps_cases hp
  have HA := Lib.hid (show ∀ b o, A = some ⟨b, o, none⟩ → b < w.heap.size by
    intro b o hb
    have := ha (checkE_zero hz).1
    obtain ⟨b', o', e', h', _⟩ := this
    rw [hb] at e'
    injection e' with e'
    injection e' with e'
    omega)
  have CS := Lib.hid (fun w' g (k : Below w.heap.size w w') (hg : w.heap.size ≤ g) h => scan_any l A c (LexToks (lex s)) 0 g w' hl (Sl.keep hp k) (fun b o hb => by have := HA.out b o hb; omega) hn h hL)
  have CE := Lib.hid end_any
  have hle := lexToks_scan l (LexToks (lex s)) hL
  generalize hgt : LexToks (lex s) = L at *
  have HGT := Lib.hid hgt
  clear hgt
  generalize scanF l L 0 = st at *
  clear hp hz hn he ha
  go_enter Try.func56, Try.ntmps56
  go_wp2_with fail
  refine (CC.out _ (below_new _ _)).mono ?_
  rintro r w2 ⟨rfl, d2⟩
  have K2 := Lib.hid (HK.out.below' d2)
  have B2 := Lib.hid (chain1 (Below.refl _ _) d2)
  clear d2
  go_wp2_with fail
  refine (CT.out _).mono ?_
  rintro r w3 ⟨v3, rfl, ho, d3⟩
  have K3 := Lib.hid (K2.out.below' d3)
  have B3 := Lib.hid (chain0 B2.out d3)
  rw [HGT.out] at ho
  have HO := Lib.hid (Sl.of_own ho)
  obtain ⟨A3, c3, rfl⟩ := own_form ho
  clear d3 ho
  go_wp2_with fail
  refine (CNS.out _ _ HO.out).mono ?_
  rintro r w4 ⟨g, rfl, hgl, s4, d4⟩
  have K4 := Lib.hid (K3.out.below' d4)
  have S4 := Lib.hid s4
  have hg1 : w.heap.size < g := Nat.lt_of_lt_of_le K3.out.lt hgl
  have B4 := Lib.hid (chain0 B3.out d4)
  clear d4 s4 hgl
  go_wp2_with fail
  refine (CS.out _ g B4.out (by omega) S4.out).mono ?_
  rintro r w5 ⟨rfl, s5, o5⟩
  have K5 := Lib.hid (K4.out.only o5 (by omega))
  have B5 := Lib.hid (Only.after_below B4.out o5 (by omega))
  have S5 := Lib.hid (s5.below (below_new _ (.cells (arr st.b) 60)))
  have HN := Lib.hid (Blk.new w5 60 (arr st.b))
  have K6 := Lib.hid (K5.out.alloc (.cells (arr st.b) 60))
  clear s5 o5
  go_wp2_with fail
  refine (CE.out _ _ _ _ S5.out (small_len hle)).mono ?_
  rintro r w6 ⟨rfl, rfl⟩
  by_cases hq : endE st.L st.e = 0
  · rw [if_pos hq] at HP
    have q3 : (endE st.L st.e != 0) = false := by simpa using hq
    clear hq
    obtain ⟨Q0, Q1, Q2, Q3, Q4, Q5⟩ := HN.out.box.cells
    obtain ⟨Z0, Z1, Z2, Z3, Z4, Z5⟩ := K6.out.box.cells
    have zf := K6.out.box.free
    go_wp2_with fail
    have RE := res_end K6.out.box st.b
    obtain ⟨X0, X1, X2, X3, X4, X5⟩ := RE.cells
    refine bodyPost_ret (v := .tuple #[.agg (arr st.b), .int .i64 0]) (by simp [results, Try.results56, go_sem, arr, X0, X1, X2, X3, X4, X5]) rfl ?_
    show ParsePost (parseT l L) w _ _
    rw [HP.out]
    exact ⟨rfl, below_six (B5.out.alloc B5.out.size _) (Nat.le_refl _) _⟩
  · rw [if_neg hq] at HP
    have q3 : (endE st.L st.e != 0) = true := by simpa using hq
    clear hq
    obtain ⟨Z0, Z1, Z2, Z3, Z4, Z5⟩ := K6.out.box.cells
    have zf := K6.out.box.free
    go_wp2_with fail
    have RE := res_end0 K6.out.box
    obtain ⟨X0, X1, X2, X3, X4, X5⟩ := RE.cells
    refine bodyPost_ret (v := .tuple #[.agg (arr zero6), .int .i64 (endE st.L st.e)]) (by simp [results, Try.results56, go_sem, arr, X0, X1, X2, X3, X4, X5, zero6]) rfl ?_
    show ParsePost (parseT l L) w _ _
    rw [HP.out]
    exact ⟨rfl, below_sixz (B5.out.alloc B5.out.size _) (Nat.le_refl _)⟩
theorem parse_any (l : List Prod) (v : Value) (s : ByteArray) (w : World) (hl : l.length ≤ 5000) (hp : PS w v l) (hn : ∀ p ∈ l, p.name.size ≤ maxLen) (hss : s.size ≤ 5000) : Calls Try.prog 56 #[v, .string s] w (ParsePost (parseF l s) w) := by
  unfold parseF
  by_cases hz : checkE l = 0
  · rw [if_neg (by simp [hz])]
    by_cases he : LexErr (lex s) = 0
    · rw [if_neg (by simp [he])]
      exact parse_toks l v s w hl hp hn hss hz he
    · rw [if_pos he]
      exact parse_lex l v s w hl hp hn hss hz he
  · rw [if_pos hz]
    exact parse_bad l v s w hl hp hn hz
end Cat
end Go.Proofs.Ytabkaaapkcadhaa
