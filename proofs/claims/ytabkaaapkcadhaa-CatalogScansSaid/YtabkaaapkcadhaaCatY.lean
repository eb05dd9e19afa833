/- The law Scans: walks. Printed by gen_catY.py. -/
import Derived.Test.YtabkaaapkcadhaaCatU
import Derived.Test.YtabkaaapkcadhaaCatP
namespace Go.Proofs.Ytabkaaapkcadhaa
open Go.ChangeShapes Go.WideShapes Go.ChangeAt Go.RowKit
set_option linter.unusedVariables false
set_option linter.unusedSimpArgs false
namespace Cat
open Lex
attribute [local go_sem] later_cell
theorem toBl {P : Program} {f : FuncId} {a : Array Value} {w : World} {v : Value} (h : Calls P f a w fun e w' => e = .returned v ∧ w = w') : Calls P f a w fun e w' => e = .returned v ∧ Below w.heap.size w w' :=
  h.mono fun _ _ ⟨he, hw⟩ => ⟨he, by subst hw; exact Below.refl _ _⟩
set_option maxHeartbeats 1000000 in
set_option maxRecDepth 100000 in
theorem scan_nilp (A : Option Addr) (n c : Nat) (w : World) : Calls Try.prog 59 #[.slice A n c, .pointer none] w fun e w' => e = .returned (.agg (arr zero6)) ∧ Below w.heap.size w w' := by
  have CE := Lib.hid err_nil
  have K0 : Hid (Box (w.alloc (.cells #[.int .i64 0, .int .i64 0, .int .i64 0, .int .i64 0, .int .i64 0, .int .i64 0] 60)) w.heap.size zero6) := box_new w zero6 60
  have B0 : Hid (Below w.heap.size w (w.alloc (.cells #[.int .i64 0, .int .i64 0, .int .i64 0, .int .i64 0, .int .i64 0, .int .i64 0] 60))) := below_new w _
  go_enter Try.func59, Try.ntmps59
  go_wp2_with fail
  refine (CE.out _).mono ?_
  rintro r w2 ⟨rfl, rfl⟩
  go_wp2_with fail
  exact bodyPost_ret (v := .agg (arr zero6)) (by simp [results, Try.results59, go_sem, arr, zero6]) rfl ⟨rfl, B0.out⟩
set_option maxHeartbeats 4000000 in
set_option maxRecDepth 100000 in
theorem law_scans_long (l : List Prod) (v : Value) (s : ByteArray) (w : World) (h : PS w v l) (hn : ∀ p ∈ l, p.name.size ≤ maxLen) (hl : 100 < l.length) : Calls Try.prog 14 #[v, .string s] w fun e w' => e = .returned (.bool true) ∧ Below w.heap.size w w' := by
  have AW := Lib.hid awake_any
  have hd : decide ((100 : Int) < (l.length : Int)) = true := by simp; omega
  obtain ⟨A, c, rfl, _, _, _⟩ := ps_cases h
  clear h hn
  go_enter Try.func14, Try.ntmps14
  go_wp2_with fail
  refine (AW.out _).mono ?_
  rintro e w1 ⟨rfl, b1⟩
  have B1 := Lib.hid (chain0 (Below.refl _ _) b1)
  clear b1
  go_wp2_with fail
  go_ret
  exact ⟨rfl, B1.out⟩
set_option maxHeartbeats 4000000 in
set_option maxRecDepth 100000 in
theorem law_scans_big (l : List Prod) (v : Value) (s : ByteArray) (w : World) (h : PS w v l) (hn : ∀ p ∈ l, p.name.size ≤ maxLen) (hl : l.length ≤ 100) (hs : 1000 < s.size) : Calls Try.prog 14 #[v, .string s] w fun e w' => e = .returned (.bool true) ∧ Below w.heap.size w w' := by
  have AW := Lib.hid awake_any
  have hd : decide ((100 : Int) < (l.length : Int)) = false := by simp; omega
  have hd2 : decide ((1000 : Int) < (s.size : Int)) = true := by simp; omega
  obtain ⟨A, c, rfl, _, _, _⟩ := ps_cases h
  clear h hn
  go_enter Try.func14, Try.ntmps14
  go_wp2_with fail
  refine (AW.out _).mono ?_
  rintro e w1 ⟨rfl, b1⟩
  have B1 := Lib.hid (chain0 (Below.refl _ _) b1)
  clear b1
  go_wp2_with fail
  go_ret
  exact ⟨rfl, B1.out⟩
set_option maxHeartbeats 4000000 in
set_option maxRecDepth 100000 in
theorem law_scans_lex (l : List Prod) (v : Value) (s : ByteArray) (w : World) (h : PS w v l) (hn : ∀ p ∈ l, p.name.size ≤ maxLen) (hl : l.length ≤ 100) (hs : s.size ≤ 1000) (he : LexErr (lex s) ≠ 0) : Calls Try.prog 14 #[v, .string s] w fun e w' => e = .returned (.bool true) ∧ Below w.heap.size w w' := by
  have AW := Lib.hid awake_any
  have hd : decide ((100 : Int) < (l.length : Int)) = false := by simp; omega
  have hd2 : decide ((1000 : Int) < (s.size : Int)) = false := by simp; omega
  have hL : (LexToks (lex s)).length ≤ 5000 := lexToks_len s (by omega)
  have C1 := Lib.hid fun w => tokens_any s w (by omega)
  have C2 := Lib.hid fun w => refTokens_any s w (by omega)
  unfold TokPost at C1 C2
  have q1 : (LexErr (lex s) != 0) = true := by simpa using he
  have q2 : (LexErr (lex s) == 0) = false := by simpa using he
  obtain ⟨A, c, rfl, _, _, _⟩ := ps_cases h
  clear h hn he
  generalize lex s = r at *
  go_enter Try.func14, Try.ntmps14
  go_wp2_with fail
  refine (C1.out _).mono ?_
  rintro e w1 ⟨v1, rfl, o1, b1⟩
  have O1 := Lib.hid o1
  have B1 := Lib.hid b1
  obtain ⟨A1, c1, rfl⟩ := own_form o1
  clear o1 b1
  go_wp2_with fail
  refine (C2.out _).mono ?_
  rintro e w2 ⟨v2, rfl, o2, b2⟩
  have O2 := Lib.hid o2
  have P1 := Lib.hid (own_below O1.out b2)
  have B2 := Lib.hid (chain0 B1.out b2)
  obtain ⟨A2, c2, rfl⟩ := own_form o2
  clear o2 b2 B1 O1
  go_wp2_with fail
  refine (AW.out _).mono ?_
  rintro e w3 ⟨rfl, b3⟩
  have B3 := Lib.hid (chain0 B2.out b3)
  clear b3
  go_wp2_with fail
  go_ret
  exact ⟨rfl, B3.out⟩
/-- an address of an empty list may be changed -/
theorem scan_far (l : List Prod) (A : Option Addr) (c : Nat) (L : List Tok) (e : Int) (g : Nat) (w0 w : World) (hl : l.length ≤ 5000) (hp : PS w0 (.slice A l.length c) l) (hb : Below w0.heap.size w0 w) (hg : w0.heap.size ≤ g) (hn : ∀ p ∈ l, p.name.size ≤ maxLen) (hs : Scan 95 33 w g L e) (hm : L.length ≤ 5000) (hz : 0 < l.length) :
    Calls Try.prog 59 #[.slice A l.length c, .pointer (some ⟨g, 0, none⟩)] w (ScanPost (scanF l L e) g w) := by
  refine scan_any l A c L e g w hl (Sl.keep hp hb) (fun b o h => ?_) hn hs hm
  obtain ⟨_, A', c', e', _, _, ha⟩ := hp
  injection e' with e1 _ _
  subst e1
  obtain ⟨b', o', e', h', _⟩ := ha hz
  rw [h] at e'
  injection e' with e'
  injection e' with e'
  omega
set_option maxHeartbeats 4000000 in
set_option maxRecDepth 100000 in
theorem law_scans_bad (l : List Prod) (v : Value) (s : ByteArray) (w : World) (h : PS w v l) (hn : ∀ p ∈ l, p.name.size ≤ maxLen) (hl : l.length ≤ 100) (hs : s.size ≤ 1000) (he : LexErr (lex s) = 0) (hz : checkE l ≠ 0) : Calls Try.prog 14 #[v, .string s] w fun e w' => e = .returned (.bool true) ∧ Below w.heap.size w w' := by
  have AW := Lib.hid awake_any
  have hd : decide ((100 : Int) < (l.length : Int)) = false := by simp; omega
  have hd2 : decide ((1000 : Int) < (s.size : Int)) = false := by simp; omega
  have hL : (LexToks (lex s)).length ≤ 5000 := lexToks_len s (by omega)
  have C1 := Lib.hid fun w => tokens_any s w (by omega)
  have C2 := Lib.hid fun w => refTokens_any s w (by omega)
  unfold TokPost at C1 C2
  have q1 : (LexErr (lex s) != 0) = false := by simpa using he
  have q2 : (LexErr (lex s) == 0) = true := by simpa using he
  have h5 : l.length ≤ 5000 := by omega
  have CC := Lib.hid (fun w' (k : Below w.heap.size w w') => rcheck_any l v w' h5 (Sl.keep h k) hn)
  have CNS := Lib.hid (fun v w' h => newScanner_any (LexToks (lex s)) v w' hL h)
  have CX := Lib.hid err_any
  have q3 : (checkE l != 0) = true := by simpa using hz
  have qq := eq27_self zero6
  obtain ⟨A, c, rfl, _, _, _⟩ := ps_cases h
  have CS := Lib.hid (fun w' g (k : Below w.heap.size w w') hs => scan_bad l A c (LexToks (lex s)) g w' h5 (Sl.keep h k) hn hs hz)
  clear h hn he hz
  generalize LexErr (lex s) = E at *
  generalize LexToks (lex s) = L at *
  unfold ScanPost at CS
  unfold CheckPost at CC
  dsimp only at CS
  unfold arr zero6 at CS qq
  go_enter Try.func14, Try.ntmps14
  go_wp2_with fail
  refine (C1.out _).mono ?_
  rintro e w1 ⟨v1, rfl, o1, b1⟩
  have O1 := Lib.hid o1
  have B1 := Lib.hid b1
  obtain ⟨A1, c1, rfl⟩ := own_form o1
  clear o1 b1
  go_wp2_with fail
  refine (C2.out _).mono ?_
  rintro e w2 ⟨v2, rfl, o2, b2⟩
  have O2 := Lib.hid o2
  have P1 := Lib.hid (own_below O1.out b2)
  have B2 := Lib.hid (chain0 B1.out b2)
  obtain ⟨A2, c2, rfl⟩ := own_form o2
  clear o2 b2 B1 O1
  go_wp2_with fail
  refine (CNS.out _ _ (Sl.of_own P1.out)).mono ?_
  rintro r w3 ⟨g, rfl, hgl, s3, b3⟩
  have S3 := Lib.hid s3
  have B3 := Lib.hid (chain0 B2.out b3)
  have hg : w.heap.size ≤ g := by have := B2.out.size; omega
  clear b3 s3 B2
  go_wp2_with fail
  refine (CS.out _ g B3.out S3.out).mono ?_
  rintro r w4 ⟨rfl, s4, o4⟩
  have S4 := Lib.hid s4
  have B4 := Lib.hid (Only.after_below B3.out o4 hg)
  have K4 : Hid (Box (w4.alloc (.cells #[.int .i64 0, .int .i64 0, .int .i64 0, .int .i64 0, .int .i64 0, .int .i64 0] 60)) w4.heap.size zero6) := box_new w4 zero6 60
  have S5 : Hid (Scan 95 33 (w4.alloc (.cells #[.int .i64 0, .int .i64 0, .int .i64 0, .int .i64 0, .int .i64 0, .int .i64 0] 60)) g L (checkE l)) := s4.below (below_new w4 _)
  clear s4 o4 B3
  go_wp2_with fail
  refine (CC.out _ (B4.out.alloc B4.out.size _)).mono ?_
  rintro r w5 ⟨rfl, b5⟩
  have B5 := Lib.hid (chain1 B4.out b5)
  have K5 := Lib.hid (K4.out.below b5 K4.out.lt)
  have S6 := Lib.hid (S5.out.below b5)
  obtain ⟨x0, x1, x2, x3, x4, x5⟩ := K5.out.cells
  unfold zero6 at x0 x1 x2 x3 x4 x5
  have xg := K5.out.lt
  clear b5 S5 K4
  go_wp2_with fail
  refine (CX.out _ _ _ _ S6.out).mono ?_
  rintro r w6 ⟨rfl, rfl⟩
  go_wp2_with fail
  refine (CC.out _ B5.out).mono ?_
  rintro r w7 ⟨rfl, b7⟩
  have B7 := Lib.hid (chain0 B5.out b7)
  clear b7
  go_wp2_with fail
  refine (AW.out _).mono ?_
  rintro e w8 ⟨rfl, b8⟩
  have B8 := Lib.hid (chain0 B7.out b8)
  clear b8
  go_wp2_with fail
  go_ret
  exact ⟨rfl, B8.out⟩
/-- where a row of the call's own lies -/
theorem own_home {w w' : World} {base : Nat} {e : TypeId} {size n : Nat} {A : Option Addr} {c : Nat} {xs : List Value} {g : Nat} (h : w.ownsRow base e size (.slice A n c) n xs) (_h' : w'.ownsRow base e size (.slice A n c) n xs) (hg : w.heap.size ≤ g) : ∀ b o, A = some ⟨b, o, none⟩ → b ≠ g := by
  rintro b o rfl
  rcases h.2 with ⟨e, _⟩ | ⟨g', cap, cur, e, _, hh, _⟩
  · cases e
  · injection e with e _ _
    injection e with e
    injection e with e
    subst e
    have := (Array.getElem?_eq_some_iff.1 hh).1
    omega
theorem sl_only {w w' : World} {size n g c : Nat} {A : Option Addr} {xs : List Value} (h : Sl w size (.slice A n c) n xs) (hA : ∀ b o, A = some ⟨b, o, none⟩ → b ≠ g) (o : Only g w w') : Sl w' size (.slice A n c) n xs := by
  obtain ⟨h0, A', c', h1, h2, h3, h4⟩ := h
  injection h1 with e1 _ e2
  subst e1 e2
  refine ⟨h0, A, c, rfl, h2, h3, fun hn => ?_⟩
  obtain ⟨b, off, e, hlt, hc⟩ := h4 hn
  have hne := hA b off e
  refine ⟨b, off, e, Nat.lt_of_lt_of_le hlt o.size, fun j u hu => ?_⟩
  rw [← hc j u hu]
  have := o.block b hlt hne
  unfold World.cell?
  simp only [this]
set_option maxHeartbeats 4000000 in
set_option maxRecDepth 100000 in
theorem law_scans_err (l : List Prod) (v : Value) (s : ByteArray) (w : World) (h : PS w v l) (hn : ∀ p ∈ l, p.name.size ≤ maxLen) (x : Int) (hl : l.length ≤ 100) (hs : s.size ≤ 1000) (he : LexErr (lex s) = 0) (hz : checkE l = 0) (hx : refF l (LexToks (lex s)) = .error x) : Calls Try.prog 14 #[v, .string s] w fun e w' => e = .returned (.bool true) ∧ Below w.heap.size w w' := by
  have AW := Lib.hid awake_any
  have hd : decide ((100 : Int) < (l.length : Int)) = false := by simp; omega
  have hd2 : decide ((1000 : Int) < (s.size : Int)) = false := by simp; omega
  have hL : (LexToks (lex s)).length ≤ 5000 := lexToks_len s (by omega)
  have C1 := Lib.hid fun w => tokens_any s w (by omega)
  have C2 := Lib.hid fun w => refTokens_any s w (by omega)
  unfold TokPost at C1 C2
  have q1 : (LexErr (lex s) != 0) = false := by simpa using he
  have q2 : (LexErr (lex s) == 0) = true := by simpa using he
  have h5 : l.length ≤ 5000 := by omega
  have CC := Lib.hid (fun w' (k : Below w.heap.size w w') => rcheck_any l v w' h5 (Sl.keep h k) hn)
  have CNS := Lib.hid (fun v w' h => newScanner_any (LexToks (lex s)) v w' hL h)
  have CX := Lib.hid err_any
  have q3 : (checkE l != 0) = false := by simpa using hz
  have hl6 := (checkE_zero hz).2.1
  have hl0 := (checkE_zero hz).1
  have HR := Lib.hid (scan_ref l (LexToks (lex s)) hz)
  obtain ⟨A, c, rfl, _, _, _⟩ := ps_cases h
  have CS := Lib.hid (fun w' g (k : Below w.heap.size w w') (hg : w.heap.size ≤ g) hs => scan_far l A c (LexToks (lex s)) 0 g w w' h5 h k hg hn hs hL hl0)
  have CT := Lib.hid (fun v' w' (k : Below w.heap.size w w') h' => rtokens_any l (.slice A l.length c) (LexToks (lex s)) v' w' hl6 (Sl.keep h k) hL h')
  rw [hx] at HR
  have hx0 := HR.out.1
  have q4 : (x != 0) = true := by simpa using hx0
  have HX : Hid (scanF l (LexToks (lex s)) 0 = ⟨(scanF l (LexToks (lex s)) 0).L, x, zero6⟩) := by
    have h1 := HR.out.2.1
    have h2 := HR.out.2.2
    revert h1 h2
    generalize scanF l (LexToks (lex s)) 0 = st
    rintro rfl h2
    show st = _
    rw [← h2]
  have HV : Hid (rtokV (refF l (LexToks (lex s))) = .tuple #[.agg (arr zero6), .int .i64 0, .int .i64 x]) := by
    show rtokV _ = _
    rw [hx]
    rfl
  have qq := eq27_self zero6
  unfold CheckPost at CC
  have hz0 := Lib.hid hz
  clear h hn he hz HR hx hx0
  generalize (scanF l (LexToks (lex s)) 0).L = L2 at *
  generalize scanF l (LexToks (lex s)) 0 = st at *
  generalize refF l (LexToks (lex s)) = rf at *
  generalize LexErr (lex s) = E at *
  generalize LexToks (lex s) = L at *
  unfold arr at qq
  go_enter Try.func14, Try.ntmps14
  go_wp2_with fail
  refine (C1.out _).mono ?_
  rintro e w1 ⟨v1, rfl, o1, b1⟩
  have O1 := Lib.hid o1
  have B1 := Lib.hid b1
  obtain ⟨A1, c1, rfl⟩ := own_form o1
  clear o1 b1
  go_wp2_with fail
  refine (C2.out _).mono ?_
  rintro e w2 ⟨v2, rfl, o2, b2⟩
  have O2 := Lib.hid o2
  have P1 := Lib.hid (own_below O1.out b2)
  have B2 := Lib.hid (chain0 B1.out b2)
  obtain ⟨A2, c2, rfl⟩ := own_form o2
  clear o2 b2 B1 O1
  go_wp2_with fail
  refine (CNS.out _ _ (Sl.of_own P1.out)).mono ?_
  rintro r w3 ⟨g, rfl, hgl, s3, b3⟩
  have S3 := Lib.hid s3
  have B3 := Lib.hid (chain0 B2.out b3)
  have P3 := Lib.hid (own_below O2.out b3)
  have hg : w.heap.size ≤ g := by have := B2.out.size; omega
  have hgo : w2.heap.size ≤ g := hgl
  clear b3 s3 B2
  go_wp2_with fail
  refine (CS.out _ g B3.out hg S3.out).mono ?_
  rintro r w4 ⟨rfl, s4, o4⟩
  rw [HX.out] at s4
  try rw [HX.out]
  have S4 := Lib.hid s4
  have B4 := Lib.hid (Only.after_below B3.out o4 hg)
  have U4 := Lib.hid (sl_only (Sl.of_own P3.out) (own_home O2.out P3.out hgo) o4)
  have K4 := Lib.hid (box_new w4 zero6 60)
  have S5 := Lib.hid (s4.below (below_new w4 (.cells (arr zero6) 60)))
  have U5 := Lib.hid (Sl.keep U4.out (below_new w4 (.cells (arr zero6) 60)))
  clear s4 o4 B3
  go_wp2_with fail
  refine (CC.out _ (B4.out.alloc B4.out.size _)).mono ?_
  rintro r w5 ⟨rfl, b5⟩
  have B5 := Lib.hid (chain1 B4.out b5)
  have K5 := Lib.hid (K4.out.below b5 K4.out.lt)
  have S6 := Lib.hid (S5.out.below b5)
  have U6 := Lib.hid (Sl.keep U5.out b5)
  clear b5 S5 K4 U5
  go_wp2_with fail
  refine (CT.out _ _ B5.out U6.out).mono ?_
  rintro r w6 ⟨rfl, b6⟩
  rw [HV.out]
  have B6 := Lib.hid (chain0 B5.out b6)
  have K6 := Lib.hid (K5.out.below b6 K5.out.lt)
  have S7 := Lib.hid (S6.out.below b6)
  have U7 := Lib.hid (Sl.keep U6.out b6)
  have K7 := Lib.hid (K6.out.alloc (.cells (arr zero6) 60))
  have M7 := Lib.hid (box_new w6 zero6 60)
  have S8 := Lib.hid (S7.out.below (below_new w6 (.cells (arr zero6) 60)))
  obtain ⟨x0, x1, x2, x3, x4, x5⟩ := K6.out.cells
  have xg := K6.out.lt
  clear b6 S6 K5 U6
  go_wp2_with fail
  refine (CX.out _ _ _ _ S8.out).mono ?_
  rintro r w7 ⟨rfl, rfl⟩
  go_wp2_with fail
  refine (AW.out _).mono ?_
  rintro e w9 ⟨rfl, b9⟩
  have B9 := Lib.hid (chain1 B6.out b9)
  clear b9
  go_wp2_with fail
  go_ret
  exact ⟨rfl, B9.out⟩
end Cat
end Go.Proofs.Ytabkaaapkcadhaa
