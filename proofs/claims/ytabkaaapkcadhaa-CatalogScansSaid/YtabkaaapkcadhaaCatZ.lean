/- The law Scans: the good case, and whole. Printed by gen_catZ.py. -/
import Derived.Test.YtabkaaapkcadhaaCatY
namespace Go.Proofs.Ytabkaaapkcadhaa
open Go.ChangeShapes Go.WideShapes Go.ChangeAt Go.RowKit
set_option linter.unusedVariables false
set_option linter.unusedSimpArgs false
namespace Cat
open Lex
attribute [local go_sem] later_cell
theorem drop_tok {L : List Tok} {n : Nat} (h : n < L.length) : L.drop n = tokAt L n :: L.drop (n + 1) := by
  rw [List.drop_eq_getElem_cons h, tokAt_get h]
set_option maxHeartbeats 4000000 in
set_option maxRecDepth 100000 in
theorem law_scans_eq (l : List Prod) (v : Value) (s : ByteArray) (w : World) (h : PS w v l) (hn : ∀ p ∈ l, p.name.size ≤ maxLen) (b : Nat → Int) (R : List Tok) (n : Nat) (hl : l.length ≤ 100) (hs : s.size ≤ 1000) (he : LexErr (lex s) = 0) (hz : checkE l = 0) (hx : refF l (LexToks (lex s)) = .ok (b, R, n)) (hnn : n = (LexToks (lex s)).length) : Calls Try.prog 14 #[v, .string s] w fun e w' => e = .returned (.bool true) ∧ Below w.heap.size w w' := by
  have AW := Lib.hid awake_any
  have hd : decide ((100 : Int) < (l.length : Int)) = false := by simp; omega
  have hd2 : decide ((1000 : Int) < (s.size : Int)) = false := by simp; omega
  have hL : (LexToks (lex s)).length ≤ 5000 := lexToks_len s (by omega)
  have C1 := Lib.hid fun w => tokens_any s w (by omega)
  have C2 := Lib.hid fun w => refTokens_any s w (by omega)
  unfold TokPost at C1 C2
  have q1 : (LexErr (lex s) != 0) = false := by simpa using he
  have q2 : (LexErr (lex s) == 0) = true := by simpa using he
  have h5 : l.length ≤ 5000 := by omega
  have CC := Lib.hid (fun w' (k : Below w.heap.size w w') => rcheck_any l v w' h5 (Sl.keep h k) hn)
  have CNS := Lib.hid (fun v w' h => newScanner_any (LexToks (lex s)) v w' hL h)
  have CX := Lib.hid err_any
  have q3 : (checkE l != 0) = false := by simpa using hz
  have hl6 := (checkE_zero hz).2.1
  have hl0 := (checkE_zero hz).1
  have HR := Lib.hid (scan_ref l (LexToks (lex s)) hz)
  obtain ⟨A, c, rfl, _, _, _⟩ := ps_cases h
  have CS := Lib.hid (fun w' g (k : Below w.heap.size w w') (hg : w.heap.size ≤ g) hs => scan_far l A c (LexToks (lex s)) 0 g w w' h5 h k hg hn hs hL hl0)
  have CT := Lib.hid (fun v' w' (k : Below w.heap.size w w') h' => rtokens_any l (.slice A l.length c) (LexToks (lex s)) v' w' hl6 (Sl.keep h k) hL h')
  rw [hx] at HR
  have HX : Hid (scanF l (LexToks (lex s)) 0 = ⟨R, 0, b⟩) := HR.out
  have HV : Hid (rtokV (refF l (LexToks (lex s))) = .tuple #[.agg (arr b), .int .i64 (n : Int), .int .i64 0]) := by
    show rtokV _ = _
    rw [hx]
    rfl
  obtain ⟨hR, hnl⟩ := refF_rest hx
  have hRl : R.length ≤ maxLen := by rw [hR, List.length_drop]; unfold maxLen; omega
  have hR0 : R = [] := by rw [hR, hnn, List.drop_length]
  have hpk : peekT R 0 = Tok.none := by rw [hR0]; rfl
  have hen : endE R 0 = 0 := by rw [hR0]; rfl
  have CP : Hid (∀ g w', Scan 95 33 w' g R 0 → Calls Try.prog 24 #[.pointer (some ⟨g, 0, none⟩)] w' fun r w2 => r = .returned (.agg #[.int .i64 0, .string ⟨#[]⟩, .int .i64 0, .int .i64 0]) ∧ Below w'.heap.size w' w2) := fun g w' h => by
    have := peek_any R 0 g w' h hRl
    rw [hpk] at this
    exact this
  have CE : Hid (∀ g w', Scan 95 33 w' g R 0 → Calls Try.prog 39 #[.pointer (some ⟨g, 0, none⟩)] w' fun r w2 => r = .returned (.int .i64 0) ∧ Below w'.heap.size w' w2) := fun g w' h => by
    have := toBl (end_any R 0 g w' h hRl)
    rw [hen] at this
    exact this
  have qq := eq27_self b
  have qz := eq27_self zero6
  unfold CheckPost at CC
  clear h hn he hz HR hx hR hR0 hpk hen
  have hne : ((n : Int) == ((LexToks (lex s)).length : Int)) = true := beq_iff_eq.2 (by omega)
  clear hnn
  generalize scanF l (LexToks (lex s)) 0 = st at *
  generalize refF l (LexToks (lex s)) = rf at *
  generalize LexErr (lex s) = E at *
  generalize LexToks (lex s) = L at *
  unfold arr at qq
  unfold arr zero6 at qz
  go_enter Try.func14, Try.ntmps14
  go_wp2_with fail
  refine (C1.out _).mono ?_
  rintro e w1 ⟨v1, rfl, o1, b1⟩
  have O1 := Lib.hid o1
  have B1 := Lib.hid b1
  obtain ⟨A1, c1, rfl⟩ := own_form o1
  clear o1 b1
  go_wp2_with fail
  refine (C2.out _).mono ?_
  rintro e w2 ⟨v2, rfl, o2, b2⟩
  have O2 := Lib.hid o2
  have P1 := Lib.hid (own_below O1.out b2)
  have B2 := Lib.hid (chain0 B1.out b2)
  obtain ⟨A2, c2, rfl⟩ := own_form o2
  clear o2 b2 B1 O1
  go_wp2_with fail
  refine (CNS.out _ _ (Sl.of_own P1.out)).mono ?_
  rintro r w3 ⟨g, rfl, hgl, s3, b3⟩
  have S3 := Lib.hid s3
  have B3 := Lib.hid (chain0 B2.out b3)
  have P3 := Lib.hid (own_below O2.out b3)
  have hg : w.heap.size ≤ g := by have := B2.out.size; omega
  have hgo : w2.heap.size ≤ g := hgl
  clear b3 s3 B2
  go_wp2_with fail
  refine (CS.out _ g B3.out hg S3.out).mono ?_
  rintro r w4 ⟨rfl, s4, o4⟩
  rw [HX.out] at s4
  try rw [HX.out]
  have S4 := Lib.hid s4
  have B4 := Lib.hid (Only.after_below B3.out o4 hg)
  have U4 := Lib.hid (sl_only (Sl.of_own P3.out) (own_home O2.out P3.out hgo) o4)
  have K4 := Lib.hid (box_new w4 b 60)
  have S5 := Lib.hid (s4.below (below_new w4 (.cells (arr b) 60)))
  have U5 := Lib.hid (Sl.keep U4.out (below_new w4 (.cells (arr b) 60)))
  clear s4 o4 B3
  go_wp2_with fail
  refine (CC.out _ (B4.out.alloc B4.out.size _)).mono ?_
  rintro r w5 ⟨rfl, b5⟩
  have B5 := Lib.hid (chain1 B4.out b5)
  have K5 := Lib.hid (K4.out.below b5 K4.out.lt)
  have S6 := Lib.hid (S5.out.below b5)
  have U6 := Lib.hid (Sl.keep U5.out b5)
  clear b5 S5 K4 U5
  go_wp2_with fail
  refine (CT.out _ _ B5.out U6.out).mono ?_
  rintro r w6 ⟨rfl, b6⟩
  rw [HV.out]
  have B6 := Lib.hid (chain0 B5.out b6)
  have K6 := Lib.hid (K5.out.below b6 K5.out.lt)
  have S7 := Lib.hid (S6.out.below b6)
  have U7 := Lib.hid (Sl.keep U6.out b6)
  have K7 := Lib.hid (K6.out.alloc (.cells (arr b) 60))
  have M7 := Lib.hid (box_new w6 b 60)
  have S8 := Lib.hid (S7.out.below (below_new w6 (.cells (arr b) 60)))
  obtain ⟨x0, x1, x2, x3, x4, x5⟩ := K6.out.cells
  have xg := K6.out.lt
  clear b6 S6 K5 U6
  go_wp2_with fail
  refine (CX.out _ _ _ _ S8.out).mono ?_
  rintro r w7 ⟨rfl, rfl⟩
  have U8 := Lib.hid (Sl.keep U7.out (below_new w6 (.cells (arr b) 60)))
  go_wp2_with fail
  refine (CP.out _ _ S8.out).mono ?_
  rintro r w8 ⟨rfl, b8⟩
  have B8 := Lib.hid (chain1 B6.out b8)
  have S9 := Lib.hid (S8.out.below b8)
  have U9 := Lib.hid (Sl.keep U8.out b8)
  have KN : Hid (Blk (w8.alloc (.cells #[.int .i64 0, .string ⟨#[]⟩, .int .i64 0, .int .i64 0] 33)) w8.heap.size 33 #[.int .i64 0, .string ⟨#[]⟩, .int .i64 0, .int .i64 0]) := Blk.new w8 33 _
  have B9 : Hid (Below w.heap.size w (w8.alloc (.cells #[.int .i64 0, .string ⟨#[]⟩, .int .i64 0, .int .i64 0] 33))) := B8.out.alloc B8.out.size _
  have S10 : Hid (Scan 95 33 (w8.alloc (.cells #[.int .i64 0, .string ⟨#[]⟩, .int .i64 0, .int .i64 0] 33)) g R 0) := S9.out.below (below_new w8 _)
  have z4 := KN.out.c4
  have zg := KN.out.lt
  clear b8 U8 U9 S9 S8 B8 KN
  go_wp2_with fail
  generalize (w8.alloc (.cells #[.int .i64 0, .string ⟨#[]⟩, .int .i64 0, .int .i64 0] 33)) = w9 at *
  have DE := Lib.hid (fun x => CE.out g (later w9 x) (S10.out.below (later_below w9 x)))
  have DN := Lib.hid (fun x => scan_nilp A l.length c (later w9 x))
  unfold arr zero6 at DN
  generalize w8.heap.size = gt at *
  refine wp_region_later (by kernel_rfl) (by kernel_rfl) ?_
  repeat (first | go_big_quiet_step (first | (go_at_call 39; exact calls_later (DE.out _)) | (go_at_call 59; exact calls_later (DN.out _)) | (go_at_call 42; exact calls_later (AW.out _))) | quiet_step (first | (go_at_call 39; exact calls_later (DE.out _)) | (go_at_call 59; exact calls_later (DN.out _)) | (go_at_call 42; exact calls_later (AW.out _))))
  refine wpQuiet_nil ?_
  rintro _ ⟨x, rfl⟩
  go_wp2_with fail
  go_ret
  exact ⟨rfl, chain0 B9.out (later_below _ _)⟩
set_option maxHeartbeats 4000000 in
set_option maxRecDepth 100000 in
theorem law_scans_lt (l : List Prod) (v : Value) (s : ByteArray) (w : World) (h : PS w v l) (hn : ∀ p ∈ l, p.name.size ≤ maxLen) (b : Nat → Int) (R : List Tok) (n : Nat) (hl : l.length ≤ 100) (hs : s.size ≤ 1000) (he : LexErr (lex s) = 0) (hz : checkE l = 0) (hx : refF l (LexToks (lex s)) = .ok (b, R, n)) (hnn : n < (LexToks (lex s)).length) : Calls Try.prog 14 #[v, .string s] w fun e w' => e = .returned (.bool true) ∧ Below w.heap.size w w' := by
  have AW := Lib.hid awake_any
  have hd : decide ((100 : Int) < (l.length : Int)) = false := by simp; omega
  have hd2 : decide ((1000 : Int) < (s.size : Int)) = false := by simp; omega
  have hL : (LexToks (lex s)).length ≤ 5000 := lexToks_len s (by omega)
  have C1 := Lib.hid fun w => tokens_any s w (by omega)
  have C2 := Lib.hid fun w => refTokens_any s w (by omega)
  unfold TokPost at C1 C2
  have q1 : (LexErr (lex s) != 0) = false := by simpa using he
  have q2 : (LexErr (lex s) == 0) = true := by simpa using he
  have h5 : l.length ≤ 5000 := by omega
  have CC := Lib.hid (fun w' (k : Below w.heap.size w w') => rcheck_any l v w' h5 (Sl.keep h k) hn)
  have CNS := Lib.hid (fun v w' h => newScanner_any (LexToks (lex s)) v w' hL h)
  have CX := Lib.hid err_any
  have q3 : (checkE l != 0) = false := by simpa using hz
  have hl6 := (checkE_zero hz).2.1
  have hl0 := (checkE_zero hz).1
  have HR := Lib.hid (scan_ref l (LexToks (lex s)) hz)
  obtain ⟨A, c, rfl, _, _, _⟩ := ps_cases h
  have CS := Lib.hid (fun w' g (k : Below w.heap.size w w') (hg : w.heap.size ≤ g) hs => scan_far l A c (LexToks (lex s)) 0 g w w' h5 h k hg hn hs hL hl0)
  have CT := Lib.hid (fun v' w' (k : Below w.heap.size w w') h' => rtokens_any l (.slice A l.length c) (LexToks (lex s)) v' w' hl6 (Sl.keep h k) hL h')
  rw [hx] at HR
  have HX : Hid (scanF l (LexToks (lex s)) 0 = ⟨R, 0, b⟩) := HR.out
  have HV : Hid (rtokV (refF l (LexToks (lex s))) = .tuple #[.agg (arr b), .int .i64 (n : Int), .int .i64 0]) := by
    show rtokV _ = _
    rw [hx]
    rfl
  obtain ⟨hR, hnl⟩ := refF_rest hx
  have hRl : R.length ≤ maxLen := by rw [hR, List.length_drop]; unfold maxLen; omega
  have hR0 : R = tokAt (LexToks (lex s)) n :: (LexToks (lex s)).drop (n + 1) := by rw [hR, drop_tok hnn]
  have hpk : peekT R 0 = tokAt (LexToks (lex s)) n := by rw [hR0]; rfl
  have hen : endE R 0 = 3 := by rw [hR0]; rfl
  have CP : Hid (∀ g w', Scan 95 33 w' g R 0 → Calls Try.prog 24 #[.pointer (some ⟨g, 0, none⟩)] w' fun r w2 => r = .returned (.agg #[.int .i64 (tokAt (LexToks (lex s)) n).kind, .string (tokAt (LexToks (lex s)) n).text, .int .i64 (tokAt (LexToks (lex s)) n).value, .int .i64 (tokAt (LexToks (lex s)) n).pos]) ∧ Below w'.heap.size w' w2) := fun g w' h => by
    have := peek_any R 0 g w' h hRl
    rw [hpk] at this
    exact this
  have CE : Hid (∀ g w', Scan 95 33 w' g R 0 → Calls Try.prog 39 #[.pointer (some ⟨g, 0, none⟩)] w' fun r w2 => r = .returned (.int .i64 3) ∧ Below w'.heap.size w' w2) := fun g w' h => by
    have := toBl (end_any R 0 g w' h hRl)
    rw [hen] at this
    exact this
  have qq := eq27_self b
  have qz := eq27_self zero6
  unfold CheckPost at CC
  clear h hn he hz HR hx hR hR0 hpk hen
  have hn0 : (0 : Int) ≤ (n : Int) := by omega
  have hn1 : (n : Int) < ((LexToks (lex s)).length : Int) := by omega
  have hne : ((n : Int) == ((LexToks (lex s)).length : Int)) = false := beq_eq_false_iff_ne.2 (by omega)
  generalize scanF l (LexToks (lex s)) 0 = st at *
  generalize refF l (LexToks (lex s)) = rf at *
  generalize LexErr (lex s) = E at *
  generalize LexToks (lex s) = L at *
  unfold arr at qq
  unfold arr zero6 at qz
  go_enter Try.func14, Try.ntmps14
  go_wp2_with fail
  refine (C1.out _).mono ?_
  rintro e w1 ⟨v1, rfl, o1, b1⟩
  have O1 := Lib.hid o1
  have B1 := Lib.hid b1
  obtain ⟨A1, c1, rfl⟩ := own_form o1
  clear o1 b1
  go_wp2_with fail
  refine (C2.out _).mono ?_
  rintro e w2 ⟨v2, rfl, o2, b2⟩
  have O2 := Lib.hid o2
  have P1 := Lib.hid (own_below O1.out b2)
  have B2 := Lib.hid (chain0 B1.out b2)
  obtain ⟨A2, c2, rfl⟩ := own_form o2
  clear o2 b2 B1 O1
  go_wp2_with fail
  refine (CNS.out _ _ (Sl.of_own P1.out)).mono ?_
  rintro r w3 ⟨g, rfl, hgl, s3, b3⟩
  have S3 := Lib.hid s3
  have B3 := Lib.hid (chain0 B2.out b3)
  have P3 := Lib.hid (own_below O2.out b3)
  have hg : w.heap.size ≤ g := by have := B2.out.size; omega
  have hgo : w2.heap.size ≤ g := hgl
  clear b3 s3 B2
  go_wp2_with fail
  refine (CS.out _ g B3.out hg S3.out).mono ?_
  rintro r w4 ⟨rfl, s4, o4⟩
  rw [HX.out] at s4
  try rw [HX.out]
  have S4 := Lib.hid s4
  have B4 := Lib.hid (Only.after_below B3.out o4 hg)
  have U4 := Lib.hid (sl_only (Sl.of_own P3.out) (own_home O2.out P3.out hgo) o4)
  have K4 := Lib.hid (box_new w4 b 60)
  have S5 := Lib.hid (s4.below (below_new w4 (.cells (arr b) 60)))
  have U5 := Lib.hid (Sl.keep U4.out (below_new w4 (.cells (arr b) 60)))
  clear s4 o4 B3
  go_wp2_with fail
  refine (CC.out _ (B4.out.alloc B4.out.size _)).mono ?_
  rintro r w5 ⟨rfl, b5⟩
  have B5 := Lib.hid (chain1 B4.out b5)
  have K5 := Lib.hid (K4.out.below b5 K4.out.lt)
  have S6 := Lib.hid (S5.out.below b5)
  have U6 := Lib.hid (Sl.keep U5.out b5)
  clear b5 S5 K4 U5
  go_wp2_with fail
  refine (CT.out _ _ B5.out U6.out).mono ?_
  rintro r w6 ⟨rfl, b6⟩
  rw [HV.out]
  have B6 := Lib.hid (chain0 B5.out b6)
  have K6 := Lib.hid (K5.out.below b6 K5.out.lt)
  have S7 := Lib.hid (S6.out.below b6)
  have U7 := Lib.hid (Sl.keep U6.out b6)
  have K7 := Lib.hid (K6.out.alloc (.cells (arr b) 60))
  have M7 := Lib.hid (box_new w6 b 60)
  have S8 := Lib.hid (S7.out.below (below_new w6 (.cells (arr b) 60)))
  obtain ⟨x0, x1, x2, x3, x4, x5⟩ := K6.out.cells
  have xg := K6.out.lt
  clear b6 S6 K5 U6
  go_wp2_with fail
  refine (CX.out _ _ _ _ S8.out).mono ?_
  rintro r w7 ⟨rfl, rfl⟩
  have U8 := Lib.hid (Sl.keep U7.out (below_new w6 (.cells (arr b) 60)))
  go_wp2_with fail
  refine (CP.out _ _ S8.out).mono ?_
  rintro r w8 ⟨rfl, b8⟩
  have B8 := Lib.hid (chain1 B6.out b8)
  have S9 := Lib.hid (S8.out.below b8)
  have U9 := Lib.hid (Sl.keep U8.out b8)
  obtain ⟨_, A', c', e', _, _, ha'⟩ := U9.out
  injection e' with e1 _ e2
  subst e1 e2
  obtain ⟨b2, o2, rfl, hb2, hrow⟩ := ha' (by omega)
  obtain ⟨u0, u1, u2, u3⟩ := tokrow_at (U := L) hrow n (by omega)
  generalize tokAt L n = t at *
  clear ha' hrow
  have KN : Hid (Blk (w8.alloc (.cells #[.int .i64 t.kind, .string t.text, .int .i64 t.value, .int .i64 t.pos] 33)) w8.heap.size 33 #[.int .i64 t.kind, .string t.text, .int .i64 t.value, .int .i64 t.pos]) := Blk.new w8 33 _
  have B9 : Hid (Below w.heap.size w (w8.alloc (.cells #[.int .i64 t.kind, .string t.text, .int .i64 t.value, .int .i64 t.pos] 33))) := B8.out.alloc B8.out.size _
  have S10 : Hid (Scan 95 33 (w8.alloc (.cells #[.int .i64 t.kind, .string t.text, .int .i64 t.value, .int .i64 t.pos] 33)) g R 0) := S9.out.below (below_new w8 _)
  have z4 := KN.out.c4
  have zg := KN.out.lt
  have uu : (w8.alloc (.cells #[.int .i64 t.kind, .string t.text, .int .i64 t.value, .int .i64 t.pos] 33)).cell? ⟨b2, o2 + n * 4 + 3, none⟩ = some (.int .i64 t.pos) ∧ (w8.alloc (.cells #[.int .i64 t.kind, .string t.text, .int .i64 t.value, .int .i64 t.pos] 33)).cell? ⟨b2, o2 + n * 4 + 1, none⟩ = some (.string t.text) := ⟨((below_new w8 _).cell (p := ⟨b2, _, none⟩) hb2).trans u3, ((below_new w8 _).cell (p := ⟨b2, _, none⟩) hb2).trans u1⟩
  clear u0 u1 u2 u3
  clear b8 U8 U9 S9 S8 B8 KN
  go_wp2_with fail
  generalize (w8.alloc (.cells #[.int .i64 t.kind, .string t.text, .int .i64 t.value, .int .i64 t.pos] 33)) = w9 at *
  have DE := Lib.hid (fun x => CE.out g (later w9 x) (S10.out.below (later_below w9 x)))
  have DN := Lib.hid (fun x => scan_nilp A l.length c (later w9 x))
  unfold arr zero6 at DN
  generalize w8.heap.size = gt at *
  refine wp_region_later (by kernel_rfl) (by kernel_rfl) ?_
  repeat (first | go_big_quiet_step (first | (go_at_call 39; exact calls_later (DE.out _)) | (go_at_call 59; exact calls_later (DN.out _)) | (go_at_call 42; exact calls_later (AW.out _))) | quiet_step (first | (go_at_call 39; exact calls_later (DE.out _)) | (go_at_call 59; exact calls_later (DN.out _)) | (go_at_call 42; exact calls_later (AW.out _))))
  refine wpQuiet_nil ?_
  rintro _ ⟨x, rfl⟩
  go_wp2_with fail
  go_ret
  exact ⟨rfl, chain0 B9.out (later_below _ _)⟩
theorem law_scans (l : List Prod) (v : Value) (s : ByteArray) (w : World) (h : PS w v l) (hn : ∀ p ∈ l, p.name.size ≤ maxLen) (_hs : s.size ≤ maxLen) : Calls Try.prog 14 #[v, .string s] w fun e w' => e = .returned (.bool true) ∧ Below w.heap.size w w' := by
  by_cases hl : l.length ≤ 100
  · by_cases hs : s.size ≤ 1000
    · by_cases he : LexErr (lex s) = 0
      · by_cases hz : checkE l = 0
        · cases hx : refF l (LexToks (lex s)) with
          | error x => exact law_scans_err l v s w h hn x hl hs he hz hx
          | ok r =>
            obtain ⟨b, R, n⟩ := r
            obtain ⟨_, hnl⟩ := refF_rest hx
            by_cases hnn : n = (LexToks (lex s)).length
            · exact law_scans_eq l v s w h hn b R n hl hs he hz hx hnn
            · exact law_scans_lt l v s w h hn b R n hl hs he hz hx (by omega)
        · exact law_scans_bad l v s w h hn hl hs he hz
      · exact law_scans_lex l v s w h hn hl hs he
    · exact law_scans_big l v s w h hn hl (by omega)
  · exact law_scans_long l v s w h hn (by omega)
end Cat
end Go.Proofs.Ytabkaaapkcadhaa
