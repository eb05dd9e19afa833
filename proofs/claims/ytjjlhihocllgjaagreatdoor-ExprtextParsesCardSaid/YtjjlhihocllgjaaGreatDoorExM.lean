/- Contract of exprtext's Parse. Printed by gen_exM.py. -/
import Derived.Test.YtjjlhihocllgjaaGreatDoorExL
import Derived.Test.YtjjlhihocllgjaaGreatDoorExN
import Derived.Test.YtjjlhihocllgjaaGreatDoorExR
import Derived.Test.YtjjlhihocllgjaaGreatDoorEx4
namespace Go.Proofs.YtjjlhihocllgjaaGreatDoor.Ex
open Go.ChangeShapes Go.WideShapes Go.ChangeAt Go.RowKit Gn Cat Lex
set_option linter.unusedVariables false
set_option linter.unusedSimpArgs false
/-- what Parse answers -/
def ParseX (l : List Prod) (s : ByteArray) (w : World) : Ending → World → Prop := fun r w' => ∃ (t : Tree) (e : Int) (d : Nat), r = .returned (.tuple #[t.val, .int .i64 e]) ∧ Below w.heap.size w w' ∧ InP (fun b => w.heap.size ≤ b) d w' t ∧ d ≤ 4100 ∧ (preF d t).length ≤ 5000 ∧
  (((parseE l s).1 ≠ 0 ∧ e = (parseE l s).1 ∧ xF d t = x0) ∨ ((parseE l s).1 = 0 ∧ ∃ t0 d0, Deep d0 t0 ∧ xF d0 t0 = (parseE l s).2 ∧ e = checkX d0 t0 ∧ ((e = 0 ∧ xF d t = (parseE l s).2) ∨ (e ≠ 0 ∧ xF d t = x0))))
theorem below_put9 {w wx : World} {B x : Nat} (h : Below B w wx) (hx : B ≤ x) (op v : Int) (p : Nat → Int) (A : Option Addr) (n c : Nat) : Below B w (put9 wx x op v p A n c) :=
  ((((((((h.setCell (p := ⟨x, 0, none⟩) hx _).setCell (p := ⟨x, 1, none⟩) hx _).setCell (p := ⟨x, 2, none⟩) hx _).setCell (p := ⟨x, 3, none⟩) hx _).setCell (p := ⟨x, 4, none⟩) hx _).setCell (p := ⟨x, 5, none⟩) hx _).setCell (p := ⟨x, 6, none⟩) hx _).setCell (p := ⟨x, 7, none⟩) hx _).setCell (p := ⟨x, 8, none⟩) hx _
set_option maxHeartbeats 4000000 in
set_option maxRecDepth 100000 in
theorem parse_bad (l : List Prod) (v : Value) (s : ByteArray) (w : World) (h : PL w v l) (hss : s.size ≤ 5000) (hz : checkE l ≠ 0) : Calls Tryz.prog 11 #[v, .string s] w (ParseX l s w) := by
  have HE : Hid ((parseE l s).1 = checkE l) := by show _ = _; unfold parseE; rw [if_pos hz]
  have HNZ := Lib.hid hz
  have CC := Lib.hid (fun w' (k : Below w.heap.size w w') => Cat.check_any l v w' h.len (h.keep k).sl h.nm)
  have HK := Lib.hid (Blk.new w 28 (cells9 0 0 zero6 none 0 0))
  have q1 : (checkE l != 0) = true := by simpa using hz
  obtain ⟨A, c, rfl, _, _, _⟩ := ps_cases h.sl
  clear h hz
  go_enter Tryz.func11, Tryz.ntmps11
  go_wp2_with fail
  refine (CC.out _ (below_new _ _)).mono ?_
  rintro r w2 ⟨rfl, d2⟩
  have K2 := Lib.hid (HK.out.below' d2)
  have B2 := Lib.hid (chain1 (Below.refl _ _) d2)
  clear d2
  have D0 : w2.cell? ⟨w.heap.size, 0, none⟩ = some (.int .i64 0) := K2.out.cell 0
  have Df0 := K2.out.free 0
  have D1 : w2.cell? ⟨w.heap.size, 1, none⟩ = some (.int .i64 0) := K2.out.cell 1
  have Df1 := K2.out.free 1
  have D2 : w2.cell? ⟨w.heap.size, 2, none⟩ = some (.int .i64 0) := K2.out.cell 2
  have Df2 := K2.out.free 2
  have D3 : w2.cell? ⟨w.heap.size, 3, none⟩ = some (.int .i64 0) := K2.out.cell 3
  have Df3 := K2.out.free 3
  have D4 : w2.cell? ⟨w.heap.size, 4, none⟩ = some (.int .i64 0) := K2.out.cell 4
  have Df4 := K2.out.free 4
  have D5 : w2.cell? ⟨w.heap.size, 5, none⟩ = some (.int .i64 0) := K2.out.cell 5
  have Df5 := K2.out.free 5
  have D6 : w2.cell? ⟨w.heap.size, 6, none⟩ = some (.int .i64 0) := K2.out.cell 6
  have Df6 := K2.out.free 6
  have D7 : w2.cell? ⟨w.heap.size, 7, none⟩ = some (.int .i64 0) := K2.out.cell 7
  have Df7 := K2.out.free 7
  have D8 : w2.cell? ⟨w.heap.size, 8, none⟩ = some (.slice none 0 0) := K2.out.cell 8
  have Df8 := K2.out.free 8
  have Dl := K2.out.lt
  try dsimp only
  go_wp2_with fail
  refine bodyPost_ret (v := .tuple #[.agg (cells9 0 0 zero6 none 0 0), .int .i64 (checkE l)]) (results_blk_tmp rfl rfl (blk_put9 (op := 0) (v := 0) (p := zero6) (A := none) (n := 0) (c := 0) K2.out) Tryz.underlying28 rfl (by kernel_rfl) rfl) rfl ?_
  exact ⟨noTree, _, 1, rfl, below_put9 B2.out (Nat.le_refl _) 0 0 zero6 none 0 0, inP_none _ _ _, by decide, by decide, .inl ⟨by rw [HE.out]; exact HNZ.out, HE.out.symm, rfl⟩⟩
set_option maxHeartbeats 4000000 in
set_option maxRecDepth 100000 in
theorem parse_lex (l : List Prod) (v : Value) (s : ByteArray) (w : World) (h : PL w v l) (hss : s.size ≤ 5000) (hz : checkE l = 0) (he : LexErr (lex s) ≠ 0) : Calls Tryz.prog 11 #[v, .string s] w (ParseX l s w) := by
  have HE : Hid ((parseE l s).1 = LexErr (lex s)) := by show _ = _; unfold parseE; rw [if_neg (fun k => k hz), if_pos he]
  have HNZ := Lib.hid he
  have CC := Lib.hid (fun w' (k : Below w.heap.size w w') => Cat.check_any l v w' h.len (h.keep k).sl h.nm)
  have CT := Lib.hid (fun w' => tokens_any s w' hss)
  have HK := Lib.hid (Blk.new w 28 (cells9 0 0 zero6 none 0 0))
  have q1 : (checkE l != 0) = false := by simpa using hz
  have q2 : (LexErr (lex s) != 0) = true := by simpa using he
  obtain ⟨A, c, rfl, _, _, _⟩ := ps_cases h.sl
  clear h hz he
  go_enter Tryz.func11, Tryz.ntmps11
  go_wp2_with fail
  refine (CC.out _ (below_new _ _)).mono ?_
  rintro r w2 ⟨rfl, d2⟩
  have K2 := Lib.hid (HK.out.below' d2)
  have B2 := Lib.hid (chain1 (Below.refl _ _) d2)
  clear d2
  go_wp2_with fail
  refine (CT.out _).mono ?_
  rintro r w3 ⟨v3, rfl, ho, d3⟩
  have K3 := Lib.hid (K2.out.below' d3)
  have B3 := Lib.hid (chain0 B2.out d3)
  obtain ⟨A3, c3, rfl⟩ := Cat.own_form ho
  clear d3 ho
  have D0 : w3.cell? ⟨w.heap.size, 0, none⟩ = some (.int .i64 0) := K3.out.cell 0
  have Df0 := K3.out.free 0
  have D1 : w3.cell? ⟨w.heap.size, 1, none⟩ = some (.int .i64 0) := K3.out.cell 1
  have Df1 := K3.out.free 1
  have D2 : w3.cell? ⟨w.heap.size, 2, none⟩ = some (.int .i64 0) := K3.out.cell 2
  have Df2 := K3.out.free 2
  have D3 : w3.cell? ⟨w.heap.size, 3, none⟩ = some (.int .i64 0) := K3.out.cell 3
  have Df3 := K3.out.free 3
  have D4 : w3.cell? ⟨w.heap.size, 4, none⟩ = some (.int .i64 0) := K3.out.cell 4
  have Df4 := K3.out.free 4
  have D5 : w3.cell? ⟨w.heap.size, 5, none⟩ = some (.int .i64 0) := K3.out.cell 5
  have Df5 := K3.out.free 5
  have D6 : w3.cell? ⟨w.heap.size, 6, none⟩ = some (.int .i64 0) := K3.out.cell 6
  have Df6 := K3.out.free 6
  have D7 : w3.cell? ⟨w.heap.size, 7, none⟩ = some (.int .i64 0) := K3.out.cell 7
  have Df7 := K3.out.free 7
  have D8 : w3.cell? ⟨w.heap.size, 8, none⟩ = some (.slice none 0 0) := K3.out.cell 8
  have Df8 := K3.out.free 8
  have Dl := K3.out.lt
  try dsimp only
  go_wp2_with fail
  refine bodyPost_ret (v := .tuple #[.agg (cells9 0 0 zero6 none 0 0), .int .i64 (LexErr (lex s))]) (results_blk_tmp rfl rfl (blk_put9 (op := 0) (v := 0) (p := zero6) (A := none) (n := 0) (c := 0) K3.out) Tryz.underlying28 rfl (by kernel_rfl) rfl) rfl ?_
  exact ⟨noTree, _, 1, rfl, below_put9 B3.out (Nat.le_refl _) 0 0 zero6 none 0 0, inP_none _ _ _, by decide, by decide, .inl ⟨by rw [HE.out]; exact HNZ.out, HE.out.symm, rfl⟩⟩
set_option maxHeartbeats 4000000 in
set_option maxRecDepth 100000 in
theorem parse_toks (l : List Prod) (v : Value) (s : ByteArray) (w : World) (h : PL w v l) (hss : s.size ≤ 5000) (hz : checkE l = 0) (he : LexErr (lex s) = 0) : Calls Tryz.prog 11 #[v, .string s] w (ParseX l s w) := by
  have hL4 := lex_toks_len he
  have HE : Hid (parseE l s = (endE (exprF l ((LexToks (lex s)).length + 7) (LexToks (lex s)) 0).L (exprF l ((LexToks (lex s)).length + 7) (LexToks (lex s)) 0).e, (exprF l ((LexToks (lex s)).length + 7) (LexToks (lex s)) 0).x)) := by show _ = _; unfold parseE; rw [if_neg (fun k => k hz), if_neg (fun k => k he)]
  have CC := Lib.hid (fun w' (k : Below w.heap.size w w') => Cat.check_any l v w' h.len (h.keep k).sl h.nm)
  have CT := Lib.hid (fun w' => tokens_any s w' hss)
  have HK := Lib.hid (Blk.new w 28 (cells9 0 0 zero6 none 0 0))
  have q1 : (checkE l != 0) = false := by simpa using hz
  have q2 : (LexErr (lex s) != 0) = false := by simpa using he
  have CNS := Lib.hid (fun v w' h => newScanner_any (LexToks (lex s)) v w' (by omega) h)
  obtain ⟨A, c, rfl, _, _, ha⟩ := ps_cases h.sl
  have HA := Lib.hid (show ∀ b o, A = some ⟨b, o, none⟩ → b < w.heap.size by
    intro b o hb
    have := ha (checkE_zero hz).1
    obtain ⟨b', o', e', h', _⟩ := this
    rw [hb] at e'
    injection e' with e'
    injection e' with e'
    omega)
  have CX := Lib.hid (fun w' g (k : Below w.heap.size w w') (hg : w.heap.size ≤ g) hs => expr_any l A c g h.len (fun b o hb => by have := HA.out b o hb; omega) h.nm ((LexToks (lex s)).length + 7) (LexToks (lex s)) 0 w' (h.keep k).sl hs (by omega) (by omega))
  have CE := Lib.hid end_any
  have HSZ := Lib.hid ((expr_sz l ((LexToks (lex s)).length + 7) (LexToks (lex s)) 0).2.2 ((LexToks (lex s)).length + 7))
  have hle := exprF_len l ((LexToks (lex s)).length + 7) (LexToks (lex s)) 0
  generalize hgt : LexToks (lex s) = L at *
  have HGT := Lib.hid hgt
  clear hgt
  generalize exprF l (L.length + 7) L 0 = st at *
  obtain ⟨sx, sL, se⟩ := st
  dsimp only at hle HSZ CX HE
  clear hz he ha h
  go_enter Tryz.func11, Tryz.ntmps11
  go_wp2_with fail
  refine (CC.out _ (below_new _ _)).mono ?_
  rintro r w2 ⟨rfl, d2⟩
  have K2 := Lib.hid (HK.out.below' d2)
  have B2 := Lib.hid (chain1 (Below.refl _ _) d2)
  clear d2
  go_wp2_with fail
  refine (CT.out _).mono ?_
  rintro r w3 ⟨v3, rfl, ho, d3⟩
  have K3 := Lib.hid (K2.out.below' d3)
  have B3 := Lib.hid (chain0 B2.out d3)
  rw [HGT.out] at ho
  have HO := Lib.hid (Sl.of_own ho)
  obtain ⟨A3, c3, rfl⟩ := Cat.own_form ho
  clear d3 ho
  go_wp2_with fail
  refine (CNS.out _ _ HO.out).mono ?_
  rintro r w4 ⟨g, rfl, hgl, s4, d4⟩
  have hg1 : w.heap.size < g := Nat.lt_of_lt_of_le K3.out.lt hgl
  have K4 := Lib.hid ((K3.out.below' d4).alloc (.cells #[.slice A l.length c, .pointer (some ⟨g, 0, none⟩)] 64))
  have P4 := Lib.hid (Blk.new w4 64 #[.slice A l.length c, .pointer (some ⟨g, 0, none⟩)])
  have S4 := Lib.hid (s4.below (below_new _ (.cells #[.slice A l.length c, .pointer (some ⟨g, 0, none⟩)] 64)))
  have B4 := Lib.hid ((chain0 B3.out d4).alloc (chain0 B3.out d4).size (.cells #[.slice A l.length c, .pointer (some ⟨g, 0, none⟩)] 64))
  have hw4 : w.heap.size < w4.heap.size := (K3.out.below' d4).lt
  have hg4 : g < w4.heap.size := s4.lt
  have hsz4 : w4.heap.size < (w4.alloc (.cells #[.slice A l.length c, .pointer (some ⟨g, 0, none⟩)] 64)).heap.size := P4.out.lt
  clear d4 s4 hgl
  have d2 := P4.out.c2
  go_wp2_with fail
  generalize w4.alloc (.cells #[.slice A l.length c, .pointer (some ⟨g, 0, none⟩)] 64) = w5 at *
  generalize w4.heap.size = y at *
  refine (CX.out _ g B4.out (by omega) S4.out).mono ?_
  rintro r w6 ⟨t, rfl, hx6, hi6, s6, o6⟩
  have HX := Lib.hid hx6
  have HPN : Hid (se = 0 → (preF (L.length + 7) t).length ≤ 4001) := fun h0 => by
    have := HSZ.out
    rw [pre_sz, HX.out]
    dsimp only
    rw [h0] at this
    have h1 : dl 0 = 0 := rfl
    omega
  obtain ⟨op, p, vv, B, cb, ks⟩ := t
  dsimp only [Tree.val, Tree.op, Tree.want, Tree.value, Tree.a, Tree.c, Tree.args]
  have hw5 : w.heap.size < w5.heap.size := by omega
  have HI := Lib.hid (hi6.below (below_new w6 (.cells #[.int .i64 op, .int .i64 (p 0), .int .i64 (p 1), .int .i64 (p 2), .int .i64 (p 3), .int .i64 (p 4), .int .i64 (p 5), .int .i64 vv, .slice B ks.length cb] 28)))
  have K6 := Lib.hid ((K4.out.only o6 (by omega)).alloc (.cells #[.int .i64 op, .int .i64 (p 0), .int .i64 (p 1), .int .i64 (p 2), .int .i64 (p 3), .int .i64 (p 4), .int .i64 (p 5), .int .i64 vv, .slice B ks.length cb] 28))
  have P6 := Lib.hid ((P4.out.only o6 (by omega)).alloc (.cells #[.int .i64 op, .int .i64 (p 0), .int .i64 (p 1), .int .i64 (p 2), .int .i64 (p 3), .int .i64 (p 4), .int .i64 (p 5), .int .i64 vv, .slice B ks.length cb] 28))
  have S6 := Lib.hid (s6.below (below_new _ (.cells #[.int .i64 op, .int .i64 (p 0), .int .i64 (p 1), .int .i64 (p 2), .int .i64 (p 3), .int .i64 (p 4), .int .i64 (p 5), .int .i64 vv, .slice B ks.length cb] 28)))
  have B6 := Lib.hid ((Only.after_below B4.out o6 (by omega)).alloc (Only.after_below B4.out o6 (by omega)).size (.cells #[.int .i64 op, .int .i64 (p 0), .int .i64 (p 1), .int .i64 (p 2), .int .i64 (p 3), .int .i64 (p 4), .int .i64 (p 5), .int .i64 vv, .slice B ks.length cb] 28))
  have Q6 := Lib.hid (Blk.new w6 28 #[.int .i64 op, .int .i64 (p 0), .int .i64 (p 1), .int .i64 (p 2), .int .i64 (p 3), .int .i64 (p 4), .int .i64 (p 5), .int .i64 vv, .slice B ks.length cb])
  have hy6 := (P4.out.only o6 (by omega)).lt
  have hk6 := (K4.out.only o6 (by omega)).lt
  clear s6 o6 hx6 hi6 d2
  have d2 := P6.out.c2
  go_wp2_with fail
  have hxw : Hid (w.heap.size < w6.heap.size) := hk6
  generalize w6.alloc (.cells #[.int .i64 op, .int .i64 (p 0), .int .i64 (p 1), .int .i64 (p 2), .int .i64 (p 3), .int .i64 (p 4), .int .i64 (p 5), .int .i64 vv, .slice B ks.length cb] 28) = w7 at *
  generalize w6.heap.size = x at *
  refine (CE.out _ _ _ _ S6.out (small_len (by omega))).mono ?_
  rintro r w8 ⟨rfl, rfl⟩
  by_cases hq : endE sL se = 0
  · have q3 : (endE sL se != 0) = false := by simpa using hq
    have hse : se = 0 := by
      unfold endE at hq
      by_cases h0 : se = 0
      · exact h0
      · rw [if_neg (fun k => h0 k.1)] at hq; exact hq
    have HPN4 := HPN.out hse
    have HE2 : Hid (parseE l s = (0, sx)) := by show _ = _; rw [HE.out, hq]
    have CK := Lib.hid (Ex.check_any (L.length + 7) (.mk op p vv B cb ks) w7.heap.size w7 HI.out.to_in (Nat.le_refl _) (by omega))
    dsimp only [Tree.val, Tree.op, Tree.want, Tree.value, Tree.a, Tree.c, Tree.args] at CK
    generalize hce : checkX (L.length + 7) (.mk op p vv B cb ks) = ce at *
    have HCE := Lib.hid hce
    clear hce hq hse
    have C0 : w7.cell? ⟨x, 0, none⟩ = some (.int .i64 op) := Q6.out.cell 0
    have C1 : w7.cell? ⟨x, 1, none⟩ = some (.int .i64 (p 0)) := Q6.out.cell 1
    have C2 : w7.cell? ⟨x, 2, none⟩ = some (.int .i64 (p 1)) := Q6.out.cell 2
    have C3 : w7.cell? ⟨x, 3, none⟩ = some (.int .i64 (p 2)) := Q6.out.cell 3
    have C4 : w7.cell? ⟨x, 4, none⟩ = some (.int .i64 (p 3)) := Q6.out.cell 4
    have C5 : w7.cell? ⟨x, 5, none⟩ = some (.int .i64 (p 4)) := Q6.out.cell 5
    have C6 : w7.cell? ⟨x, 6, none⟩ = some (.int .i64 (p 5)) := Q6.out.cell 6
    have C7 : w7.cell? ⟨x, 7, none⟩ = some (.int .i64 vv) := Q6.out.cell 7
    have C8 : w7.cell? ⟨x, 8, none⟩ = some (.slice B ks.length cb) := Q6.out.cell 8
    have Cl := Q6.out.lt
    go_wp2_with fail
    refine (CK.out).mono ?_
    rintro r w9 ⟨rfl, d9⟩
    have K9 := Lib.hid (K6.out.below' d9)
    have B9 := Lib.hid (chain0 B6.out d9)
    have Q9 := Lib.hid (Q6.out.below' d9)
    have I9 := Lib.hid (HI.out.below d9)
    clear d9 C0 C1 C2 C3 C4 C5 C6 C7 C8 Cl
    by_cases hc : ce = 0
    · have q4 : (ce != 0) = false := by simpa using hc
      have HC0 := Lib.hid hc
      clear hc
      have C0 : w9.cell? ⟨x, 0, none⟩ = some (.int .i64 op) := Q9.out.cell 0
      have C1 : w9.cell? ⟨x, 1, none⟩ = some (.int .i64 (p 0)) := Q9.out.cell 1
      have C2 : w9.cell? ⟨x, 2, none⟩ = some (.int .i64 (p 1)) := Q9.out.cell 2
      have C3 : w9.cell? ⟨x, 3, none⟩ = some (.int .i64 (p 2)) := Q9.out.cell 3
      have C4 : w9.cell? ⟨x, 4, none⟩ = some (.int .i64 (p 3)) := Q9.out.cell 4
      have C5 : w9.cell? ⟨x, 5, none⟩ = some (.int .i64 (p 4)) := Q9.out.cell 5
      have C6 : w9.cell? ⟨x, 6, none⟩ = some (.int .i64 (p 5)) := Q9.out.cell 6
      have C7 : w9.cell? ⟨x, 7, none⟩ = some (.int .i64 vv) := Q9.out.cell 7
      have C8 : w9.cell? ⟨x, 8, none⟩ = some (.slice B ks.length cb) := Q9.out.cell 8
      have Cl := Q9.out.lt
      have hne1 : (x == w.heap.size) = false := by have := hxw.out; simp; omega
      have hne2 : (w.heap.size == x) = false := by have := hxw.out; simp; omega
      have hne3 : ¬ x = w.heap.size := by have := hxw.out; omega
      have hne4 : ¬ w.heap.size = x := by have := hxw.out; omega
      have D0 : w9.cell? ⟨w.heap.size, 0, none⟩ = some (.int .i64 0) := K9.out.cell 0
      have Df0 := K9.out.free 0
      have D1 : w9.cell? ⟨w.heap.size, 1, none⟩ = some (.int .i64 0) := K9.out.cell 1
      have Df1 := K9.out.free 1
      have D2 : w9.cell? ⟨w.heap.size, 2, none⟩ = some (.int .i64 0) := K9.out.cell 2
      have Df2 := K9.out.free 2
      have D3 : w9.cell? ⟨w.heap.size, 3, none⟩ = some (.int .i64 0) := K9.out.cell 3
      have Df3 := K9.out.free 3
      have D4 : w9.cell? ⟨w.heap.size, 4, none⟩ = some (.int .i64 0) := K9.out.cell 4
      have Df4 := K9.out.free 4
      have D5 : w9.cell? ⟨w.heap.size, 5, none⟩ = some (.int .i64 0) := K9.out.cell 5
      have Df5 := K9.out.free 5
      have D6 : w9.cell? ⟨w.heap.size, 6, none⟩ = some (.int .i64 0) := K9.out.cell 6
      have Df6 := K9.out.free 6
      have D7 : w9.cell? ⟨w.heap.size, 7, none⟩ = some (.int .i64 0) := K9.out.cell 7
      have Df7 := K9.out.free 7
      have D8 : w9.cell? ⟨w.heap.size, 8, none⟩ = some (.slice none 0 0) := K9.out.cell 8
      have Df8 := K9.out.free 8
      have Dl := K9.out.lt
      try dsimp only
      go_wp2_with fail
      refine bodyPost_ret (v := .tuple #[.agg (cells9 op vv p B ks.length cb), .int .i64 0]) (results_blk_tmp rfl rfl (blk_put9 (op := op) (v := vv) (p := p) (A := B) (n := ks.length) (c := cb) K9.out) Tryz.underlying28 rfl (by kernel_rfl) rfl) rfl ?_
      exact ⟨.mk op p vv B cb ks, _, L.length + 7, rfl, below_put9 B9.out (Nat.le_refl _) op vv p B ks.length cb, (inP_put9 I9.out (fun ok => by omega)).mono (fun b _ ok => by omega), by omega, by omega, .inr ⟨by rw [HE2.out], .mk op p vv B cb ks, L.length + 7, I9.out.deep, by rw [HE2.out]; exact HX.out, by rw [HCE.out, HC0.out], .inl ⟨rfl, by rw [HE2.out]; exact HX.out⟩⟩⟩
    · have q4 : (ce != 0) = true := by simpa using hc
      have HC0 := Lib.hid hc
      clear hc
      have D0 : w9.cell? ⟨w.heap.size, 0, none⟩ = some (.int .i64 0) := K9.out.cell 0
      have Df0 := K9.out.free 0
      have D1 : w9.cell? ⟨w.heap.size, 1, none⟩ = some (.int .i64 0) := K9.out.cell 1
      have Df1 := K9.out.free 1
      have D2 : w9.cell? ⟨w.heap.size, 2, none⟩ = some (.int .i64 0) := K9.out.cell 2
      have Df2 := K9.out.free 2
      have D3 : w9.cell? ⟨w.heap.size, 3, none⟩ = some (.int .i64 0) := K9.out.cell 3
      have Df3 := K9.out.free 3
      have D4 : w9.cell? ⟨w.heap.size, 4, none⟩ = some (.int .i64 0) := K9.out.cell 4
      have Df4 := K9.out.free 4
      have D5 : w9.cell? ⟨w.heap.size, 5, none⟩ = some (.int .i64 0) := K9.out.cell 5
      have Df5 := K9.out.free 5
      have D6 : w9.cell? ⟨w.heap.size, 6, none⟩ = some (.int .i64 0) := K9.out.cell 6
      have Df6 := K9.out.free 6
      have D7 : w9.cell? ⟨w.heap.size, 7, none⟩ = some (.int .i64 0) := K9.out.cell 7
      have Df7 := K9.out.free 7
      have D8 : w9.cell? ⟨w.heap.size, 8, none⟩ = some (.slice none 0 0) := K9.out.cell 8
      have Df8 := K9.out.free 8
      have Dl := K9.out.lt
      try dsimp only
      go_wp2_with fail
      refine bodyPost_ret (v := .tuple #[.agg (cells9 0 0 zero6 none 0 0), .int .i64 ce]) (results_blk_tmp rfl rfl (blk_put9 (op := 0) (v := 0) (p := zero6) (A := none) (n := 0) (c := 0) K9.out) Tryz.underlying28 rfl (by kernel_rfl) rfl) rfl ?_
      exact ⟨noTree, _, 1, rfl, below_put9 B9.out (Nat.le_refl _) 0 0 zero6 none 0 0, inP_none _ _ _, by decide, by decide, .inr ⟨by rw [HE2.out], .mk op p vv B cb ks, L.length + 7, I9.out.deep, by rw [HE2.out]; exact HX.out, by rw [HCE.out], .inr ⟨HC0.out, rfl⟩⟩⟩
  · have q3 : (endE sL se != 0) = true := by simpa using hq
    have HQ := Lib.hid hq
    clear hq
    have D0 : w7.cell? ⟨w.heap.size, 0, none⟩ = some (.int .i64 0) := K6.out.cell 0
    have Df0 := K6.out.free 0
    have D1 : w7.cell? ⟨w.heap.size, 1, none⟩ = some (.int .i64 0) := K6.out.cell 1
    have Df1 := K6.out.free 1
    have D2 : w7.cell? ⟨w.heap.size, 2, none⟩ = some (.int .i64 0) := K6.out.cell 2
    have Df2 := K6.out.free 2
    have D3 : w7.cell? ⟨w.heap.size, 3, none⟩ = some (.int .i64 0) := K6.out.cell 3
    have Df3 := K6.out.free 3
    have D4 : w7.cell? ⟨w.heap.size, 4, none⟩ = some (.int .i64 0) := K6.out.cell 4
    have Df4 := K6.out.free 4
    have D5 : w7.cell? ⟨w.heap.size, 5, none⟩ = some (.int .i64 0) := K6.out.cell 5
    have Df5 := K6.out.free 5
    have D6 : w7.cell? ⟨w.heap.size, 6, none⟩ = some (.int .i64 0) := K6.out.cell 6
    have Df6 := K6.out.free 6
    have D7 : w7.cell? ⟨w.heap.size, 7, none⟩ = some (.int .i64 0) := K6.out.cell 7
    have Df7 := K6.out.free 7
    have D8 : w7.cell? ⟨w.heap.size, 8, none⟩ = some (.slice none 0 0) := K6.out.cell 8
    have Df8 := K6.out.free 8
    have Dl := K6.out.lt
    try dsimp only
    go_wp2_with fail
    refine bodyPost_ret (v := .tuple #[.agg (cells9 0 0 zero6 none 0 0), .int .i64 (endE sL se)]) (results_blk_tmp rfl rfl (blk_put9 (op := 0) (v := 0) (p := zero6) (A := none) (n := 0) (c := 0) K6.out) Tryz.underlying28 rfl (by kernel_rfl) rfl) rfl ?_
    exact ⟨noTree, _, 1, rfl, below_put9 B6.out (Nat.le_refl _) 0 0 zero6 none 0 0, inP_none _ _ _, by decide, by decide, .inl ⟨by rw [HE.out]; exact HQ.out, by rw [HE.out], rfl⟩⟩
theorem parse_any (l : List Prod) (v : Value) (s : ByteArray) (w : World) (h : PL w v l) (hss : s.size ≤ 5000) : Calls Tryz.prog 11 #[v, .string s] w (ParseX l s w) := by
  by_cases hz : checkE l = 0
  · by_cases he : LexErr (lex s) = 0
    · exact parse_toks l v s w h hss hz he
    · exact parse_lex l v s w h hss hz he
  · exact parse_bad l v s w h hss hz
end Go.Proofs.YtjjlhihocllgjaaGreatDoor.Ex
