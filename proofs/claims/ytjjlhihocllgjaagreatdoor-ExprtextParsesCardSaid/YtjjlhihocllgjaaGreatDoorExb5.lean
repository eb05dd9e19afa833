/- Contracts of the reference's expression and Parse; law 12, Parses. Printed by gen_exb5.py. -/
import Derived.Test.YtjjlhihocllgjaaGreatDoorExb4
import Derived.Test.YtjjlhihocllgjaaGreatDoorExU
import Derived.Test.YtjjlhihocllgjaaGreatDoorEx6
namespace Go.Proofs.YtjjlhihocllgjaaGreatDoor.Ex
open Go.ChangeShapes Go.WideShapes Go.ChangeAt Go.RowKit Gn Cat Lex
set_option linter.unusedVariables false
set_option linter.unusedSimpArgs false
theorem rbodyX_len (l : List Prod) {f : List Tok → Int → PX} (h : ∀ L e, (f L e).L.length ≤ L.length) (op : Int) (a : PX) : (rbodyX l f op a).L.length ≤ a.L.length := by
  unfold rbodyX
  split
  · exact Nat.le_trans (expL_len _ _ _) (moreF_len h _ _)
  · split
    · exact Nat.le_trans (expL_len _ _ _) (Nat.le_trans rpriced_len (expL_len _ _ _))
    · exact Nat.le_trans (expL_len _ _ _) (Nat.le_trans (amtL_len _ _ _) (expL_len _ _ _))
theorem rexprF_len (l : List Prod) : ∀ (D : Nat) (L : List Tok) (e : Int), (rexprF l D L e).L.length ≤ L.length
  | 0, L, e => Nat.le_refl _
  | D + 1, L, e => by
    unfold rexprF
    split
    · exact rpriced_len
    · split
      · exact name_len L e
      · exact Nat.le_trans (rbodyX_len l (rexprF_len l D) _ _) (Nat.le_trans (rexprF_len l D _ _) (Nat.le_trans (expL_len _ _ _) (name_len L e)))
theorem rexpr_any (l : List Prod) (A : Option Addr) (c g : Nat) (hz : checkE l = 0) (hA : ∀ b o, A = some ⟨b, o, none⟩ → b ≠ g) : ∀ (D : Nat) (L : List Tok) (e : Int) (w : World), PS w (.slice A l.length c) l → Scan 73 125 w g L e → L.length ≤ 5000 → L.length < D →
    Calls Tryz.prog 41 #[.slice A l.length c, .pointer (some ⟨g, 0, none⟩)] w (RExprPost D (rexprF l D L e) g w)
  | 0, L, e, w, _, _, _, h => by omega
  | D + 1, L, e, w, hp, hs, hm, hd => by
    by_cases ha : accB L e ⟨#[123]⟩
    · have hx : rexprF l (D + 1) L e = ⟨.mk 1 (n6 (rpricedF l L e).b) (rpricedF l L e).v [], (rpricedF l L e).L, (rpricedF l L e).e⟩ := by
        conv => lhs; unfold rexprF
        rw [if_pos ha]
      rw [hx]
      exact rexpr_atom l D A c L e g w hz hp hA hs hm ha
    · by_cases hw : opW (nameT L e) = 0
      · have hx : rexprF l (D + 1) L e = ⟨x0, nameL L e, failE (nameE L e) 2⟩ := by
          conv => lhs; unfold rexprF
          rw [if_neg ha, if_pos hw]
        rw [hx]
        exact rexpr_bad l D A c L e g w hz hp hA hs hm ha hw
      · have hk : (peekT L e).kind = 1 := by
          by_cases hk : (peekT L e).kind = 1
          · exact hk
          · exfalso
            apply hw
            unfold nameT
            rw [if_neg hk]
            exact opW_empty
        have he : e = 0 := by
          by_cases he : e = 0
          · exact he
          · unfold peekT at hk
            rw [if_neg he] at hk
            exact absurd hk (by decide)
        subst he
        have h0 : 0 < L.length := by
          cases L with
          | nil => exact absurd hk (by decide)
          | cons t L => simp
        have hT : nameT L 0 = (peekT L 0).text := by unfold nameT; rw [if_pos hk]
        have hx : rexprF l (D + 1) L 0 = rbodyX l (rexprF l D) (opW (peekT L 0).text) (rfirstX (rexprF l D) L 0) := by
          conv => lhs; unfold rexprF
          rw [if_neg ha, if_neg hw, hT]
        have HARG : ∀ L' e' W, L'.length < L.length → Only g w W → Scan 73 125 W g L' e' → Calls Tryz.prog 41 #[.slice A l.length c, .pointer (some ⟨g, 0, none⟩)] W (RExprPost D (rexprF l D L' e') g W) := fun L' e' W hlt o h =>
          rexpr_any l A c g hz hA D L' e' W (ref_only hp hA o) h (by omega) (by omega)
        have hf := rexprF_len l D
        rw [hT] at hw
        rw [hx]
        rcases opW_some (peekT L 0).text with h | h | h | h | h
        · exact absurd h hw
        · rw [h]; exact rexpr_2 l D A c L g w hz hp hA hs hm h0 (rexprF l D) hf hk h HARG
        · rw [h]; exact rexpr_3 l D A c L g w hz hp hA hs hm h0 (rexprF l D) hf hk h HARG
        · rw [h]; exact rexpr_4 l D A c L g w hz hp hA hs hm h0 (rexprF l D) hf hk h HARG
        · rw [h]; exact rexpr_5 l D A c L g w hz hp hA hs hm h0 (rexprF l D) hf hk h HARG
theorem scan_of_own {w : World} {g base n c : Nat} {A : Option Addr} {L : List Tok} (h : w.ownsRow base 125 4 (.slice A n c) n (cellsOf L)) (hn : n = L.length) (k : Blk w g 73 #[.slice A L.length c, .int .i64 0]) : Scan 73 125 w g L 0 := by
  subst hn
  rcases h.2 with ⟨e1, e2⟩ | ⟨b, cap, cur, e1, _, hh, h1, h2, h3, h4⟩
  · injection e1 with q1 _ q3
    subst q1 q3
    exact ⟨none, 0, k, by omega, Nat.zero_le _, fun h => by omega⟩
  · injection e1 with q1 _ q3
    subst q1 q3
    have hb : Blk w b 125 cur := hh
    refine ⟨_, c, k, h1, h2, fun _ => ⟨b, 0, cur, rfl, hb, fun j u hu => ?_⟩⟩
    rw [Nat.zero_add, hb.cell]
    have hl : j < (cellsOf L).length := (List.getElem?_eq_some_iff.1 hu).1
    rw [cellsOf_len] at hl
    rw [← h4, List.getElem?_take_of_lt hl] at hu
    simpa using hu
set_option maxHeartbeats 4000000 in
set_option maxRecDepth 100000 in
theorem rparse_bad (l : List Prod) (v : Value) (s : ByteArray) (w : World) (h : PL w v l) (hss : s.size ≤ 5000) (hz : checkE l ≠ 0) : Calls Tryz.prog 12 #[v, .string s] w (ParseX l s w) := by
  have HE : Hid ((parseE l s).1 = checkE l) := by show _ = _; unfold parseE; rw [if_pos hz]
  have HNZ := Lib.hid hz
  have CC := Lib.hid (fun w' (k : Below w.heap.size w w') => Cat.rcheck_any l v w' h.len (h.keep k).sl h.nm)
  have HK := Lib.hid (Blk.new w 28 (cells9 0 0 zero6 none 0 0))
  have q1 : (checkE l != 0) = true := by simpa using hz
  obtain ⟨A, c, rfl, _, _, _⟩ := ps_cases h.sl
  clear h hz
  go_enter Tryz.func12, Tryz.ntmps12
  go_wp2_with fail
  refine (CC.out _ (below_new _ _)).mono ?_
  rintro r w2 ⟨rfl, d2⟩
  have K2 := Lib.hid (HK.out.below' d2)
  have B2 := Lib.hid (chain1 (Below.refl _ _) d2)
  clear d2
  have D0 : w2.cell? ⟨w.heap.size, 0, none⟩ = some (.int .i64 0) := K2.out.cell 0
  have Df0 := K2.out.free 0
  have D1 : w2.cell? ⟨w.heap.size, 1, none⟩ = some (.int .i64 0) := K2.out.cell 1
  have Df1 := K2.out.free 1
  have D2 : w2.cell? ⟨w.heap.size, 2, none⟩ = some (.int .i64 0) := K2.out.cell 2
  have Df2 := K2.out.free 2
  have D3 : w2.cell? ⟨w.heap.size, 3, none⟩ = some (.int .i64 0) := K2.out.cell 3
  have Df3 := K2.out.free 3
  have D4 : w2.cell? ⟨w.heap.size, 4, none⟩ = some (.int .i64 0) := K2.out.cell 4
  have Df4 := K2.out.free 4
  have D5 : w2.cell? ⟨w.heap.size, 5, none⟩ = some (.int .i64 0) := K2.out.cell 5
  have Df5 := K2.out.free 5
  have D6 : w2.cell? ⟨w.heap.size, 6, none⟩ = some (.int .i64 0) := K2.out.cell 6
  have Df6 := K2.out.free 6
  have D7 : w2.cell? ⟨w.heap.size, 7, none⟩ = some (.int .i64 0) := K2.out.cell 7
  have Df7 := K2.out.free 7
  have D8 : w2.cell? ⟨w.heap.size, 8, none⟩ = some (.slice none 0 0) := K2.out.cell 8
  have Df8 := K2.out.free 8
  have Dl := K2.out.lt
  try dsimp only
  go_wp2_with fail
  refine bodyPost_ret (v := .tuple #[.agg (cells9 0 0 zero6 none 0 0), .int .i64 (checkE l)]) (results_blk_tmp rfl rfl (blk_put9 (op := 0) (v := 0) (p := zero6) (A := none) (n := 0) (c := 0) K2.out) Tryz.underlying28 rfl (by kernel_rfl) rfl) rfl ?_
  exact ⟨noTree, _, 1, rfl, below_put9 B2.out (Nat.le_refl _) 0 0 zero6 none 0 0, inP_none _ _ _, by decide, by decide, .inl ⟨by rw [HE.out]; exact HNZ.out, HE.out.symm, rfl⟩⟩
set_option maxHeartbeats 4000000 in
set_option maxRecDepth 100000 in
theorem rparse_lex (l : List Prod) (v : Value) (s : ByteArray) (w : World) (h : PL w v l) (hss : s.size ≤ 5000) (hz : checkE l = 0) (he : LexErr (lex s) ≠ 0) : Calls Tryz.prog 12 #[v, .string s] w (ParseX l s w) := by
  have HE : Hid ((parseE l s).1 = LexErr (lex s)) := by show _ = _; unfold parseE; rw [if_neg (fun k => k hz), if_pos he]
  have HNZ := Lib.hid he
  have CC := Lib.hid (fun w' (k : Below w.heap.size w w') => Cat.rcheck_any l v w' h.len (h.keep k).sl h.nm)
  have CT := Lib.hid (fun w' => refTokens_any s w' (Nat.le_trans hss (by decide)))
  have HK := Lib.hid (Blk.new w 28 (cells9 0 0 zero6 none 0 0))
  have q1 : (checkE l != 0) = false := by simpa using hz
  have q2 : (LexErr (lex s) != 0) = true := by simpa using he
  obtain ⟨A, c, rfl, _, _, _⟩ := ps_cases h.sl
  clear h hz he
  go_enter Tryz.func12, Tryz.ntmps12
  go_wp2_with fail
  refine (CC.out _ (below_new _ _)).mono ?_
  rintro r w2 ⟨rfl, d2⟩
  have K2 := Lib.hid (HK.out.below' d2)
  have B2 := Lib.hid (chain1 (Below.refl _ _) d2)
  clear d2
  go_wp2_with fail
  refine (CT.out _).mono ?_
  rintro r w3 ⟨v3, rfl, ho, d3⟩
  have K3 := Lib.hid (K2.out.below' d3)
  have B3 := Lib.hid (chain0 B2.out d3)
  obtain ⟨A3, c3, rfl⟩ := Cat.own_form ho
  clear d3 ho
  have D0 : w3.cell? ⟨w.heap.size, 0, none⟩ = some (.int .i64 0) := K3.out.cell 0
  have Df0 := K3.out.free 0
  have D1 : w3.cell? ⟨w.heap.size, 1, none⟩ = some (.int .i64 0) := K3.out.cell 1
  have Df1 := K3.out.free 1
  have D2 : w3.cell? ⟨w.heap.size, 2, none⟩ = some (.int .i64 0) := K3.out.cell 2
  have Df2 := K3.out.free 2
  have D3 : w3.cell? ⟨w.heap.size, 3, none⟩ = some (.int .i64 0) := K3.out.cell 3
  have Df3 := K3.out.free 3
  have D4 : w3.cell? ⟨w.heap.size, 4, none⟩ = some (.int .i64 0) := K3.out.cell 4
  have Df4 := K3.out.free 4
  have D5 : w3.cell? ⟨w.heap.size, 5, none⟩ = some (.int .i64 0) := K3.out.cell 5
  have Df5 := K3.out.free 5
  have D6 : w3.cell? ⟨w.heap.size, 6, none⟩ = some (.int .i64 0) := K3.out.cell 6
  have Df6 := K3.out.free 6
  have D7 : w3.cell? ⟨w.heap.size, 7, none⟩ = some (.int .i64 0) := K3.out.cell 7
  have Df7 := K3.out.free 7
  have D8 : w3.cell? ⟨w.heap.size, 8, none⟩ = some (.slice none 0 0) := K3.out.cell 8
  have Df8 := K3.out.free 8
  have Dl := K3.out.lt
  try dsimp only
  go_wp2_with fail
  refine bodyPost_ret (v := .tuple #[.agg (cells9 0 0 zero6 none 0 0), .int .i64 (LexErr (lex s))]) (results_blk_tmp rfl rfl (blk_put9 (op := 0) (v := 0) (p := zero6) (A := none) (n := 0) (c := 0) K3.out) Tryz.underlying28 rfl (by kernel_rfl) rfl) rfl ?_
  exact ⟨noTree, _, 1, rfl, below_put9 B3.out (Nat.le_refl _) 0 0 zero6 none 0 0, inP_none _ _ _, by decide, by decide, .inl ⟨by rw [HE.out]; exact HNZ.out, HE.out.symm, rfl⟩⟩
set_option maxHeartbeats 4000000 in
set_option maxRecDepth 100000 in
theorem rparse_toks (l : List Prod) (v : Value) (s : ByteArray) (w : World) (h : PL w v l) (hss : s.size ≤ 5000) (hz : checkE l = 0) (he : LexErr (lex s) = 0) : Calls Tryz.prog 12 #[v, .string s] w (ParseX l s w) := by
  have hL4 := lex_toks_len he
  have HPR := Lib.hid (parse_rel hz he (q := rexprF l ((LexToks (lex s)).length + 7) (LexToks (lex s)) 0) rfl)
  have CC := Lib.hid (fun w' (k : Below w.heap.size w w') => Cat.rcheck_any l v w' h.len (h.keep k).sl h.nm)
  have CT := Lib.hid (fun w' => refTokens_any s w' (Nat.le_trans hss (by decide)))
  have HK := Lib.hid (Blk.new w 28 (cells9 0 0 zero6 none 0 0))
  have q1 : (checkE l != 0) = false := by simpa using hz
  have q2 : (LexErr (lex s) != 0) = false := by simpa using he
  obtain ⟨A, c, rfl, _, _, ha⟩ := ps_cases h.sl
  have HA := Lib.hid (show ∀ b o, A = some ⟨b, o, none⟩ → b < w.heap.size by
    intro b o hb
    have := ha (checkE_zero hz).1
    obtain ⟨b', o', e', h', _⟩ := this
    rw [hb] at e'
    injection e' with e'
    injection e' with e'
    omega)
  have CX := Lib.hid (fun w' g (k : Below w.heap.size w w') (hg : w.heap.size ≤ g) hs => rexpr_any l A c g hz (fun b o hb => by have := HA.out b o hb; omega) ((LexToks (lex s)).length + 7) (LexToks (lex s)) 0 w' (h.keep k).sl hs (by omega) (by omega))
  have CE := Lib.hid rend_any
  have HSZ := Lib.hid ((expr_sz l ((LexToks (lex s)).length + 7) (LexToks (lex s)) 0).2.2 ((LexToks (lex s)).length + 7))
  have hle := rexprF_len l ((LexToks (lex s)).length + 7) (LexToks (lex s)) 0
  generalize hgt : LexToks (lex s) = L at *
  have HGT := Lib.hid hgt
  clear hgt
  generalize rexprF l (L.length + 7) L 0 = st at *
  generalize exprF l (L.length + 7) L 0 = st0 at *
  obtain ⟨sx, sL, se⟩ := st
  dsimp only at hle CX HPR
  clear hz he ha h
  go_enter Tryz.func12, Tryz.ntmps12
  go_wp2_with fail
  refine (CC.out _ (below_new _ _)).mono ?_
  rintro r w2 ⟨rfl, d2⟩
  have K2 := Lib.hid (HK.out.below' d2)
  have B2 := Lib.hid (chain1 (Below.refl _ _) d2)
  clear d2
  go_wp2_with fail
  refine (CT.out _).mono ?_
  rintro r w3 ⟨v3, rfl, ho, d3⟩
  have K3 := Lib.hid (K2.out.below' d3)
  have B3 := Lib.hid (chain0 B2.out d3)
  rw [HGT.out] at ho
  obtain ⟨A3, c3, rfl⟩ := Cat.own_form ho
  have K4 := Lib.hid (K3.out.alloc (.cells #[.slice A3 L.length c3, .int .i64 0] 73))
  have P4 := Lib.hid (Blk.new w3 73 #[.slice A3 L.length c3, .int .i64 0])
  have S4 := Lib.hid (scan_of_own (own_below ho (below_new w3 (.cells #[.slice A3 L.length c3, .int .i64 0] 73))) rfl P4.out)
  have B4 := Lib.hid (B3.out.alloc B3.out.size (.cells #[.slice A3 L.length c3, .int .i64 0] 73))
  have hw4 : w.heap.size < w3.heap.size := K3.out.lt
  have hsz4 : w3.heap.size < (w3.alloc (.cells #[.slice A3 L.length c3, .int .i64 0] 73)).heap.size := P4.out.lt
  clear d3 ho
  go_wp2_with fail
  generalize w3.alloc (.cells #[.slice A3 L.length c3, .int .i64 0] 73) = w5 at *
  generalize w3.heap.size = y at *
  refine (CX.out _ y B4.out (by omega) S4.out).mono ?_
  rintro r w6 ⟨t, rfl, hx6, hi6, s6, o6⟩
  have HX := Lib.hid hx6
  have HPN : Hid (endE sL se = 0 → (preF (L.length + 7) t).length ≤ 4001) := fun h0 => by
    obtain ⟨_, h1, h2⟩ := HPR.out.2 h0
    have h3 := HSZ.out
    rw [h2] at h3
    rw [pre_sz, HX.out]
    dsimp only at h3 h1 ⊢
    rw [h1] at h3
    have h4 : dl 0 = 0 := rfl
    omega
  obtain ⟨op, p, vv, B, cb, ks⟩ := t
  dsimp only [Tree.val, Tree.op, Tree.want, Tree.value, Tree.a, Tree.c, Tree.args]
  have hw5 : w.heap.size < w5.heap.size := by omega
  have HI := Lib.hid (hi6.below (below_new w6 (.cells #[.int .i64 op, .int .i64 (p 0), .int .i64 (p 1), .int .i64 (p 2), .int .i64 (p 3), .int .i64 (p 4), .int .i64 (p 5), .int .i64 vv, .slice B ks.length cb] 28)))
  have K6 := Lib.hid ((K4.out.only o6 (by omega)).alloc (.cells #[.int .i64 op, .int .i64 (p 0), .int .i64 (p 1), .int .i64 (p 2), .int .i64 (p 3), .int .i64 (p 4), .int .i64 (p 5), .int .i64 vv, .slice B ks.length cb] 28))
  have S6 := Lib.hid (s6.below (below_new _ (.cells #[.int .i64 op, .int .i64 (p 0), .int .i64 (p 1), .int .i64 (p 2), .int .i64 (p 3), .int .i64 (p 4), .int .i64 (p 5), .int .i64 vv, .slice B ks.length cb] 28)))
  have B6 := Lib.hid ((Only.after_below B4.out o6 (by omega)).alloc (Only.after_below B4.out o6 (by omega)).size (.cells #[.int .i64 op, .int .i64 (p 0), .int .i64 (p 1), .int .i64 (p 2), .int .i64 (p 3), .int .i64 (p 4), .int .i64 (p 5), .int .i64 vv, .slice B ks.length cb] 28))
  have Q6 := Lib.hid (Blk.new w6 28 #[.int .i64 op, .int .i64 (p 0), .int .i64 (p 1), .int .i64 (p 2), .int .i64 (p 3), .int .i64 (p 4), .int .i64 (p 5), .int .i64 vv, .slice B ks.length cb])
  have hk6 := (K4.out.only o6 (by omega)).lt
  clear s6 o6 hx6 hi6
  go_wp2_with fail
  have hxw : Hid (w.heap.size < w6.heap.size) := hk6
  generalize w6.alloc (.cells #[.int .i64 op, .int .i64 (p 0), .int .i64 (p 1), .int .i64 (p 2), .int .i64 (p 3), .int .i64 (p 4), .int .i64 (p 5), .int .i64 vv, .slice B ks.length cb] 28) = w7 at *
  generalize w6.heap.size = x at *
  refine (CE.out _ _ _ _ S6.out (small_len (by omega))).mono ?_
  rintro r w8 ⟨rfl, rfl⟩
  by_cases hq : endE sL se = 0
  · have q3 : (endE sL se != 0) = false := by simpa using hq
    have HPN4 := HPN.out hq
    have HE2 : Hid (parseE l s = (0, sx)) := (HPR.out.2 hq).1
    have CK := Lib.hid (Ex.rcheck_any (L.length + 7) (.mk op p vv B cb ks) w7.heap.size w7 HI.out.to_in (Nat.le_refl _) (by omega))
    dsimp only [Tree.val, Tree.op, Tree.want, Tree.value, Tree.a, Tree.c, Tree.args] at CK
    generalize hce : checkX (L.length + 7) (.mk op p vv B cb ks) = ce at *
    have HCE := Lib.hid hce
    clear hce hq
    have C0 : w7.cell? ⟨x, 0, none⟩ = some (.int .i64 op) := Q6.out.cell 0
    have C1 : w7.cell? ⟨x, 1, none⟩ = some (.int .i64 (p 0)) := Q6.out.cell 1
    have C2 : w7.cell? ⟨x, 2, none⟩ = some (.int .i64 (p 1)) := Q6.out.cell 2
    have C3 : w7.cell? ⟨x, 3, none⟩ = some (.int .i64 (p 2)) := Q6.out.cell 3
    have C4 : w7.cell? ⟨x, 4, none⟩ = some (.int .i64 (p 3)) := Q6.out.cell 4
    have C5 : w7.cell? ⟨x, 5, none⟩ = some (.int .i64 (p 4)) := Q6.out.cell 5
    have C6 : w7.cell? ⟨x, 6, none⟩ = some (.int .i64 (p 5)) := Q6.out.cell 6
    have C7 : w7.cell? ⟨x, 7, none⟩ = some (.int .i64 vv) := Q6.out.cell 7
    have C8 : w7.cell? ⟨x, 8, none⟩ = some (.slice B ks.length cb) := Q6.out.cell 8
    have Cl := Q6.out.lt
    go_wp2_with fail
    refine (CK.out).mono ?_
    rintro r w9 ⟨rfl, d9⟩
    have K9 := Lib.hid (K6.out.below' d9)
    have B9 := Lib.hid (chain0 B6.out d9)
    have Q9 := Lib.hid (Q6.out.below' d9)
    have I9 := Lib.hid (HI.out.below d9)
    clear d9 C0 C1 C2 C3 C4 C5 C6 C7 C8 Cl
    by_cases hc : ce = 0
    · have q4 : (ce != 0) = false := by simpa using hc
      have HC0 := Lib.hid hc
      clear hc
      have C0 : w9.cell? ⟨x, 0, none⟩ = some (.int .i64 op) := Q9.out.cell 0
      have C1 : w9.cell? ⟨x, 1, none⟩ = some (.int .i64 (p 0)) := Q9.out.cell 1
      have C2 : w9.cell? ⟨x, 2, none⟩ = some (.int .i64 (p 1)) := Q9.out.cell 2
      have C3 : w9.cell? ⟨x, 3, none⟩ = some (.int .i64 (p 2)) := Q9.out.cell 3
      have C4 : w9.cell? ⟨x, 4, none⟩ = some (.int .i64 (p 3)) := Q9.out.cell 4
      have C5 : w9.cell? ⟨x, 5, none⟩ = some (.int .i64 (p 4)) := Q9.out.cell 5
      have C6 : w9.cell? ⟨x, 6, none⟩ = some (.int .i64 (p 5)) := Q9.out.cell 6
      have C7 : w9.cell? ⟨x, 7, none⟩ = some (.int .i64 vv) := Q9.out.cell 7
      have C8 : w9.cell? ⟨x, 8, none⟩ = some (.slice B ks.length cb) := Q9.out.cell 8
      have Cl := Q9.out.lt
      have hne1 : (x == w.heap.size) = false := by have := hxw.out; simp; omega
      have hne2 : (w.heap.size == x) = false := by have := hxw.out; simp; omega
      have hne3 : ¬ x = w.heap.size := by have := hxw.out; omega
      have hne4 : ¬ w.heap.size = x := by have := hxw.out; omega
      have D0 : w9.cell? ⟨w.heap.size, 0, none⟩ = some (.int .i64 0) := K9.out.cell 0
      have Df0 := K9.out.free 0
      have D1 : w9.cell? ⟨w.heap.size, 1, none⟩ = some (.int .i64 0) := K9.out.cell 1
      have Df1 := K9.out.free 1
      have D2 : w9.cell? ⟨w.heap.size, 2, none⟩ = some (.int .i64 0) := K9.out.cell 2
      have Df2 := K9.out.free 2
      have D3 : w9.cell? ⟨w.heap.size, 3, none⟩ = some (.int .i64 0) := K9.out.cell 3
      have Df3 := K9.out.free 3
      have D4 : w9.cell? ⟨w.heap.size, 4, none⟩ = some (.int .i64 0) := K9.out.cell 4
      have Df4 := K9.out.free 4
      have D5 : w9.cell? ⟨w.heap.size, 5, none⟩ = some (.int .i64 0) := K9.out.cell 5
      have Df5 := K9.out.free 5
      have D6 : w9.cell? ⟨w.heap.size, 6, none⟩ = some (.int .i64 0) := K9.out.cell 6
      have Df6 := K9.out.free 6
      have D7 : w9.cell? ⟨w.heap.size, 7, none⟩ = some (.int .i64 0) := K9.out.cell 7
      have Df7 := K9.out.free 7
      have D8 : w9.cell? ⟨w.heap.size, 8, none⟩ = some (.slice none 0 0) := K9.out.cell 8
      have Df8 := K9.out.free 8
      have Dl := K9.out.lt
      try dsimp only
      go_wp2_with fail
      refine bodyPost_ret (v := .tuple #[.agg (cells9 op vv p B ks.length cb), .int .i64 0]) (results_blk_tmp rfl rfl (blk_put9 (op := op) (v := vv) (p := p) (A := B) (n := ks.length) (c := cb) K9.out) Tryz.underlying28 rfl (by kernel_rfl) rfl) rfl ?_
      exact ⟨.mk op p vv B cb ks, _, L.length + 7, rfl, below_put9 B9.out (Nat.le_refl _) op vv p B ks.length cb, (inP_put9 I9.out (fun ok => by omega)).mono (fun b _ ok => by omega), by omega, by omega, .inr ⟨by rw [HE2.out], .mk op p vv B cb ks, L.length + 7, I9.out.deep, by rw [HE2.out]; exact HX.out, by rw [HCE.out, HC0.out], .inl ⟨rfl, by rw [HE2.out]; exact HX.out⟩⟩⟩
    · have q4 : (ce != 0) = true := by simpa using hc
      have HC0 := Lib.hid hc
      clear hc
      have D0 : w9.cell? ⟨w.heap.size, 0, none⟩ = some (.int .i64 0) := K9.out.cell 0
      have Df0 := K9.out.free 0
      have D1 : w9.cell? ⟨w.heap.size, 1, none⟩ = some (.int .i64 0) := K9.out.cell 1
      have Df1 := K9.out.free 1
      have D2 : w9.cell? ⟨w.heap.size, 2, none⟩ = some (.int .i64 0) := K9.out.cell 2
      have Df2 := K9.out.free 2
      have D3 : w9.cell? ⟨w.heap.size, 3, none⟩ = some (.int .i64 0) := K9.out.cell 3
      have Df3 := K9.out.free 3
      have D4 : w9.cell? ⟨w.heap.size, 4, none⟩ = some (.int .i64 0) := K9.out.cell 4
      have Df4 := K9.out.free 4
      have D5 : w9.cell? ⟨w.heap.size, 5, none⟩ = some (.int .i64 0) := K9.out.cell 5
      have Df5 := K9.out.free 5
      have D6 : w9.cell? ⟨w.heap.size, 6, none⟩ = some (.int .i64 0) := K9.out.cell 6
      have Df6 := K9.out.free 6
      have D7 : w9.cell? ⟨w.heap.size, 7, none⟩ = some (.int .i64 0) := K9.out.cell 7
      have Df7 := K9.out.free 7
      have D8 : w9.cell? ⟨w.heap.size, 8, none⟩ = some (.slice none 0 0) := K9.out.cell 8
      have Df8 := K9.out.free 8
      have Dl := K9.out.lt
      try dsimp only
      go_wp2_with fail
      refine bodyPost_ret (v := .tuple #[.agg (cells9 0 0 zero6 none 0 0), .int .i64 ce]) (results_blk_tmp rfl rfl (blk_put9 (op := 0) (v := 0) (p := zero6) (A := none) (n := 0) (c := 0) K9.out) Tryz.underlying28 rfl (by kernel_rfl) rfl) rfl ?_
      exact ⟨noTree, _, 1, rfl, below_put9 B9.out (Nat.le_refl _) 0 0 zero6 none 0 0, inP_none _ _ _, by decide, by decide, .inr ⟨by rw [HE2.out], .mk op p vv B cb ks, L.length + 7, I9.out.deep, by rw [HE2.out]; exact HX.out, by rw [HCE.out], .inr ⟨HC0.out, rfl⟩⟩⟩
  · have q3 : (endE sL se != 0) = true := by simpa using hq
    have HQ := Lib.hid hq
    clear hq
    have D0 : w7.cell? ⟨w.heap.size, 0, none⟩ = some (.int .i64 0) := K6.out.cell 0
    have Df0 := K6.out.free 0
    have D1 : w7.cell? ⟨w.heap.size, 1, none⟩ = some (.int .i64 0) := K6.out.cell 1
    have Df1 := K6.out.free 1
    have D2 : w7.cell? ⟨w.heap.size, 2, none⟩ = some (.int .i64 0) := K6.out.cell 2
    have Df2 := K6.out.free 2
    have D3 : w7.cell? ⟨w.heap.size, 3, none⟩ = some (.int .i64 0) := K6.out.cell 3
    have Df3 := K6.out.free 3
    have D4 : w7.cell? ⟨w.heap.size, 4, none⟩ = some (.int .i64 0) := K6.out.cell 4
    have Df4 := K6.out.free 4
    have D5 : w7.cell? ⟨w.heap.size, 5, none⟩ = some (.int .i64 0) := K6.out.cell 5
    have Df5 := K6.out.free 5
    have D6 : w7.cell? ⟨w.heap.size, 6, none⟩ = some (.int .i64 0) := K6.out.cell 6
    have Df6 := K6.out.free 6
    have D7 : w7.cell? ⟨w.heap.size, 7, none⟩ = some (.int .i64 0) := K6.out.cell 7
    have Df7 := K6.out.free 7
    have D8 : w7.cell? ⟨w.heap.size, 8, none⟩ = some (.slice none 0 0) := K6.out.cell 8
    have Df8 := K6.out.free 8
    have Dl := K6.out.lt
    try dsimp only
    go_wp2_with fail
    refine bodyPost_ret (v := .tuple #[.agg (cells9 0 0 zero6 none 0 0), .int .i64 (endE sL se)]) (results_blk_tmp rfl rfl (blk_put9 (op := 0) (v := 0) (p := zero6) (A := none) (n := 0) (c := 0) K6.out) Tryz.underlying28 rfl (by kernel_rfl) rfl) rfl ?_
    exact ⟨noTree, _, 1, rfl, below_put9 B6.out (Nat.le_refl _) 0 0 zero6 none 0 0, inP_none _ _ _, by decide, by decide, .inl ⟨by rw [HPR.out.1]; exact HQ.out, by rw [HPR.out.1], rfl⟩⟩
theorem rparse_any (l : List Prod) (v : Value) (s : ByteArray) (w : World) (h : PL w v l) (hss : s.size ≤ 5000) : Calls Tryz.prog 12 #[v, .string s] w (ParseX l s w) := by
  by_cases hz : checkE l = 0
  · by_cases he : LexErr (lex s) = 0
    · exact rparse_toks l v s w h hss hz he
    · exact rparse_lex l v s w h hss hz he
  · exact rparse_bad l v s w h hss hz
/-- two answers to one text are equal -/
abbrev ParseD (l : List Prod) (s : ByteArray) (t : Tree) (e : Int) (d : Nat) : Prop := ((parseE l s).1 ≠ 0 ∧ e = (parseE l s).1 ∧ xF d t = x0) ∨ ((parseE l s).1 = 0 ∧ ∃ t0 d0, Deep d0 t0 ∧ xF d0 t0 = (parseE l s).2 ∧ e = checkX d0 t0 ∧ ((e = 0 ∧ xF d t = (parseE l s).2) ∨ (e ≠ 0 ∧ xF d t = x0)))
theorem parse_key {l : List Prod} {s : ByteArray} {t1 t2 : Tree} {e1 e2 : Int} {d1 d2 : Nat} (x1 : ParseD l s t1 e1 d1) (x2 : ParseD l s t2 e2 d2) : e1 = e2 ∧ xF d1 t1 = xF d2 t2 := by
  rcases x1 with ⟨a1, a2, a3⟩ | ⟨a1, t0, d0, a2, a3, a4, a5⟩
  · rcases x2 with ⟨c1, c2, c3⟩ | ⟨c1, _⟩
    · exact ⟨a2.trans c2.symm, a3.trans c3.symm⟩
    · exact absurd c1 a1
  · rcases x2 with ⟨c1, _⟩ | ⟨c1, t3, d3, c2, c3, c4, c5⟩
    · exact absurd a1 c1
    · have he : e1 = e2 := by rw [a4, c4]; exact check_congr a2 c2 (a3.trans c3.symm)
      refine ⟨he, ?_⟩
      rcases a5 with ⟨q1, q2⟩ | ⟨q1, q2⟩
      · rcases c5 with ⟨p1, p2⟩ | ⟨p1, p2⟩
        · exact q2.trans p2.symm
        · exact absurd (he.symm.trans q1) p1
      · rcases c5 with ⟨p1, p2⟩ | ⟨p1, p2⟩
        · exact absurd (he.trans p1) q1
        · exact q2.trans p2.symm
set_option maxHeartbeats 4000000 in
set_option maxRecDepth 100000 in
theorem law_parses (l : List Prod) (v : Value) (s : ByteArray) (w : World) (hsl : PS w v l) (hnm : ∀ p ∈ l, p.name.size ≤ maxLen) (ht : Tab w) : Calls Tryz.prog 3 #[v, .string s] w (TrueP w) := by
  obtain ⟨A0, c0, rfl, hc0, hc1, _⟩ := ps_cases hsl
  have HT := Lib.hid (fun W (b : Below w.heap.size w W) => ht.keep b)
  have HS := Lib.hid (fun W (b : Below w.heap.size w W) => Sl.keep hsl b)
  have HN := Lib.hid hnm
  have B0 := Lib.hid (Below.refl w.heap.size w)
  clear ht hsl hnm
  by_cases h10 : 10 < l.length
  · have q1 : decide ((10 : Int) < (l.length : Int)) = true := by simp; omega
    clear h10
    go_enter Tryz.func3, Tryz.ntmps3
    go_wp2_with fail
    refine (lives_any _ (HT.out _ B0.out)).mono ?_
    rintro r w8 ⟨rfl, dd⟩
    have B8 := Lib.hid (chain0 B0.out dd)
    go_wp2_with fail
    go_ret
    exact ⟨rfl, B8.out⟩
  · have q1 : decide ((10 : Int) < (l.length : Int)) = false := by simp; omega
    by_cases h20 : 4100 < s.size
    · have q2 : decide ((4100 : Int) < (s.size : Int)) = true := by simp; omega
      clear h20
      go_enter Tryz.func3, Tryz.ntmps3
      go_wp2_with fail
      refine (lives_any _ (HT.out _ B0.out)).mono ?_
      rintro r w8 ⟨rfl, dd⟩
      have B8 := Lib.hid (chain0 B0.out dd)
      go_wp2_with fail
      go_ret
      exact ⟨rfl, B8.out⟩
    · have q2 : decide ((4100 : Int) < (s.size : Int)) = false := by simp; omega
      have CP := Lib.hid (fun W (b : Below w.heap.size w W) => parse_any l (.slice A0 l.length c0) s W ⟨HS.out W b, by omega, HN.out⟩ (by omega))
      have CR := Lib.hid (fun W (b : Below w.heap.size w W) => rparse_any l (.slice A0 l.length c0) s W ⟨HS.out W b, by omega, HN.out⟩ (by omega))
      go_enter Tryz.func3, Tryz.ntmps3
      go_wp2_with fail
      refine (CP.out _ B0.out).mono ?_
      rintro r w1 ⟨t, n, dX, rfl, d1, i1, _, hn1, x1⟩
      have HX1 := Lib.hid (show ParseD l s t n dX from x1)
      have HN1 := Lib.hid hn1
      clear x1 hn1
      have B1 := Lib.hid (chain0 B0.out d1)
      obtain ⟨xop, xp, xv, xB, xcb, xks⟩ := t
      dsimp only [Tree.val, Tree.op, Tree.want, Tree.value, Tree.a, Tree.c, Tree.args]
      have B2 := Lib.hid (B1.out.alloc B1.out.size (.cells #[.int .i64 xop, .int .i64 (xp 0), .int .i64 (xp 1), .int .i64 (xp 2), .int .i64 (xp 3), .int .i64 (xp 4), .int .i64 (xp 5), .int .i64 xv, .slice xB xks.length xcb] 28))
      have KT := Lib.hid (Blk.new w1 28 #[.int .i64 xop, .int .i64 (xp 0), .int .i64 (xp 1), .int .i64 (xp 2), .int .i64 (xp 3), .int .i64 (xp 4), .int .i64 (xp 5), .int .i64 xv, .slice xB xks.length xcb])
      have IT := Lib.hid ((i1.to_in.keep (below_new w1 (.cells #[.int .i64 xop, .int .i64 (xp 0), .int .i64 (xp 1), .int .i64 (xp 2), .int .i64 (xp 3), .int .i64 (xp 4), .int .i64 (xp 5), .int .i64 xv, .slice xB xks.length xcb] 28))).mono (below_new w1 (.cells #[.int .i64 xop, .int .i64 (xp 0), .int .i64 (xp 1), .int .i64 (xp 2), .int .i64 (xp 3), .int .i64 (xp 4), .int .i64 (xp 5), .int .i64 xv, .slice xB xks.length xcb] 28)).size)
      clear d1 B0 i1
      go_upto_region 4 with fail
      generalize w1.alloc (.cells #[.int .i64 xop, .int .i64 (xp 0), .int .i64 (xp 1), .int .i64 (xp 2), .int .i64 (xp 3), .int .i64 (xp 4), .int .i64 (xp 5), .int .i64 xv, .slice xB xks.length xcb] 28) = w2 at *
      generalize w1.heap.size = xb at *
      go_wp2_with fail
      refine (CR.out _ B2.out).mono ?_
      rintro r w3 ⟨t3, n3, d3, rfl, bb3, i3, _, _, x3⟩
      obtain ⟨hnn, hxx⟩ := parse_key HX1.out x3
      have HXX := Lib.hid hxx
      subst hnn
      have B3 := Lib.hid (chain0 B2.out bb3)
      have KT3 := Lib.hid ((KT.out.below' bb3))
      have IT3 := Lib.hid ((IT.out.keep bb3).mono bb3.size)
      clear HX1 x3 hxx KT IT
      obtain ⟨yop, yp, yv, yB, ycb, yks⟩ := t3
      dsimp only [Tree.val, Tree.op, Tree.want, Tree.value, Tree.a, Tree.c, Tree.args]
      have hlx := KT3.out.lt
      have K5 := Lib.hid (KT3.out.alloc (.cells #[.int .i64 yop, .int .i64 (yp 0), .int .i64 (yp 1), .int .i64 (yp 2), .int .i64 (yp 3), .int .i64 (yp 4), .int .i64 (yp 5), .int .i64 yv, .slice yB yks.length ycb] 28))
      have KY := Lib.hid (Blk.new w3 28 #[.int .i64 yop, .int .i64 (yp 0), .int .i64 (yp 1), .int .i64 (yp 2), .int .i64 (yp 3), .int .i64 (yp 4), .int .i64 (yp 5), .int .i64 yv, .slice yB yks.length ycb])
      have B5 := Lib.hid (B3.out.alloc B3.out.size (.cells #[.int .i64 yop, .int .i64 (yp 0), .int .i64 (yp 1), .int .i64 (yp 2), .int .i64 (yp 3), .int .i64 (yp 4), .int .i64 (yp 5), .int .i64 yv, .slice yB yks.length ycb] 28))
      have IX := Lib.hid ((IT3.out.keep (below_new w3 (.cells #[.int .i64 yop, .int .i64 (yp 0), .int .i64 (yp 1), .int .i64 (yp 2), .int .i64 (yp 3), .int .i64 (yp 4), .int .i64 (yp 5), .int .i64 yv, .slice yB yks.length ycb] 28))).mono (below_new w3 (.cells #[.int .i64 yop, .int .i64 (yp 0), .int .i64 (yp 1), .int .i64 (yp 2), .int .i64 (yp 3), .int .i64 (yp 4), .int .i64 (yp 5), .int .i64 yv, .slice yB yks.length ycb] 28)).size)
      have IY := Lib.hid ((i3.to_in.keep (below_new w3 (.cells #[.int .i64 yop, .int .i64 (yp 0), .int .i64 (yp 1), .int .i64 (yp 2), .int .i64 (yp 3), .int .i64 (yp 4), .int .i64 (yp 5), .int .i64 yv, .slice yB yks.length ycb] 28))).mono (below_new w3 (.cells #[.int .i64 yop, .int .i64 (yp 0), .int .i64 (yp 1), .int .i64 (yp 2), .int .i64 (yp 3), .int .i64 (yp 4), .int .i64 (yp 5), .int .i64 yv, .slice yB yks.length ycb] 28)).size)
      clear bb3 i3 KT3 IT3 B3
      go_upto_region 5 with fail
      generalize w3.alloc (.cells #[.int .i64 yop, .int .i64 (yp 0), .int .i64 (yp 1), .int .i64 (yp 2), .int .i64 (yp 3), .int .i64 (yp 4), .int .i64 (yp 5), .int .i64 yv, .slice yB yks.length ycb] 28) = w5 at *
      generalize w3.heap.size = yb at *
      have q3 : (n == n) = true := by simp
      have CQ := Lib.hid (Ex.same_yes dX d3 (.mk xop xp xv xB xcb xks) (.mk yop yp yv yB ycb yks) w5.heap.size w5 IX.out IY.out (Nat.le_refl _) HN1.out HXX.out)
      dsimp only [Tree.val, Tree.op, Tree.want, Tree.value, Tree.a, Tree.c, Tree.args] at CQ
      have X0 : w5.cell? ⟨xb, 0, none⟩ = some (.int .i64 xop) := K5.out.cell 0
      have X1 : w5.cell? ⟨xb, 1, none⟩ = some (.int .i64 (xp 0)) := K5.out.cell 1
      have X2 : w5.cell? ⟨xb, 2, none⟩ = some (.int .i64 (xp 1)) := K5.out.cell 2
      have X3 : w5.cell? ⟨xb, 3, none⟩ = some (.int .i64 (xp 2)) := K5.out.cell 3
      have X4 : w5.cell? ⟨xb, 4, none⟩ = some (.int .i64 (xp 3)) := K5.out.cell 4
      have X5 : w5.cell? ⟨xb, 5, none⟩ = some (.int .i64 (xp 4)) := K5.out.cell 5
      have X6 : w5.cell? ⟨xb, 6, none⟩ = some (.int .i64 (xp 5)) := K5.out.cell 6
      have X7 : w5.cell? ⟨xb, 7, none⟩ = some (.int .i64 xv) := K5.out.cell 7
      have X8 : w5.cell? ⟨xb, 8, none⟩ = some (.slice xB xks.length xcb) := K5.out.cell 8
      have Xl := K5.out.lt
      have Y0 : w5.cell? ⟨yb, 0, none⟩ = some (.int .i64 yop) := KY.out.cell 0
      have Y1 : w5.cell? ⟨yb, 1, none⟩ = some (.int .i64 (yp 0)) := KY.out.cell 1
      have Y2 : w5.cell? ⟨yb, 2, none⟩ = some (.int .i64 (yp 1)) := KY.out.cell 2
      have Y3 : w5.cell? ⟨yb, 3, none⟩ = some (.int .i64 (yp 2)) := KY.out.cell 3
      have Y4 : w5.cell? ⟨yb, 4, none⟩ = some (.int .i64 (yp 3)) := KY.out.cell 4
      have Y5 : w5.cell? ⟨yb, 5, none⟩ = some (.int .i64 (yp 4)) := KY.out.cell 5
      have Y6 : w5.cell? ⟨yb, 6, none⟩ = some (.int .i64 (yp 5)) := KY.out.cell 6
      have Y7 : w5.cell? ⟨yb, 7, none⟩ = some (.int .i64 yv) := KY.out.cell 7
      have Y8 : w5.cell? ⟨yb, 8, none⟩ = some (.slice yB yks.length ycb) := KY.out.cell 8
      have Yl := KY.out.lt
      go_wp2_with fail
      refine (CQ.out).mono ?_
      rintro r w6 ⟨rfl, dd⟩
      have B6 := Lib.hid (chain0 B5.out dd)
      clear dd
      clear X0 X1 X2 X3 X4 X5 X6 X7 X8 Xl
      go_wp2_with fail
      refine (lives_any _ (HT.out _ B6.out)).mono ?_
      rintro r w8 ⟨rfl, dd⟩
      have B8 := Lib.hid (chain0 B6.out dd)
      go_wp2_with fail
      go_ret
      exact ⟨rfl, B8.out⟩
end Go.Proofs.YtjjlhihocllgjaaGreatDoor.Ex
