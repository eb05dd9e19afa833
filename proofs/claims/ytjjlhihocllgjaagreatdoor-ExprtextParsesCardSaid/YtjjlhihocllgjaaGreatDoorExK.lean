/- Contract of exprtext's expression: an operation. Printed by gen_exK.py. -/
import Derived.Test.YtjjlhihocllgjaaGreatDoorExJ
import Derived.Deep.LoopGhost
import Derived.Deep.RegionHeld3
namespace Go.Proofs.YtjjlhihocllgjaaGreatDoor.Ex
open Go.ChangeShapes Go.WideShapes Go.ChangeAt Go.RowKit Gn Cat Lex
set_option linter.unusedVariables false
set_option linter.unusedSimpArgs false
section
variable {tp tx ts te : TypeId} {w wx wy : World} {g q : Nat} {pv : Array Value} {op v : Int} {p : Nat → Int} {A : Option Addr} {c d : Nat} {ks : List Tree} {L L' : List Tok} {e e' : Int}
theorem XMid.tree2 (h : XMid tp tx ts te w wx g q pv op v p A c d ks L e) : InP (fun b => q < b) (d + 1) wx (.mk op p v A c ks) := by
  obtain ⟨h0, A', c', e1, k2, k3, k4⟩ := Sl.of_own h.own
  injection e1 with e1 _ e2
  subst e1 e2
  refine ⟨k2, k3, fun hn => ?_, fun x hx => (h.kids x hx).mono fun b _ ok => ok.1⟩
  obtain ⟨b, o, e3, hb, hr⟩ := k4 hn
  refine ⟨b, o, e3, ?_, hb, hr⟩
  have : q + 1 ≤ b := own_ge h.own (by subst e3; rfl)
  omega
/-- the result's block takes the expression -/
theorem XMid.done (h : XMid tp tx ts te w wx g q pv op v p A c d ks L e) (h1 : tx ≠ ts) (h2 : tx ≠ te) : InP (fun b => w.heap.size ≤ b) (d + 1) (put9 wx (w.heap.size + 1) op v p A ks.length c) (.mk op p v A c ks) ∧ Scan ts te (put9 wx (w.heap.size + 1) op v p A ks.length c) g L e ∧ Only g w (put9 wx (w.heap.size + 1) op v p A ks.length c) := by
  have hf := h.far
  exact ⟨(inP_put9 h.tree2 (fun k => by omega)).mono fun b _ ok => by omega, scan_put9 h.scan h.res h1 h2, only_put9 h.only (by omega)⟩
/-- what was made later lies far from it -/
theorem XMid.fit (h : XMid tp tx ts te w wx g q pv op v p A c d ks L e) {t : Tree} (hi : InP (fun b => wx.heap.size ≤ b) d wy t) : InP (fun b => q < b ∧ (Value.slice A ks.length c).ownBlock ≠ some b) d wy t :=
  hi.mono fun b _ ok => ⟨by have := h.box.lt; omega, fun e => by
    rcases h.own.2 with ⟨e1, _⟩ | ⟨g', cap, cur, e1, _, hh, _⟩
    · rw [e1] at e; cases e
    · rw [e1] at e
      obtain rfl : g' = b := by simpa [Value.ownBlock] using e
      rw [Array.getElem?_eq_none ok] at hh
      cases hh⟩
/-- the bundle and the value of the expression -/
theorem XMid.put7 (h : XMid tp tx ts te w wx g q pv op v p A c d ks L e) (h1 : tx ≠ ts) (h2 : tx ≠ te) (v' : Int) (p' : Nat → Int) : XMid tp tx ts te w (put7 wx q v' p') g q pv op v' p' A c d ks L e := by
  have hf := h.far
  have hg := h.gw
  have hown : (Ex.put7 wx q v' p').ownsRow (q + 1) tx 9 (.slice A ks.length c) ks.length (ks.flatMap Tree.cells) := by
    have hr : ∀ (W : World) (j : Nat) (u : Value), W.ownsRow (q + 1) tx 9 (.slice A ks.length c) ks.length (ks.flatMap Tree.cells) → (W.setCell ⟨q, j, none⟩ u).ownsRow (q + 1) tx 9 (.slice A ks.length c) ks.length (ks.flatMap Tree.cells) := fun W j u k => k.kept (put_grown W q j u) (.inr (h.row_ne (Nat.le_refl _)))
    exact hr _ 7 _ (hr _ 6 _ (hr _ 5 _ (hr _ 4 _ (hr _ 3 _ (hr _ 2 _ (hr _ 1 _ h.own))))))
  exact ⟨scan_put7 h.scan h.box h1 h2, far_put7 h.par (by omega), far_put7 h.res (by omega), blk_put7 h.box, hown, fun x hx => inP_put7 (h.kids x hx) (fun ok => Nat.lt_irrefl _ ok.1), hf, hg, only_put7 h.only (by omega)⟩
end
theorem expr_info9 : (Tryz.prog.info? 28).map (fun i => (i.zero, i.size, i.bytes)) = some (some (.agg #[.int .i64 0, .int .i64 0, .int .i64 0, .int .i64 0, .int .i64 0, .int .i64 0, .int .i64 0, .int .i64 0, .slice none 0 0]), 9, 88) := by kernel_rfl
theorem tree_new (W : World) (t : TypeId) (x : Tree) : ∀ j u, x.cells[j]? = some u → (W.alloc (.cells x.cells.toArray t)).cell? ((⟨W.heap.size, 0, none⟩ : Addr).add j) = some u := by
  intro j u hj
  rw [OpenAdd.add_at]
  show (W.alloc _).cell? ⟨W.heap.size, 0 + j, none⟩ = some u
  rw [Nat.zero_add, (Blk.new W t x.cells.toArray).cell j]
  simpa using hj
theorem tree_cell1 (x : Tree) : ∀ u ∈ x.cells, u.oneCell' = true := by
  intro u hu
  simp only [Tree.cells, List.mem_cons, List.not_mem_nil, or_false] at hu
  rcases hu with rfl | rfl | rfl | rfl | rfl | rfl | rfl | rfl | rfl <;> rfl
theorem opW_cases (s : ByteArray) : opW s = 0 ∨ opW s = 2 ∨ opW s = 3 ∨ opW s = 4 ∨ opW s = 5 := by
  unfold opW
  repeat' split
  all_goals simp
theorem mid_new {tp tx ts te : TypeId} {w wx : World} {g : Nat} {pv : Array Value} {L : List Tok} {e : Int} (s : Scan ts te wx g L e) (k1 : Blk wx w.heap.size tp pv) (k2 : Blk wx (w.heap.size + 1) tx (cells9 0 0 zero6 none 0 0)) (o : Only g w wx) (hg : g < w.heap.size) (op : Int) (d : Nat) : XMid tp tx ts te w (wx.alloc (.cells (cells9 op 0 zero6 none 0 0) tx)) g wx.heap.size pv op 0 zero6 none 0 d [] L e :=
  ⟨s.below (below_new _ _), k1.alloc _, k2.alloc _, Blk.new wx tx _, ⟨rfl, .inl ⟨rfl, rfl⟩⟩, fun x hx => by simp at hx, k2.lt, hg, o.alloc _⟩
set_option maxHeartbeats 8000000 in
set_option maxRecDepth 100000 in
theorem expr_0 (l : List Prod) (d : Nat) (f : List Tok → Int → PX) (hf : ∀ L e, (f L e).L.length ≤ L.length) (A : Option Addr) (c : Nat) (L : List Tok) (g : Nat) (w : World) (hl : l.length ≤ 5000) (hp : PS w (.slice A l.length c) l) (hA : ∀ b o, A = some ⟨b, o, none⟩ → b ≠ g) (hn : ∀ p ∈ l, p.name.size ≤ maxLen) (hs : Scan 113 109 w g L 0) (hm : L.length ≤ 5000) (h0 : 0 < L.length)
    (HARG : ∀ L' e' W, (e' = 0 → L'.length < L.length) → Only g w W → Scan 113 109 W g L' e' → Calls Tryz.prog 77 #[.agg #[.slice A l.length c, .pointer (some ⟨g, 0, none⟩)]] W (ExprPost d (argX f L' e') g W)) (hk : (peekT L 0).kind = 1) (hop : opW (peekT L 0).text = 0) :
    Calls Tryz.prog 36 #[.agg #[.slice A l.length c, .pointer (some ⟨g, 0, none⟩)]] w (ExprPost (d + 1) (bodyX l f 0 (firstX f L 2)) g w) := by
  have hg := hs.lt
  have CP := Lib.hid fun W (h : Scan 113 109 W g L 0) => peek_any L 0 g W h (small_len hm)
  have CO := Lib.hid fun W => op_any (peekT L 0).text W
  have CF := Lib.hid fun W (h : Scan 113 109 W g L 0) => fail_any L 0 2 g W h
  have CN := Lib.hid fun W (h : Scan 113 109 W g L 2) => next_any L 2 g W h (small_len hm)
  have hN1 := nextL_len L 2
  have hL1 := expL_len (nextL L 2) 2 ⟨#[40]⟩
  have CX := Lib.hid fun W (h : Scan 113 109 W g (nextL L 2) 2) => expect_any (nextL L 2) 2 g ⟨#[40]⟩ W h (small_len (by omega))
  have CR := Lib.hid fun W (k : Only g w W) L' e' (h : Scan 113 109 W g L' e') (hm' : L'.length ≤ 5000) => priced_any l A c L' e' g W hl (ps_only hp hA k) hA hn h hm'
  have CE := Lib.hid fun W L' e' m (h : Scan 113 109 W g L' e') (hm' : L'.length ≤ 5000) => expect_any L' e' g m W h (small_len hm')
  have CM := Lib.hid fun W L' e' (h : Scan 113 109 W g L' e') (hm' : L'.length ≤ 5000) => amount_any L' e' 1000000 g W h (small_len hm')
  have HLESS : expE (nextL L 2) 2 ⟨#[40]⟩ = 0 → (expL (nextL L 2) 2 ⟨#[40]⟩).length < L.length := fun h => absurd h (by rw [(err_exp (by decide) _).1]; decide)
  have HA1 := Lib.hid fun W k h => HARG (expL (nextL L 2) 2 ⟨#[40]⟩) (expE (nextL L 2) 2 ⟨#[40]⟩) W HLESS k h
  have HARG := Lib.hid HARG
  have hal := argX_len hf (expL (nextL L 2) 2 ⟨#[40]⟩) (expE (nextL L 2) 2 ⟨#[40]⟩)
  unfold firstX
  rw [hop] at CO
  generalize expE (nextL L 2) 2 ⟨#[40]⟩ = ex at *
  generalize expL (nextL L 2) 2 ⟨#[40]⟩ = Lx at *
  generalize nextL L 2 = Ln at *
  generalize hargX : argX f Lx ex = a at *
  clear hargX
  obtain ⟨ax, aL, ae⟩ := a
  dsimp only at hal
  have haL : aL.length ≤ 5000 := by omega
  generalize peekT L 0 = t at *
  obtain ⟨tk, tt, tv, tp⟩ := t
  dsimp only at CP CO hk hop
  subst hk
  clear hop
  generalize hB : bodyX l f 0 ⟨ax, aL, ae⟩ = qr
  have HB := Lib.hid hB
  clear hB
  have S2 := Lib.hid ((hs.below (below_new w (.cells #[.slice A l.length c, .pointer (some ⟨g, 0, none⟩)] 64))).below (below_new _ (.cells (cells9 0 0 zero6 none 0 0) 28)))
  have K1 := Lib.hid ((Blk.new w 64 #[.slice A l.length c, .pointer (some ⟨g, 0, none⟩)]).alloc (.cells (cells9 0 0 zero6 none 0 0) 28))
  have K2 := Lib.hid (Blk.new (w.alloc (.cells #[.slice A l.length c, .pointer (some ⟨g, 0, none⟩)] 64)) 28 (cells9 0 0 zero6 none 0 0))
  have O2 := Lib.hid (((Only.refl g w).alloc (.cells #[.slice A l.length c, .pointer (some ⟨g, 0, none⟩)] 64)).alloc (.cells (cells9 0 0 zero6 none 0 0) 28))
  have hz : Hid ((w.alloc (.cells #[.slice A l.length c, .pointer (some ⟨g, 0, none⟩)] 64)).heap.size = w.heap.size + 1) := by show _ = _; go_size
  rw [hz.out] at K2
  clear hs hp hA hn HLESS
  have d2 := K1.out.c2
  go_enter Tryz.func36, Tryz.ntmps36
  go_wp2_with fail
  refine (CP.out _ S2.out).mono ?_
  rintro r w2 ⟨rfl, b2⟩
  have TS := Lib.hid ((S2.out.below b2).below (below_new w2 (.cells #[.int .i64 1, .string tt, .int .i64 tv, .int .i64 tp] 109)))
  have TK1 := Lib.hid ((K1.out.below' b2).alloc (.cells #[.int .i64 1, .string tt, .int .i64 tv, .int .i64 tp] 109))
  have TK2 := Lib.hid ((K2.out.below' b2).alloc (.cells #[.int .i64 1, .string tt, .int .i64 tv, .int .i64 tp] 109))
  have TO := Lib.hid ((O2.out.then_below b2).alloc (.cells #[.int .i64 1, .string tt, .int .i64 tv, .int .i64 tp] 109))
  have KT := Lib.hid (Blk.new w2 109 #[.int .i64 1, .string tt, .int .i64 tv, .int .i64 tp])
  clear b2 d2 S2 K1 K2 O2 hz
  have d4 := KT.out.c4
  have d2 := TK1.out.c2
  go_wp2_with fail
  generalize w2.alloc (.cells #[.int .i64 1, .string tt, .int .i64 tv, .int .i64 tp] 109) = w3 at *
  refine (CO.out _).mono ?_
  rintro r w4 ⟨rfl, b4⟩
  have S4 := Lib.hid (TS.out.below b4)
  have K14 := Lib.hid (TK1.out.below' b4)
  have K24 := Lib.hid (TK2.out.below' b4)
  have O4 := Lib.hid (TO.out.then_below b4)
  clear b4 d2 d4 TS TK1 TK2 TO KT
  have d2 := K14.out.c2
  have lp := K14.out.lt
  go_wp2_with fail
  
  refine (CF.out _ S4.out).mono ?_
  rintro r w5 ⟨rfl, s5, o5⟩
  have S5 := Lib.hid (show Scan 113 109 w5 g L 2 from s5)
  have K15 := Lib.hid (K14.out.only o5 (by omega))
  have K25 := Lib.hid (K24.out.only o5 (by omega))
  have O5 := Lib.hid (O4.out.trans o5)
  clear s5 o5 d2 lp S4 K14 K24 O4
  have lp := K15.out.lt
  have E6 : Hid (XMid 64 28 113 109 w (w5.alloc (.cells #[.int .i64 0, .int .i64 0, .int .i64 0, .int .i64 0, .int .i64 0, .int .i64 0, .int .i64 0, .int .i64 0, .slice none 0 0] 28)) g w5.heap.size #[.slice A l.length c, .pointer (some ⟨g, 0, none⟩)] 0 0 zero6 none 0 d [] L 2) := mid_new S5.out K15.out K25.out O5.out hg 0 d
  have d2 := K15.out.c2
  go_wp2_with fail
  generalize w5.alloc (.cells #[.int .i64 0, .int .i64 0, .int .i64 0, .int .i64 0, .int .i64 0, .int .i64 0, .int .i64 0, .int .i64 0, .slice none 0 0] 28) = w6 at *
  generalize w5.heap.size = q at *
  clear S5 K15 K25 O5 d2 lp
  
  refine (CN.out _ E6.out.scan).mono ?_
  rintro r w7 ⟨rfl, s7, o7⟩
  have E7 := Lib.hid (E6.out.step s7 o7)
  clear s7 o7 E6
  have d2 := E7.out.par.c2
  go_wp2_with fail
  refine (CX.out _ E7.out.scan).mono ?_
  rintro r w8 ⟨rfl, s8, o8⟩
  have E8 := Lib.hid (E7.out.step s8 o8)
  clear s8 o8 E7 d2
  obtain ⟨j0, hj0, hj1, hj2, hj3⟩ := info_parts expr_info9
  have hxq := E8.out.far
  go_upto_region 13 with fail
  go_cut [43] from 38 (fun s wx => ∃ (ta : Tree) (b2 c2 : Nat), s = .slice (some ⟨b2, 0, none⟩) 1 c2 ∧ Hid (xF d ta = ax) ∧ Hid (XMid 64 28 113 109 w wx g q #[.slice A l.length c, .pointer (some ⟨g, 0, none⟩)] 0 0 zero6 (some ⟨b2, 0, none⟩) c2 d [ta] aL ae))
  case first =>
    have ED := Lib.hid (E8.out.below ((Below.refl _ _).drew))
    have HAW := E8.out.par.c2
    have HAD := ED.out.par.c2
    have lpar := ED.out.par.lt
    have kq : w8.drew.cell? ⟨q, 8, none⟩ = some (.slice none 0 0) := ED.out.box.cell 8
    have lq := ED.out.box.lt
    refine wp_region_held_drew (S := fun W => W.cell? ⟨w.heap.size, 0, none⟩ = some (.slice A l.length c) ∧ W.cell? ⟨w.heap.size, 1, none⟩ = some (.pointer (some ⟨g, 0, none⟩))) (by kernel_rfl) ?_ (fun hHeld => ?_)
    · (try dsimp only)
      first | with_reducible exact HAD | with_reducible exact HAW | go_keep
    refine wpAnyH_take (i := 0) (v := ?v0_101) rfl (by kernel_rfl) (by kernel_rfl) (by kernel_rfl) (fun _ _ _ h => h) (Or.inl ⟨by rfl, ?h0_101⟩) (by assumption) ?r0_101
    case h0_101 => intro w hSw; (try dsimp only at hSw); go_simp; try with_reducible rfl
    try simp only [Act.put, List.setIfInBounds_toArray, List.set_cons_zero, List.set_cons_succ]
    refine wpAnyH_take (i := 2) (v := ?v2_102) rfl (by kernel_rfl) (by kernel_rfl) (by kernel_rfl) (fun _ _ _ h => h) (Or.inl ⟨by rfl, ?h2_102⟩) (by assumption) ?r2_102
    case h2_102 => intro w hSw; (try dsimp only at hSw); go_simp; try with_reducible rfl
    try simp only [Act.put, List.setIfInBounds_toArray, List.set_cons_zero, List.set_cons_succ]
    refine wpAnyH_ready (rs := [1, 3]) (by kernel_rfl) (by simp) ?_
    refine AllReadyH.cons (o := ?o1_103) ?ho1_103 (fun KK hKK => ?st1_103) ?mo1_103
    case ho1_103 => (simp only [List.getElem?_toArray, List.getElem?_cons_succ, List.getElem?_cons_zero]; rfl)
    case st1_103 =>
      go_simp
      refine hKK.out _ _ ?_ (fun hHeld2 => ?_)
      · (try dsimp only)
        first | with_reducible exact HA12 | with_reducible exact HA10 | with_reducible exact HA9 | with_reducible exact HAD | go_keep
      clear hKK KK hHeld
      have hHeld := hHeld2
      clear hHeld2
      try simp only [Act.put, List.setIfInBounds_toArray, List.set_cons_zero, List.set_cons_succ]
      refine wpAnyH_ready (rs := [3]) (by kernel_rfl) (by simp) ?_
      refine AllReadyH.cons (o := ?o3_104) ?ho3_104 (fun KK hKK => ?st3_104) ?mo3_104
      case ho3_104 => (simp only [List.getElem?_toArray, List.getElem?_cons_succ, List.getElem?_cons_zero]; rfl)
      case st3_104 =>
        (go_simp; go_at_call 77; refine (HA1.out _ ED.out.only ED.out.scan).mono ?_; rintro r w9 ⟨ta, rfl, hx9, hi9, s9, o9⟩; have HX := Lib.hid hx9; have E9 := Lib.hid (ED.out.step s9 o9); have HI := Lib.hid hi9; clear s9 o9 hx9 hi9; have HA9 := E9.out.par.c2; have lp9 := E9.out.par.lt; have kq9 : w9.cell? ⟨q, 8, none⟩ = some (.slice none 0 0) := E9.out.box.cell 8; have lq9 := E9.out.box.lt; obtain ⟨op9, p9, v9, B9, cb9, ks9⟩ := ta; dsimp only [Tree.val, Tree.op, Tree.want, Tree.value, Tree.a, Tree.c, Tree.args])
        refine hKK.out _ _ ?_ (fun hHeld2 => ?_)
        · (try dsimp only)
          first | with_reducible exact HA12 | with_reducible exact HA10 | with_reducible exact HA9 | with_reducible exact HAD | go_keep
        clear hKK KK hHeld
        have hHeld := hHeld2
        clear hHeld2
        try simp only [Act.put, List.setIfInBounds_toArray, List.set_cons_zero, List.set_cons_succ]
        refine wpAnyH_ready (rs := [4]) (by kernel_rfl) (by simp) ?_
        refine AllReadyH.cons (o := ?o4_105) ?ho4_105 (fun KK hKK => ?st4_105) ?mo4_105
        case ho4_105 => (simp only [List.getElem?_toArray, List.getElem?_cons_succ, List.getElem?_cons_zero]; rfl)
        case st4_105 =>
          go_simp
          refine hKK.out _ _ ?_ (fun hHeld2 => ?_)
          · (try dsimp only)
            first | with_reducible exact HA12 | with_reducible exact HA10 | with_reducible exact HA9 | with_reducible exact HAD | go_keep
          clear hKK KK hHeld
          have hHeld := hHeld2
          clear hHeld2
          try simp only [Act.put, List.setIfInBounds_toArray, List.set_cons_zero, List.set_cons_succ]
          refine wpAnyH_ready (rs := [5]) (by kernel_rfl) (by simp) ?_
          refine AllReadyH.cons (o := ?o5_106) ?ho5_106 (fun KK hKK => ?st5_106) ?mo5_106
          case ho5_106 => (simp only [List.getElem?_toArray, List.getElem?_cons_succ, List.getElem?_cons_zero]; rfl)
          case st5_106 =>
            (have E11 := Lib.hid (E9.out.below (below_new w9 (.cells (Tree.mk op9 p9 v9 B9 cb9 ks9).cells.toArray 28))); refine step_append_lies _ rfl (.tmp 39) (.tmp 42) _ rfl (q + 1) 28 j0 _ 9 88 Tryz.underlying26 hj0 hj1 hj2 hj3 rfl (by decide) (.slice none 0 0) 0 (([] : List Tree).flatMap Tree.cells) rfl E11.out.own ⟨w9.heap.size, 0, none⟩ 1 1 (Tree.mk op9 p9 v9 B9 cb9 ks9).cells rfl rfl (tree_new w9 28 (Tree.mk op9 p9 v9 B9 cb9 ks9)) (tree_cell1 (Tree.mk op9 p9 v9 B9 cb9 ks9)) (by decide) (by decide) (by decide) (by simp; omega) _ rfl ?_; intro b2 c2 w10 hown hgrow hat hlt; have KG := E11.out.box.grown hgrow (E11.out.row_ne (Nat.le_refl _)).symm; have E12 : Hid (XMid 64 28 113 109 w (w10.setCell ⟨q, 8, none⟩ (.slice (some ⟨b2, 0, none⟩) 1 c2)) g q #[.slice A l.length c, .pointer (some ⟨g, 0, none⟩)] 0 0 zero6 (some ⟨b2, 0, none⟩) c2 d [(Tree.mk op9 p9 v9 B9 cb9 ks9)] aL ae) := (E11.out.grow (by decide) (by decide) (Tree.mk op9 p9 v9 B9 cb9 ks9) (ED.out.fit (HI.out.below (below_new w9 (.cells (Tree.mk op9 p9 v9 B9 cb9 ks9).cells.toArray 28)))) hgrow hown hat); have HA10 := (E11.out.par.grown hgrow (E11.out.row_ne (by have := E11.out.far; omega)).symm).c2; have HA12 := E12.out.par.c2; have kq10 : w10.cell? ⟨q, 8, none⟩ = some (.slice none 0 0) := KG.cell 8; have lq10 := KG.lt; have kf10 := KG.free 8; clear hown hgrow hat)
            refine hKK.out _ _ ?_ (fun hHeld2 => ?_)
            · (try dsimp only)
              first | with_reducible exact HA12 | with_reducible exact HA10 | with_reducible exact HA9 | with_reducible exact HAD | go_keep
            clear hKK KK hHeld
            have hHeld := hHeld2
            clear hHeld2
            try simp only [Act.put, List.setIfInBounds_toArray, List.set_cons_zero, List.set_cons_succ]
            refine wpAnyH_take (i := 6) (v := ?v6_107) rfl (by kernel_rfl) (by kernel_rfl) (by kernel_rfl) (fun _ _ _ h => h) (Or.inl ⟨by rfl, ?h6_107⟩) (by assumption) ?r6_107
            case h6_107 => intro w hSw; (try dsimp only at hSw); go_simp; try with_reducible rfl
            try simp only [Act.put, List.setIfInBounds_toArray, List.set_cons_zero, List.set_cons_succ]
            refine wpAnyH_ready (rs := [7]) (by kernel_rfl) (by simp) ?_
            refine AllReadyH.cons (o := ?o7_108) ?ho7_108 (fun KK hKK => ?st7_108) ?mo7_108
            case ho7_108 => (simp only [List.getElem?_toArray, List.getElem?_cons_succ, List.getElem?_cons_zero]; rfl)
            case st7_108 =>
              go_simp
              refine hKK.out _ _ ?_ (fun hHeld2 => ?_)
              · (try dsimp only)
                first | with_reducible exact HA12 | with_reducible exact HA10 | with_reducible exact HA9 | with_reducible exact HAD | go_keep
              clear hKK KK hHeld
              have hHeld := hHeld2
              clear hHeld2
              try simp only [Act.put, List.setIfInBounds_toArray, List.set_cons_zero, List.set_cons_succ]
              refine wpAnyH_done (by kernel_rfl) ?_ _
              go_wp2_with fail
              go_meet
              exact ⟨.mk op9 p9 v9 B9 cb9 ks9, b2, c2, rfl, HX, E12⟩
            case mo7_108 =>
              exact AllReadyH.nil
          case mo5_106 =>
            exact AllReadyH.nil
        case mo4_105 =>
          exact AllReadyH.nil
      case mo3_104 =>
        exact AllReadyH.nil
    case mo1_103 =>
      refine AllReadyH.cons (o := ?o3_109) ?ho3_109 (fun KK hKK => ?st3_109) ?mo3_109
      case ho3_109 => (simp only [List.getElem?_toArray, List.getElem?_cons_succ, List.getElem?_cons_zero]; rfl)
      case st3_109 =>
        (go_simp; go_at_call 77; refine (HA1.out _ ED.out.only ED.out.scan).mono ?_; rintro r w9 ⟨ta, rfl, hx9, hi9, s9, o9⟩; have HX := Lib.hid hx9; have E9 := Lib.hid (ED.out.step s9 o9); have HI := Lib.hid hi9; clear s9 o9 hx9 hi9; have HA9 := E9.out.par.c2; have lp9 := E9.out.par.lt; have kq9 : w9.cell? ⟨q, 8, none⟩ = some (.slice none 0 0) := E9.out.box.cell 8; have lq9 := E9.out.box.lt; obtain ⟨op9, p9, v9, B9, cb9, ks9⟩ := ta; dsimp only [Tree.val, Tree.op, Tree.want, Tree.value, Tree.a, Tree.c, Tree.args])
        refine hKK.out _ _ ?_ (fun hHeld2 => ?_)
        · (try dsimp only)
          first | with_reducible exact HA12 | with_reducible exact HA10 | with_reducible exact HA9 | with_reducible exact HAD | go_keep
        clear hKK KK hHeld
        have hHeld := hHeld2
        clear hHeld2
        try simp only [Act.put, List.setIfInBounds_toArray, List.set_cons_zero, List.set_cons_succ]
        refine wpAnyH_ready (rs := [1, 4]) (by kernel_rfl) (by simp) ?_
        refine AllReadyH.cons (o := ?o1_110) ?ho1_110 (fun KK hKK => ?st1_110) ?mo1_110
        case ho1_110 => (simp only [List.getElem?_toArray, List.getElem?_cons_succ, List.getElem?_cons_zero]; rfl)
        case st1_110 =>
          go_simp
          refine hKK.out _ _ ?_ (fun hHeld2 => ?_)
          · (try dsimp only)
            first | with_reducible exact HA12 | with_reducible exact HA10 | with_reducible exact HA9 | with_reducible exact HAD | go_keep
          clear hKK KK hHeld
          have hHeld := hHeld2
          clear hHeld2
          try simp only [Act.put, List.setIfInBounds_toArray, List.set_cons_zero, List.set_cons_succ]
          refine wpAnyH_ready (rs := [4]) (by kernel_rfl) (by simp) ?_
          refine AllReadyH.cons (o := ?o4_111) ?ho4_111 (fun KK hKK => ?st4_111) ?mo4_111
          case ho4_111 => (simp only [List.getElem?_toArray, List.getElem?_cons_succ, List.getElem?_cons_zero]; rfl)
          case st4_111 =>
            go_simp
            refine hKK.out _ _ ?_ (fun hHeld2 => ?_)
            · (try dsimp only)
              first | with_reducible exact HA12 | with_reducible exact HA10 | with_reducible exact HA9 | with_reducible exact HAD | go_keep
            clear hKK KK hHeld
            have hHeld := hHeld2
            clear hHeld2
            try simp only [Act.put, List.setIfInBounds_toArray, List.set_cons_zero, List.set_cons_succ]
            refine wpAnyH_ready (rs := [5]) (by kernel_rfl) (by simp) ?_
            refine AllReadyH.cons (o := ?o5_112) ?ho5_112 (fun KK hKK => ?st5_112) ?mo5_112
            case ho5_112 => (simp only [List.getElem?_toArray, List.getElem?_cons_succ, List.getElem?_cons_zero]; rfl)
            case st5_112 =>
              (have E11 := Lib.hid (E9.out.below (below_new w9 (.cells (Tree.mk op9 p9 v9 B9 cb9 ks9).cells.toArray 28))); refine step_append_lies _ rfl (.tmp 39) (.tmp 42) _ rfl (q + 1) 28 j0 _ 9 88 Tryz.underlying26 hj0 hj1 hj2 hj3 rfl (by decide) (.slice none 0 0) 0 (([] : List Tree).flatMap Tree.cells) rfl E11.out.own ⟨w9.heap.size, 0, none⟩ 1 1 (Tree.mk op9 p9 v9 B9 cb9 ks9).cells rfl rfl (tree_new w9 28 (Tree.mk op9 p9 v9 B9 cb9 ks9)) (tree_cell1 (Tree.mk op9 p9 v9 B9 cb9 ks9)) (by decide) (by decide) (by decide) (by simp; omega) _ rfl ?_; intro b2 c2 w10 hown hgrow hat hlt; have KG := E11.out.box.grown hgrow (E11.out.row_ne (Nat.le_refl _)).symm; have E12 : Hid (XMid 64 28 113 109 w (w10.setCell ⟨q, 8, none⟩ (.slice (some ⟨b2, 0, none⟩) 1 c2)) g q #[.slice A l.length c, .pointer (some ⟨g, 0, none⟩)] 0 0 zero6 (some ⟨b2, 0, none⟩) c2 d [(Tree.mk op9 p9 v9 B9 cb9 ks9)] aL ae) := (E11.out.grow (by decide) (by decide) (Tree.mk op9 p9 v9 B9 cb9 ks9) (ED.out.fit (HI.out.below (below_new w9 (.cells (Tree.mk op9 p9 v9 B9 cb9 ks9).cells.toArray 28)))) hgrow hown hat); have HA10 := (E11.out.par.grown hgrow (E11.out.row_ne (by have := E11.out.far; omega)).symm).c2; have HA12 := E12.out.par.c2; have kq10 : w10.cell? ⟨q, 8, none⟩ = some (.slice none 0 0) := KG.cell 8; have lq10 := KG.lt; have kf10 := KG.free 8; clear hown hgrow hat)
              refine hKK.out _ _ ?_ (fun hHeld2 => ?_)
              · (try dsimp only)
                first | with_reducible exact HA12 | with_reducible exact HA10 | with_reducible exact HA9 | with_reducible exact HAD | go_keep
              clear hKK KK hHeld
              have hHeld := hHeld2
              clear hHeld2
              try simp only [Act.put, List.setIfInBounds_toArray, List.set_cons_zero, List.set_cons_succ]
              refine wpAnyH_take (i := 6) (v := ?v6_113) rfl (by kernel_rfl) (by kernel_rfl) (by kernel_rfl) (fun _ _ _ h => h) (Or.inl ⟨by rfl, ?h6_113⟩) (by assumption) ?r6_113
              case h6_113 => intro w hSw; (try dsimp only at hSw); go_simp; try with_reducible rfl
              try simp only [Act.put, List.setIfInBounds_toArray, List.set_cons_zero, List.set_cons_succ]
              refine wpAnyH_ready (rs := [7]) (by kernel_rfl) (by simp) ?_
              refine AllReadyH.cons (o := ?o7_114) ?ho7_114 (fun KK hKK => ?st7_114) ?mo7_114
              case ho7_114 => (simp only [List.getElem?_toArray, List.getElem?_cons_succ, List.getElem?_cons_zero]; rfl)
              case st7_114 =>
                go_simp
                refine hKK.out _ _ ?_ (fun hHeld2 => ?_)
                · (try dsimp only)
                  first | with_reducible exact HA12 | with_reducible exact HA10 | with_reducible exact HA9 | with_reducible exact HAD | go_keep
                clear hKK KK hHeld
                have hHeld := hHeld2
                clear hHeld2
                try simp only [Act.put, List.setIfInBounds_toArray, List.set_cons_zero, List.set_cons_succ]
                refine wpAnyH_done (by kernel_rfl) ?_ _
                go_wp2_with fail
                go_meet
                exact ⟨.mk op9 p9 v9 B9 cb9 ks9, b2, c2, rfl, HX, E12⟩
              case mo7_114 =>
                exact AllReadyH.nil
            case mo5_112 =>
              exact AllReadyH.nil
          case mo4_111 =>
            exact AllReadyH.nil
        case mo1_110 =>
          refine AllReadyH.cons (o := ?o4_115) ?ho4_115 (fun KK hKK => ?st4_115) ?mo4_115
          case ho4_115 => (simp only [List.getElem?_toArray, List.getElem?_cons_succ, List.getElem?_cons_zero]; rfl)
          case st4_115 =>
            go_simp
            refine hKK.out _ _ ?_ (fun hHeld2 => ?_)
            · (try dsimp only)
              first | with_reducible exact HA12 | with_reducible exact HA10 | with_reducible exact HA9 | with_reducible exact HAD | go_keep
            clear hKK KK hHeld
            have hHeld := hHeld2
            clear hHeld2
            try simp only [Act.put, List.setIfInBounds_toArray, List.set_cons_zero, List.set_cons_succ]
            refine wpAnyH_ready (rs := [1]) (by kernel_rfl) (by simp) ?_
            refine AllReadyH.cons (o := ?o1_116) ?ho1_116 (fun KK hKK => ?st1_116) ?mo1_116
            case ho1_116 => (simp only [List.getElem?_toArray, List.getElem?_cons_succ, List.getElem?_cons_zero]; rfl)
            case st1_116 =>
              go_simp
              refine hKK.out _ _ ?_ (fun hHeld2 => ?_)
              · (try dsimp only)
                first | with_reducible exact HA12 | with_reducible exact HA10 | with_reducible exact HA9 | with_reducible exact HAD | go_keep
              clear hKK KK hHeld
              have hHeld := hHeld2
              clear hHeld2
              try simp only [Act.put, List.setIfInBounds_toArray, List.set_cons_zero, List.set_cons_succ]
              refine wpAnyH_ready (rs := [5]) (by kernel_rfl) (by simp) ?_
              refine AllReadyH.cons (o := ?o5_117) ?ho5_117 (fun KK hKK => ?st5_117) ?mo5_117
              case ho5_117 => (simp only [List.getElem?_toArray, List.getElem?_cons_succ, List.getElem?_cons_zero]; rfl)
              case st5_117 =>
                (have E11 := Lib.hid (E9.out.below (below_new w9 (.cells (Tree.mk op9 p9 v9 B9 cb9 ks9).cells.toArray 28))); refine step_append_lies _ rfl (.tmp 39) (.tmp 42) _ rfl (q + 1) 28 j0 _ 9 88 Tryz.underlying26 hj0 hj1 hj2 hj3 rfl (by decide) (.slice none 0 0) 0 (([] : List Tree).flatMap Tree.cells) rfl E11.out.own ⟨w9.heap.size, 0, none⟩ 1 1 (Tree.mk op9 p9 v9 B9 cb9 ks9).cells rfl rfl (tree_new w9 28 (Tree.mk op9 p9 v9 B9 cb9 ks9)) (tree_cell1 (Tree.mk op9 p9 v9 B9 cb9 ks9)) (by decide) (by decide) (by decide) (by simp; omega) _ rfl ?_; intro b2 c2 w10 hown hgrow hat hlt; have KG := E11.out.box.grown hgrow (E11.out.row_ne (Nat.le_refl _)).symm; have E12 : Hid (XMid 64 28 113 109 w (w10.setCell ⟨q, 8, none⟩ (.slice (some ⟨b2, 0, none⟩) 1 c2)) g q #[.slice A l.length c, .pointer (some ⟨g, 0, none⟩)] 0 0 zero6 (some ⟨b2, 0, none⟩) c2 d [(Tree.mk op9 p9 v9 B9 cb9 ks9)] aL ae) := (E11.out.grow (by decide) (by decide) (Tree.mk op9 p9 v9 B9 cb9 ks9) (ED.out.fit (HI.out.below (below_new w9 (.cells (Tree.mk op9 p9 v9 B9 cb9 ks9).cells.toArray 28)))) hgrow hown hat); have HA10 := (E11.out.par.grown hgrow (E11.out.row_ne (by have := E11.out.far; omega)).symm).c2; have HA12 := E12.out.par.c2; have kq10 : w10.cell? ⟨q, 8, none⟩ = some (.slice none 0 0) := KG.cell 8; have lq10 := KG.lt; have kf10 := KG.free 8; clear hown hgrow hat)
                refine hKK.out _ _ ?_ (fun hHeld2 => ?_)
                · (try dsimp only)
                  first | with_reducible exact HA12 | with_reducible exact HA10 | with_reducible exact HA9 | with_reducible exact HAD | go_keep
                clear hKK KK hHeld
                have hHeld := hHeld2
                clear hHeld2
                try simp only [Act.put, List.setIfInBounds_toArray, List.set_cons_zero, List.set_cons_succ]
                refine wpAnyH_take (i := 6) (v := ?v6_118) rfl (by kernel_rfl) (by kernel_rfl) (by kernel_rfl) (fun _ _ _ h => h) (Or.inl ⟨by rfl, ?h6_118⟩) (by assumption) ?r6_118
                case h6_118 => intro w hSw; (try dsimp only at hSw); go_simp; try with_reducible rfl
                try simp only [Act.put, List.setIfInBounds_toArray, List.set_cons_zero, List.set_cons_succ]
                refine wpAnyH_ready (rs := [7]) (by kernel_rfl) (by simp) ?_
                refine AllReadyH.cons (o := ?o7_119) ?ho7_119 (fun KK hKK => ?st7_119) ?mo7_119
                case ho7_119 => (simp only [List.getElem?_toArray, List.getElem?_cons_succ, List.getElem?_cons_zero]; rfl)
                case st7_119 =>
                  go_simp
                  refine hKK.out _ _ ?_ (fun hHeld2 => ?_)
                  · (try dsimp only)
                    first | with_reducible exact HA12 | with_reducible exact HA10 | with_reducible exact HA9 | with_reducible exact HAD | go_keep
                  clear hKK KK hHeld
                  have hHeld := hHeld2
                  clear hHeld2
                  try simp only [Act.put, List.setIfInBounds_toArray, List.set_cons_zero, List.set_cons_succ]
                  refine wpAnyH_done (by kernel_rfl) ?_ _
                  go_wp2_with fail
                  go_meet
                  exact ⟨.mk op9 p9 v9 B9 cb9 ks9, b2, c2, rfl, HX, E12⟩
                case mo7_119 =>
                  exact AllReadyH.nil
              case mo5_117 =>
                exact AllReadyH.nil
            case mo1_116 =>
              exact AllReadyH.nil
          case mo4_115 =>
            exact AllReadyH.nil
      case mo3_109 =>
        exact AllReadyH.nil
  case rest =>
    obtain ⟨ta, b2, c2, rfl, HXa, E20⟩ := hcut
    clear HA1 CN CX CP CO CF E8 hxq
    have hbx : bodyX l f 0 ⟨ax, aL, ae⟩ = closeX ⟨.mk 0 (n6 zero6) 0 [ax], aL, ae⟩ := by
      unfold bodyX
      rw [if_neg (by decide), if_neg (by decide), if_neg (by decide)]
    have HB2 := Lib.hid (HB.out.symm.trans hbx)
    clear hbx HB
    
    have d2 := E20.out.par.c2
    have lpr := E20.out.par.lt
    go_wp2_with fail
    refine (CE.out _ _ _ ⟨#[41]⟩ E20.out.scan (by omega)).mono ?_
    rintro r w30 ⟨rfl, s30, o30⟩
    have E30 := Lib.hid (E20.out.step s30 o30)
    clear s30 o30 d2 lpr
    have C0 : w30.cell? ⟨q, 0, none⟩ = some (.int .i64 0) := E30.out.box.cell 0
    have C1 : w30.cell? ⟨q, 1, none⟩ = some (.int .i64 0) := E30.out.box.cell 1
    have C2 : w30.cell? ⟨q, 2, none⟩ = some (.int .i64 0) := E30.out.box.cell 2
    have C3 : w30.cell? ⟨q, 3, none⟩ = some (.int .i64 0) := E30.out.box.cell 3
    have C4 : w30.cell? ⟨q, 4, none⟩ = some (.int .i64 0) := E30.out.box.cell 4
    have C5 : w30.cell? ⟨q, 5, none⟩ = some (.int .i64 0) := E30.out.box.cell 5
    have C6 : w30.cell? ⟨q, 6, none⟩ = some (.int .i64 0) := E30.out.box.cell 6
    have C7 : w30.cell? ⟨q, 7, none⟩ = some (.int .i64 0) := E30.out.box.cell 7
    have C8 : w30.cell? ⟨q, 8, none⟩ = some (.slice (some ⟨b2, 0, none⟩) 1 c2) := E30.out.box.cell 8
    have Cl := E30.out.box.lt
    have D0 : w30.cell? ⟨w.heap.size + 1, 0, none⟩ = some (.int .i64 0) := E30.out.res.cell 0
    have Df0 := E30.out.res.free 0
    have D1 : w30.cell? ⟨w.heap.size + 1, 1, none⟩ = some (.int .i64 0) := E30.out.res.cell 1
    have Df1 := E30.out.res.free 1
    have D2 : w30.cell? ⟨w.heap.size + 1, 2, none⟩ = some (.int .i64 0) := E30.out.res.cell 2
    have Df2 := E30.out.res.free 2
    have D3 : w30.cell? ⟨w.heap.size + 1, 3, none⟩ = some (.int .i64 0) := E30.out.res.cell 3
    have Df3 := E30.out.res.free 3
    have D4 : w30.cell? ⟨w.heap.size + 1, 4, none⟩ = some (.int .i64 0) := E30.out.res.cell 4
    have Df4 := E30.out.res.free 4
    have D5 : w30.cell? ⟨w.heap.size + 1, 5, none⟩ = some (.int .i64 0) := E30.out.res.cell 5
    have Df5 := E30.out.res.free 5
    have D6 : w30.cell? ⟨w.heap.size + 1, 6, none⟩ = some (.int .i64 0) := E30.out.res.cell 6
    have Df6 := E30.out.res.free 6
    have D7 : w30.cell? ⟨w.heap.size + 1, 7, none⟩ = some (.int .i64 0) := E30.out.res.cell 7
    have Df7 := E30.out.res.free 7
    have D8 : w30.cell? ⟨w.heap.size + 1, 8, none⟩ = some (.slice none 0 0) := E30.out.res.cell 8
    have Df8 := E30.out.res.free 8
    have Dl := E30.out.res.lt
    have hxq30 := E30.out.far
    have hne1 : (q == w.heap.size + 1) = false := by simp; omega
    have hne2 : (w.heap.size + 1 == q) = false := by simp; omega
    have hne3 : ¬ q = w.heap.size + 1 := by omega
    have hne4 : ¬ w.heap.size + 1 = q := by omega
    try dsimp only
    iterate 13 (first | go_values | go_skip | go_guarded | go_step | go_upon)
    have Z9 : InP (fun b => w.heap.size ≤ b) (d + 1) (((((((((w30.setCell ⟨w.heap.size + 1, 0, none⟩ (.int .i64 0)).setCell ⟨w.heap.size + 1, 1, none⟩ (.int .i64 0)).setCell ⟨w.heap.size + 1, 2, none⟩ (.int .i64 0)).setCell ⟨w.heap.size + 1, 3, none⟩ (.int .i64 0)).setCell ⟨w.heap.size + 1, 4, none⟩ (.int .i64 0)).setCell ⟨w.heap.size + 1, 5, none⟩ (.int .i64 0)).setCell ⟨w.heap.size + 1, 6, none⟩ (.int .i64 0)).setCell ⟨w.heap.size + 1, 7, none⟩ (.int .i64 0)).setCell ⟨w.heap.size + 1, 8, none⟩ (.slice (some ⟨b2, 0, none⟩) 1 c2)) (.mk 0 zero6 0 (some ⟨b2, 0, none⟩) c2 [ta]) ∧ Scan 113 109 (((((((((w30.setCell ⟨w.heap.size + 1, 0, none⟩ (.int .i64 0)).setCell ⟨w.heap.size + 1, 1, none⟩ (.int .i64 0)).setCell ⟨w.heap.size + 1, 2, none⟩ (.int .i64 0)).setCell ⟨w.heap.size + 1, 3, none⟩ (.int .i64 0)).setCell ⟨w.heap.size + 1, 4, none⟩ (.int .i64 0)).setCell ⟨w.heap.size + 1, 5, none⟩ (.int .i64 0)).setCell ⟨w.heap.size + 1, 6, none⟩ (.int .i64 0)).setCell ⟨w.heap.size + 1, 7, none⟩ (.int .i64 0)).setCell ⟨w.heap.size + 1, 8, none⟩ (.slice (some ⟨b2, 0, none⟩) 1 c2)) g (expL aL ae ⟨#[41]⟩) (expE aL ae ⟨#[41]⟩) ∧ Only g w (((((((((w30.setCell ⟨w.heap.size + 1, 0, none⟩ (.int .i64 0)).setCell ⟨w.heap.size + 1, 1, none⟩ (.int .i64 0)).setCell ⟨w.heap.size + 1, 2, none⟩ (.int .i64 0)).setCell ⟨w.heap.size + 1, 3, none⟩ (.int .i64 0)).setCell ⟨w.heap.size + 1, 4, none⟩ (.int .i64 0)).setCell ⟨w.heap.size + 1, 5, none⟩ (.int .i64 0)).setCell ⟨w.heap.size + 1, 6, none⟩ (.int .i64 0)).setCell ⟨w.heap.size + 1, 7, none⟩ (.int .i64 0)).setCell ⟨w.heap.size + 1, 8, none⟩ (.slice (some ⟨b2, 0, none⟩) 1 c2)) := E30.out.done (by decide) (by decide)
    have R9 : Blk (((((((((w30.setCell ⟨w.heap.size + 1, 0, none⟩ (.int .i64 0)).setCell ⟨w.heap.size + 1, 1, none⟩ (.int .i64 0)).setCell ⟨w.heap.size + 1, 2, none⟩ (.int .i64 0)).setCell ⟨w.heap.size + 1, 3, none⟩ (.int .i64 0)).setCell ⟨w.heap.size + 1, 4, none⟩ (.int .i64 0)).setCell ⟨w.heap.size + 1, 5, none⟩ (.int .i64 0)).setCell ⟨w.heap.size + 1, 6, none⟩ (.int .i64 0)).setCell ⟨w.heap.size + 1, 7, none⟩ (.int .i64 0)).setCell ⟨w.heap.size + 1, 8, none⟩ (.slice (some ⟨b2, 0, none⟩) 1 c2)) (w.heap.size + 1) 28 (cells9 0 0 zero6 (some ⟨b2, 0, none⟩) 1 c2) := blk_put9 (op := 0) (v := 0) (p := zero6) (A := (some ⟨b2, 0, none⟩)) (n := 1) (c := c2) E30.out.res
    generalize ((((((((w30.setCell ⟨w.heap.size + 1, 0, none⟩ (.int .i64 0)).setCell ⟨w.heap.size + 1, 1, none⟩ (.int .i64 0)).setCell ⟨w.heap.size + 1, 2, none⟩ (.int .i64 0)).setCell ⟨w.heap.size + 1, 3, none⟩ (.int .i64 0)).setCell ⟨w.heap.size + 1, 4, none⟩ (.int .i64 0)).setCell ⟨w.heap.size + 1, 5, none⟩ (.int .i64 0)).setCell ⟨w.heap.size + 1, 6, none⟩ (.int .i64 0)).setCell ⟨w.heap.size + 1, 7, none⟩ (.int .i64 0)).setCell ⟨w.heap.size + 1, 8, none⟩ (.slice (some ⟨b2, 0, none⟩) 1 c2) = w31 at *
    have Z9 := Lib.hid Z9
    have R9 := Lib.hid R9
    clear C0 D0 Df0 C1 D1 Df1 C2 D2 Df2 C3 D3 Df3 C4 D4 Df4 C5 D5 Df5 C6 D6 Df6 C7 D7 Df7 C8 D8 Df8 Cl Dl E30
    repeat (first | go_values | go_skip | go_guarded | go_step | go_upon)
    exact bodyPost_ret (v := .agg (cells9 0 0 zero6 (some ⟨b2, 0, none⟩) 1 c2)) (results_blk rfl rfl R9.out Tryz.underlying28 rfl (by kernel_rfl)) rfl (by
      rw [HB2.out]
      exact ⟨.mk 0 zero6 0 (some ⟨b2, 0, none⟩) c2 [ta], rfl, by rw [← HXa.out]; rfl, Z9.out.1, Z9.out.2.1, Z9.out.2.2⟩)
set_option maxHeartbeats 8000000 in
set_option maxRecDepth 100000 in
theorem expr_2 (l : List Prod) (d : Nat) (f : List Tok → Int → PX) (hf : ∀ L e, (f L e).L.length ≤ L.length) (A : Option Addr) (c : Nat) (L : List Tok) (g : Nat) (w : World) (hl : l.length ≤ 5000) (hp : PS w (.slice A l.length c) l) (hA : ∀ b o, A = some ⟨b, o, none⟩ → b ≠ g) (hn : ∀ p ∈ l, p.name.size ≤ maxLen) (hs : Scan 113 109 w g L 0) (hm : L.length ≤ 5000) (h0 : 0 < L.length)
    (HARG : ∀ L' e' W, (e' = 0 → L'.length < L.length) → Only g w W → Scan 113 109 W g L' e' → Calls Tryz.prog 77 #[.agg #[.slice A l.length c, .pointer (some ⟨g, 0, none⟩)]] W (ExprPost d (argX f L' e') g W)) (hk : (peekT L 0).kind = 1) (hop : opW (peekT L 0).text = 2) :
    Calls Tryz.prog 36 #[.agg #[.slice A l.length c, .pointer (some ⟨g, 0, none⟩)]] w (ExprPost (d + 1) (bodyX l f 2 (firstX f L 0)) g w) := by
  have hg := hs.lt
  have CP := Lib.hid fun W (h : Scan 113 109 W g L 0) => peek_any L 0 g W h (small_len hm)
  have CO := Lib.hid fun W => op_any (peekT L 0).text W
  have CF := Lib.hid fun W (h : Scan 113 109 W g L 0) => fail_any L 0 2 g W h
  have CN := Lib.hid fun W (h : Scan 113 109 W g L 0) => next_any L 0 g W h (small_len hm)
  have hN1 := nextL_len L 0
  have hL1 := expL_len (nextL L 0) 0 ⟨#[40]⟩
  have CX := Lib.hid fun W (h : Scan 113 109 W g (nextL L 0) 0) => expect_any (nextL L 0) 0 g ⟨#[40]⟩ W h (small_len (by omega))
  have CR := Lib.hid fun W (k : Only g w W) L' e' (h : Scan 113 109 W g L' e') (hm' : L'.length ≤ 5000) => priced_any l A c L' e' g W hl (ps_only hp hA k) hA hn h hm'
  have CE := Lib.hid fun W L' e' m (h : Scan 113 109 W g L' e') (hm' : L'.length ≤ 5000) => expect_any L' e' g m W h (small_len hm')
  have CM := Lib.hid fun W L' e' (h : Scan 113 109 W g L' e') (hm' : L'.length ≤ 5000) => amount_any L' e' 1000000 g W h (small_len hm')
  have HLESS : expE (nextL L 0) 0 ⟨#[40]⟩ = 0 → (expL (nextL L 0) 0 ⟨#[40]⟩).length < L.length := first_less h0
  have HA1 := Lib.hid fun W k h => HARG (expL (nextL L 0) 0 ⟨#[40]⟩) (expE (nextL L 0) 0 ⟨#[40]⟩) W HLESS k h
  have HARG := Lib.hid HARG
  have hal := argX_len hf (expL (nextL L 0) 0 ⟨#[40]⟩) (expE (nextL L 0) 0 ⟨#[40]⟩)
  unfold firstX
  rw [hop] at CO
  generalize expE (nextL L 0) 0 ⟨#[40]⟩ = ex at *
  generalize expL (nextL L 0) 0 ⟨#[40]⟩ = Lx at *
  generalize nextL L 0 = Ln at *
  generalize hargX : argX f Lx ex = a at *
  clear hargX
  obtain ⟨ax, aL, ae⟩ := a
  dsimp only at hal
  have haL : aL.length ≤ 5000 := by omega
  generalize peekT L 0 = t at *
  obtain ⟨tk, tt, tv, tp⟩ := t
  dsimp only at CP CO hk hop
  subst hk
  clear hop
  generalize hB : bodyX l f 2 ⟨ax, aL, ae⟩ = qr
  have HB := Lib.hid hB
  clear hB
  have S2 := Lib.hid ((hs.below (below_new w (.cells #[.slice A l.length c, .pointer (some ⟨g, 0, none⟩)] 64))).below (below_new _ (.cells (cells9 0 0 zero6 none 0 0) 28)))
  have K1 := Lib.hid ((Blk.new w 64 #[.slice A l.length c, .pointer (some ⟨g, 0, none⟩)]).alloc (.cells (cells9 0 0 zero6 none 0 0) 28))
  have K2 := Lib.hid (Blk.new (w.alloc (.cells #[.slice A l.length c, .pointer (some ⟨g, 0, none⟩)] 64)) 28 (cells9 0 0 zero6 none 0 0))
  have O2 := Lib.hid (((Only.refl g w).alloc (.cells #[.slice A l.length c, .pointer (some ⟨g, 0, none⟩)] 64)).alloc (.cells (cells9 0 0 zero6 none 0 0) 28))
  have hz : Hid ((w.alloc (.cells #[.slice A l.length c, .pointer (some ⟨g, 0, none⟩)] 64)).heap.size = w.heap.size + 1) := by show _ = _; go_size
  rw [hz.out] at K2
  clear hs hp hA hn HLESS
  have d2 := K1.out.c2
  go_enter Tryz.func36, Tryz.ntmps36
  go_wp2_with fail
  refine (CP.out _ S2.out).mono ?_
  rintro r w2 ⟨rfl, b2⟩
  have TS := Lib.hid ((S2.out.below b2).below (below_new w2 (.cells #[.int .i64 1, .string tt, .int .i64 tv, .int .i64 tp] 109)))
  have TK1 := Lib.hid ((K1.out.below' b2).alloc (.cells #[.int .i64 1, .string tt, .int .i64 tv, .int .i64 tp] 109))
  have TK2 := Lib.hid ((K2.out.below' b2).alloc (.cells #[.int .i64 1, .string tt, .int .i64 tv, .int .i64 tp] 109))
  have TO := Lib.hid ((O2.out.then_below b2).alloc (.cells #[.int .i64 1, .string tt, .int .i64 tv, .int .i64 tp] 109))
  have KT := Lib.hid (Blk.new w2 109 #[.int .i64 1, .string tt, .int .i64 tv, .int .i64 tp])
  clear b2 d2 S2 K1 K2 O2 hz
  have d4 := KT.out.c4
  have d2 := TK1.out.c2
  go_wp2_with fail
  generalize w2.alloc (.cells #[.int .i64 1, .string tt, .int .i64 tv, .int .i64 tp] 109) = w3 at *
  refine (CO.out _).mono ?_
  rintro r w4 ⟨rfl, b4⟩
  have S4 := Lib.hid (TS.out.below b4)
  have K14 := Lib.hid (TK1.out.below' b4)
  have K24 := Lib.hid (TK2.out.below' b4)
  have O4 := Lib.hid (TO.out.then_below b4)
  clear b4 d2 d4 TS TK1 TK2 TO KT
  have d2 := K14.out.c2
  have lp := K14.out.lt
  go_wp2_with fail
  
  have E6 : Hid (XMid 64 28 113 109 w (w4.alloc (.cells #[.int .i64 2, .int .i64 0, .int .i64 0, .int .i64 0, .int .i64 0, .int .i64 0, .int .i64 0, .int .i64 0, .slice none 0 0] 28)) g w4.heap.size #[.slice A l.length c, .pointer (some ⟨g, 0, none⟩)] 2 0 zero6 none 0 d [] L 0) := mid_new S4.out K14.out K24.out O4.out hg 2 d
  generalize w4.alloc (.cells #[.int .i64 2, .int .i64 0, .int .i64 0, .int .i64 0, .int .i64 0, .int .i64 0, .int .i64 0, .int .i64 0, .slice none 0 0] 28) = w6 at *
  generalize w4.heap.size = q at *
  clear S4 K14 K24 O4 d2 lp
  
  refine (CN.out _ E6.out.scan).mono ?_
  rintro r w7 ⟨rfl, s7, o7⟩
  have E7 := Lib.hid (E6.out.step s7 o7)
  clear s7 o7 E6
  have d2 := E7.out.par.c2
  go_wp2_with fail
  refine (CX.out _ E7.out.scan).mono ?_
  rintro r w8 ⟨rfl, s8, o8⟩
  have E8 := Lib.hid (E7.out.step s8 o8)
  clear s8 o8 E7 d2
  obtain ⟨j0, hj0, hj1, hj2, hj3⟩ := info_parts expr_info9
  have hxq := E8.out.far
  go_upto_region 13 with fail
  go_cut [43] from 38 (fun s wx => ∃ (ta : Tree) (b2 c2 : Nat), s = .slice (some ⟨b2, 0, none⟩) 1 c2 ∧ Hid (xF d ta = ax) ∧ Hid (XMid 64 28 113 109 w wx g q #[.slice A l.length c, .pointer (some ⟨g, 0, none⟩)] 2 0 zero6 (some ⟨b2, 0, none⟩) c2 d [ta] aL ae))
  case first =>
    have ED := Lib.hid (E8.out.below ((Below.refl _ _).drew))
    have HAW := E8.out.par.c2
    have HAD := ED.out.par.c2
    have lpar := ED.out.par.lt
    have kq : w8.drew.cell? ⟨q, 8, none⟩ = some (.slice none 0 0) := ED.out.box.cell 8
    have lq := ED.out.box.lt
    refine wp_region_held_drew (S := fun W => W.cell? ⟨w.heap.size, 0, none⟩ = some (.slice A l.length c) ∧ W.cell? ⟨w.heap.size, 1, none⟩ = some (.pointer (some ⟨g, 0, none⟩))) (by kernel_rfl) ?_ (fun hHeld => ?_)
    · (try dsimp only)
      first | with_reducible exact HAD | with_reducible exact HAW | go_keep
    refine wpAnyH_take (i := 0) (v := ?v0_2101) rfl (by kernel_rfl) (by kernel_rfl) (by kernel_rfl) (fun _ _ _ h => h) (Or.inl ⟨by rfl, ?h0_2101⟩) (by assumption) ?r0_2101
    case h0_2101 => intro w hSw; (try dsimp only at hSw); go_simp; try with_reducible rfl
    try simp only [Act.put, List.setIfInBounds_toArray, List.set_cons_zero, List.set_cons_succ]
    refine wpAnyH_take (i := 2) (v := ?v2_2102) rfl (by kernel_rfl) (by kernel_rfl) (by kernel_rfl) (fun _ _ _ h => h) (Or.inl ⟨by rfl, ?h2_2102⟩) (by assumption) ?r2_2102
    case h2_2102 => intro w hSw; (try dsimp only at hSw); go_simp; try with_reducible rfl
    try simp only [Act.put, List.setIfInBounds_toArray, List.set_cons_zero, List.set_cons_succ]
    refine wpAnyH_ready (rs := [1, 3]) (by kernel_rfl) (by simp) ?_
    refine AllReadyH.cons (o := ?o1_2103) ?ho1_2103 (fun KK hKK => ?st1_2103) ?mo1_2103
    case ho1_2103 => (simp only [List.getElem?_toArray, List.getElem?_cons_succ, List.getElem?_cons_zero]; rfl)
    case st1_2103 =>
      go_simp
      refine hKK.out _ _ ?_ (fun hHeld2 => ?_)
      · (try dsimp only)
        first | with_reducible exact HA12 | with_reducible exact HA10 | with_reducible exact HA9 | with_reducible exact HAD | go_keep
      clear hKK KK hHeld
      have hHeld := hHeld2
      clear hHeld2
      try simp only [Act.put, List.setIfInBounds_toArray, List.set_cons_zero, List.set_cons_succ]
      refine wpAnyH_ready (rs := [3]) (by kernel_rfl) (by simp) ?_
      refine AllReadyH.cons (o := ?o3_2104) ?ho3_2104 (fun KK hKK => ?st3_2104) ?mo3_2104
      case ho3_2104 => (simp only [List.getElem?_toArray, List.getElem?_cons_succ, List.getElem?_cons_zero]; rfl)
      case st3_2104 =>
        (go_simp; go_at_call 77; refine (HA1.out _ ED.out.only ED.out.scan).mono ?_; rintro r w9 ⟨ta, rfl, hx9, hi9, s9, o9⟩; have HX := Lib.hid hx9; have E9 := Lib.hid (ED.out.step s9 o9); have HI := Lib.hid hi9; clear s9 o9 hx9 hi9; have HA9 := E9.out.par.c2; have lp9 := E9.out.par.lt; have kq9 : w9.cell? ⟨q, 8, none⟩ = some (.slice none 0 0) := E9.out.box.cell 8; have lq9 := E9.out.box.lt; obtain ⟨op9, p9, v9, B9, cb9, ks9⟩ := ta; dsimp only [Tree.val, Tree.op, Tree.want, Tree.value, Tree.a, Tree.c, Tree.args])
        refine hKK.out _ _ ?_ (fun hHeld2 => ?_)
        · (try dsimp only)
          first | with_reducible exact HA12 | with_reducible exact HA10 | with_reducible exact HA9 | with_reducible exact HAD | go_keep
        clear hKK KK hHeld
        have hHeld := hHeld2
        clear hHeld2
        try simp only [Act.put, List.setIfInBounds_toArray, List.set_cons_zero, List.set_cons_succ]
        refine wpAnyH_ready (rs := [4]) (by kernel_rfl) (by simp) ?_
        refine AllReadyH.cons (o := ?o4_2105) ?ho4_2105 (fun KK hKK => ?st4_2105) ?mo4_2105
        case ho4_2105 => (simp only [List.getElem?_toArray, List.getElem?_cons_succ, List.getElem?_cons_zero]; rfl)
        case st4_2105 =>
          go_simp
          refine hKK.out _ _ ?_ (fun hHeld2 => ?_)
          · (try dsimp only)
            first | with_reducible exact HA12 | with_reducible exact HA10 | with_reducible exact HA9 | with_reducible exact HAD | go_keep
          clear hKK KK hHeld
          have hHeld := hHeld2
          clear hHeld2
          try simp only [Act.put, List.setIfInBounds_toArray, List.set_cons_zero, List.set_cons_succ]
          refine wpAnyH_ready (rs := [5]) (by kernel_rfl) (by simp) ?_
          refine AllReadyH.cons (o := ?o5_2106) ?ho5_2106 (fun KK hKK => ?st5_2106) ?mo5_2106
          case ho5_2106 => (simp only [List.getElem?_toArray, List.getElem?_cons_succ, List.getElem?_cons_zero]; rfl)
          case st5_2106 =>
            (have E11 := Lib.hid (E9.out.below (below_new w9 (.cells (Tree.mk op9 p9 v9 B9 cb9 ks9).cells.toArray 28))); refine step_append_lies _ rfl (.tmp 39) (.tmp 42) _ rfl (q + 1) 28 j0 _ 9 88 Tryz.underlying26 hj0 hj1 hj2 hj3 rfl (by decide) (.slice none 0 0) 0 (([] : List Tree).flatMap Tree.cells) rfl E11.out.own ⟨w9.heap.size, 0, none⟩ 1 1 (Tree.mk op9 p9 v9 B9 cb9 ks9).cells rfl rfl (tree_new w9 28 (Tree.mk op9 p9 v9 B9 cb9 ks9)) (tree_cell1 (Tree.mk op9 p9 v9 B9 cb9 ks9)) (by decide) (by decide) (by decide) (by simp; omega) _ rfl ?_; intro b2 c2 w10 hown hgrow hat hlt; have KG := E11.out.box.grown hgrow (E11.out.row_ne (Nat.le_refl _)).symm; have E12 : Hid (XMid 64 28 113 109 w (w10.setCell ⟨q, 8, none⟩ (.slice (some ⟨b2, 0, none⟩) 1 c2)) g q #[.slice A l.length c, .pointer (some ⟨g, 0, none⟩)] 2 0 zero6 (some ⟨b2, 0, none⟩) c2 d [(Tree.mk op9 p9 v9 B9 cb9 ks9)] aL ae) := (E11.out.grow (by decide) (by decide) (Tree.mk op9 p9 v9 B9 cb9 ks9) (ED.out.fit (HI.out.below (below_new w9 (.cells (Tree.mk op9 p9 v9 B9 cb9 ks9).cells.toArray 28)))) hgrow hown hat); have HA10 := (E11.out.par.grown hgrow (E11.out.row_ne (by have := E11.out.far; omega)).symm).c2; have HA12 := E12.out.par.c2; have kq10 : w10.cell? ⟨q, 8, none⟩ = some (.slice none 0 0) := KG.cell 8; have lq10 := KG.lt; have kf10 := KG.free 8; clear hown hgrow hat)
            refine hKK.out _ _ ?_ (fun hHeld2 => ?_)
            · (try dsimp only)
              first | with_reducible exact HA12 | with_reducible exact HA10 | with_reducible exact HA9 | with_reducible exact HAD | go_keep
            clear hKK KK hHeld
            have hHeld := hHeld2
            clear hHeld2
            try simp only [Act.put, List.setIfInBounds_toArray, List.set_cons_zero, List.set_cons_succ]
            refine wpAnyH_take (i := 6) (v := ?v6_2107) rfl (by kernel_rfl) (by kernel_rfl) (by kernel_rfl) (fun _ _ _ h => h) (Or.inl ⟨by rfl, ?h6_2107⟩) (by assumption) ?r6_2107
            case h6_2107 => intro w hSw; (try dsimp only at hSw); go_simp; try with_reducible rfl
            try simp only [Act.put, List.setIfInBounds_toArray, List.set_cons_zero, List.set_cons_succ]
            refine wpAnyH_ready (rs := [7]) (by kernel_rfl) (by simp) ?_
            refine AllReadyH.cons (o := ?o7_2108) ?ho7_2108 (fun KK hKK => ?st7_2108) ?mo7_2108
            case ho7_2108 => (simp only [List.getElem?_toArray, List.getElem?_cons_succ, List.getElem?_cons_zero]; rfl)
            case st7_2108 =>
              go_simp
              refine hKK.out _ _ ?_ (fun hHeld2 => ?_)
              · (try dsimp only)
                first | with_reducible exact HA12 | with_reducible exact HA10 | with_reducible exact HA9 | with_reducible exact HAD | go_keep
              clear hKK KK hHeld
              have hHeld := hHeld2
              clear hHeld2
              try simp only [Act.put, List.setIfInBounds_toArray, List.set_cons_zero, List.set_cons_succ]
              refine wpAnyH_done (by kernel_rfl) ?_ _
              go_wp2_with fail
              go_meet
              exact ⟨.mk op9 p9 v9 B9 cb9 ks9, b2, c2, rfl, HX, E12⟩
            case mo7_2108 =>
              exact AllReadyH.nil
          case mo5_2106 =>
            exact AllReadyH.nil
        case mo4_2105 =>
          exact AllReadyH.nil
      case mo3_2104 =>
        exact AllReadyH.nil
    case mo1_2103 =>
      refine AllReadyH.cons (o := ?o3_2109) ?ho3_2109 (fun KK hKK => ?st3_2109) ?mo3_2109
      case ho3_2109 => (simp only [List.getElem?_toArray, List.getElem?_cons_succ, List.getElem?_cons_zero]; rfl)
      case st3_2109 =>
        (go_simp; go_at_call 77; refine (HA1.out _ ED.out.only ED.out.scan).mono ?_; rintro r w9 ⟨ta, rfl, hx9, hi9, s9, o9⟩; have HX := Lib.hid hx9; have E9 := Lib.hid (ED.out.step s9 o9); have HI := Lib.hid hi9; clear s9 o9 hx9 hi9; have HA9 := E9.out.par.c2; have lp9 := E9.out.par.lt; have kq9 : w9.cell? ⟨q, 8, none⟩ = some (.slice none 0 0) := E9.out.box.cell 8; have lq9 := E9.out.box.lt; obtain ⟨op9, p9, v9, B9, cb9, ks9⟩ := ta; dsimp only [Tree.val, Tree.op, Tree.want, Tree.value, Tree.a, Tree.c, Tree.args])
        refine hKK.out _ _ ?_ (fun hHeld2 => ?_)
        · (try dsimp only)
          first | with_reducible exact HA12 | with_reducible exact HA10 | with_reducible exact HA9 | with_reducible exact HAD | go_keep
        clear hKK KK hHeld
        have hHeld := hHeld2
        clear hHeld2
        try simp only [Act.put, List.setIfInBounds_toArray, List.set_cons_zero, List.set_cons_succ]
        refine wpAnyH_ready (rs := [1, 4]) (by kernel_rfl) (by simp) ?_
        refine AllReadyH.cons (o := ?o1_2110) ?ho1_2110 (fun KK hKK => ?st1_2110) ?mo1_2110
        case ho1_2110 => (simp only [List.getElem?_toArray, List.getElem?_cons_succ, List.getElem?_cons_zero]; rfl)
        case st1_2110 =>
          go_simp
          refine hKK.out _ _ ?_ (fun hHeld2 => ?_)
          · (try dsimp only)
            first | with_reducible exact HA12 | with_reducible exact HA10 | with_reducible exact HA9 | with_reducible exact HAD | go_keep
          clear hKK KK hHeld
          have hHeld := hHeld2
          clear hHeld2
          try simp only [Act.put, List.setIfInBounds_toArray, List.set_cons_zero, List.set_cons_succ]
          refine wpAnyH_ready (rs := [4]) (by kernel_rfl) (by simp) ?_
          refine AllReadyH.cons (o := ?o4_2111) ?ho4_2111 (fun KK hKK => ?st4_2111) ?mo4_2111
          case ho4_2111 => (simp only [List.getElem?_toArray, List.getElem?_cons_succ, List.getElem?_cons_zero]; rfl)
          case st4_2111 =>
            go_simp
            refine hKK.out _ _ ?_ (fun hHeld2 => ?_)
            · (try dsimp only)
              first | with_reducible exact HA12 | with_reducible exact HA10 | with_reducible exact HA9 | with_reducible exact HAD | go_keep
            clear hKK KK hHeld
            have hHeld := hHeld2
            clear hHeld2
            try simp only [Act.put, List.setIfInBounds_toArray, List.set_cons_zero, List.set_cons_succ]
            refine wpAnyH_ready (rs := [5]) (by kernel_rfl) (by simp) ?_
            refine AllReadyH.cons (o := ?o5_2112) ?ho5_2112 (fun KK hKK => ?st5_2112) ?mo5_2112
            case ho5_2112 => (simp only [List.getElem?_toArray, List.getElem?_cons_succ, List.getElem?_cons_zero]; rfl)
            case st5_2112 =>
              (have E11 := Lib.hid (E9.out.below (below_new w9 (.cells (Tree.mk op9 p9 v9 B9 cb9 ks9).cells.toArray 28))); refine step_append_lies _ rfl (.tmp 39) (.tmp 42) _ rfl (q + 1) 28 j0 _ 9 88 Tryz.underlying26 hj0 hj1 hj2 hj3 rfl (by decide) (.slice none 0 0) 0 (([] : List Tree).flatMap Tree.cells) rfl E11.out.own ⟨w9.heap.size, 0, none⟩ 1 1 (Tree.mk op9 p9 v9 B9 cb9 ks9).cells rfl rfl (tree_new w9 28 (Tree.mk op9 p9 v9 B9 cb9 ks9)) (tree_cell1 (Tree.mk op9 p9 v9 B9 cb9 ks9)) (by decide) (by decide) (by decide) (by simp; omega) _ rfl ?_; intro b2 c2 w10 hown hgrow hat hlt; have KG := E11.out.box.grown hgrow (E11.out.row_ne (Nat.le_refl _)).symm; have E12 : Hid (XMid 64 28 113 109 w (w10.setCell ⟨q, 8, none⟩ (.slice (some ⟨b2, 0, none⟩) 1 c2)) g q #[.slice A l.length c, .pointer (some ⟨g, 0, none⟩)] 2 0 zero6 (some ⟨b2, 0, none⟩) c2 d [(Tree.mk op9 p9 v9 B9 cb9 ks9)] aL ae) := (E11.out.grow (by decide) (by decide) (Tree.mk op9 p9 v9 B9 cb9 ks9) (ED.out.fit (HI.out.below (below_new w9 (.cells (Tree.mk op9 p9 v9 B9 cb9 ks9).cells.toArray 28)))) hgrow hown hat); have HA10 := (E11.out.par.grown hgrow (E11.out.row_ne (by have := E11.out.far; omega)).symm).c2; have HA12 := E12.out.par.c2; have kq10 : w10.cell? ⟨q, 8, none⟩ = some (.slice none 0 0) := KG.cell 8; have lq10 := KG.lt; have kf10 := KG.free 8; clear hown hgrow hat)
              refine hKK.out _ _ ?_ (fun hHeld2 => ?_)
              · (try dsimp only)
                first | with_reducible exact HA12 | with_reducible exact HA10 | with_reducible exact HA9 | with_reducible exact HAD | go_keep
              clear hKK KK hHeld
              have hHeld := hHeld2
              clear hHeld2
              try simp only [Act.put, List.setIfInBounds_toArray, List.set_cons_zero, List.set_cons_succ]
              refine wpAnyH_take (i := 6) (v := ?v6_2113) rfl (by kernel_rfl) (by kernel_rfl) (by kernel_rfl) (fun _ _ _ h => h) (Or.inl ⟨by rfl, ?h6_2113⟩) (by assumption) ?r6_2113
              case h6_2113 => intro w hSw; (try dsimp only at hSw); go_simp; try with_reducible rfl
              try simp only [Act.put, List.setIfInBounds_toArray, List.set_cons_zero, List.set_cons_succ]
              refine wpAnyH_ready (rs := [7]) (by kernel_rfl) (by simp) ?_
              refine AllReadyH.cons (o := ?o7_2114) ?ho7_2114 (fun KK hKK => ?st7_2114) ?mo7_2114
              case ho7_2114 => (simp only [List.getElem?_toArray, List.getElem?_cons_succ, List.getElem?_cons_zero]; rfl)
              case st7_2114 =>
                go_simp
                refine hKK.out _ _ ?_ (fun hHeld2 => ?_)
                · (try dsimp only)
                  first | with_reducible exact HA12 | with_reducible exact HA10 | with_reducible exact HA9 | with_reducible exact HAD | go_keep
                clear hKK KK hHeld
                have hHeld := hHeld2
                clear hHeld2
                try simp only [Act.put, List.setIfInBounds_toArray, List.set_cons_zero, List.set_cons_succ]
                refine wpAnyH_done (by kernel_rfl) ?_ _
                go_wp2_with fail
                go_meet
                exact ⟨.mk op9 p9 v9 B9 cb9 ks9, b2, c2, rfl, HX, E12⟩
              case mo7_2114 =>
                exact AllReadyH.nil
            case mo5_2112 =>
              exact AllReadyH.nil
          case mo4_2111 =>
            exact AllReadyH.nil
        case mo1_2110 =>
          refine AllReadyH.cons (o := ?o4_2115) ?ho4_2115 (fun KK hKK => ?st4_2115) ?mo4_2115
          case ho4_2115 => (simp only [List.getElem?_toArray, List.getElem?_cons_succ, List.getElem?_cons_zero]; rfl)
          case st4_2115 =>
            go_simp
            refine hKK.out _ _ ?_ (fun hHeld2 => ?_)
            · (try dsimp only)
              first | with_reducible exact HA12 | with_reducible exact HA10 | with_reducible exact HA9 | with_reducible exact HAD | go_keep
            clear hKK KK hHeld
            have hHeld := hHeld2
            clear hHeld2
            try simp only [Act.put, List.setIfInBounds_toArray, List.set_cons_zero, List.set_cons_succ]
            refine wpAnyH_ready (rs := [1]) (by kernel_rfl) (by simp) ?_
            refine AllReadyH.cons (o := ?o1_2116) ?ho1_2116 (fun KK hKK => ?st1_2116) ?mo1_2116
            case ho1_2116 => (simp only [List.getElem?_toArray, List.getElem?_cons_succ, List.getElem?_cons_zero]; rfl)
            case st1_2116 =>
              go_simp
              refine hKK.out _ _ ?_ (fun hHeld2 => ?_)
              · (try dsimp only)
                first | with_reducible exact HA12 | with_reducible exact HA10 | with_reducible exact HA9 | with_reducible exact HAD | go_keep
              clear hKK KK hHeld
              have hHeld := hHeld2
              clear hHeld2
              try simp only [Act.put, List.setIfInBounds_toArray, List.set_cons_zero, List.set_cons_succ]
              refine wpAnyH_ready (rs := [5]) (by kernel_rfl) (by simp) ?_
              refine AllReadyH.cons (o := ?o5_2117) ?ho5_2117 (fun KK hKK => ?st5_2117) ?mo5_2117
              case ho5_2117 => (simp only [List.getElem?_toArray, List.getElem?_cons_succ, List.getElem?_cons_zero]; rfl)
              case st5_2117 =>
                (have E11 := Lib.hid (E9.out.below (below_new w9 (.cells (Tree.mk op9 p9 v9 B9 cb9 ks9).cells.toArray 28))); refine step_append_lies _ rfl (.tmp 39) (.tmp 42) _ rfl (q + 1) 28 j0 _ 9 88 Tryz.underlying26 hj0 hj1 hj2 hj3 rfl (by decide) (.slice none 0 0) 0 (([] : List Tree).flatMap Tree.cells) rfl E11.out.own ⟨w9.heap.size, 0, none⟩ 1 1 (Tree.mk op9 p9 v9 B9 cb9 ks9).cells rfl rfl (tree_new w9 28 (Tree.mk op9 p9 v9 B9 cb9 ks9)) (tree_cell1 (Tree.mk op9 p9 v9 B9 cb9 ks9)) (by decide) (by decide) (by decide) (by simp; omega) _ rfl ?_; intro b2 c2 w10 hown hgrow hat hlt; have KG := E11.out.box.grown hgrow (E11.out.row_ne (Nat.le_refl _)).symm; have E12 : Hid (XMid 64 28 113 109 w (w10.setCell ⟨q, 8, none⟩ (.slice (some ⟨b2, 0, none⟩) 1 c2)) g q #[.slice A l.length c, .pointer (some ⟨g, 0, none⟩)] 2 0 zero6 (some ⟨b2, 0, none⟩) c2 d [(Tree.mk op9 p9 v9 B9 cb9 ks9)] aL ae) := (E11.out.grow (by decide) (by decide) (Tree.mk op9 p9 v9 B9 cb9 ks9) (ED.out.fit (HI.out.below (below_new w9 (.cells (Tree.mk op9 p9 v9 B9 cb9 ks9).cells.toArray 28)))) hgrow hown hat); have HA10 := (E11.out.par.grown hgrow (E11.out.row_ne (by have := E11.out.far; omega)).symm).c2; have HA12 := E12.out.par.c2; have kq10 : w10.cell? ⟨q, 8, none⟩ = some (.slice none 0 0) := KG.cell 8; have lq10 := KG.lt; have kf10 := KG.free 8; clear hown hgrow hat)
                refine hKK.out _ _ ?_ (fun hHeld2 => ?_)
                · (try dsimp only)
                  first | with_reducible exact HA12 | with_reducible exact HA10 | with_reducible exact HA9 | with_reducible exact HAD | go_keep
                clear hKK KK hHeld
                have hHeld := hHeld2
                clear hHeld2
                try simp only [Act.put, List.setIfInBounds_toArray, List.set_cons_zero, List.set_cons_succ]
                refine wpAnyH_take (i := 6) (v := ?v6_2118) rfl (by kernel_rfl) (by kernel_rfl) (by kernel_rfl) (fun _ _ _ h => h) (Or.inl ⟨by rfl, ?h6_2118⟩) (by assumption) ?r6_2118
                case h6_2118 => intro w hSw; (try dsimp only at hSw); go_simp; try with_reducible rfl
                try simp only [Act.put, List.setIfInBounds_toArray, List.set_cons_zero, List.set_cons_succ]
                refine wpAnyH_ready (rs := [7]) (by kernel_rfl) (by simp) ?_
                refine AllReadyH.cons (o := ?o7_2119) ?ho7_2119 (fun KK hKK => ?st7_2119) ?mo7_2119
                case ho7_2119 => (simp only [List.getElem?_toArray, List.getElem?_cons_succ, List.getElem?_cons_zero]; rfl)
                case st7_2119 =>
                  go_simp
                  refine hKK.out _ _ ?_ (fun hHeld2 => ?_)
                  · (try dsimp only)
                    first | with_reducible exact HA12 | with_reducible exact HA10 | with_reducible exact HA9 | with_reducible exact HAD | go_keep
                  clear hKK KK hHeld
                  have hHeld := hHeld2
                  clear hHeld2
                  try simp only [Act.put, List.setIfInBounds_toArray, List.set_cons_zero, List.set_cons_succ]
                  refine wpAnyH_done (by kernel_rfl) ?_ _
                  go_wp2_with fail
                  go_meet
                  exact ⟨.mk op9 p9 v9 B9 cb9 ks9, b2, c2, rfl, HX, E12⟩
                case mo7_2119 =>
                  exact AllReadyH.nil
              case mo5_2117 =>
                exact AllReadyH.nil
            case mo1_2116 =>
              exact AllReadyH.nil
          case mo4_2115 =>
            exact AllReadyH.nil
      case mo3_2109 =>
        exact AllReadyH.nil
  case rest =>
    obtain ⟨ta, b2, c2, rfl, HXa, E20⟩ := hcut
    clear HA1 CN CX CP CO CF E8 hxq
    have hbx : bodyX l f 2 ⟨ax, aL, ae⟩ = closeX ⟨.mk 2 (n6 zero6) 0 (moreF f (aL.length + 1) ⟨[ax], aL, ae⟩).xs, (moreF f (aL.length + 1) ⟨[ax], aL, ae⟩).L, (moreF f (aL.length + 1) ⟨[ax], aL, ae⟩).e⟩ := by
      unfold bodyX
      rw [if_pos (by decide)]
    have HB2 := Lib.hid (HB.out.symm.trans hbx)
    clear hbx HB
    have HF0 : Hid (moreF f (aL.length + 1) ⟨[ta].map (xF d), aL, ae⟩ = moreF f (aL.length + 1) ⟨[ax], aL, ae⟩) := by
      show _ = _
      rw [← HXa.out]
      rfl
    generalize moreF f (aL.length + 1) ⟨[ax], aL, ae⟩ = fin at *
    have CAY := Lib.hid fun W L' e' (h : Scan 113 109 W g L' e') (hm' : L'.length ≤ 5000) (k : accB L' e' ⟨#[44]⟩) => accept_yes L' e' g ⟨#[44]⟩ W h (small_len hm') k
    have CAN := Lib.hid fun W L' e' (h : Scan 113 109 W g L' e') (hm' : L'.length ≤ 5000) (k : ¬ accB L' e' ⟨#[44]⟩) => accept_no L' e' g ⟨#[44]⟩ W h (small_len hm') k
    go_wp2_with fail
    go_loopg [] (aL.length + 1) (fun fk wr => ∃ (Aq : Option Addr) (cq : Nat) (ks : List Tree) (L9 : List Tok) (e9 : Int), Hid (XMid 64 28 113 109 w wr g q #[.slice A l.length c, .pointer (some ⟨g, 0, none⟩)] 2 0 zero6 Aq cq d ks L9 e9) ∧ Hid (moreF f fk ⟨ks.map (xF d), L9, e9⟩ = fin) ∧ L9.length < fk ∧ ks.length + L9.length ≤ 5001 ∧ L9.length ≤ aL.length)
    case atStart => exact ⟨_, _, [ta], aL, ae, E20, HF0, by omega, by simp; omega, Nat.le_refl _⟩
    case round =>
      obtain ⟨Aq, cq, ks, L9, e9, E, HF, hk1, hk2, hk3⟩ := hrel
      obtain ⟨fk, rfl⟩ : ∃ fk, gk = fk + 1 := ⟨gk - 1, by omega⟩
      clear E20
      have d2 := E.out.par.c2
      have lpr := E.out.par.lt
      by_cases hk : accB L9 e9 ⟨#[44]⟩
      · have HF2 := Lib.hid (show moreF f fk ⟨ks.map (xF d) ++ [(argX f (nextL L9 e9) e9).x], (argX f (nextL L9 e9) e9).L, (argX f (nextL L9 e9) e9).e⟩ = fin by rw [← HF.out]; conv => (rhs; unfold moreF); rw [if_pos hk])
        have hnx := acc_next hk
        have C1 := Lib.hid (fun W h => CAY.out W L9 e9 h (by omega) hk)
        have HA2 := Lib.hid fun W k h => HARG.out (nextL L9 e9) e9 W (fun _ => by omega) k h
        have hal2 := argX_len hf (nextL L9 e9) e9
        clear hk HF
        generalize nextL L9 e9 = Ln2 at *
        generalize argX f Ln2 e9 = a2 at *
        obtain ⟨ax2, aL2, ae2⟩ := a2
        dsimp only at hal2 HF2
        go_wp2_with fail
        refine (C1.out _ E.out.scan).mono ?_
        rintro r w17 ⟨rfl, s7, o7⟩
        have E7 := Lib.hid (E.out.step s7 o7)
        clear s7 o7 d2 lpr E
        have hxq := E7.out.far
        go_upto_region 18 with fail
        have ED := Lib.hid (E7.out.below ((Below.refl _ _).drew))
        have HAW := E7.out.par.c2
        have HAD := ED.out.par.c2
        have lpar := ED.out.par.lt
        have kq : w17.drew.cell? ⟨q, 8, none⟩ = some (.slice Aq ks.length cq) := ED.out.box.cell 8
        have lq := ED.out.box.lt
        refine wp_region_held_drew (S := fun W => W.cell? ⟨w.heap.size, 0, none⟩ = some (.slice A l.length c) ∧ W.cell? ⟨w.heap.size, 1, none⟩ = some (.pointer (some ⟨g, 0, none⟩))) (by kernel_rfl) ?_ (fun hHeld => ?_)
        · (try dsimp only)
          first | with_reducible exact HAD | with_reducible exact HAW | go_keep
        refine wpAnyH_take (i := 0) (v := ?v0_2501) rfl (by kernel_rfl) (by kernel_rfl) (by kernel_rfl) (fun _ _ _ h => h) (Or.inl ⟨by rfl, ?h0_2501⟩) (by assumption) ?r0_2501
        case h0_2501 => intro w hSw; (try dsimp only at hSw); go_simp; try with_reducible rfl
        try simp only [Act.put, List.setIfInBounds_toArray, List.set_cons_zero, List.set_cons_succ]
        refine wpAnyH_take (i := 2) (v := ?v2_2502) rfl (by kernel_rfl) (by kernel_rfl) (by kernel_rfl) (fun _ _ _ h => h) (Or.inl ⟨by rfl, ?h2_2502⟩) (by assumption) ?r2_2502
        case h2_2502 => intro w hSw; (try dsimp only at hSw); go_simp; try with_reducible rfl
        try simp only [Act.put, List.setIfInBounds_toArray, List.set_cons_zero, List.set_cons_succ]
        refine wpAnyH_ready (rs := [1, 3]) (by kernel_rfl) (by simp) ?_
        refine AllReadyH.cons (o := ?o1_2503) ?ho1_2503 (fun KK hKK => ?st1_2503) ?mo1_2503
        case ho1_2503 => (simp only [List.getElem?_toArray, List.getElem?_cons_succ, List.getElem?_cons_zero]; rfl)
        case st1_2503 =>
          go_simp
          refine hKK.out _ _ ?_ (fun hHeld2 => ?_)
          · (try dsimp only)
            first | with_reducible exact HA12 | with_reducible exact HA10 | with_reducible exact HA9 | with_reducible exact HAD | go_keep
          clear hKK KK hHeld
          have hHeld := hHeld2
          clear hHeld2
          try simp only [Act.put, List.setIfInBounds_toArray, List.set_cons_zero, List.set_cons_succ]
          refine wpAnyH_ready (rs := [3]) (by kernel_rfl) (by simp) ?_
          refine AllReadyH.cons (o := ?o3_2504) ?ho3_2504 (fun KK hKK => ?st3_2504) ?mo3_2504
          case ho3_2504 => (simp only [List.getElem?_toArray, List.getElem?_cons_succ, List.getElem?_cons_zero]; rfl)
          case st3_2504 =>
            (go_simp; go_at_call 77; refine (HA2.out _ ED.out.only ED.out.scan).mono ?_; rintro r w9 ⟨ta, rfl, hx9, hi9, s9, o9⟩; have HX := Lib.hid hx9; have E9 := Lib.hid (ED.out.step s9 o9); have HI := Lib.hid hi9; clear s9 o9 hx9 hi9; have HA9 := E9.out.par.c2; have lp9 := E9.out.par.lt; have kq9 : w9.cell? ⟨q, 8, none⟩ = some (.slice Aq ks.length cq) := E9.out.box.cell 8; have lq9 := E9.out.box.lt; obtain ⟨op9, p9, v9, B9, cb9, ks9⟩ := ta; dsimp only [Tree.val, Tree.op, Tree.want, Tree.value, Tree.a, Tree.c, Tree.args])
            refine hKK.out _ _ ?_ (fun hHeld2 => ?_)
            · (try dsimp only)
              first | with_reducible exact HA12 | with_reducible exact HA10 | with_reducible exact HA9 | with_reducible exact HAD | go_keep
            clear hKK KK hHeld
            have hHeld := hHeld2
            clear hHeld2
            try simp only [Act.put, List.setIfInBounds_toArray, List.set_cons_zero, List.set_cons_succ]
            refine wpAnyH_ready (rs := [4]) (by kernel_rfl) (by simp) ?_
            refine AllReadyH.cons (o := ?o4_2505) ?ho4_2505 (fun KK hKK => ?st4_2505) ?mo4_2505
            case ho4_2505 => (simp only [List.getElem?_toArray, List.getElem?_cons_succ, List.getElem?_cons_zero]; rfl)
            case st4_2505 =>
              go_simp
              refine hKK.out _ _ ?_ (fun hHeld2 => ?_)
              · (try dsimp only)
                first | with_reducible exact HA12 | with_reducible exact HA10 | with_reducible exact HA9 | with_reducible exact HAD | go_keep
              clear hKK KK hHeld
              have hHeld := hHeld2
              clear hHeld2
              try simp only [Act.put, List.setIfInBounds_toArray, List.set_cons_zero, List.set_cons_succ]
              refine wpAnyH_ready (rs := [5]) (by kernel_rfl) (by simp) ?_
              refine AllReadyH.cons (o := ?o5_2506) ?ho5_2506 (fun KK hKK => ?st5_2506) ?mo5_2506
              case ho5_2506 => (simp only [List.getElem?_toArray, List.getElem?_cons_succ, List.getElem?_cons_zero]; rfl)
              case st5_2506 =>
                (have E11 := Lib.hid (E9.out.below (below_new w9 (.cells (Tree.mk op9 p9 v9 B9 cb9 ks9).cells.toArray 28))); refine step_append_lies _ rfl (.tmp 53) (.tmp 56) _ rfl (q + 1) 28 j0 _ 9 88 Tryz.underlying26 hj0 hj1 hj2 hj3 rfl (by decide) (.slice Aq ks.length cq) ks.length (ks.flatMap Tree.cells) rfl E11.out.own ⟨w9.heap.size, 0, none⟩ 1 1 (Tree.mk op9 p9 v9 B9 cb9 ks9).cells rfl rfl (tree_new w9 28 (Tree.mk op9 p9 v9 B9 cb9 ks9)) (tree_cell1 (Tree.mk op9 p9 v9 B9 cb9 ks9)) (by decide) (by unfold maxLen; omega) (by omega) (by simp; omega) _ rfl ?_; intro b2 c2 w10 hown hgrow hat hlt; have KG := E11.out.box.grown hgrow (E11.out.row_ne (Nat.le_refl _)).symm; have E12 : Hid (XMid 64 28 113 109 w (w10.setCell ⟨q, 8, none⟩ (.slice (some ⟨b2, 0, none⟩) (ks.length + 1) c2)) g q #[.slice A l.length c, .pointer (some ⟨g, 0, none⟩)] 2 0 zero6 (some ⟨b2, 0, none⟩) c2 d (ks ++ [(Tree.mk op9 p9 v9 B9 cb9 ks9)]) aL2 ae2) := (E11.out.grow (by decide) (by decide) (Tree.mk op9 p9 v9 B9 cb9 ks9) (ED.out.fit (HI.out.below (below_new w9 (.cells (Tree.mk op9 p9 v9 B9 cb9 ks9).cells.toArray 28)))) hgrow hown hat); have HA10 := (E11.out.par.grown hgrow (E11.out.row_ne (by have := E11.out.far; omega)).symm).c2; have HA12 := E12.out.par.c2; have kq10 : w10.cell? ⟨q, 8, none⟩ = some (.slice Aq ks.length cq) := KG.cell 8; have lq10 := KG.lt; have kf10 := KG.free 8; clear hown hgrow hat)
                refine hKK.out _ _ ?_ (fun hHeld2 => ?_)
                · (try dsimp only)
                  first | with_reducible exact HA12 | with_reducible exact HA10 | with_reducible exact HA9 | with_reducible exact HAD | go_keep
                clear hKK KK hHeld
                have hHeld := hHeld2
                clear hHeld2
                try simp only [Act.put, List.setIfInBounds_toArray, List.set_cons_zero, List.set_cons_succ]
                refine wpAnyH_take (i := 6) (v := ?v6_2507) rfl (by kernel_rfl) (by kernel_rfl) (by kernel_rfl) (fun _ _ _ h => h) (Or.inl ⟨by rfl, ?h6_2507⟩) (by assumption) ?r6_2507
                case h6_2507 => intro w hSw; (try dsimp only at hSw); go_simp; try with_reducible rfl
                try simp only [Act.put, List.setIfInBounds_toArray, List.set_cons_zero, List.set_cons_succ]
                refine wpAnyH_ready (rs := [7]) (by kernel_rfl) (by simp) ?_
                refine AllReadyH.cons (o := ?o7_2508) ?ho7_2508 (fun KK hKK => ?st7_2508) ?mo7_2508
                case ho7_2508 => (simp only [List.getElem?_toArray, List.getElem?_cons_succ, List.getElem?_cons_zero]; rfl)
                case st7_2508 =>
                  go_simp
                  refine hKK.out _ _ ?_ (fun hHeld2 => ?_)
                  · (try dsimp only)
                    first | with_reducible exact HA12 | with_reducible exact HA10 | with_reducible exact HA9 | with_reducible exact HAD | go_keep
                  clear hKK KK hHeld
                  have hHeld := hHeld2
                  clear hHeld2
                  try simp only [Act.put, List.setIfInBounds_toArray, List.set_cons_zero, List.set_cons_succ]
                  refine wpAnyH_done (by kernel_rfl) ?_ _
                  go_wp2_with fail
                  go_roundg fk
                  case measure => omega
                  case rel => exact ⟨_, _, ks ++ [.mk op9 p9 v9 B9 cb9 ks9], aL2, ae2, E12, by rw [List.map_append, List.map_cons, List.map_nil, HX.out]; exact HF2, by omega, by simp; omega, by omega⟩
                case mo7_2508 =>
                  exact AllReadyH.nil
              case mo5_2506 =>
                exact AllReadyH.nil
            case mo4_2505 =>
              exact AllReadyH.nil
          case mo3_2504 =>
            exact AllReadyH.nil
        case mo1_2503 =>
          refine AllReadyH.cons (o := ?o3_2509) ?ho3_2509 (fun KK hKK => ?st3_2509) ?mo3_2509
          case ho3_2509 => (simp only [List.getElem?_toArray, List.getElem?_cons_succ, List.getElem?_cons_zero]; rfl)
          case st3_2509 =>
            (go_simp; go_at_call 77; refine (HA2.out _ ED.out.only ED.out.scan).mono ?_; rintro r w9 ⟨ta, rfl, hx9, hi9, s9, o9⟩; have HX := Lib.hid hx9; have E9 := Lib.hid (ED.out.step s9 o9); have HI := Lib.hid hi9; clear s9 o9 hx9 hi9; have HA9 := E9.out.par.c2; have lp9 := E9.out.par.lt; have kq9 : w9.cell? ⟨q, 8, none⟩ = some (.slice Aq ks.length cq) := E9.out.box.cell 8; have lq9 := E9.out.box.lt; obtain ⟨op9, p9, v9, B9, cb9, ks9⟩ := ta; dsimp only [Tree.val, Tree.op, Tree.want, Tree.value, Tree.a, Tree.c, Tree.args])
            refine hKK.out _ _ ?_ (fun hHeld2 => ?_)
            · (try dsimp only)
              first | with_reducible exact HA12 | with_reducible exact HA10 | with_reducible exact HA9 | with_reducible exact HAD | go_keep
            clear hKK KK hHeld
            have hHeld := hHeld2
            clear hHeld2
            try simp only [Act.put, List.setIfInBounds_toArray, List.set_cons_zero, List.set_cons_succ]
            refine wpAnyH_ready (rs := [1, 4]) (by kernel_rfl) (by simp) ?_
            refine AllReadyH.cons (o := ?o1_2510) ?ho1_2510 (fun KK hKK => ?st1_2510) ?mo1_2510
            case ho1_2510 => (simp only [List.getElem?_toArray, List.getElem?_cons_succ, List.getElem?_cons_zero]; rfl)
            case st1_2510 =>
              go_simp
              refine hKK.out _ _ ?_ (fun hHeld2 => ?_)
              · (try dsimp only)
                first | with_reducible exact HA12 | with_reducible exact HA10 | with_reducible exact HA9 | with_reducible exact HAD | go_keep
              clear hKK KK hHeld
              have hHeld := hHeld2
              clear hHeld2
              try simp only [Act.put, List.setIfInBounds_toArray, List.set_cons_zero, List.set_cons_succ]
              refine wpAnyH_ready (rs := [4]) (by kernel_rfl) (by simp) ?_
              refine AllReadyH.cons (o := ?o4_2511) ?ho4_2511 (fun KK hKK => ?st4_2511) ?mo4_2511
              case ho4_2511 => (simp only [List.getElem?_toArray, List.getElem?_cons_succ, List.getElem?_cons_zero]; rfl)
              case st4_2511 =>
                go_simp
                refine hKK.out _ _ ?_ (fun hHeld2 => ?_)
                · (try dsimp only)
                  first | with_reducible exact HA12 | with_reducible exact HA10 | with_reducible exact HA9 | with_reducible exact HAD | go_keep
                clear hKK KK hHeld
                have hHeld := hHeld2
                clear hHeld2
                try simp only [Act.put, List.setIfInBounds_toArray, List.set_cons_zero, List.set_cons_succ]
                refine wpAnyH_ready (rs := [5]) (by kernel_rfl) (by simp) ?_
                refine AllReadyH.cons (o := ?o5_2512) ?ho5_2512 (fun KK hKK => ?st5_2512) ?mo5_2512
                case ho5_2512 => (simp only [List.getElem?_toArray, List.getElem?_cons_succ, List.getElem?_cons_zero]; rfl)
                case st5_2512 =>
                  (have E11 := Lib.hid (E9.out.below (below_new w9 (.cells (Tree.mk op9 p9 v9 B9 cb9 ks9).cells.toArray 28))); refine step_append_lies _ rfl (.tmp 53) (.tmp 56) _ rfl (q + 1) 28 j0 _ 9 88 Tryz.underlying26 hj0 hj1 hj2 hj3 rfl (by decide) (.slice Aq ks.length cq) ks.length (ks.flatMap Tree.cells) rfl E11.out.own ⟨w9.heap.size, 0, none⟩ 1 1 (Tree.mk op9 p9 v9 B9 cb9 ks9).cells rfl rfl (tree_new w9 28 (Tree.mk op9 p9 v9 B9 cb9 ks9)) (tree_cell1 (Tree.mk op9 p9 v9 B9 cb9 ks9)) (by decide) (by unfold maxLen; omega) (by omega) (by simp; omega) _ rfl ?_; intro b2 c2 w10 hown hgrow hat hlt; have KG := E11.out.box.grown hgrow (E11.out.row_ne (Nat.le_refl _)).symm; have E12 : Hid (XMid 64 28 113 109 w (w10.setCell ⟨q, 8, none⟩ (.slice (some ⟨b2, 0, none⟩) (ks.length + 1) c2)) g q #[.slice A l.length c, .pointer (some ⟨g, 0, none⟩)] 2 0 zero6 (some ⟨b2, 0, none⟩) c2 d (ks ++ [(Tree.mk op9 p9 v9 B9 cb9 ks9)]) aL2 ae2) := (E11.out.grow (by decide) (by decide) (Tree.mk op9 p9 v9 B9 cb9 ks9) (ED.out.fit (HI.out.below (below_new w9 (.cells (Tree.mk op9 p9 v9 B9 cb9 ks9).cells.toArray 28)))) hgrow hown hat); have HA10 := (E11.out.par.grown hgrow (E11.out.row_ne (by have := E11.out.far; omega)).symm).c2; have HA12 := E12.out.par.c2; have kq10 : w10.cell? ⟨q, 8, none⟩ = some (.slice Aq ks.length cq) := KG.cell 8; have lq10 := KG.lt; have kf10 := KG.free 8; clear hown hgrow hat)
                  refine hKK.out _ _ ?_ (fun hHeld2 => ?_)
                  · (try dsimp only)
                    first | with_reducible exact HA12 | with_reducible exact HA10 | with_reducible exact HA9 | with_reducible exact HAD | go_keep
                  clear hKK KK hHeld
                  have hHeld := hHeld2
                  clear hHeld2
                  try simp only [Act.put, List.setIfInBounds_toArray, List.set_cons_zero, List.set_cons_succ]
                  refine wpAnyH_take (i := 6) (v := ?v6_2513) rfl (by kernel_rfl) (by kernel_rfl) (by kernel_rfl) (fun _ _ _ h => h) (Or.inl ⟨by rfl, ?h6_2513⟩) (by assumption) ?r6_2513
                  case h6_2513 => intro w hSw; (try dsimp only at hSw); go_simp; try with_reducible rfl
                  try simp only [Act.put, List.setIfInBounds_toArray, List.set_cons_zero, List.set_cons_succ]
                  refine wpAnyH_ready (rs := [7]) (by kernel_rfl) (by simp) ?_
                  refine AllReadyH.cons (o := ?o7_2514) ?ho7_2514 (fun KK hKK => ?st7_2514) ?mo7_2514
                  case ho7_2514 => (simp only [List.getElem?_toArray, List.getElem?_cons_succ, List.getElem?_cons_zero]; rfl)
                  case st7_2514 =>
                    go_simp
                    refine hKK.out _ _ ?_ (fun hHeld2 => ?_)
                    · (try dsimp only)
                      first | with_reducible exact HA12 | with_reducible exact HA10 | with_reducible exact HA9 | with_reducible exact HAD | go_keep
                    clear hKK KK hHeld
                    have hHeld := hHeld2
                    clear hHeld2
                    try simp only [Act.put, List.setIfInBounds_toArray, List.set_cons_zero, List.set_cons_succ]
                    refine wpAnyH_done (by kernel_rfl) ?_ _
                    go_wp2_with fail
                    go_roundg fk
                    case measure => omega
                    case rel => exact ⟨_, _, ks ++ [.mk op9 p9 v9 B9 cb9 ks9], aL2, ae2, E12, by rw [List.map_append, List.map_cons, List.map_nil, HX.out]; exact HF2, by omega, by simp; omega, by omega⟩
                  case mo7_2514 =>
                    exact AllReadyH.nil
                case mo5_2512 =>
                  exact AllReadyH.nil
              case mo4_2511 =>
                exact AllReadyH.nil
            case mo1_2510 =>
              refine AllReadyH.cons (o := ?o4_2515) ?ho4_2515 (fun KK hKK => ?st4_2515) ?mo4_2515
              case ho4_2515 => (simp only [List.getElem?_toArray, List.getElem?_cons_succ, List.getElem?_cons_zero]; rfl)
              case st4_2515 =>
                go_simp
                refine hKK.out _ _ ?_ (fun hHeld2 => ?_)
                · (try dsimp only)
                  first | with_reducible exact HA12 | with_reducible exact HA10 | with_reducible exact HA9 | with_reducible exact HAD | go_keep
                clear hKK KK hHeld
                have hHeld := hHeld2
                clear hHeld2
                try simp only [Act.put, List.setIfInBounds_toArray, List.set_cons_zero, List.set_cons_succ]
                refine wpAnyH_ready (rs := [1]) (by kernel_rfl) (by simp) ?_
                refine AllReadyH.cons (o := ?o1_2516) ?ho1_2516 (fun KK hKK => ?st1_2516) ?mo1_2516
                case ho1_2516 => (simp only [List.getElem?_toArray, List.getElem?_cons_succ, List.getElem?_cons_zero]; rfl)
                case st1_2516 =>
                  go_simp
                  refine hKK.out _ _ ?_ (fun hHeld2 => ?_)
                  · (try dsimp only)
                    first | with_reducible exact HA12 | with_reducible exact HA10 | with_reducible exact HA9 | with_reducible exact HAD | go_keep
                  clear hKK KK hHeld
                  have hHeld := hHeld2
                  clear hHeld2
                  try simp only [Act.put, List.setIfInBounds_toArray, List.set_cons_zero, List.set_cons_succ]
                  refine wpAnyH_ready (rs := [5]) (by kernel_rfl) (by simp) ?_
                  refine AllReadyH.cons (o := ?o5_2517) ?ho5_2517 (fun KK hKK => ?st5_2517) ?mo5_2517
                  case ho5_2517 => (simp only [List.getElem?_toArray, List.getElem?_cons_succ, List.getElem?_cons_zero]; rfl)
                  case st5_2517 =>
                    (have E11 := Lib.hid (E9.out.below (below_new w9 (.cells (Tree.mk op9 p9 v9 B9 cb9 ks9).cells.toArray 28))); refine step_append_lies _ rfl (.tmp 53) (.tmp 56) _ rfl (q + 1) 28 j0 _ 9 88 Tryz.underlying26 hj0 hj1 hj2 hj3 rfl (by decide) (.slice Aq ks.length cq) ks.length (ks.flatMap Tree.cells) rfl E11.out.own ⟨w9.heap.size, 0, none⟩ 1 1 (Tree.mk op9 p9 v9 B9 cb9 ks9).cells rfl rfl (tree_new w9 28 (Tree.mk op9 p9 v9 B9 cb9 ks9)) (tree_cell1 (Tree.mk op9 p9 v9 B9 cb9 ks9)) (by decide) (by unfold maxLen; omega) (by omega) (by simp; omega) _ rfl ?_; intro b2 c2 w10 hown hgrow hat hlt; have KG := E11.out.box.grown hgrow (E11.out.row_ne (Nat.le_refl _)).symm; have E12 : Hid (XMid 64 28 113 109 w (w10.setCell ⟨q, 8, none⟩ (.slice (some ⟨b2, 0, none⟩) (ks.length + 1) c2)) g q #[.slice A l.length c, .pointer (some ⟨g, 0, none⟩)] 2 0 zero6 (some ⟨b2, 0, none⟩) c2 d (ks ++ [(Tree.mk op9 p9 v9 B9 cb9 ks9)]) aL2 ae2) := (E11.out.grow (by decide) (by decide) (Tree.mk op9 p9 v9 B9 cb9 ks9) (ED.out.fit (HI.out.below (below_new w9 (.cells (Tree.mk op9 p9 v9 B9 cb9 ks9).cells.toArray 28)))) hgrow hown hat); have HA10 := (E11.out.par.grown hgrow (E11.out.row_ne (by have := E11.out.far; omega)).symm).c2; have HA12 := E12.out.par.c2; have kq10 : w10.cell? ⟨q, 8, none⟩ = some (.slice Aq ks.length cq) := KG.cell 8; have lq10 := KG.lt; have kf10 := KG.free 8; clear hown hgrow hat)
                    refine hKK.out _ _ ?_ (fun hHeld2 => ?_)
                    · (try dsimp only)
                      first | with_reducible exact HA12 | with_reducible exact HA10 | with_reducible exact HA9 | with_reducible exact HAD | go_keep
                    clear hKK KK hHeld
                    have hHeld := hHeld2
                    clear hHeld2
                    try simp only [Act.put, List.setIfInBounds_toArray, List.set_cons_zero, List.set_cons_succ]
                    refine wpAnyH_take (i := 6) (v := ?v6_2518) rfl (by kernel_rfl) (by kernel_rfl) (by kernel_rfl) (fun _ _ _ h => h) (Or.inl ⟨by rfl, ?h6_2518⟩) (by assumption) ?r6_2518
                    case h6_2518 => intro w hSw; (try dsimp only at hSw); go_simp; try with_reducible rfl
                    try simp only [Act.put, List.setIfInBounds_toArray, List.set_cons_zero, List.set_cons_succ]
                    refine wpAnyH_ready (rs := [7]) (by kernel_rfl) (by simp) ?_
                    refine AllReadyH.cons (o := ?o7_2519) ?ho7_2519 (fun KK hKK => ?st7_2519) ?mo7_2519
                    case ho7_2519 => (simp only [List.getElem?_toArray, List.getElem?_cons_succ, List.getElem?_cons_zero]; rfl)
                    case st7_2519 =>
                      go_simp
                      refine hKK.out _ _ ?_ (fun hHeld2 => ?_)
                      · (try dsimp only)
                        first | with_reducible exact HA12 | with_reducible exact HA10 | with_reducible exact HA9 | with_reducible exact HAD | go_keep
                      clear hKK KK hHeld
                      have hHeld := hHeld2
                      clear hHeld2
                      try simp only [Act.put, List.setIfInBounds_toArray, List.set_cons_zero, List.set_cons_succ]
                      refine wpAnyH_done (by kernel_rfl) ?_ _
                      go_wp2_with fail
                      go_roundg fk
                      case measure => omega
                      case rel => exact ⟨_, _, ks ++ [.mk op9 p9 v9 B9 cb9 ks9], aL2, ae2, E12, by rw [List.map_append, List.map_cons, List.map_nil, HX.out]; exact HF2, by omega, by simp; omega, by omega⟩
                    case mo7_2519 =>
                      exact AllReadyH.nil
                  case mo5_2517 =>
                    exact AllReadyH.nil
                case mo1_2516 =>
                  exact AllReadyH.nil
              case mo4_2515 =>
                exact AllReadyH.nil
          case mo3_2509 =>
            exact AllReadyH.nil
    
      · have HF2 := Lib.hid (show fin = ⟨ks.map (xF d), L9, e9⟩ by rw [← HF.out]; unfold moreF; rw [if_neg hk])
        have C1 := Lib.hid (fun W h => CAN.out W L9 e9 h (by omega) hk)
        clear hk HF
        rw [HF2.out] at HB2
        dsimp only at HB2
        go_wp2_with fail
        refine (C1.out _ E.out.scan).mono ?_
        rintro r w17 ⟨rfl, s7, o7⟩
        have E7 := Lib.hid (E.out.step s7 o7)
        clear s7 o7 d2 lpr E
        have d2 := E7.out.par.c2
        have lpr := E7.out.par.lt
        go_wp2_with fail
        refine (CE.out _ _ _ ⟨#[41]⟩ E7.out.scan (by omega)).mono ?_
        rintro r w30 ⟨rfl, s30, o30⟩
        have E30 := Lib.hid (E7.out.step s30 o30)
        clear s30 o30 d2 lpr
        have C0 : w30.cell? ⟨q, 0, none⟩ = some (.int .i64 2) := E30.out.box.cell 0
        have C1 : w30.cell? ⟨q, 1, none⟩ = some (.int .i64 0) := E30.out.box.cell 1
        have C2 : w30.cell? ⟨q, 2, none⟩ = some (.int .i64 0) := E30.out.box.cell 2
        have C3 : w30.cell? ⟨q, 3, none⟩ = some (.int .i64 0) := E30.out.box.cell 3
        have C4 : w30.cell? ⟨q, 4, none⟩ = some (.int .i64 0) := E30.out.box.cell 4
        have C5 : w30.cell? ⟨q, 5, none⟩ = some (.int .i64 0) := E30.out.box.cell 5
        have C6 : w30.cell? ⟨q, 6, none⟩ = some (.int .i64 0) := E30.out.box.cell 6
        have C7 : w30.cell? ⟨q, 7, none⟩ = some (.int .i64 0) := E30.out.box.cell 7
        have C8 : w30.cell? ⟨q, 8, none⟩ = some (.slice Aq ks.length cq) := E30.out.box.cell 8
        have Cl := E30.out.box.lt
        have D0 : w30.cell? ⟨w.heap.size + 1, 0, none⟩ = some (.int .i64 0) := E30.out.res.cell 0
        have Df0 := E30.out.res.free 0
        have D1 : w30.cell? ⟨w.heap.size + 1, 1, none⟩ = some (.int .i64 0) := E30.out.res.cell 1
        have Df1 := E30.out.res.free 1
        have D2 : w30.cell? ⟨w.heap.size + 1, 2, none⟩ = some (.int .i64 0) := E30.out.res.cell 2
        have Df2 := E30.out.res.free 2
        have D3 : w30.cell? ⟨w.heap.size + 1, 3, none⟩ = some (.int .i64 0) := E30.out.res.cell 3
        have Df3 := E30.out.res.free 3
        have D4 : w30.cell? ⟨w.heap.size + 1, 4, none⟩ = some (.int .i64 0) := E30.out.res.cell 4
        have Df4 := E30.out.res.free 4
        have D5 : w30.cell? ⟨w.heap.size + 1, 5, none⟩ = some (.int .i64 0) := E30.out.res.cell 5
        have Df5 := E30.out.res.free 5
        have D6 : w30.cell? ⟨w.heap.size + 1, 6, none⟩ = some (.int .i64 0) := E30.out.res.cell 6
        have Df6 := E30.out.res.free 6
        have D7 : w30.cell? ⟨w.heap.size + 1, 7, none⟩ = some (.int .i64 0) := E30.out.res.cell 7
        have Df7 := E30.out.res.free 7
        have D8 : w30.cell? ⟨w.heap.size + 1, 8, none⟩ = some (.slice none 0 0) := E30.out.res.cell 8
        have Df8 := E30.out.res.free 8
        have Dl := E30.out.res.lt
        have hxq30 := E30.out.far
        have hne1 : (q == w.heap.size + 1) = false := by simp; omega
        have hne2 : (w.heap.size + 1 == q) = false := by simp; omega
        have hne3 : ¬ q = w.heap.size + 1 := by omega
        have hne4 : ¬ w.heap.size + 1 = q := by omega
        try dsimp only
        iterate 13 (first | go_values | go_skip | go_guarded | go_step | go_upon)
        have Z9 : InP (fun b => w.heap.size ≤ b) (d + 1) (((((((((w30.setCell ⟨w.heap.size + 1, 0, none⟩ (.int .i64 2)).setCell ⟨w.heap.size + 1, 1, none⟩ (.int .i64 0)).setCell ⟨w.heap.size + 1, 2, none⟩ (.int .i64 0)).setCell ⟨w.heap.size + 1, 3, none⟩ (.int .i64 0)).setCell ⟨w.heap.size + 1, 4, none⟩ (.int .i64 0)).setCell ⟨w.heap.size + 1, 5, none⟩ (.int .i64 0)).setCell ⟨w.heap.size + 1, 6, none⟩ (.int .i64 0)).setCell ⟨w.heap.size + 1, 7, none⟩ (.int .i64 0)).setCell ⟨w.heap.size + 1, 8, none⟩ (.slice Aq ks.length cq)) (.mk 2 zero6 0 Aq cq ks) ∧ Scan 113 109 (((((((((w30.setCell ⟨w.heap.size + 1, 0, none⟩ (.int .i64 2)).setCell ⟨w.heap.size + 1, 1, none⟩ (.int .i64 0)).setCell ⟨w.heap.size + 1, 2, none⟩ (.int .i64 0)).setCell ⟨w.heap.size + 1, 3, none⟩ (.int .i64 0)).setCell ⟨w.heap.size + 1, 4, none⟩ (.int .i64 0)).setCell ⟨w.heap.size + 1, 5, none⟩ (.int .i64 0)).setCell ⟨w.heap.size + 1, 6, none⟩ (.int .i64 0)).setCell ⟨w.heap.size + 1, 7, none⟩ (.int .i64 0)).setCell ⟨w.heap.size + 1, 8, none⟩ (.slice Aq ks.length cq)) g (expL L9 e9 ⟨#[41]⟩) (expE L9 e9 ⟨#[41]⟩) ∧ Only g w (((((((((w30.setCell ⟨w.heap.size + 1, 0, none⟩ (.int .i64 2)).setCell ⟨w.heap.size + 1, 1, none⟩ (.int .i64 0)).setCell ⟨w.heap.size + 1, 2, none⟩ (.int .i64 0)).setCell ⟨w.heap.size + 1, 3, none⟩ (.int .i64 0)).setCell ⟨w.heap.size + 1, 4, none⟩ (.int .i64 0)).setCell ⟨w.heap.size + 1, 5, none⟩ (.int .i64 0)).setCell ⟨w.heap.size + 1, 6, none⟩ (.int .i64 0)).setCell ⟨w.heap.size + 1, 7, none⟩ (.int .i64 0)).setCell ⟨w.heap.size + 1, 8, none⟩ (.slice Aq ks.length cq)) := E30.out.done (by decide) (by decide)
        have R9 : Blk (((((((((w30.setCell ⟨w.heap.size + 1, 0, none⟩ (.int .i64 2)).setCell ⟨w.heap.size + 1, 1, none⟩ (.int .i64 0)).setCell ⟨w.heap.size + 1, 2, none⟩ (.int .i64 0)).setCell ⟨w.heap.size + 1, 3, none⟩ (.int .i64 0)).setCell ⟨w.heap.size + 1, 4, none⟩ (.int .i64 0)).setCell ⟨w.heap.size + 1, 5, none⟩ (.int .i64 0)).setCell ⟨w.heap.size + 1, 6, none⟩ (.int .i64 0)).setCell ⟨w.heap.size + 1, 7, none⟩ (.int .i64 0)).setCell ⟨w.heap.size + 1, 8, none⟩ (.slice Aq ks.length cq)) (w.heap.size + 1) 28 (cells9 2 0 zero6 Aq ks.length cq) := blk_put9 (op := 2) (v := 0) (p := zero6) (A := Aq) (n := ks.length) (c := cq) E30.out.res
        generalize ((((((((w30.setCell ⟨w.heap.size + 1, 0, none⟩ (.int .i64 2)).setCell ⟨w.heap.size + 1, 1, none⟩ (.int .i64 0)).setCell ⟨w.heap.size + 1, 2, none⟩ (.int .i64 0)).setCell ⟨w.heap.size + 1, 3, none⟩ (.int .i64 0)).setCell ⟨w.heap.size + 1, 4, none⟩ (.int .i64 0)).setCell ⟨w.heap.size + 1, 5, none⟩ (.int .i64 0)).setCell ⟨w.heap.size + 1, 6, none⟩ (.int .i64 0)).setCell ⟨w.heap.size + 1, 7, none⟩ (.int .i64 0)).setCell ⟨w.heap.size + 1, 8, none⟩ (.slice Aq ks.length cq) = w31 at *
        have Z9 := Lib.hid Z9
        have R9 := Lib.hid R9
        clear C0 D0 Df0 C1 D1 Df1 C2 D2 Df2 C3 D3 Df3 C4 D4 Df4 C5 D5 Df5 C6 D6 Df6 C7 D7 Df7 C8 D8 Df8 Cl Dl E30
        repeat (first | go_values | go_skip | go_guarded | go_step | go_upon)
        exact bodyPost_ret (v := .agg (cells9 2 0 zero6 Aq ks.length cq)) (results_blk rfl rfl R9.out Tryz.underlying28 rfl (by kernel_rfl)) rfl (by
          rw [HB2.out]
          exact ⟨.mk 2 zero6 0 Aq cq ks, rfl, rfl, Z9.out.1, Z9.out.2.1, Z9.out.2.2⟩)
set_option maxHeartbeats 8000000 in
set_option maxRecDepth 100000 in
theorem expr_3 (l : List Prod) (d : Nat) (f : List Tok → Int → PX) (hf : ∀ L e, (f L e).L.length ≤ L.length) (A : Option Addr) (c : Nat) (L : List Tok) (g : Nat) (w : World) (hl : l.length ≤ 5000) (hp : PS w (.slice A l.length c) l) (hA : ∀ b o, A = some ⟨b, o, none⟩ → b ≠ g) (hn : ∀ p ∈ l, p.name.size ≤ maxLen) (hs : Scan 113 109 w g L 0) (hm : L.length ≤ 5000) (h0 : 0 < L.length)
    (HARG : ∀ L' e' W, (e' = 0 → L'.length < L.length) → Only g w W → Scan 113 109 W g L' e' → Calls Tryz.prog 77 #[.agg #[.slice A l.length c, .pointer (some ⟨g, 0, none⟩)]] W (ExprPost d (argX f L' e') g W)) (hk : (peekT L 0).kind = 1) (hop : opW (peekT L 0).text = 3) :
    Calls Tryz.prog 36 #[.agg #[.slice A l.length c, .pointer (some ⟨g, 0, none⟩)]] w (ExprPost (d + 1) (bodyX l f 3 (firstX f L 0)) g w) := by
  have hg := hs.lt
  have CP := Lib.hid fun W (h : Scan 113 109 W g L 0) => peek_any L 0 g W h (small_len hm)
  have CO := Lib.hid fun W => op_any (peekT L 0).text W
  have CF := Lib.hid fun W (h : Scan 113 109 W g L 0) => fail_any L 0 2 g W h
  have CN := Lib.hid fun W (h : Scan 113 109 W g L 0) => next_any L 0 g W h (small_len hm)
  have hN1 := nextL_len L 0
  have hL1 := expL_len (nextL L 0) 0 ⟨#[40]⟩
  have CX := Lib.hid fun W (h : Scan 113 109 W g (nextL L 0) 0) => expect_any (nextL L 0) 0 g ⟨#[40]⟩ W h (small_len (by omega))
  have CR := Lib.hid fun W (k : Only g w W) L' e' (h : Scan 113 109 W g L' e') (hm' : L'.length ≤ 5000) => priced_any l A c L' e' g W hl (ps_only hp hA k) hA hn h hm'
  have CE := Lib.hid fun W L' e' m (h : Scan 113 109 W g L' e') (hm' : L'.length ≤ 5000) => expect_any L' e' g m W h (small_len hm')
  have CM := Lib.hid fun W L' e' (h : Scan 113 109 W g L' e') (hm' : L'.length ≤ 5000) => amount_any L' e' 1000000 g W h (small_len hm')
  have HLESS : expE (nextL L 0) 0 ⟨#[40]⟩ = 0 → (expL (nextL L 0) 0 ⟨#[40]⟩).length < L.length := first_less h0
  have HA1 := Lib.hid fun W k h => HARG (expL (nextL L 0) 0 ⟨#[40]⟩) (expE (nextL L 0) 0 ⟨#[40]⟩) W HLESS k h
  have HARG := Lib.hid HARG
  have hal := argX_len hf (expL (nextL L 0) 0 ⟨#[40]⟩) (expE (nextL L 0) 0 ⟨#[40]⟩)
  unfold firstX
  rw [hop] at CO
  generalize expE (nextL L 0) 0 ⟨#[40]⟩ = ex at *
  generalize expL (nextL L 0) 0 ⟨#[40]⟩ = Lx at *
  generalize nextL L 0 = Ln at *
  generalize hargX : argX f Lx ex = a at *
  clear hargX
  obtain ⟨ax, aL, ae⟩ := a
  dsimp only at hal
  have haL : aL.length ≤ 5000 := by omega
  generalize peekT L 0 = t at *
  obtain ⟨tk, tt, tv, tp⟩ := t
  dsimp only at CP CO hk hop
  subst hk
  clear hop
  generalize hB : bodyX l f 3 ⟨ax, aL, ae⟩ = qr
  have HB := Lib.hid hB
  clear hB
  have S2 := Lib.hid ((hs.below (below_new w (.cells #[.slice A l.length c, .pointer (some ⟨g, 0, none⟩)] 64))).below (below_new _ (.cells (cells9 0 0 zero6 none 0 0) 28)))
  have K1 := Lib.hid ((Blk.new w 64 #[.slice A l.length c, .pointer (some ⟨g, 0, none⟩)]).alloc (.cells (cells9 0 0 zero6 none 0 0) 28))
  have K2 := Lib.hid (Blk.new (w.alloc (.cells #[.slice A l.length c, .pointer (some ⟨g, 0, none⟩)] 64)) 28 (cells9 0 0 zero6 none 0 0))
  have O2 := Lib.hid (((Only.refl g w).alloc (.cells #[.slice A l.length c, .pointer (some ⟨g, 0, none⟩)] 64)).alloc (.cells (cells9 0 0 zero6 none 0 0) 28))
  have hz : Hid ((w.alloc (.cells #[.slice A l.length c, .pointer (some ⟨g, 0, none⟩)] 64)).heap.size = w.heap.size + 1) := by show _ = _; go_size
  rw [hz.out] at K2
  clear hs hp hA hn HLESS
  have d2 := K1.out.c2
  go_enter Tryz.func36, Tryz.ntmps36
  go_wp2_with fail
  refine (CP.out _ S2.out).mono ?_
  rintro r w2 ⟨rfl, b2⟩
  have TS := Lib.hid ((S2.out.below b2).below (below_new w2 (.cells #[.int .i64 1, .string tt, .int .i64 tv, .int .i64 tp] 109)))
  have TK1 := Lib.hid ((K1.out.below' b2).alloc (.cells #[.int .i64 1, .string tt, .int .i64 tv, .int .i64 tp] 109))
  have TK2 := Lib.hid ((K2.out.below' b2).alloc (.cells #[.int .i64 1, .string tt, .int .i64 tv, .int .i64 tp] 109))
  have TO := Lib.hid ((O2.out.then_below b2).alloc (.cells #[.int .i64 1, .string tt, .int .i64 tv, .int .i64 tp] 109))
  have KT := Lib.hid (Blk.new w2 109 #[.int .i64 1, .string tt, .int .i64 tv, .int .i64 tp])
  clear b2 d2 S2 K1 K2 O2 hz
  have d4 := KT.out.c4
  have d2 := TK1.out.c2
  go_wp2_with fail
  generalize w2.alloc (.cells #[.int .i64 1, .string tt, .int .i64 tv, .int .i64 tp] 109) = w3 at *
  refine (CO.out _).mono ?_
  rintro r w4 ⟨rfl, b4⟩
  have S4 := Lib.hid (TS.out.below b4)
  have K14 := Lib.hid (TK1.out.below' b4)
  have K24 := Lib.hid (TK2.out.below' b4)
  have O4 := Lib.hid (TO.out.then_below b4)
  clear b4 d2 d4 TS TK1 TK2 TO KT
  have d2 := K14.out.c2
  have lp := K14.out.lt
  go_wp2_with fail
  
  have E6 : Hid (XMid 64 28 113 109 w (w4.alloc (.cells #[.int .i64 3, .int .i64 0, .int .i64 0, .int .i64 0, .int .i64 0, .int .i64 0, .int .i64 0, .int .i64 0, .slice none 0 0] 28)) g w4.heap.size #[.slice A l.length c, .pointer (some ⟨g, 0, none⟩)] 3 0 zero6 none 0 d [] L 0) := mid_new S4.out K14.out K24.out O4.out hg 3 d
  generalize w4.alloc (.cells #[.int .i64 3, .int .i64 0, .int .i64 0, .int .i64 0, .int .i64 0, .int .i64 0, .int .i64 0, .int .i64 0, .slice none 0 0] 28) = w6 at *
  generalize w4.heap.size = q at *
  clear S4 K14 K24 O4 d2 lp
  
  refine (CN.out _ E6.out.scan).mono ?_
  rintro r w7 ⟨rfl, s7, o7⟩
  have E7 := Lib.hid (E6.out.step s7 o7)
  clear s7 o7 E6
  have d2 := E7.out.par.c2
  go_wp2_with fail
  refine (CX.out _ E7.out.scan).mono ?_
  rintro r w8 ⟨rfl, s8, o8⟩
  have E8 := Lib.hid (E7.out.step s8 o8)
  clear s8 o8 E7 d2
  obtain ⟨j0, hj0, hj1, hj2, hj3⟩ := info_parts expr_info9
  have hxq := E8.out.far
  go_upto_region 13 with fail
  go_cut [43] from 38 (fun s wx => ∃ (ta : Tree) (b2 c2 : Nat), s = .slice (some ⟨b2, 0, none⟩) 1 c2 ∧ Hid (xF d ta = ax) ∧ Hid (XMid 64 28 113 109 w wx g q #[.slice A l.length c, .pointer (some ⟨g, 0, none⟩)] 3 0 zero6 (some ⟨b2, 0, none⟩) c2 d [ta] aL ae))
  case first =>
    have ED := Lib.hid (E8.out.below ((Below.refl _ _).drew))
    have HAW := E8.out.par.c2
    have HAD := ED.out.par.c2
    have lpar := ED.out.par.lt
    have kq : w8.drew.cell? ⟨q, 8, none⟩ = some (.slice none 0 0) := ED.out.box.cell 8
    have lq := ED.out.box.lt
    refine wp_region_held_drew (S := fun W => W.cell? ⟨w.heap.size, 0, none⟩ = some (.slice A l.length c) ∧ W.cell? ⟨w.heap.size, 1, none⟩ = some (.pointer (some ⟨g, 0, none⟩))) (by kernel_rfl) ?_ (fun hHeld => ?_)
    · (try dsimp only)
      first | with_reducible exact HAD | with_reducible exact HAW | go_keep
    refine wpAnyH_take (i := 0) (v := ?v0_3101) rfl (by kernel_rfl) (by kernel_rfl) (by kernel_rfl) (fun _ _ _ h => h) (Or.inl ⟨by rfl, ?h0_3101⟩) (by assumption) ?r0_3101
    case h0_3101 => intro w hSw; (try dsimp only at hSw); go_simp; try with_reducible rfl
    try simp only [Act.put, List.setIfInBounds_toArray, List.set_cons_zero, List.set_cons_succ]
    refine wpAnyH_take (i := 2) (v := ?v2_3102) rfl (by kernel_rfl) (by kernel_rfl) (by kernel_rfl) (fun _ _ _ h => h) (Or.inl ⟨by rfl, ?h2_3102⟩) (by assumption) ?r2_3102
    case h2_3102 => intro w hSw; (try dsimp only at hSw); go_simp; try with_reducible rfl
    try simp only [Act.put, List.setIfInBounds_toArray, List.set_cons_zero, List.set_cons_succ]
    refine wpAnyH_ready (rs := [1, 3]) (by kernel_rfl) (by simp) ?_
    refine AllReadyH.cons (o := ?o1_3103) ?ho1_3103 (fun KK hKK => ?st1_3103) ?mo1_3103
    case ho1_3103 => (simp only [List.getElem?_toArray, List.getElem?_cons_succ, List.getElem?_cons_zero]; rfl)
    case st1_3103 =>
      go_simp
      refine hKK.out _ _ ?_ (fun hHeld2 => ?_)
      · (try dsimp only)
        first | with_reducible exact HA12 | with_reducible exact HA10 | with_reducible exact HA9 | with_reducible exact HAD | go_keep
      clear hKK KK hHeld
      have hHeld := hHeld2
      clear hHeld2
      try simp only [Act.put, List.setIfInBounds_toArray, List.set_cons_zero, List.set_cons_succ]
      refine wpAnyH_ready (rs := [3]) (by kernel_rfl) (by simp) ?_
      refine AllReadyH.cons (o := ?o3_3104) ?ho3_3104 (fun KK hKK => ?st3_3104) ?mo3_3104
      case ho3_3104 => (simp only [List.getElem?_toArray, List.getElem?_cons_succ, List.getElem?_cons_zero]; rfl)
      case st3_3104 =>
        (go_simp; go_at_call 77; refine (HA1.out _ ED.out.only ED.out.scan).mono ?_; rintro r w9 ⟨ta, rfl, hx9, hi9, s9, o9⟩; have HX := Lib.hid hx9; have E9 := Lib.hid (ED.out.step s9 o9); have HI := Lib.hid hi9; clear s9 o9 hx9 hi9; have HA9 := E9.out.par.c2; have lp9 := E9.out.par.lt; have kq9 : w9.cell? ⟨q, 8, none⟩ = some (.slice none 0 0) := E9.out.box.cell 8; have lq9 := E9.out.box.lt; obtain ⟨op9, p9, v9, B9, cb9, ks9⟩ := ta; dsimp only [Tree.val, Tree.op, Tree.want, Tree.value, Tree.a, Tree.c, Tree.args])
        refine hKK.out _ _ ?_ (fun hHeld2 => ?_)
        · (try dsimp only)
          first | with_reducible exact HA12 | with_reducible exact HA10 | with_reducible exact HA9 | with_reducible exact HAD | go_keep
        clear hKK KK hHeld
        have hHeld := hHeld2
        clear hHeld2
        try simp only [Act.put, List.setIfInBounds_toArray, List.set_cons_zero, List.set_cons_succ]
        refine wpAnyH_ready (rs := [4]) (by kernel_rfl) (by simp) ?_
        refine AllReadyH.cons (o := ?o4_3105) ?ho4_3105 (fun KK hKK => ?st4_3105) ?mo4_3105
        case ho4_3105 => (simp only [List.getElem?_toArray, List.getElem?_cons_succ, List.getElem?_cons_zero]; rfl)
        case st4_3105 =>
          go_simp
          refine hKK.out _ _ ?_ (fun hHeld2 => ?_)
          · (try dsimp only)
            first | with_reducible exact HA12 | with_reducible exact HA10 | with_reducible exact HA9 | with_reducible exact HAD | go_keep
          clear hKK KK hHeld
          have hHeld := hHeld2
          clear hHeld2
          try simp only [Act.put, List.setIfInBounds_toArray, List.set_cons_zero, List.set_cons_succ]
          refine wpAnyH_ready (rs := [5]) (by kernel_rfl) (by simp) ?_
          refine AllReadyH.cons (o := ?o5_3106) ?ho5_3106 (fun KK hKK => ?st5_3106) ?mo5_3106
          case ho5_3106 => (simp only [List.getElem?_toArray, List.getElem?_cons_succ, List.getElem?_cons_zero]; rfl)
          case st5_3106 =>
            (have E11 := Lib.hid (E9.out.below (below_new w9 (.cells (Tree.mk op9 p9 v9 B9 cb9 ks9).cells.toArray 28))); refine step_append_lies _ rfl (.tmp 39) (.tmp 42) _ rfl (q + 1) 28 j0 _ 9 88 Tryz.underlying26 hj0 hj1 hj2 hj3 rfl (by decide) (.slice none 0 0) 0 (([] : List Tree).flatMap Tree.cells) rfl E11.out.own ⟨w9.heap.size, 0, none⟩ 1 1 (Tree.mk op9 p9 v9 B9 cb9 ks9).cells rfl rfl (tree_new w9 28 (Tree.mk op9 p9 v9 B9 cb9 ks9)) (tree_cell1 (Tree.mk op9 p9 v9 B9 cb9 ks9)) (by decide) (by decide) (by decide) (by simp; omega) _ rfl ?_; intro b2 c2 w10 hown hgrow hat hlt; have KG := E11.out.box.grown hgrow (E11.out.row_ne (Nat.le_refl _)).symm; have E12 : Hid (XMid 64 28 113 109 w (w10.setCell ⟨q, 8, none⟩ (.slice (some ⟨b2, 0, none⟩) 1 c2)) g q #[.slice A l.length c, .pointer (some ⟨g, 0, none⟩)] 3 0 zero6 (some ⟨b2, 0, none⟩) c2 d [(Tree.mk op9 p9 v9 B9 cb9 ks9)] aL ae) := (E11.out.grow (by decide) (by decide) (Tree.mk op9 p9 v9 B9 cb9 ks9) (ED.out.fit (HI.out.below (below_new w9 (.cells (Tree.mk op9 p9 v9 B9 cb9 ks9).cells.toArray 28)))) hgrow hown hat); have HA10 := (E11.out.par.grown hgrow (E11.out.row_ne (by have := E11.out.far; omega)).symm).c2; have HA12 := E12.out.par.c2; have kq10 : w10.cell? ⟨q, 8, none⟩ = some (.slice none 0 0) := KG.cell 8; have lq10 := KG.lt; have kf10 := KG.free 8; clear hown hgrow hat)
            refine hKK.out _ _ ?_ (fun hHeld2 => ?_)
            · (try dsimp only)
              first | with_reducible exact HA12 | with_reducible exact HA10 | with_reducible exact HA9 | with_reducible exact HAD | go_keep
            clear hKK KK hHeld
            have hHeld := hHeld2
            clear hHeld2
            try simp only [Act.put, List.setIfInBounds_toArray, List.set_cons_zero, List.set_cons_succ]
            refine wpAnyH_take (i := 6) (v := ?v6_3107) rfl (by kernel_rfl) (by kernel_rfl) (by kernel_rfl) (fun _ _ _ h => h) (Or.inl ⟨by rfl, ?h6_3107⟩) (by assumption) ?r6_3107
            case h6_3107 => intro w hSw; (try dsimp only at hSw); go_simp; try with_reducible rfl
            try simp only [Act.put, List.setIfInBounds_toArray, List.set_cons_zero, List.set_cons_succ]
            refine wpAnyH_ready (rs := [7]) (by kernel_rfl) (by simp) ?_
            refine AllReadyH.cons (o := ?o7_3108) ?ho7_3108 (fun KK hKK => ?st7_3108) ?mo7_3108
            case ho7_3108 => (simp only [List.getElem?_toArray, List.getElem?_cons_succ, List.getElem?_cons_zero]; rfl)
            case st7_3108 =>
              go_simp
              refine hKK.out _ _ ?_ (fun hHeld2 => ?_)
              · (try dsimp only)
                first | with_reducible exact HA12 | with_reducible exact HA10 | with_reducible exact HA9 | with_reducible exact HAD | go_keep
              clear hKK KK hHeld
              have hHeld := hHeld2
              clear hHeld2
              try simp only [Act.put, List.setIfInBounds_toArray, List.set_cons_zero, List.set_cons_succ]
              refine wpAnyH_done (by kernel_rfl) ?_ _
              go_wp2_with fail
              go_meet
              exact ⟨.mk op9 p9 v9 B9 cb9 ks9, b2, c2, rfl, HX, E12⟩
            case mo7_3108 =>
              exact AllReadyH.nil
          case mo5_3106 =>
            exact AllReadyH.nil
        case mo4_3105 =>
          exact AllReadyH.nil
      case mo3_3104 =>
        exact AllReadyH.nil
    case mo1_3103 =>
      refine AllReadyH.cons (o := ?o3_3109) ?ho3_3109 (fun KK hKK => ?st3_3109) ?mo3_3109
      case ho3_3109 => (simp only [List.getElem?_toArray, List.getElem?_cons_succ, List.getElem?_cons_zero]; rfl)
      case st3_3109 =>
        (go_simp; go_at_call 77; refine (HA1.out _ ED.out.only ED.out.scan).mono ?_; rintro r w9 ⟨ta, rfl, hx9, hi9, s9, o9⟩; have HX := Lib.hid hx9; have E9 := Lib.hid (ED.out.step s9 o9); have HI := Lib.hid hi9; clear s9 o9 hx9 hi9; have HA9 := E9.out.par.c2; have lp9 := E9.out.par.lt; have kq9 : w9.cell? ⟨q, 8, none⟩ = some (.slice none 0 0) := E9.out.box.cell 8; have lq9 := E9.out.box.lt; obtain ⟨op9, p9, v9, B9, cb9, ks9⟩ := ta; dsimp only [Tree.val, Tree.op, Tree.want, Tree.value, Tree.a, Tree.c, Tree.args])
        refine hKK.out _ _ ?_ (fun hHeld2 => ?_)
        · (try dsimp only)
          first | with_reducible exact HA12 | with_reducible exact HA10 | with_reducible exact HA9 | with_reducible exact HAD | go_keep
        clear hKK KK hHeld
        have hHeld := hHeld2
        clear hHeld2
        try simp only [Act.put, List.setIfInBounds_toArray, List.set_cons_zero, List.set_cons_succ]
        refine wpAnyH_ready (rs := [1, 4]) (by kernel_rfl) (by simp) ?_
        refine AllReadyH.cons (o := ?o1_3110) ?ho1_3110 (fun KK hKK => ?st1_3110) ?mo1_3110
        case ho1_3110 => (simp only [List.getElem?_toArray, List.getElem?_cons_succ, List.getElem?_cons_zero]; rfl)
        case st1_3110 =>
          go_simp
          refine hKK.out _ _ ?_ (fun hHeld2 => ?_)
          · (try dsimp only)
            first | with_reducible exact HA12 | with_reducible exact HA10 | with_reducible exact HA9 | with_reducible exact HAD | go_keep
          clear hKK KK hHeld
          have hHeld := hHeld2
          clear hHeld2
          try simp only [Act.put, List.setIfInBounds_toArray, List.set_cons_zero, List.set_cons_succ]
          refine wpAnyH_ready (rs := [4]) (by kernel_rfl) (by simp) ?_
          refine AllReadyH.cons (o := ?o4_3111) ?ho4_3111 (fun KK hKK => ?st4_3111) ?mo4_3111
          case ho4_3111 => (simp only [List.getElem?_toArray, List.getElem?_cons_succ, List.getElem?_cons_zero]; rfl)
          case st4_3111 =>
            go_simp
            refine hKK.out _ _ ?_ (fun hHeld2 => ?_)
            · (try dsimp only)
              first | with_reducible exact HA12 | with_reducible exact HA10 | with_reducible exact HA9 | with_reducible exact HAD | go_keep
            clear hKK KK hHeld
            have hHeld := hHeld2
            clear hHeld2
            try simp only [Act.put, List.setIfInBounds_toArray, List.set_cons_zero, List.set_cons_succ]
            refine wpAnyH_ready (rs := [5]) (by kernel_rfl) (by simp) ?_
            refine AllReadyH.cons (o := ?o5_3112) ?ho5_3112 (fun KK hKK => ?st5_3112) ?mo5_3112
            case ho5_3112 => (simp only [List.getElem?_toArray, List.getElem?_cons_succ, List.getElem?_cons_zero]; rfl)
            case st5_3112 =>
              (have E11 := Lib.hid (E9.out.below (below_new w9 (.cells (Tree.mk op9 p9 v9 B9 cb9 ks9).cells.toArray 28))); refine step_append_lies _ rfl (.tmp 39) (.tmp 42) _ rfl (q + 1) 28 j0 _ 9 88 Tryz.underlying26 hj0 hj1 hj2 hj3 rfl (by decide) (.slice none 0 0) 0 (([] : List Tree).flatMap Tree.cells) rfl E11.out.own ⟨w9.heap.size, 0, none⟩ 1 1 (Tree.mk op9 p9 v9 B9 cb9 ks9).cells rfl rfl (tree_new w9 28 (Tree.mk op9 p9 v9 B9 cb9 ks9)) (tree_cell1 (Tree.mk op9 p9 v9 B9 cb9 ks9)) (by decide) (by decide) (by decide) (by simp; omega) _ rfl ?_; intro b2 c2 w10 hown hgrow hat hlt; have KG := E11.out.box.grown hgrow (E11.out.row_ne (Nat.le_refl _)).symm; have E12 : Hid (XMid 64 28 113 109 w (w10.setCell ⟨q, 8, none⟩ (.slice (some ⟨b2, 0, none⟩) 1 c2)) g q #[.slice A l.length c, .pointer (some ⟨g, 0, none⟩)] 3 0 zero6 (some ⟨b2, 0, none⟩) c2 d [(Tree.mk op9 p9 v9 B9 cb9 ks9)] aL ae) := (E11.out.grow (by decide) (by decide) (Tree.mk op9 p9 v9 B9 cb9 ks9) (ED.out.fit (HI.out.below (below_new w9 (.cells (Tree.mk op9 p9 v9 B9 cb9 ks9).cells.toArray 28)))) hgrow hown hat); have HA10 := (E11.out.par.grown hgrow (E11.out.row_ne (by have := E11.out.far; omega)).symm).c2; have HA12 := E12.out.par.c2; have kq10 : w10.cell? ⟨q, 8, none⟩ = some (.slice none 0 0) := KG.cell 8; have lq10 := KG.lt; have kf10 := KG.free 8; clear hown hgrow hat)
              refine hKK.out _ _ ?_ (fun hHeld2 => ?_)
              · (try dsimp only)
                first | with_reducible exact HA12 | with_reducible exact HA10 | with_reducible exact HA9 | with_reducible exact HAD | go_keep
              clear hKK KK hHeld
              have hHeld := hHeld2
              clear hHeld2
              try simp only [Act.put, List.setIfInBounds_toArray, List.set_cons_zero, List.set_cons_succ]
              refine wpAnyH_take (i := 6) (v := ?v6_3113) rfl (by kernel_rfl) (by kernel_rfl) (by kernel_rfl) (fun _ _ _ h => h) (Or.inl ⟨by rfl, ?h6_3113⟩) (by assumption) ?r6_3113
              case h6_3113 => intro w hSw; (try dsimp only at hSw); go_simp; try with_reducible rfl
              try simp only [Act.put, List.setIfInBounds_toArray, List.set_cons_zero, List.set_cons_succ]
              refine wpAnyH_ready (rs := [7]) (by kernel_rfl) (by simp) ?_
              refine AllReadyH.cons (o := ?o7_3114) ?ho7_3114 (fun KK hKK => ?st7_3114) ?mo7_3114
              case ho7_3114 => (simp only [List.getElem?_toArray, List.getElem?_cons_succ, List.getElem?_cons_zero]; rfl)
              case st7_3114 =>
                go_simp
                refine hKK.out _ _ ?_ (fun hHeld2 => ?_)
                · (try dsimp only)
                  first | with_reducible exact HA12 | with_reducible exact HA10 | with_reducible exact HA9 | with_reducible exact HAD | go_keep
                clear hKK KK hHeld
                have hHeld := hHeld2
                clear hHeld2
                try simp only [Act.put, List.setIfInBounds_toArray, List.set_cons_zero, List.set_cons_succ]
                refine wpAnyH_done (by kernel_rfl) ?_ _
                go_wp2_with fail
                go_meet
                exact ⟨.mk op9 p9 v9 B9 cb9 ks9, b2, c2, rfl, HX, E12⟩
              case mo7_3114 =>
                exact AllReadyH.nil
            case mo5_3112 =>
              exact AllReadyH.nil
          case mo4_3111 =>
            exact AllReadyH.nil
        case mo1_3110 =>
          refine AllReadyH.cons (o := ?o4_3115) ?ho4_3115 (fun KK hKK => ?st4_3115) ?mo4_3115
          case ho4_3115 => (simp only [List.getElem?_toArray, List.getElem?_cons_succ, List.getElem?_cons_zero]; rfl)
          case st4_3115 =>
            go_simp
            refine hKK.out _ _ ?_ (fun hHeld2 => ?_)
            · (try dsimp only)
              first | with_reducible exact HA12 | with_reducible exact HA10 | with_reducible exact HA9 | with_reducible exact HAD | go_keep
            clear hKK KK hHeld
            have hHeld := hHeld2
            clear hHeld2
            try simp only [Act.put, List.setIfInBounds_toArray, List.set_cons_zero, List.set_cons_succ]
            refine wpAnyH_ready (rs := [1]) (by kernel_rfl) (by simp) ?_
            refine AllReadyH.cons (o := ?o1_3116) ?ho1_3116 (fun KK hKK => ?st1_3116) ?mo1_3116
            case ho1_3116 => (simp only [List.getElem?_toArray, List.getElem?_cons_succ, List.getElem?_cons_zero]; rfl)
            case st1_3116 =>
              go_simp
              refine hKK.out _ _ ?_ (fun hHeld2 => ?_)
              · (try dsimp only)
                first | with_reducible exact HA12 | with_reducible exact HA10 | with_reducible exact HA9 | with_reducible exact HAD | go_keep
              clear hKK KK hHeld
              have hHeld := hHeld2
              clear hHeld2
              try simp only [Act.put, List.setIfInBounds_toArray, List.set_cons_zero, List.set_cons_succ]
              refine wpAnyH_ready (rs := [5]) (by kernel_rfl) (by simp) ?_
              refine AllReadyH.cons (o := ?o5_3117) ?ho5_3117 (fun KK hKK => ?st5_3117) ?mo5_3117
              case ho5_3117 => (simp only [List.getElem?_toArray, List.getElem?_cons_succ, List.getElem?_cons_zero]; rfl)
              case st5_3117 =>
                (have E11 := Lib.hid (E9.out.below (below_new w9 (.cells (Tree.mk op9 p9 v9 B9 cb9 ks9).cells.toArray 28))); refine step_append_lies _ rfl (.tmp 39) (.tmp 42) _ rfl (q + 1) 28 j0 _ 9 88 Tryz.underlying26 hj0 hj1 hj2 hj3 rfl (by decide) (.slice none 0 0) 0 (([] : List Tree).flatMap Tree.cells) rfl E11.out.own ⟨w9.heap.size, 0, none⟩ 1 1 (Tree.mk op9 p9 v9 B9 cb9 ks9).cells rfl rfl (tree_new w9 28 (Tree.mk op9 p9 v9 B9 cb9 ks9)) (tree_cell1 (Tree.mk op9 p9 v9 B9 cb9 ks9)) (by decide) (by decide) (by decide) (by simp; omega) _ rfl ?_; intro b2 c2 w10 hown hgrow hat hlt; have KG := E11.out.box.grown hgrow (E11.out.row_ne (Nat.le_refl _)).symm; have E12 : Hid (XMid 64 28 113 109 w (w10.setCell ⟨q, 8, none⟩ (.slice (some ⟨b2, 0, none⟩) 1 c2)) g q #[.slice A l.length c, .pointer (some ⟨g, 0, none⟩)] 3 0 zero6 (some ⟨b2, 0, none⟩) c2 d [(Tree.mk op9 p9 v9 B9 cb9 ks9)] aL ae) := (E11.out.grow (by decide) (by decide) (Tree.mk op9 p9 v9 B9 cb9 ks9) (ED.out.fit (HI.out.below (below_new w9 (.cells (Tree.mk op9 p9 v9 B9 cb9 ks9).cells.toArray 28)))) hgrow hown hat); have HA10 := (E11.out.par.grown hgrow (E11.out.row_ne (by have := E11.out.far; omega)).symm).c2; have HA12 := E12.out.par.c2; have kq10 : w10.cell? ⟨q, 8, none⟩ = some (.slice none 0 0) := KG.cell 8; have lq10 := KG.lt; have kf10 := KG.free 8; clear hown hgrow hat)
                refine hKK.out _ _ ?_ (fun hHeld2 => ?_)
                · (try dsimp only)
                  first | with_reducible exact HA12 | with_reducible exact HA10 | with_reducible exact HA9 | with_reducible exact HAD | go_keep
                clear hKK KK hHeld
                have hHeld := hHeld2
                clear hHeld2
                try simp only [Act.put, List.setIfInBounds_toArray, List.set_cons_zero, List.set_cons_succ]
                refine wpAnyH_take (i := 6) (v := ?v6_3118) rfl (by kernel_rfl) (by kernel_rfl) (by kernel_rfl) (fun _ _ _ h => h) (Or.inl ⟨by rfl, ?h6_3118⟩) (by assumption) ?r6_3118
                case h6_3118 => intro w hSw; (try dsimp only at hSw); go_simp; try with_reducible rfl
                try simp only [Act.put, List.setIfInBounds_toArray, List.set_cons_zero, List.set_cons_succ]
                refine wpAnyH_ready (rs := [7]) (by kernel_rfl) (by simp) ?_
                refine AllReadyH.cons (o := ?o7_3119) ?ho7_3119 (fun KK hKK => ?st7_3119) ?mo7_3119
                case ho7_3119 => (simp only [List.getElem?_toArray, List.getElem?_cons_succ, List.getElem?_cons_zero]; rfl)
                case st7_3119 =>
                  go_simp
                  refine hKK.out _ _ ?_ (fun hHeld2 => ?_)
                  · (try dsimp only)
                    first | with_reducible exact HA12 | with_reducible exact HA10 | with_reducible exact HA9 | with_reducible exact HAD | go_keep
                  clear hKK KK hHeld
                  have hHeld := hHeld2
                  clear hHeld2
                  try simp only [Act.put, List.setIfInBounds_toArray, List.set_cons_zero, List.set_cons_succ]
                  refine wpAnyH_done (by kernel_rfl) ?_ _
                  go_wp2_with fail
                  go_meet
                  exact ⟨.mk op9 p9 v9 B9 cb9 ks9, b2, c2, rfl, HX, E12⟩
                case mo7_3119 =>
                  exact AllReadyH.nil
              case mo5_3117 =>
                exact AllReadyH.nil
            case mo1_3116 =>
              exact AllReadyH.nil
          case mo4_3115 =>
            exact AllReadyH.nil
      case mo3_3109 =>
        exact AllReadyH.nil
  case rest =>
    obtain ⟨ta, b2, c2, rfl, HXa, E20⟩ := hcut
    clear HA1 CN CX CP CO CF E8 hxq
    have hbx : bodyX l f 3 ⟨ax, aL, ae⟩ = closeX ⟨.mk 3 (n6 zero6) 0 (moreF f (aL.length + 1) ⟨[ax], aL, ae⟩).xs, (moreF f (aL.length + 1) ⟨[ax], aL, ae⟩).L, (moreF f (aL.length + 1) ⟨[ax], aL, ae⟩).e⟩ := by
      unfold bodyX
      rw [if_pos (by decide)]
    have HB2 := Lib.hid (HB.out.symm.trans hbx)
    clear hbx HB
    have HF0 : Hid (moreF f (aL.length + 1) ⟨[ta].map (xF d), aL, ae⟩ = moreF f (aL.length + 1) ⟨[ax], aL, ae⟩) := by
      show _ = _
      rw [← HXa.out]
      rfl
    generalize moreF f (aL.length + 1) ⟨[ax], aL, ae⟩ = fin at *
    have CAY := Lib.hid fun W L' e' (h : Scan 113 109 W g L' e') (hm' : L'.length ≤ 5000) (k : accB L' e' ⟨#[44]⟩) => accept_yes L' e' g ⟨#[44]⟩ W h (small_len hm') k
    have CAN := Lib.hid fun W L' e' (h : Scan 113 109 W g L' e') (hm' : L'.length ≤ 5000) (k : ¬ accB L' e' ⟨#[44]⟩) => accept_no L' e' g ⟨#[44]⟩ W h (small_len hm') k
    go_wp2_with fail
    go_loopg [] (aL.length + 1) (fun fk wr => ∃ (Aq : Option Addr) (cq : Nat) (ks : List Tree) (L9 : List Tok) (e9 : Int), Hid (XMid 64 28 113 109 w wr g q #[.slice A l.length c, .pointer (some ⟨g, 0, none⟩)] 3 0 zero6 Aq cq d ks L9 e9) ∧ Hid (moreF f fk ⟨ks.map (xF d), L9, e9⟩ = fin) ∧ L9.length < fk ∧ ks.length + L9.length ≤ 5001 ∧ L9.length ≤ aL.length)
    case atStart => exact ⟨_, _, [ta], aL, ae, E20, HF0, by omega, by simp; omega, Nat.le_refl _⟩
    case round =>
      obtain ⟨Aq, cq, ks, L9, e9, E, HF, hk1, hk2, hk3⟩ := hrel
      obtain ⟨fk, rfl⟩ : ∃ fk, gk = fk + 1 := ⟨gk - 1, by omega⟩
      clear E20
      have d2 := E.out.par.c2
      have lpr := E.out.par.lt
      by_cases hk : accB L9 e9 ⟨#[44]⟩
      · have HF2 := Lib.hid (show moreF f fk ⟨ks.map (xF d) ++ [(argX f (nextL L9 e9) e9).x], (argX f (nextL L9 e9) e9).L, (argX f (nextL L9 e9) e9).e⟩ = fin by rw [← HF.out]; conv => (rhs; unfold moreF); rw [if_pos hk])
        have hnx := acc_next hk
        have C1 := Lib.hid (fun W h => CAY.out W L9 e9 h (by omega) hk)
        have HA2 := Lib.hid fun W k h => HARG.out (nextL L9 e9) e9 W (fun _ => by omega) k h
        have hal2 := argX_len hf (nextL L9 e9) e9
        clear hk HF
        generalize nextL L9 e9 = Ln2 at *
        generalize argX f Ln2 e9 = a2 at *
        obtain ⟨ax2, aL2, ae2⟩ := a2
        dsimp only at hal2 HF2
        go_wp2_with fail
        refine (C1.out _ E.out.scan).mono ?_
        rintro r w17 ⟨rfl, s7, o7⟩
        have E7 := Lib.hid (E.out.step s7 o7)
        clear s7 o7 d2 lpr E
        have hxq := E7.out.far
        go_upto_region 18 with fail
        have ED := Lib.hid (E7.out.below ((Below.refl _ _).drew))
        have HAW := E7.out.par.c2
        have HAD := ED.out.par.c2
        have lpar := ED.out.par.lt
        have kq : w17.drew.cell? ⟨q, 8, none⟩ = some (.slice Aq ks.length cq) := ED.out.box.cell 8
        have lq := ED.out.box.lt
        refine wp_region_held_drew (S := fun W => W.cell? ⟨w.heap.size, 0, none⟩ = some (.slice A l.length c) ∧ W.cell? ⟨w.heap.size, 1, none⟩ = some (.pointer (some ⟨g, 0, none⟩))) (by kernel_rfl) ?_ (fun hHeld => ?_)
        · (try dsimp only)
          first | with_reducible exact HAD | with_reducible exact HAW | go_keep
        refine wpAnyH_take (i := 0) (v := ?v0_3501) rfl (by kernel_rfl) (by kernel_rfl) (by kernel_rfl) (fun _ _ _ h => h) (Or.inl ⟨by rfl, ?h0_3501⟩) (by assumption) ?r0_3501
        case h0_3501 => intro w hSw; (try dsimp only at hSw); go_simp; try with_reducible rfl
        try simp only [Act.put, List.setIfInBounds_toArray, List.set_cons_zero, List.set_cons_succ]
        refine wpAnyH_take (i := 2) (v := ?v2_3502) rfl (by kernel_rfl) (by kernel_rfl) (by kernel_rfl) (fun _ _ _ h => h) (Or.inl ⟨by rfl, ?h2_3502⟩) (by assumption) ?r2_3502
        case h2_3502 => intro w hSw; (try dsimp only at hSw); go_simp; try with_reducible rfl
        try simp only [Act.put, List.setIfInBounds_toArray, List.set_cons_zero, List.set_cons_succ]
        refine wpAnyH_ready (rs := [1, 3]) (by kernel_rfl) (by simp) ?_
        refine AllReadyH.cons (o := ?o1_3503) ?ho1_3503 (fun KK hKK => ?st1_3503) ?mo1_3503
        case ho1_3503 => (simp only [List.getElem?_toArray, List.getElem?_cons_succ, List.getElem?_cons_zero]; rfl)
        case st1_3503 =>
          go_simp
          refine hKK.out _ _ ?_ (fun hHeld2 => ?_)
          · (try dsimp only)
            first | with_reducible exact HA12 | with_reducible exact HA10 | with_reducible exact HA9 | with_reducible exact HAD | go_keep
          clear hKK KK hHeld
          have hHeld := hHeld2
          clear hHeld2
          try simp only [Act.put, List.setIfInBounds_toArray, List.set_cons_zero, List.set_cons_succ]
          refine wpAnyH_ready (rs := [3]) (by kernel_rfl) (by simp) ?_
          refine AllReadyH.cons (o := ?o3_3504) ?ho3_3504 (fun KK hKK => ?st3_3504) ?mo3_3504
          case ho3_3504 => (simp only [List.getElem?_toArray, List.getElem?_cons_succ, List.getElem?_cons_zero]; rfl)
          case st3_3504 =>
            (go_simp; go_at_call 77; refine (HA2.out _ ED.out.only ED.out.scan).mono ?_; rintro r w9 ⟨ta, rfl, hx9, hi9, s9, o9⟩; have HX := Lib.hid hx9; have E9 := Lib.hid (ED.out.step s9 o9); have HI := Lib.hid hi9; clear s9 o9 hx9 hi9; have HA9 := E9.out.par.c2; have lp9 := E9.out.par.lt; have kq9 : w9.cell? ⟨q, 8, none⟩ = some (.slice Aq ks.length cq) := E9.out.box.cell 8; have lq9 := E9.out.box.lt; obtain ⟨op9, p9, v9, B9, cb9, ks9⟩ := ta; dsimp only [Tree.val, Tree.op, Tree.want, Tree.value, Tree.a, Tree.c, Tree.args])
            refine hKK.out _ _ ?_ (fun hHeld2 => ?_)
            · (try dsimp only)
              first | with_reducible exact HA12 | with_reducible exact HA10 | with_reducible exact HA9 | with_reducible exact HAD | go_keep
            clear hKK KK hHeld
            have hHeld := hHeld2
            clear hHeld2
            try simp only [Act.put, List.setIfInBounds_toArray, List.set_cons_zero, List.set_cons_succ]
            refine wpAnyH_ready (rs := [4]) (by kernel_rfl) (by simp) ?_
            refine AllReadyH.cons (o := ?o4_3505) ?ho4_3505 (fun KK hKK => ?st4_3505) ?mo4_3505
            case ho4_3505 => (simp only [List.getElem?_toArray, List.getElem?_cons_succ, List.getElem?_cons_zero]; rfl)
            case st4_3505 =>
              go_simp
              refine hKK.out _ _ ?_ (fun hHeld2 => ?_)
              · (try dsimp only)
                first | with_reducible exact HA12 | with_reducible exact HA10 | with_reducible exact HA9 | with_reducible exact HAD | go_keep
              clear hKK KK hHeld
              have hHeld := hHeld2
              clear hHeld2
              try simp only [Act.put, List.setIfInBounds_toArray, List.set_cons_zero, List.set_cons_succ]
              refine wpAnyH_ready (rs := [5]) (by kernel_rfl) (by simp) ?_
              refine AllReadyH.cons (o := ?o5_3506) ?ho5_3506 (fun KK hKK => ?st5_3506) ?mo5_3506
              case ho5_3506 => (simp only [List.getElem?_toArray, List.getElem?_cons_succ, List.getElem?_cons_zero]; rfl)
              case st5_3506 =>
                (have E11 := Lib.hid (E9.out.below (below_new w9 (.cells (Tree.mk op9 p9 v9 B9 cb9 ks9).cells.toArray 28))); refine step_append_lies _ rfl (.tmp 53) (.tmp 56) _ rfl (q + 1) 28 j0 _ 9 88 Tryz.underlying26 hj0 hj1 hj2 hj3 rfl (by decide) (.slice Aq ks.length cq) ks.length (ks.flatMap Tree.cells) rfl E11.out.own ⟨w9.heap.size, 0, none⟩ 1 1 (Tree.mk op9 p9 v9 B9 cb9 ks9).cells rfl rfl (tree_new w9 28 (Tree.mk op9 p9 v9 B9 cb9 ks9)) (tree_cell1 (Tree.mk op9 p9 v9 B9 cb9 ks9)) (by decide) (by unfold maxLen; omega) (by omega) (by simp; omega) _ rfl ?_; intro b2 c2 w10 hown hgrow hat hlt; have KG := E11.out.box.grown hgrow (E11.out.row_ne (Nat.le_refl _)).symm; have E12 : Hid (XMid 64 28 113 109 w (w10.setCell ⟨q, 8, none⟩ (.slice (some ⟨b2, 0, none⟩) (ks.length + 1) c2)) g q #[.slice A l.length c, .pointer (some ⟨g, 0, none⟩)] 3 0 zero6 (some ⟨b2, 0, none⟩) c2 d (ks ++ [(Tree.mk op9 p9 v9 B9 cb9 ks9)]) aL2 ae2) := (E11.out.grow (by decide) (by decide) (Tree.mk op9 p9 v9 B9 cb9 ks9) (ED.out.fit (HI.out.below (below_new w9 (.cells (Tree.mk op9 p9 v9 B9 cb9 ks9).cells.toArray 28)))) hgrow hown hat); have HA10 := (E11.out.par.grown hgrow (E11.out.row_ne (by have := E11.out.far; omega)).symm).c2; have HA12 := E12.out.par.c2; have kq10 : w10.cell? ⟨q, 8, none⟩ = some (.slice Aq ks.length cq) := KG.cell 8; have lq10 := KG.lt; have kf10 := KG.free 8; clear hown hgrow hat)
                refine hKK.out _ _ ?_ (fun hHeld2 => ?_)
                · (try dsimp only)
                  first | with_reducible exact HA12 | with_reducible exact HA10 | with_reducible exact HA9 | with_reducible exact HAD | go_keep
                clear hKK KK hHeld
                have hHeld := hHeld2
                clear hHeld2
                try simp only [Act.put, List.setIfInBounds_toArray, List.set_cons_zero, List.set_cons_succ]
                refine wpAnyH_take (i := 6) (v := ?v6_3507) rfl (by kernel_rfl) (by kernel_rfl) (by kernel_rfl) (fun _ _ _ h => h) (Or.inl ⟨by rfl, ?h6_3507⟩) (by assumption) ?r6_3507
                case h6_3507 => intro w hSw; (try dsimp only at hSw); go_simp; try with_reducible rfl
                try simp only [Act.put, List.setIfInBounds_toArray, List.set_cons_zero, List.set_cons_succ]
                refine wpAnyH_ready (rs := [7]) (by kernel_rfl) (by simp) ?_
                refine AllReadyH.cons (o := ?o7_3508) ?ho7_3508 (fun KK hKK => ?st7_3508) ?mo7_3508
                case ho7_3508 => (simp only [List.getElem?_toArray, List.getElem?_cons_succ, List.getElem?_cons_zero]; rfl)
                case st7_3508 =>
                  go_simp
                  refine hKK.out _ _ ?_ (fun hHeld2 => ?_)
                  · (try dsimp only)
                    first | with_reducible exact HA12 | with_reducible exact HA10 | with_reducible exact HA9 | with_reducible exact HAD | go_keep
                  clear hKK KK hHeld
                  have hHeld := hHeld2
                  clear hHeld2
                  try simp only [Act.put, List.setIfInBounds_toArray, List.set_cons_zero, List.set_cons_succ]
                  refine wpAnyH_done (by kernel_rfl) ?_ _
                  go_wp2_with fail
                  go_roundg fk
                  case measure => omega
                  case rel => exact ⟨_, _, ks ++ [.mk op9 p9 v9 B9 cb9 ks9], aL2, ae2, E12, by rw [List.map_append, List.map_cons, List.map_nil, HX.out]; exact HF2, by omega, by simp; omega, by omega⟩
                case mo7_3508 =>
                  exact AllReadyH.nil
              case mo5_3506 =>
                exact AllReadyH.nil
            case mo4_3505 =>
              exact AllReadyH.nil
          case mo3_3504 =>
            exact AllReadyH.nil
        case mo1_3503 =>
          refine AllReadyH.cons (o := ?o3_3509) ?ho3_3509 (fun KK hKK => ?st3_3509) ?mo3_3509
          case ho3_3509 => (simp only [List.getElem?_toArray, List.getElem?_cons_succ, List.getElem?_cons_zero]; rfl)
          case st3_3509 =>
            (go_simp; go_at_call 77; refine (HA2.out _ ED.out.only ED.out.scan).mono ?_; rintro r w9 ⟨ta, rfl, hx9, hi9, s9, o9⟩; have HX := Lib.hid hx9; have E9 := Lib.hid (ED.out.step s9 o9); have HI := Lib.hid hi9; clear s9 o9 hx9 hi9; have HA9 := E9.out.par.c2; have lp9 := E9.out.par.lt; have kq9 : w9.cell? ⟨q, 8, none⟩ = some (.slice Aq ks.length cq) := E9.out.box.cell 8; have lq9 := E9.out.box.lt; obtain ⟨op9, p9, v9, B9, cb9, ks9⟩ := ta; dsimp only [Tree.val, Tree.op, Tree.want, Tree.value, Tree.a, Tree.c, Tree.args])
            refine hKK.out _ _ ?_ (fun hHeld2 => ?_)
            · (try dsimp only)
              first | with_reducible exact HA12 | with_reducible exact HA10 | with_reducible exact HA9 | with_reducible exact HAD | go_keep
            clear hKK KK hHeld
            have hHeld := hHeld2
            clear hHeld2
            try simp only [Act.put, List.setIfInBounds_toArray, List.set_cons_zero, List.set_cons_succ]
            refine wpAnyH_ready (rs := [1, 4]) (by kernel_rfl) (by simp) ?_
            refine AllReadyH.cons (o := ?o1_3510) ?ho1_3510 (fun KK hKK => ?st1_3510) ?mo1_3510
            case ho1_3510 => (simp only [List.getElem?_toArray, List.getElem?_cons_succ, List.getElem?_cons_zero]; rfl)
            case st1_3510 =>
              go_simp
              refine hKK.out _ _ ?_ (fun hHeld2 => ?_)
              · (try dsimp only)
                first | with_reducible exact HA12 | with_reducible exact HA10 | with_reducible exact HA9 | with_reducible exact HAD | go_keep
              clear hKK KK hHeld
              have hHeld := hHeld2
              clear hHeld2
              try simp only [Act.put, List.setIfInBounds_toArray, List.set_cons_zero, List.set_cons_succ]
              refine wpAnyH_ready (rs := [4]) (by kernel_rfl) (by simp) ?_
              refine AllReadyH.cons (o := ?o4_3511) ?ho4_3511 (fun KK hKK => ?st4_3511) ?mo4_3511
              case ho4_3511 => (simp only [List.getElem?_toArray, List.getElem?_cons_succ, List.getElem?_cons_zero]; rfl)
              case st4_3511 =>
                go_simp
                refine hKK.out _ _ ?_ (fun hHeld2 => ?_)
                · (try dsimp only)
                  first | with_reducible exact HA12 | with_reducible exact HA10 | with_reducible exact HA9 | with_reducible exact HAD | go_keep
                clear hKK KK hHeld
                have hHeld := hHeld2
                clear hHeld2
                try simp only [Act.put, List.setIfInBounds_toArray, List.set_cons_zero, List.set_cons_succ]
                refine wpAnyH_ready (rs := [5]) (by kernel_rfl) (by simp) ?_
                refine AllReadyH.cons (o := ?o5_3512) ?ho5_3512 (fun KK hKK => ?st5_3512) ?mo5_3512
                case ho5_3512 => (simp only [List.getElem?_toArray, List.getElem?_cons_succ, List.getElem?_cons_zero]; rfl)
                case st5_3512 =>
                  (have E11 := Lib.hid (E9.out.below (below_new w9 (.cells (Tree.mk op9 p9 v9 B9 cb9 ks9).cells.toArray 28))); refine step_append_lies _ rfl (.tmp 53) (.tmp 56) _ rfl (q + 1) 28 j0 _ 9 88 Tryz.underlying26 hj0 hj1 hj2 hj3 rfl (by decide) (.slice Aq ks.length cq) ks.length (ks.flatMap Tree.cells) rfl E11.out.own ⟨w9.heap.size, 0, none⟩ 1 1 (Tree.mk op9 p9 v9 B9 cb9 ks9).cells rfl rfl (tree_new w9 28 (Tree.mk op9 p9 v9 B9 cb9 ks9)) (tree_cell1 (Tree.mk op9 p9 v9 B9 cb9 ks9)) (by decide) (by unfold maxLen; omega) (by omega) (by simp; omega) _ rfl ?_; intro b2 c2 w10 hown hgrow hat hlt; have KG := E11.out.box.grown hgrow (E11.out.row_ne (Nat.le_refl _)).symm; have E12 : Hid (XMid 64 28 113 109 w (w10.setCell ⟨q, 8, none⟩ (.slice (some ⟨b2, 0, none⟩) (ks.length + 1) c2)) g q #[.slice A l.length c, .pointer (some ⟨g, 0, none⟩)] 3 0 zero6 (some ⟨b2, 0, none⟩) c2 d (ks ++ [(Tree.mk op9 p9 v9 B9 cb9 ks9)]) aL2 ae2) := (E11.out.grow (by decide) (by decide) (Tree.mk op9 p9 v9 B9 cb9 ks9) (ED.out.fit (HI.out.below (below_new w9 (.cells (Tree.mk op9 p9 v9 B9 cb9 ks9).cells.toArray 28)))) hgrow hown hat); have HA10 := (E11.out.par.grown hgrow (E11.out.row_ne (by have := E11.out.far; omega)).symm).c2; have HA12 := E12.out.par.c2; have kq10 : w10.cell? ⟨q, 8, none⟩ = some (.slice Aq ks.length cq) := KG.cell 8; have lq10 := KG.lt; have kf10 := KG.free 8; clear hown hgrow hat)
                  refine hKK.out _ _ ?_ (fun hHeld2 => ?_)
                  · (try dsimp only)
                    first | with_reducible exact HA12 | with_reducible exact HA10 | with_reducible exact HA9 | with_reducible exact HAD | go_keep
                  clear hKK KK hHeld
                  have hHeld := hHeld2
                  clear hHeld2
                  try simp only [Act.put, List.setIfInBounds_toArray, List.set_cons_zero, List.set_cons_succ]
                  refine wpAnyH_take (i := 6) (v := ?v6_3513) rfl (by kernel_rfl) (by kernel_rfl) (by kernel_rfl) (fun _ _ _ h => h) (Or.inl ⟨by rfl, ?h6_3513⟩) (by assumption) ?r6_3513
                  case h6_3513 => intro w hSw; (try dsimp only at hSw); go_simp; try with_reducible rfl
                  try simp only [Act.put, List.setIfInBounds_toArray, List.set_cons_zero, List.set_cons_succ]
                  refine wpAnyH_ready (rs := [7]) (by kernel_rfl) (by simp) ?_
                  refine AllReadyH.cons (o := ?o7_3514) ?ho7_3514 (fun KK hKK => ?st7_3514) ?mo7_3514
                  case ho7_3514 => (simp only [List.getElem?_toArray, List.getElem?_cons_succ, List.getElem?_cons_zero]; rfl)
                  case st7_3514 =>
                    go_simp
                    refine hKK.out _ _ ?_ (fun hHeld2 => ?_)
                    · (try dsimp only)
                      first | with_reducible exact HA12 | with_reducible exact HA10 | with_reducible exact HA9 | with_reducible exact HAD | go_keep
                    clear hKK KK hHeld
                    have hHeld := hHeld2
                    clear hHeld2
                    try simp only [Act.put, List.setIfInBounds_toArray, List.set_cons_zero, List.set_cons_succ]
                    refine wpAnyH_done (by kernel_rfl) ?_ _
                    go_wp2_with fail
                    go_roundg fk
                    case measure => omega
                    case rel => exact ⟨_, _, ks ++ [.mk op9 p9 v9 B9 cb9 ks9], aL2, ae2, E12, by rw [List.map_append, List.map_cons, List.map_nil, HX.out]; exact HF2, by omega, by simp; omega, by omega⟩
                  case mo7_3514 =>
                    exact AllReadyH.nil
                case mo5_3512 =>
                  exact AllReadyH.nil
              case mo4_3511 =>
                exact AllReadyH.nil
            case mo1_3510 =>
              refine AllReadyH.cons (o := ?o4_3515) ?ho4_3515 (fun KK hKK => ?st4_3515) ?mo4_3515
              case ho4_3515 => (simp only [List.getElem?_toArray, List.getElem?_cons_succ, List.getElem?_cons_zero]; rfl)
              case st4_3515 =>
                go_simp
                refine hKK.out _ _ ?_ (fun hHeld2 => ?_)
                · (try dsimp only)
                  first | with_reducible exact HA12 | with_reducible exact HA10 | with_reducible exact HA9 | with_reducible exact HAD | go_keep
                clear hKK KK hHeld
                have hHeld := hHeld2
                clear hHeld2
                try simp only [Act.put, List.setIfInBounds_toArray, List.set_cons_zero, List.set_cons_succ]
                refine wpAnyH_ready (rs := [1]) (by kernel_rfl) (by simp) ?_
                refine AllReadyH.cons (o := ?o1_3516) ?ho1_3516 (fun KK hKK => ?st1_3516) ?mo1_3516
                case ho1_3516 => (simp only [List.getElem?_toArray, List.getElem?_cons_succ, List.getElem?_cons_zero]; rfl)
                case st1_3516 =>
                  go_simp
                  refine hKK.out _ _ ?_ (fun hHeld2 => ?_)
                  · (try dsimp only)
                    first | with_reducible exact HA12 | with_reducible exact HA10 | with_reducible exact HA9 | with_reducible exact HAD | go_keep
                  clear hKK KK hHeld
                  have hHeld := hHeld2
                  clear hHeld2
                  try simp only [Act.put, List.setIfInBounds_toArray, List.set_cons_zero, List.set_cons_succ]
                  refine wpAnyH_ready (rs := [5]) (by kernel_rfl) (by simp) ?_
                  refine AllReadyH.cons (o := ?o5_3517) ?ho5_3517 (fun KK hKK => ?st5_3517) ?mo5_3517
                  case ho5_3517 => (simp only [List.getElem?_toArray, List.getElem?_cons_succ, List.getElem?_cons_zero]; rfl)
                  case st5_3517 =>
                    (have E11 := Lib.hid (E9.out.below (below_new w9 (.cells (Tree.mk op9 p9 v9 B9 cb9 ks9).cells.toArray 28))); refine step_append_lies _ rfl (.tmp 53) (.tmp 56) _ rfl (q + 1) 28 j0 _ 9 88 Tryz.underlying26 hj0 hj1 hj2 hj3 rfl (by decide) (.slice Aq ks.length cq) ks.length (ks.flatMap Tree.cells) rfl E11.out.own ⟨w9.heap.size, 0, none⟩ 1 1 (Tree.mk op9 p9 v9 B9 cb9 ks9).cells rfl rfl (tree_new w9 28 (Tree.mk op9 p9 v9 B9 cb9 ks9)) (tree_cell1 (Tree.mk op9 p9 v9 B9 cb9 ks9)) (by decide) (by unfold maxLen; omega) (by omega) (by simp; omega) _ rfl ?_; intro b2 c2 w10 hown hgrow hat hlt; have KG := E11.out.box.grown hgrow (E11.out.row_ne (Nat.le_refl _)).symm; have E12 : Hid (XMid 64 28 113 109 w (w10.setCell ⟨q, 8, none⟩ (.slice (some ⟨b2, 0, none⟩) (ks.length + 1) c2)) g q #[.slice A l.length c, .pointer (some ⟨g, 0, none⟩)] 3 0 zero6 (some ⟨b2, 0, none⟩) c2 d (ks ++ [(Tree.mk op9 p9 v9 B9 cb9 ks9)]) aL2 ae2) := (E11.out.grow (by decide) (by decide) (Tree.mk op9 p9 v9 B9 cb9 ks9) (ED.out.fit (HI.out.below (below_new w9 (.cells (Tree.mk op9 p9 v9 B9 cb9 ks9).cells.toArray 28)))) hgrow hown hat); have HA10 := (E11.out.par.grown hgrow (E11.out.row_ne (by have := E11.out.far; omega)).symm).c2; have HA12 := E12.out.par.c2; have kq10 : w10.cell? ⟨q, 8, none⟩ = some (.slice Aq ks.length cq) := KG.cell 8; have lq10 := KG.lt; have kf10 := KG.free 8; clear hown hgrow hat)
                    refine hKK.out _ _ ?_ (fun hHeld2 => ?_)
                    · (try dsimp only)
                      first | with_reducible exact HA12 | with_reducible exact HA10 | with_reducible exact HA9 | with_reducible exact HAD | go_keep
                    clear hKK KK hHeld
                    have hHeld := hHeld2
                    clear hHeld2
                    try simp only [Act.put, List.setIfInBounds_toArray, List.set_cons_zero, List.set_cons_succ]
                    refine wpAnyH_take (i := 6) (v := ?v6_3518) rfl (by kernel_rfl) (by kernel_rfl) (by kernel_rfl) (fun _ _ _ h => h) (Or.inl ⟨by rfl, ?h6_3518⟩) (by assumption) ?r6_3518
                    case h6_3518 => intro w hSw; (try dsimp only at hSw); go_simp; try with_reducible rfl
                    try simp only [Act.put, List.setIfInBounds_toArray, List.set_cons_zero, List.set_cons_succ]
                    refine wpAnyH_ready (rs := [7]) (by kernel_rfl) (by simp) ?_
                    refine AllReadyH.cons (o := ?o7_3519) ?ho7_3519 (fun KK hKK => ?st7_3519) ?mo7_3519
                    case ho7_3519 => (simp only [List.getElem?_toArray, List.getElem?_cons_succ, List.getElem?_cons_zero]; rfl)
                    case st7_3519 =>
                      go_simp
                      refine hKK.out _ _ ?_ (fun hHeld2 => ?_)
                      · (try dsimp only)
                        first | with_reducible exact HA12 | with_reducible exact HA10 | with_reducible exact HA9 | with_reducible exact HAD | go_keep
                      clear hKK KK hHeld
                      have hHeld := hHeld2
                      clear hHeld2
                      try simp only [Act.put, List.setIfInBounds_toArray, List.set_cons_zero, List.set_cons_succ]
                      refine wpAnyH_done (by kernel_rfl) ?_ _
                      go_wp2_with fail
                      go_roundg fk
                      case measure => omega
                      case rel => exact ⟨_, _, ks ++ [.mk op9 p9 v9 B9 cb9 ks9], aL2, ae2, E12, by rw [List.map_append, List.map_cons, List.map_nil, HX.out]; exact HF2, by omega, by simp; omega, by omega⟩
                    case mo7_3519 =>
                      exact AllReadyH.nil
                  case mo5_3517 =>
                    exact AllReadyH.nil
                case mo1_3516 =>
                  exact AllReadyH.nil
              case mo4_3515 =>
                exact AllReadyH.nil
          case mo3_3509 =>
            exact AllReadyH.nil
    
      · have HF2 := Lib.hid (show fin = ⟨ks.map (xF d), L9, e9⟩ by rw [← HF.out]; unfold moreF; rw [if_neg hk])
        have C1 := Lib.hid (fun W h => CAN.out W L9 e9 h (by omega) hk)
        clear hk HF
        rw [HF2.out] at HB2
        dsimp only at HB2
        go_wp2_with fail
        refine (C1.out _ E.out.scan).mono ?_
        rintro r w17 ⟨rfl, s7, o7⟩
        have E7 := Lib.hid (E.out.step s7 o7)
        clear s7 o7 d2 lpr E
        have d2 := E7.out.par.c2
        have lpr := E7.out.par.lt
        go_wp2_with fail
        refine (CE.out _ _ _ ⟨#[41]⟩ E7.out.scan (by omega)).mono ?_
        rintro r w30 ⟨rfl, s30, o30⟩
        have E30 := Lib.hid (E7.out.step s30 o30)
        clear s30 o30 d2 lpr
        have C0 : w30.cell? ⟨q, 0, none⟩ = some (.int .i64 3) := E30.out.box.cell 0
        have C1 : w30.cell? ⟨q, 1, none⟩ = some (.int .i64 0) := E30.out.box.cell 1
        have C2 : w30.cell? ⟨q, 2, none⟩ = some (.int .i64 0) := E30.out.box.cell 2
        have C3 : w30.cell? ⟨q, 3, none⟩ = some (.int .i64 0) := E30.out.box.cell 3
        have C4 : w30.cell? ⟨q, 4, none⟩ = some (.int .i64 0) := E30.out.box.cell 4
        have C5 : w30.cell? ⟨q, 5, none⟩ = some (.int .i64 0) := E30.out.box.cell 5
        have C6 : w30.cell? ⟨q, 6, none⟩ = some (.int .i64 0) := E30.out.box.cell 6
        have C7 : w30.cell? ⟨q, 7, none⟩ = some (.int .i64 0) := E30.out.box.cell 7
        have C8 : w30.cell? ⟨q, 8, none⟩ = some (.slice Aq ks.length cq) := E30.out.box.cell 8
        have Cl := E30.out.box.lt
        have D0 : w30.cell? ⟨w.heap.size + 1, 0, none⟩ = some (.int .i64 0) := E30.out.res.cell 0
        have Df0 := E30.out.res.free 0
        have D1 : w30.cell? ⟨w.heap.size + 1, 1, none⟩ = some (.int .i64 0) := E30.out.res.cell 1
        have Df1 := E30.out.res.free 1
        have D2 : w30.cell? ⟨w.heap.size + 1, 2, none⟩ = some (.int .i64 0) := E30.out.res.cell 2
        have Df2 := E30.out.res.free 2
        have D3 : w30.cell? ⟨w.heap.size + 1, 3, none⟩ = some (.int .i64 0) := E30.out.res.cell 3
        have Df3 := E30.out.res.free 3
        have D4 : w30.cell? ⟨w.heap.size + 1, 4, none⟩ = some (.int .i64 0) := E30.out.res.cell 4
        have Df4 := E30.out.res.free 4
        have D5 : w30.cell? ⟨w.heap.size + 1, 5, none⟩ = some (.int .i64 0) := E30.out.res.cell 5
        have Df5 := E30.out.res.free 5
        have D6 : w30.cell? ⟨w.heap.size + 1, 6, none⟩ = some (.int .i64 0) := E30.out.res.cell 6
        have Df6 := E30.out.res.free 6
        have D7 : w30.cell? ⟨w.heap.size + 1, 7, none⟩ = some (.int .i64 0) := E30.out.res.cell 7
        have Df7 := E30.out.res.free 7
        have D8 : w30.cell? ⟨w.heap.size + 1, 8, none⟩ = some (.slice none 0 0) := E30.out.res.cell 8
        have Df8 := E30.out.res.free 8
        have Dl := E30.out.res.lt
        have hxq30 := E30.out.far
        have hne1 : (q == w.heap.size + 1) = false := by simp; omega
        have hne2 : (w.heap.size + 1 == q) = false := by simp; omega
        have hne3 : ¬ q = w.heap.size + 1 := by omega
        have hne4 : ¬ w.heap.size + 1 = q := by omega
        try dsimp only
        iterate 13 (first | go_values | go_skip | go_guarded | go_step | go_upon)
        have Z9 : InP (fun b => w.heap.size ≤ b) (d + 1) (((((((((w30.setCell ⟨w.heap.size + 1, 0, none⟩ (.int .i64 3)).setCell ⟨w.heap.size + 1, 1, none⟩ (.int .i64 0)).setCell ⟨w.heap.size + 1, 2, none⟩ (.int .i64 0)).setCell ⟨w.heap.size + 1, 3, none⟩ (.int .i64 0)).setCell ⟨w.heap.size + 1, 4, none⟩ (.int .i64 0)).setCell ⟨w.heap.size + 1, 5, none⟩ (.int .i64 0)).setCell ⟨w.heap.size + 1, 6, none⟩ (.int .i64 0)).setCell ⟨w.heap.size + 1, 7, none⟩ (.int .i64 0)).setCell ⟨w.heap.size + 1, 8, none⟩ (.slice Aq ks.length cq)) (.mk 3 zero6 0 Aq cq ks) ∧ Scan 113 109 (((((((((w30.setCell ⟨w.heap.size + 1, 0, none⟩ (.int .i64 3)).setCell ⟨w.heap.size + 1, 1, none⟩ (.int .i64 0)).setCell ⟨w.heap.size + 1, 2, none⟩ (.int .i64 0)).setCell ⟨w.heap.size + 1, 3, none⟩ (.int .i64 0)).setCell ⟨w.heap.size + 1, 4, none⟩ (.int .i64 0)).setCell ⟨w.heap.size + 1, 5, none⟩ (.int .i64 0)).setCell ⟨w.heap.size + 1, 6, none⟩ (.int .i64 0)).setCell ⟨w.heap.size + 1, 7, none⟩ (.int .i64 0)).setCell ⟨w.heap.size + 1, 8, none⟩ (.slice Aq ks.length cq)) g (expL L9 e9 ⟨#[41]⟩) (expE L9 e9 ⟨#[41]⟩) ∧ Only g w (((((((((w30.setCell ⟨w.heap.size + 1, 0, none⟩ (.int .i64 3)).setCell ⟨w.heap.size + 1, 1, none⟩ (.int .i64 0)).setCell ⟨w.heap.size + 1, 2, none⟩ (.int .i64 0)).setCell ⟨w.heap.size + 1, 3, none⟩ (.int .i64 0)).setCell ⟨w.heap.size + 1, 4, none⟩ (.int .i64 0)).setCell ⟨w.heap.size + 1, 5, none⟩ (.int .i64 0)).setCell ⟨w.heap.size + 1, 6, none⟩ (.int .i64 0)).setCell ⟨w.heap.size + 1, 7, none⟩ (.int .i64 0)).setCell ⟨w.heap.size + 1, 8, none⟩ (.slice Aq ks.length cq)) := E30.out.done (by decide) (by decide)
        have R9 : Blk (((((((((w30.setCell ⟨w.heap.size + 1, 0, none⟩ (.int .i64 3)).setCell ⟨w.heap.size + 1, 1, none⟩ (.int .i64 0)).setCell ⟨w.heap.size + 1, 2, none⟩ (.int .i64 0)).setCell ⟨w.heap.size + 1, 3, none⟩ (.int .i64 0)).setCell ⟨w.heap.size + 1, 4, none⟩ (.int .i64 0)).setCell ⟨w.heap.size + 1, 5, none⟩ (.int .i64 0)).setCell ⟨w.heap.size + 1, 6, none⟩ (.int .i64 0)).setCell ⟨w.heap.size + 1, 7, none⟩ (.int .i64 0)).setCell ⟨w.heap.size + 1, 8, none⟩ (.slice Aq ks.length cq)) (w.heap.size + 1) 28 (cells9 3 0 zero6 Aq ks.length cq) := blk_put9 (op := 3) (v := 0) (p := zero6) (A := Aq) (n := ks.length) (c := cq) E30.out.res
        generalize ((((((((w30.setCell ⟨w.heap.size + 1, 0, none⟩ (.int .i64 3)).setCell ⟨w.heap.size + 1, 1, none⟩ (.int .i64 0)).setCell ⟨w.heap.size + 1, 2, none⟩ (.int .i64 0)).setCell ⟨w.heap.size + 1, 3, none⟩ (.int .i64 0)).setCell ⟨w.heap.size + 1, 4, none⟩ (.int .i64 0)).setCell ⟨w.heap.size + 1, 5, none⟩ (.int .i64 0)).setCell ⟨w.heap.size + 1, 6, none⟩ (.int .i64 0)).setCell ⟨w.heap.size + 1, 7, none⟩ (.int .i64 0)).setCell ⟨w.heap.size + 1, 8, none⟩ (.slice Aq ks.length cq) = w31 at *
        have Z9 := Lib.hid Z9
        have R9 := Lib.hid R9
        clear C0 D0 Df0 C1 D1 Df1 C2 D2 Df2 C3 D3 Df3 C4 D4 Df4 C5 D5 Df5 C6 D6 Df6 C7 D7 Df7 C8 D8 Df8 Cl Dl E30
        repeat (first | go_values | go_skip | go_guarded | go_step | go_upon)
        exact bodyPost_ret (v := .agg (cells9 3 0 zero6 Aq ks.length cq)) (results_blk rfl rfl R9.out Tryz.underlying28 rfl (by kernel_rfl)) rfl (by
          rw [HB2.out]
          exact ⟨.mk 3 zero6 0 Aq cq ks, rfl, rfl, Z9.out.1, Z9.out.2.1, Z9.out.2.2⟩)
set_option maxHeartbeats 8000000 in
set_option maxRecDepth 100000 in
theorem expr_4 (l : List Prod) (d : Nat) (f : List Tok → Int → PX) (hf : ∀ L e, (f L e).L.length ≤ L.length) (A : Option Addr) (c : Nat) (L : List Tok) (g : Nat) (w : World) (hl : l.length ≤ 5000) (hp : PS w (.slice A l.length c) l) (hA : ∀ b o, A = some ⟨b, o, none⟩ → b ≠ g) (hn : ∀ p ∈ l, p.name.size ≤ maxLen) (hs : Scan 113 109 w g L 0) (hm : L.length ≤ 5000) (h0 : 0 < L.length)
    (HARG : ∀ L' e' W, (e' = 0 → L'.length < L.length) → Only g w W → Scan 113 109 W g L' e' → Calls Tryz.prog 77 #[.agg #[.slice A l.length c, .pointer (some ⟨g, 0, none⟩)]] W (ExprPost d (argX f L' e') g W)) (hk : (peekT L 0).kind = 1) (hop : opW (peekT L 0).text = 4) :
    Calls Tryz.prog 36 #[.agg #[.slice A l.length c, .pointer (some ⟨g, 0, none⟩)]] w (ExprPost (d + 1) (bodyX l f 4 (firstX f L 0)) g w) := by
  have hg := hs.lt
  have CP := Lib.hid fun W (h : Scan 113 109 W g L 0) => peek_any L 0 g W h (small_len hm)
  have CO := Lib.hid fun W => op_any (peekT L 0).text W
  have CF := Lib.hid fun W (h : Scan 113 109 W g L 0) => fail_any L 0 2 g W h
  have CN := Lib.hid fun W (h : Scan 113 109 W g L 0) => next_any L 0 g W h (small_len hm)
  have hN1 := nextL_len L 0
  have hL1 := expL_len (nextL L 0) 0 ⟨#[40]⟩
  have CX := Lib.hid fun W (h : Scan 113 109 W g (nextL L 0) 0) => expect_any (nextL L 0) 0 g ⟨#[40]⟩ W h (small_len (by omega))
  have CR := Lib.hid fun W (k : Only g w W) L' e' (h : Scan 113 109 W g L' e') (hm' : L'.length ≤ 5000) => priced_any l A c L' e' g W hl (ps_only hp hA k) hA hn h hm'
  have CE := Lib.hid fun W L' e' m (h : Scan 113 109 W g L' e') (hm' : L'.length ≤ 5000) => expect_any L' e' g m W h (small_len hm')
  have CM := Lib.hid fun W L' e' (h : Scan 113 109 W g L' e') (hm' : L'.length ≤ 5000) => amount_any L' e' 1000000 g W h (small_len hm')
  have HLESS : expE (nextL L 0) 0 ⟨#[40]⟩ = 0 → (expL (nextL L 0) 0 ⟨#[40]⟩).length < L.length := first_less h0
  have HA1 := Lib.hid fun W k h => HARG (expL (nextL L 0) 0 ⟨#[40]⟩) (expE (nextL L 0) 0 ⟨#[40]⟩) W HLESS k h
  have HARG := Lib.hid HARG
  have hal := argX_len hf (expL (nextL L 0) 0 ⟨#[40]⟩) (expE (nextL L 0) 0 ⟨#[40]⟩)
  unfold firstX
  rw [hop] at CO
  generalize expE (nextL L 0) 0 ⟨#[40]⟩ = ex at *
  generalize expL (nextL L 0) 0 ⟨#[40]⟩ = Lx at *
  generalize nextL L 0 = Ln at *
  generalize hargX : argX f Lx ex = a at *
  clear hargX
  obtain ⟨ax, aL, ae⟩ := a
  dsimp only at hal
  have haL : aL.length ≤ 5000 := by omega
  generalize peekT L 0 = t at *
  obtain ⟨tk, tt, tv, tp⟩ := t
  dsimp only at CP CO hk hop
  subst hk
  clear hop
  generalize hB : bodyX l f 4 ⟨ax, aL, ae⟩ = qr
  have HB := Lib.hid hB
  clear hB
  have S2 := Lib.hid ((hs.below (below_new w (.cells #[.slice A l.length c, .pointer (some ⟨g, 0, none⟩)] 64))).below (below_new _ (.cells (cells9 0 0 zero6 none 0 0) 28)))
  have K1 := Lib.hid ((Blk.new w 64 #[.slice A l.length c, .pointer (some ⟨g, 0, none⟩)]).alloc (.cells (cells9 0 0 zero6 none 0 0) 28))
  have K2 := Lib.hid (Blk.new (w.alloc (.cells #[.slice A l.length c, .pointer (some ⟨g, 0, none⟩)] 64)) 28 (cells9 0 0 zero6 none 0 0))
  have O2 := Lib.hid (((Only.refl g w).alloc (.cells #[.slice A l.length c, .pointer (some ⟨g, 0, none⟩)] 64)).alloc (.cells (cells9 0 0 zero6 none 0 0) 28))
  have hz : Hid ((w.alloc (.cells #[.slice A l.length c, .pointer (some ⟨g, 0, none⟩)] 64)).heap.size = w.heap.size + 1) := by show _ = _; go_size
  rw [hz.out] at K2
  clear hs hp hA hn HLESS
  have d2 := K1.out.c2
  go_enter Tryz.func36, Tryz.ntmps36
  go_wp2_with fail
  refine (CP.out _ S2.out).mono ?_
  rintro r w2 ⟨rfl, b2⟩
  have TS := Lib.hid ((S2.out.below b2).below (below_new w2 (.cells #[.int .i64 1, .string tt, .int .i64 tv, .int .i64 tp] 109)))
  have TK1 := Lib.hid ((K1.out.below' b2).alloc (.cells #[.int .i64 1, .string tt, .int .i64 tv, .int .i64 tp] 109))
  have TK2 := Lib.hid ((K2.out.below' b2).alloc (.cells #[.int .i64 1, .string tt, .int .i64 tv, .int .i64 tp] 109))
  have TO := Lib.hid ((O2.out.then_below b2).alloc (.cells #[.int .i64 1, .string tt, .int .i64 tv, .int .i64 tp] 109))
  have KT := Lib.hid (Blk.new w2 109 #[.int .i64 1, .string tt, .int .i64 tv, .int .i64 tp])
  clear b2 d2 S2 K1 K2 O2 hz
  have d4 := KT.out.c4
  have d2 := TK1.out.c2
  go_wp2_with fail
  generalize w2.alloc (.cells #[.int .i64 1, .string tt, .int .i64 tv, .int .i64 tp] 109) = w3 at *
  refine (CO.out _).mono ?_
  rintro r w4 ⟨rfl, b4⟩
  have S4 := Lib.hid (TS.out.below b4)
  have K14 := Lib.hid (TK1.out.below' b4)
  have K24 := Lib.hid (TK2.out.below' b4)
  have O4 := Lib.hid (TO.out.then_below b4)
  clear b4 d2 d4 TS TK1 TK2 TO KT
  have d2 := K14.out.c2
  have lp := K14.out.lt
  go_wp2_with fail
  
  have E6 : Hid (XMid 64 28 113 109 w (w4.alloc (.cells #[.int .i64 4, .int .i64 0, .int .i64 0, .int .i64 0, .int .i64 0, .int .i64 0, .int .i64 0, .int .i64 0, .slice none 0 0] 28)) g w4.heap.size #[.slice A l.length c, .pointer (some ⟨g, 0, none⟩)] 4 0 zero6 none 0 d [] L 0) := mid_new S4.out K14.out K24.out O4.out hg 4 d
  generalize w4.alloc (.cells #[.int .i64 4, .int .i64 0, .int .i64 0, .int .i64 0, .int .i64 0, .int .i64 0, .int .i64 0, .int .i64 0, .slice none 0 0] 28) = w6 at *
  generalize w4.heap.size = q at *
  clear S4 K14 K24 O4 d2 lp
  
  refine (CN.out _ E6.out.scan).mono ?_
  rintro r w7 ⟨rfl, s7, o7⟩
  have E7 := Lib.hid (E6.out.step s7 o7)
  clear s7 o7 E6
  have d2 := E7.out.par.c2
  go_wp2_with fail
  refine (CX.out _ E7.out.scan).mono ?_
  rintro r w8 ⟨rfl, s8, o8⟩
  have E8 := Lib.hid (E7.out.step s8 o8)
  clear s8 o8 E7 d2
  obtain ⟨j0, hj0, hj1, hj2, hj3⟩ := info_parts expr_info9
  have hxq := E8.out.far
  go_upto_region 13 with fail
  go_cut [43] from 38 (fun s wx => ∃ (ta : Tree) (b2 c2 : Nat), s = .slice (some ⟨b2, 0, none⟩) 1 c2 ∧ Hid (xF d ta = ax) ∧ Hid (XMid 64 28 113 109 w wx g q #[.slice A l.length c, .pointer (some ⟨g, 0, none⟩)] 4 0 zero6 (some ⟨b2, 0, none⟩) c2 d [ta] aL ae))
  case first =>
    have ED := Lib.hid (E8.out.below ((Below.refl _ _).drew))
    have HAW := E8.out.par.c2
    have HAD := ED.out.par.c2
    have lpar := ED.out.par.lt
    have kq : w8.drew.cell? ⟨q, 8, none⟩ = some (.slice none 0 0) := ED.out.box.cell 8
    have lq := ED.out.box.lt
    refine wp_region_held_drew (S := fun W => W.cell? ⟨w.heap.size, 0, none⟩ = some (.slice A l.length c) ∧ W.cell? ⟨w.heap.size, 1, none⟩ = some (.pointer (some ⟨g, 0, none⟩))) (by kernel_rfl) ?_ (fun hHeld => ?_)
    · (try dsimp only)
      first | with_reducible exact HAD | with_reducible exact HAW | go_keep
    refine wpAnyH_take (i := 0) (v := ?v0_4101) rfl (by kernel_rfl) (by kernel_rfl) (by kernel_rfl) (fun _ _ _ h => h) (Or.inl ⟨by rfl, ?h0_4101⟩) (by assumption) ?r0_4101
    case h0_4101 => intro w hSw; (try dsimp only at hSw); go_simp; try with_reducible rfl
    try simp only [Act.put, List.setIfInBounds_toArray, List.set_cons_zero, List.set_cons_succ]
    refine wpAnyH_take (i := 2) (v := ?v2_4102) rfl (by kernel_rfl) (by kernel_rfl) (by kernel_rfl) (fun _ _ _ h => h) (Or.inl ⟨by rfl, ?h2_4102⟩) (by assumption) ?r2_4102
    case h2_4102 => intro w hSw; (try dsimp only at hSw); go_simp; try with_reducible rfl
    try simp only [Act.put, List.setIfInBounds_toArray, List.set_cons_zero, List.set_cons_succ]
    refine wpAnyH_ready (rs := [1, 3]) (by kernel_rfl) (by simp) ?_
    refine AllReadyH.cons (o := ?o1_4103) ?ho1_4103 (fun KK hKK => ?st1_4103) ?mo1_4103
    case ho1_4103 => (simp only [List.getElem?_toArray, List.getElem?_cons_succ, List.getElem?_cons_zero]; rfl)
    case st1_4103 =>
      go_simp
      refine hKK.out _ _ ?_ (fun hHeld2 => ?_)
      · (try dsimp only)
        first | with_reducible exact HA12 | with_reducible exact HA10 | with_reducible exact HA9 | with_reducible exact HAD | go_keep
      clear hKK KK hHeld
      have hHeld := hHeld2
      clear hHeld2
      try simp only [Act.put, List.setIfInBounds_toArray, List.set_cons_zero, List.set_cons_succ]
      refine wpAnyH_ready (rs := [3]) (by kernel_rfl) (by simp) ?_
      refine AllReadyH.cons (o := ?o3_4104) ?ho3_4104 (fun KK hKK => ?st3_4104) ?mo3_4104
      case ho3_4104 => (simp only [List.getElem?_toArray, List.getElem?_cons_succ, List.getElem?_cons_zero]; rfl)
      case st3_4104 =>
        (go_simp; go_at_call 77; refine (HA1.out _ ED.out.only ED.out.scan).mono ?_; rintro r w9 ⟨ta, rfl, hx9, hi9, s9, o9⟩; have HX := Lib.hid hx9; have E9 := Lib.hid (ED.out.step s9 o9); have HI := Lib.hid hi9; clear s9 o9 hx9 hi9; have HA9 := E9.out.par.c2; have lp9 := E9.out.par.lt; have kq9 : w9.cell? ⟨q, 8, none⟩ = some (.slice none 0 0) := E9.out.box.cell 8; have lq9 := E9.out.box.lt; obtain ⟨op9, p9, v9, B9, cb9, ks9⟩ := ta; dsimp only [Tree.val, Tree.op, Tree.want, Tree.value, Tree.a, Tree.c, Tree.args])
        refine hKK.out _ _ ?_ (fun hHeld2 => ?_)
        · (try dsimp only)
          first | with_reducible exact HA12 | with_reducible exact HA10 | with_reducible exact HA9 | with_reducible exact HAD | go_keep
        clear hKK KK hHeld
        have hHeld := hHeld2
        clear hHeld2
        try simp only [Act.put, List.setIfInBounds_toArray, List.set_cons_zero, List.set_cons_succ]
        refine wpAnyH_ready (rs := [4]) (by kernel_rfl) (by simp) ?_
        refine AllReadyH.cons (o := ?o4_4105) ?ho4_4105 (fun KK hKK => ?st4_4105) ?mo4_4105
        case ho4_4105 => (simp only [List.getElem?_toArray, List.getElem?_cons_succ, List.getElem?_cons_zero]; rfl)
        case st4_4105 =>
          go_simp
          refine hKK.out _ _ ?_ (fun hHeld2 => ?_)
          · (try dsimp only)
            first | with_reducible exact HA12 | with_reducible exact HA10 | with_reducible exact HA9 | with_reducible exact HAD | go_keep
          clear hKK KK hHeld
          have hHeld := hHeld2
          clear hHeld2
          try simp only [Act.put, List.setIfInBounds_toArray, List.set_cons_zero, List.set_cons_succ]
          refine wpAnyH_ready (rs := [5]) (by kernel_rfl) (by simp) ?_
          refine AllReadyH.cons (o := ?o5_4106) ?ho5_4106 (fun KK hKK => ?st5_4106) ?mo5_4106
          case ho5_4106 => (simp only [List.getElem?_toArray, List.getElem?_cons_succ, List.getElem?_cons_zero]; rfl)
          case st5_4106 =>
            (have E11 := Lib.hid (E9.out.below (below_new w9 (.cells (Tree.mk op9 p9 v9 B9 cb9 ks9).cells.toArray 28))); refine step_append_lies _ rfl (.tmp 39) (.tmp 42) _ rfl (q + 1) 28 j0 _ 9 88 Tryz.underlying26 hj0 hj1 hj2 hj3 rfl (by decide) (.slice none 0 0) 0 (([] : List Tree).flatMap Tree.cells) rfl E11.out.own ⟨w9.heap.size, 0, none⟩ 1 1 (Tree.mk op9 p9 v9 B9 cb9 ks9).cells rfl rfl (tree_new w9 28 (Tree.mk op9 p9 v9 B9 cb9 ks9)) (tree_cell1 (Tree.mk op9 p9 v9 B9 cb9 ks9)) (by decide) (by decide) (by decide) (by simp; omega) _ rfl ?_; intro b2 c2 w10 hown hgrow hat hlt; have KG := E11.out.box.grown hgrow (E11.out.row_ne (Nat.le_refl _)).symm; have E12 : Hid (XMid 64 28 113 109 w (w10.setCell ⟨q, 8, none⟩ (.slice (some ⟨b2, 0, none⟩) 1 c2)) g q #[.slice A l.length c, .pointer (some ⟨g, 0, none⟩)] 4 0 zero6 (some ⟨b2, 0, none⟩) c2 d [(Tree.mk op9 p9 v9 B9 cb9 ks9)] aL ae) := (E11.out.grow (by decide) (by decide) (Tree.mk op9 p9 v9 B9 cb9 ks9) (ED.out.fit (HI.out.below (below_new w9 (.cells (Tree.mk op9 p9 v9 B9 cb9 ks9).cells.toArray 28)))) hgrow hown hat); have HA10 := (E11.out.par.grown hgrow (E11.out.row_ne (by have := E11.out.far; omega)).symm).c2; have HA12 := E12.out.par.c2; have kq10 : w10.cell? ⟨q, 8, none⟩ = some (.slice none 0 0) := KG.cell 8; have lq10 := KG.lt; have kf10 := KG.free 8; clear hown hgrow hat)
            refine hKK.out _ _ ?_ (fun hHeld2 => ?_)
            · (try dsimp only)
              first | with_reducible exact HA12 | with_reducible exact HA10 | with_reducible exact HA9 | with_reducible exact HAD | go_keep
            clear hKK KK hHeld
            have hHeld := hHeld2
            clear hHeld2
            try simp only [Act.put, List.setIfInBounds_toArray, List.set_cons_zero, List.set_cons_succ]
            refine wpAnyH_take (i := 6) (v := ?v6_4107) rfl (by kernel_rfl) (by kernel_rfl) (by kernel_rfl) (fun _ _ _ h => h) (Or.inl ⟨by rfl, ?h6_4107⟩) (by assumption) ?r6_4107
            case h6_4107 => intro w hSw; (try dsimp only at hSw); go_simp; try with_reducible rfl
            try simp only [Act.put, List.setIfInBounds_toArray, List.set_cons_zero, List.set_cons_succ]
            refine wpAnyH_ready (rs := [7]) (by kernel_rfl) (by simp) ?_
            refine AllReadyH.cons (o := ?o7_4108) ?ho7_4108 (fun KK hKK => ?st7_4108) ?mo7_4108
            case ho7_4108 => (simp only [List.getElem?_toArray, List.getElem?_cons_succ, List.getElem?_cons_zero]; rfl)
            case st7_4108 =>
              go_simp
              refine hKK.out _ _ ?_ (fun hHeld2 => ?_)
              · (try dsimp only)
                first | with_reducible exact HA12 | with_reducible exact HA10 | with_reducible exact HA9 | with_reducible exact HAD | go_keep
              clear hKK KK hHeld
              have hHeld := hHeld2
              clear hHeld2
              try simp only [Act.put, List.setIfInBounds_toArray, List.set_cons_zero, List.set_cons_succ]
              refine wpAnyH_done (by kernel_rfl) ?_ _
              go_wp2_with fail
              go_meet
              exact ⟨.mk op9 p9 v9 B9 cb9 ks9, b2, c2, rfl, HX, E12⟩
            case mo7_4108 =>
              exact AllReadyH.nil
          case mo5_4106 =>
            exact AllReadyH.nil
        case mo4_4105 =>
          exact AllReadyH.nil
      case mo3_4104 =>
        exact AllReadyH.nil
    case mo1_4103 =>
      refine AllReadyH.cons (o := ?o3_4109) ?ho3_4109 (fun KK hKK => ?st3_4109) ?mo3_4109
      case ho3_4109 => (simp only [List.getElem?_toArray, List.getElem?_cons_succ, List.getElem?_cons_zero]; rfl)
      case st3_4109 =>
        (go_simp; go_at_call 77; refine (HA1.out _ ED.out.only ED.out.scan).mono ?_; rintro r w9 ⟨ta, rfl, hx9, hi9, s9, o9⟩; have HX := Lib.hid hx9; have E9 := Lib.hid (ED.out.step s9 o9); have HI := Lib.hid hi9; clear s9 o9 hx9 hi9; have HA9 := E9.out.par.c2; have lp9 := E9.out.par.lt; have kq9 : w9.cell? ⟨q, 8, none⟩ = some (.slice none 0 0) := E9.out.box.cell 8; have lq9 := E9.out.box.lt; obtain ⟨op9, p9, v9, B9, cb9, ks9⟩ := ta; dsimp only [Tree.val, Tree.op, Tree.want, Tree.value, Tree.a, Tree.c, Tree.args])
        refine hKK.out _ _ ?_ (fun hHeld2 => ?_)
        · (try dsimp only)
          first | with_reducible exact HA12 | with_reducible exact HA10 | with_reducible exact HA9 | with_reducible exact HAD | go_keep
        clear hKK KK hHeld
        have hHeld := hHeld2
        clear hHeld2
        try simp only [Act.put, List.setIfInBounds_toArray, List.set_cons_zero, List.set_cons_succ]
        refine wpAnyH_ready (rs := [1, 4]) (by kernel_rfl) (by simp) ?_
        refine AllReadyH.cons (o := ?o1_4110) ?ho1_4110 (fun KK hKK => ?st1_4110) ?mo1_4110
        case ho1_4110 => (simp only [List.getElem?_toArray, List.getElem?_cons_succ, List.getElem?_cons_zero]; rfl)
        case st1_4110 =>
          go_simp
          refine hKK.out _ _ ?_ (fun hHeld2 => ?_)
          · (try dsimp only)
            first | with_reducible exact HA12 | with_reducible exact HA10 | with_reducible exact HA9 | with_reducible exact HAD | go_keep
          clear hKK KK hHeld
          have hHeld := hHeld2
          clear hHeld2
          try simp only [Act.put, List.setIfInBounds_toArray, List.set_cons_zero, List.set_cons_succ]
          refine wpAnyH_ready (rs := [4]) (by kernel_rfl) (by simp) ?_
          refine AllReadyH.cons (o := ?o4_4111) ?ho4_4111 (fun KK hKK => ?st4_4111) ?mo4_4111
          case ho4_4111 => (simp only [List.getElem?_toArray, List.getElem?_cons_succ, List.getElem?_cons_zero]; rfl)
          case st4_4111 =>
            go_simp
            refine hKK.out _ _ ?_ (fun hHeld2 => ?_)
            · (try dsimp only)
              first | with_reducible exact HA12 | with_reducible exact HA10 | with_reducible exact HA9 | with_reducible exact HAD | go_keep
            clear hKK KK hHeld
            have hHeld := hHeld2
            clear hHeld2
            try simp only [Act.put, List.setIfInBounds_toArray, List.set_cons_zero, List.set_cons_succ]
            refine wpAnyH_ready (rs := [5]) (by kernel_rfl) (by simp) ?_
            refine AllReadyH.cons (o := ?o5_4112) ?ho5_4112 (fun KK hKK => ?st5_4112) ?mo5_4112
            case ho5_4112 => (simp only [List.getElem?_toArray, List.getElem?_cons_succ, List.getElem?_cons_zero]; rfl)
            case st5_4112 =>
              (have E11 := Lib.hid (E9.out.below (below_new w9 (.cells (Tree.mk op9 p9 v9 B9 cb9 ks9).cells.toArray 28))); refine step_append_lies _ rfl (.tmp 39) (.tmp 42) _ rfl (q + 1) 28 j0 _ 9 88 Tryz.underlying26 hj0 hj1 hj2 hj3 rfl (by decide) (.slice none 0 0) 0 (([] : List Tree).flatMap Tree.cells) rfl E11.out.own ⟨w9.heap.size, 0, none⟩ 1 1 (Tree.mk op9 p9 v9 B9 cb9 ks9).cells rfl rfl (tree_new w9 28 (Tree.mk op9 p9 v9 B9 cb9 ks9)) (tree_cell1 (Tree.mk op9 p9 v9 B9 cb9 ks9)) (by decide) (by decide) (by decide) (by simp; omega) _ rfl ?_; intro b2 c2 w10 hown hgrow hat hlt; have KG := E11.out.box.grown hgrow (E11.out.row_ne (Nat.le_refl _)).symm; have E12 : Hid (XMid 64 28 113 109 w (w10.setCell ⟨q, 8, none⟩ (.slice (some ⟨b2, 0, none⟩) 1 c2)) g q #[.slice A l.length c, .pointer (some ⟨g, 0, none⟩)] 4 0 zero6 (some ⟨b2, 0, none⟩) c2 d [(Tree.mk op9 p9 v9 B9 cb9 ks9)] aL ae) := (E11.out.grow (by decide) (by decide) (Tree.mk op9 p9 v9 B9 cb9 ks9) (ED.out.fit (HI.out.below (below_new w9 (.cells (Tree.mk op9 p9 v9 B9 cb9 ks9).cells.toArray 28)))) hgrow hown hat); have HA10 := (E11.out.par.grown hgrow (E11.out.row_ne (by have := E11.out.far; omega)).symm).c2; have HA12 := E12.out.par.c2; have kq10 : w10.cell? ⟨q, 8, none⟩ = some (.slice none 0 0) := KG.cell 8; have lq10 := KG.lt; have kf10 := KG.free 8; clear hown hgrow hat)
              refine hKK.out _ _ ?_ (fun hHeld2 => ?_)
              · (try dsimp only)
                first | with_reducible exact HA12 | with_reducible exact HA10 | with_reducible exact HA9 | with_reducible exact HAD | go_keep
              clear hKK KK hHeld
              have hHeld := hHeld2
              clear hHeld2
              try simp only [Act.put, List.setIfInBounds_toArray, List.set_cons_zero, List.set_cons_succ]
              refine wpAnyH_take (i := 6) (v := ?v6_4113) rfl (by kernel_rfl) (by kernel_rfl) (by kernel_rfl) (fun _ _ _ h => h) (Or.inl ⟨by rfl, ?h6_4113⟩) (by assumption) ?r6_4113
              case h6_4113 => intro w hSw; (try dsimp only at hSw); go_simp; try with_reducible rfl
              try simp only [Act.put, List.setIfInBounds_toArray, List.set_cons_zero, List.set_cons_succ]
              refine wpAnyH_ready (rs := [7]) (by kernel_rfl) (by simp) ?_
              refine AllReadyH.cons (o := ?o7_4114) ?ho7_4114 (fun KK hKK => ?st7_4114) ?mo7_4114
              case ho7_4114 => (simp only [List.getElem?_toArray, List.getElem?_cons_succ, List.getElem?_cons_zero]; rfl)
              case st7_4114 =>
                go_simp
                refine hKK.out _ _ ?_ (fun hHeld2 => ?_)
                · (try dsimp only)
                  first | with_reducible exact HA12 | with_reducible exact HA10 | with_reducible exact HA9 | with_reducible exact HAD | go_keep
                clear hKK KK hHeld
                have hHeld := hHeld2
                clear hHeld2
                try simp only [Act.put, List.setIfInBounds_toArray, List.set_cons_zero, List.set_cons_succ]
                refine wpAnyH_done (by kernel_rfl) ?_ _
                go_wp2_with fail
                go_meet
                exact ⟨.mk op9 p9 v9 B9 cb9 ks9, b2, c2, rfl, HX, E12⟩
              case mo7_4114 =>
                exact AllReadyH.nil
            case mo5_4112 =>
              exact AllReadyH.nil
          case mo4_4111 =>
            exact AllReadyH.nil
        case mo1_4110 =>
          refine AllReadyH.cons (o := ?o4_4115) ?ho4_4115 (fun KK hKK => ?st4_4115) ?mo4_4115
          case ho4_4115 => (simp only [List.getElem?_toArray, List.getElem?_cons_succ, List.getElem?_cons_zero]; rfl)
          case st4_4115 =>
            go_simp
            refine hKK.out _ _ ?_ (fun hHeld2 => ?_)
            · (try dsimp only)
              first | with_reducible exact HA12 | with_reducible exact HA10 | with_reducible exact HA9 | with_reducible exact HAD | go_keep
            clear hKK KK hHeld
            have hHeld := hHeld2
            clear hHeld2
            try simp only [Act.put, List.setIfInBounds_toArray, List.set_cons_zero, List.set_cons_succ]
            refine wpAnyH_ready (rs := [1]) (by kernel_rfl) (by simp) ?_
            refine AllReadyH.cons (o := ?o1_4116) ?ho1_4116 (fun KK hKK => ?st1_4116) ?mo1_4116
            case ho1_4116 => (simp only [List.getElem?_toArray, List.getElem?_cons_succ, List.getElem?_cons_zero]; rfl)
            case st1_4116 =>
              go_simp
              refine hKK.out _ _ ?_ (fun hHeld2 => ?_)
              · (try dsimp only)
                first | with_reducible exact HA12 | with_reducible exact HA10 | with_reducible exact HA9 | with_reducible exact HAD | go_keep
              clear hKK KK hHeld
              have hHeld := hHeld2
              clear hHeld2
              try simp only [Act.put, List.setIfInBounds_toArray, List.set_cons_zero, List.set_cons_succ]
              refine wpAnyH_ready (rs := [5]) (by kernel_rfl) (by simp) ?_
              refine AllReadyH.cons (o := ?o5_4117) ?ho5_4117 (fun KK hKK => ?st5_4117) ?mo5_4117
              case ho5_4117 => (simp only [List.getElem?_toArray, List.getElem?_cons_succ, List.getElem?_cons_zero]; rfl)
              case st5_4117 =>
                (have E11 := Lib.hid (E9.out.below (below_new w9 (.cells (Tree.mk op9 p9 v9 B9 cb9 ks9).cells.toArray 28))); refine step_append_lies _ rfl (.tmp 39) (.tmp 42) _ rfl (q + 1) 28 j0 _ 9 88 Tryz.underlying26 hj0 hj1 hj2 hj3 rfl (by decide) (.slice none 0 0) 0 (([] : List Tree).flatMap Tree.cells) rfl E11.out.own ⟨w9.heap.size, 0, none⟩ 1 1 (Tree.mk op9 p9 v9 B9 cb9 ks9).cells rfl rfl (tree_new w9 28 (Tree.mk op9 p9 v9 B9 cb9 ks9)) (tree_cell1 (Tree.mk op9 p9 v9 B9 cb9 ks9)) (by decide) (by decide) (by decide) (by simp; omega) _ rfl ?_; intro b2 c2 w10 hown hgrow hat hlt; have KG := E11.out.box.grown hgrow (E11.out.row_ne (Nat.le_refl _)).symm; have E12 : Hid (XMid 64 28 113 109 w (w10.setCell ⟨q, 8, none⟩ (.slice (some ⟨b2, 0, none⟩) 1 c2)) g q #[.slice A l.length c, .pointer (some ⟨g, 0, none⟩)] 4 0 zero6 (some ⟨b2, 0, none⟩) c2 d [(Tree.mk op9 p9 v9 B9 cb9 ks9)] aL ae) := (E11.out.grow (by decide) (by decide) (Tree.mk op9 p9 v9 B9 cb9 ks9) (ED.out.fit (HI.out.below (below_new w9 (.cells (Tree.mk op9 p9 v9 B9 cb9 ks9).cells.toArray 28)))) hgrow hown hat); have HA10 := (E11.out.par.grown hgrow (E11.out.row_ne (by have := E11.out.far; omega)).symm).c2; have HA12 := E12.out.par.c2; have kq10 : w10.cell? ⟨q, 8, none⟩ = some (.slice none 0 0) := KG.cell 8; have lq10 := KG.lt; have kf10 := KG.free 8; clear hown hgrow hat)
                refine hKK.out _ _ ?_ (fun hHeld2 => ?_)
                · (try dsimp only)
                  first | with_reducible exact HA12 | with_reducible exact HA10 | with_reducible exact HA9 | with_reducible exact HAD | go_keep
                clear hKK KK hHeld
                have hHeld := hHeld2
                clear hHeld2
                try simp only [Act.put, List.setIfInBounds_toArray, List.set_cons_zero, List.set_cons_succ]
                refine wpAnyH_take (i := 6) (v := ?v6_4118) rfl (by kernel_rfl) (by kernel_rfl) (by kernel_rfl) (fun _ _ _ h => h) (Or.inl ⟨by rfl, ?h6_4118⟩) (by assumption) ?r6_4118
                case h6_4118 => intro w hSw; (try dsimp only at hSw); go_simp; try with_reducible rfl
                try simp only [Act.put, List.setIfInBounds_toArray, List.set_cons_zero, List.set_cons_succ]
                refine wpAnyH_ready (rs := [7]) (by kernel_rfl) (by simp) ?_
                refine AllReadyH.cons (o := ?o7_4119) ?ho7_4119 (fun KK hKK => ?st7_4119) ?mo7_4119
                case ho7_4119 => (simp only [List.getElem?_toArray, List.getElem?_cons_succ, List.getElem?_cons_zero]; rfl)
                case st7_4119 =>
                  go_simp
                  refine hKK.out _ _ ?_ (fun hHeld2 => ?_)
                  · (try dsimp only)
                    first | with_reducible exact HA12 | with_reducible exact HA10 | with_reducible exact HA9 | with_reducible exact HAD | go_keep
                  clear hKK KK hHeld
                  have hHeld := hHeld2
                  clear hHeld2
                  try simp only [Act.put, List.setIfInBounds_toArray, List.set_cons_zero, List.set_cons_succ]
                  refine wpAnyH_done (by kernel_rfl) ?_ _
                  go_wp2_with fail
                  go_meet
                  exact ⟨.mk op9 p9 v9 B9 cb9 ks9, b2, c2, rfl, HX, E12⟩
                case mo7_4119 =>
                  exact AllReadyH.nil
              case mo5_4117 =>
                exact AllReadyH.nil
            case mo1_4116 =>
              exact AllReadyH.nil
          case mo4_4115 =>
            exact AllReadyH.nil
      case mo3_4109 =>
        exact AllReadyH.nil
  case rest =>
    obtain ⟨ta, b2, c2, rfl, HXa, E20⟩ := hcut
    clear HA1 CN CX CP CO CF E8 hxq
    have d2 := E20.out.par.c2
    have lpr := E20.out.par.lt
    go_wp2_with fail
    refine (CE.out _ _ _ ⟨#[44]⟩ E20.out.scan (by omega)).mono ?_
    rintro r w22 ⟨rfl, s22, o22⟩
    have E22 := Lib.hid (E20.out.step s22 o22)
    have hL22 := expL_len aL ae ⟨#[44]⟩
    clear s22 o22 d2 lpr E20
    have hbx : bodyX l f 4 ⟨ax, aL, ae⟩ = closeX ⟨.mk 4 (n6 (pricedF l (expL aL ae ⟨#[44]⟩) (expE aL ae ⟨#[44]⟩)).b) (pricedF l (expL aL ae ⟨#[44]⟩) (expE aL ae ⟨#[44]⟩)).v [ax], (pricedF l (expL aL ae ⟨#[44]⟩) (expE aL ae ⟨#[44]⟩)).L, (pricedF l (expL aL ae ⟨#[44]⟩) (expE aL ae ⟨#[44]⟩)).e⟩ := by
      unfold bodyX
      rw [if_neg (by decide), if_pos rfl]
    have HB2 := Lib.hid (HB.out.symm.trans hbx)
    clear hbx HB
    generalize expL aL ae ⟨#[44]⟩ = L22 at *
    generalize expE aL ae ⟨#[44]⟩ = e22 at *
    have hpl := pricedF_len l L22 e22
    have CRx := Lib.hid fun W (k : Only g w W) (h : Scan 113 109 W g L22 e22) => CR.out W k L22 e22 h (by omega)
    generalize pricedF l L22 e22 = pq at *
    obtain ⟨qb, qv, qL, qe⟩ := pq
    dsimp only at hpl CRx HB2
    have d2 := E22.out.par.c2
    have lpr := E22.out.par.lt
    go_wp2_with fail
    refine (CRx.out _ E22.out.only E22.out.scan).mono ?_
    rintro r w23 ⟨rfl, s23, o23⟩
    have E23 := Lib.hid (E22.out.step s23 o23)
    clear s23 o23 d2 lpr E22
    have C0 : w23.cell? ⟨q, 0, none⟩ = some (.int .i64 4) := E23.out.box.cell 0
    have Cf0 := E23.out.box.free 0
    have C1 : w23.cell? ⟨q, 1, none⟩ = some (.int .i64 0) := E23.out.box.cell 1
    have Cf1 := E23.out.box.free 1
    have C2 : w23.cell? ⟨q, 2, none⟩ = some (.int .i64 0) := E23.out.box.cell 2
    have Cf2 := E23.out.box.free 2
    have C3 : w23.cell? ⟨q, 3, none⟩ = some (.int .i64 0) := E23.out.box.cell 3
    have Cf3 := E23.out.box.free 3
    have C4 : w23.cell? ⟨q, 4, none⟩ = some (.int .i64 0) := E23.out.box.cell 4
    have Cf4 := E23.out.box.free 4
    have C5 : w23.cell? ⟨q, 5, none⟩ = some (.int .i64 0) := E23.out.box.cell 5
    have Cf5 := E23.out.box.free 5
    have C6 : w23.cell? ⟨q, 6, none⟩ = some (.int .i64 0) := E23.out.box.cell 6
    have Cf6 := E23.out.box.free 6
    have C7 : w23.cell? ⟨q, 7, none⟩ = some (.int .i64 0) := E23.out.box.cell 7
    have Cf7 := E23.out.box.free 7
    have C8 : w23.cell? ⟨q, 8, none⟩ = some (.slice (some ⟨b2, 0, none⟩) 1 c2) := E23.out.box.cell 8
    have Cf8 := E23.out.box.free 8
    have Cl := E23.out.box.lt
    dsimp only [arr]
    iterate 26 (first | go_values | go_skip | go_guarded | go_step | go_upon)
    have E24 : Hid (XMid 64 28 113 109 w (((((((w23.setCell ⟨q, 1, none⟩ (.int .i64 (qb 0))).setCell ⟨q, 2, none⟩ (.int .i64 (qb 1))).setCell ⟨q, 3, none⟩ (.int .i64 (qb 2))).setCell ⟨q, 4, none⟩ (.int .i64 (qb 3))).setCell ⟨q, 5, none⟩ (.int .i64 (qb 4))).setCell ⟨q, 6, none⟩ (.int .i64 (qb 5))).setCell ⟨q, 7, none⟩ (.int .i64 qv)) g q #[.slice A l.length c, .pointer (some ⟨g, 0, none⟩)] 4 qv qb (some ⟨b2, 0, none⟩) c2 d [ta] qL qe) := E23.out.put7 (by decide) (by decide) qv qb
    generalize ((((((w23.setCell ⟨q, 1, none⟩ (.int .i64 (qb 0))).setCell ⟨q, 2, none⟩ (.int .i64 (qb 1))).setCell ⟨q, 3, none⟩ (.int .i64 (qb 2))).setCell ⟨q, 4, none⟩ (.int .i64 (qb 3))).setCell ⟨q, 5, none⟩ (.int .i64 (qb 4))).setCell ⟨q, 6, none⟩ (.int .i64 (qb 5))).setCell ⟨q, 7, none⟩ (.int .i64 qv) = w24 at *
    clear E23 C0 Cf0 C1 Cf1 C2 Cf2 C3 Cf3 C4 Cf4 C5 Cf5 C6 Cf6 C7 Cf7 C8 Cf8 Cl
    
    have d2 := E24.out.par.c2
    have lpr := E24.out.par.lt
    go_wp2_with fail
    refine (CE.out _ _ _ ⟨#[41]⟩ E24.out.scan (by omega)).mono ?_
    rintro r w30 ⟨rfl, s30, o30⟩
    have E30 := Lib.hid (E24.out.step s30 o30)
    clear s30 o30 d2 lpr
    have C0 : w30.cell? ⟨q, 0, none⟩ = some (.int .i64 4) := E30.out.box.cell 0
    have C1 : w30.cell? ⟨q, 1, none⟩ = some (.int .i64 (qb 0)) := E30.out.box.cell 1
    have C2 : w30.cell? ⟨q, 2, none⟩ = some (.int .i64 (qb 1)) := E30.out.box.cell 2
    have C3 : w30.cell? ⟨q, 3, none⟩ = some (.int .i64 (qb 2)) := E30.out.box.cell 3
    have C4 : w30.cell? ⟨q, 4, none⟩ = some (.int .i64 (qb 3)) := E30.out.box.cell 4
    have C5 : w30.cell? ⟨q, 5, none⟩ = some (.int .i64 (qb 4)) := E30.out.box.cell 5
    have C6 : w30.cell? ⟨q, 6, none⟩ = some (.int .i64 (qb 5)) := E30.out.box.cell 6
    have C7 : w30.cell? ⟨q, 7, none⟩ = some (.int .i64 qv) := E30.out.box.cell 7
    have C8 : w30.cell? ⟨q, 8, none⟩ = some (.slice (some ⟨b2, 0, none⟩) 1 c2) := E30.out.box.cell 8
    have Cl := E30.out.box.lt
    have D0 : w30.cell? ⟨w.heap.size + 1, 0, none⟩ = some (.int .i64 0) := E30.out.res.cell 0
    have Df0 := E30.out.res.free 0
    have D1 : w30.cell? ⟨w.heap.size + 1, 1, none⟩ = some (.int .i64 0) := E30.out.res.cell 1
    have Df1 := E30.out.res.free 1
    have D2 : w30.cell? ⟨w.heap.size + 1, 2, none⟩ = some (.int .i64 0) := E30.out.res.cell 2
    have Df2 := E30.out.res.free 2
    have D3 : w30.cell? ⟨w.heap.size + 1, 3, none⟩ = some (.int .i64 0) := E30.out.res.cell 3
    have Df3 := E30.out.res.free 3
    have D4 : w30.cell? ⟨w.heap.size + 1, 4, none⟩ = some (.int .i64 0) := E30.out.res.cell 4
    have Df4 := E30.out.res.free 4
    have D5 : w30.cell? ⟨w.heap.size + 1, 5, none⟩ = some (.int .i64 0) := E30.out.res.cell 5
    have Df5 := E30.out.res.free 5
    have D6 : w30.cell? ⟨w.heap.size + 1, 6, none⟩ = some (.int .i64 0) := E30.out.res.cell 6
    have Df6 := E30.out.res.free 6
    have D7 : w30.cell? ⟨w.heap.size + 1, 7, none⟩ = some (.int .i64 0) := E30.out.res.cell 7
    have Df7 := E30.out.res.free 7
    have D8 : w30.cell? ⟨w.heap.size + 1, 8, none⟩ = some (.slice none 0 0) := E30.out.res.cell 8
    have Df8 := E30.out.res.free 8
    have Dl := E30.out.res.lt
    have hxq30 := E30.out.far
    have hne1 : (q == w.heap.size + 1) = false := by simp; omega
    have hne2 : (w.heap.size + 1 == q) = false := by simp; omega
    have hne3 : ¬ q = w.heap.size + 1 := by omega
    have hne4 : ¬ w.heap.size + 1 = q := by omega
    try dsimp only
    iterate 13 (first | go_values | go_skip | go_guarded | go_step | go_upon)
    have Z9 : InP (fun b => w.heap.size ≤ b) (d + 1) (((((((((w30.setCell ⟨w.heap.size + 1, 0, none⟩ (.int .i64 4)).setCell ⟨w.heap.size + 1, 1, none⟩ (.int .i64 (qb 0))).setCell ⟨w.heap.size + 1, 2, none⟩ (.int .i64 (qb 1))).setCell ⟨w.heap.size + 1, 3, none⟩ (.int .i64 (qb 2))).setCell ⟨w.heap.size + 1, 4, none⟩ (.int .i64 (qb 3))).setCell ⟨w.heap.size + 1, 5, none⟩ (.int .i64 (qb 4))).setCell ⟨w.heap.size + 1, 6, none⟩ (.int .i64 (qb 5))).setCell ⟨w.heap.size + 1, 7, none⟩ (.int .i64 qv)).setCell ⟨w.heap.size + 1, 8, none⟩ (.slice (some ⟨b2, 0, none⟩) 1 c2)) (.mk 4 qb qv (some ⟨b2, 0, none⟩) c2 [ta]) ∧ Scan 113 109 (((((((((w30.setCell ⟨w.heap.size + 1, 0, none⟩ (.int .i64 4)).setCell ⟨w.heap.size + 1, 1, none⟩ (.int .i64 (qb 0))).setCell ⟨w.heap.size + 1, 2, none⟩ (.int .i64 (qb 1))).setCell ⟨w.heap.size + 1, 3, none⟩ (.int .i64 (qb 2))).setCell ⟨w.heap.size + 1, 4, none⟩ (.int .i64 (qb 3))).setCell ⟨w.heap.size + 1, 5, none⟩ (.int .i64 (qb 4))).setCell ⟨w.heap.size + 1, 6, none⟩ (.int .i64 (qb 5))).setCell ⟨w.heap.size + 1, 7, none⟩ (.int .i64 qv)).setCell ⟨w.heap.size + 1, 8, none⟩ (.slice (some ⟨b2, 0, none⟩) 1 c2)) g (expL qL qe ⟨#[41]⟩) (expE qL qe ⟨#[41]⟩) ∧ Only g w (((((((((w30.setCell ⟨w.heap.size + 1, 0, none⟩ (.int .i64 4)).setCell ⟨w.heap.size + 1, 1, none⟩ (.int .i64 (qb 0))).setCell ⟨w.heap.size + 1, 2, none⟩ (.int .i64 (qb 1))).setCell ⟨w.heap.size + 1, 3, none⟩ (.int .i64 (qb 2))).setCell ⟨w.heap.size + 1, 4, none⟩ (.int .i64 (qb 3))).setCell ⟨w.heap.size + 1, 5, none⟩ (.int .i64 (qb 4))).setCell ⟨w.heap.size + 1, 6, none⟩ (.int .i64 (qb 5))).setCell ⟨w.heap.size + 1, 7, none⟩ (.int .i64 qv)).setCell ⟨w.heap.size + 1, 8, none⟩ (.slice (some ⟨b2, 0, none⟩) 1 c2)) := E30.out.done (by decide) (by decide)
    have R9 : Blk (((((((((w30.setCell ⟨w.heap.size + 1, 0, none⟩ (.int .i64 4)).setCell ⟨w.heap.size + 1, 1, none⟩ (.int .i64 (qb 0))).setCell ⟨w.heap.size + 1, 2, none⟩ (.int .i64 (qb 1))).setCell ⟨w.heap.size + 1, 3, none⟩ (.int .i64 (qb 2))).setCell ⟨w.heap.size + 1, 4, none⟩ (.int .i64 (qb 3))).setCell ⟨w.heap.size + 1, 5, none⟩ (.int .i64 (qb 4))).setCell ⟨w.heap.size + 1, 6, none⟩ (.int .i64 (qb 5))).setCell ⟨w.heap.size + 1, 7, none⟩ (.int .i64 qv)).setCell ⟨w.heap.size + 1, 8, none⟩ (.slice (some ⟨b2, 0, none⟩) 1 c2)) (w.heap.size + 1) 28 (cells9 4 qv qb (some ⟨b2, 0, none⟩) 1 c2) := blk_put9 (op := 4) (v := qv) (p := qb) (A := (some ⟨b2, 0, none⟩)) (n := 1) (c := c2) E30.out.res
    generalize ((((((((w30.setCell ⟨w.heap.size + 1, 0, none⟩ (.int .i64 4)).setCell ⟨w.heap.size + 1, 1, none⟩ (.int .i64 (qb 0))).setCell ⟨w.heap.size + 1, 2, none⟩ (.int .i64 (qb 1))).setCell ⟨w.heap.size + 1, 3, none⟩ (.int .i64 (qb 2))).setCell ⟨w.heap.size + 1, 4, none⟩ (.int .i64 (qb 3))).setCell ⟨w.heap.size + 1, 5, none⟩ (.int .i64 (qb 4))).setCell ⟨w.heap.size + 1, 6, none⟩ (.int .i64 (qb 5))).setCell ⟨w.heap.size + 1, 7, none⟩ (.int .i64 qv)).setCell ⟨w.heap.size + 1, 8, none⟩ (.slice (some ⟨b2, 0, none⟩) 1 c2) = w31 at *
    have Z9 := Lib.hid Z9
    have R9 := Lib.hid R9
    clear C0 D0 Df0 C1 D1 Df1 C2 D2 Df2 C3 D3 Df3 C4 D4 Df4 C5 D5 Df5 C6 D6 Df6 C7 D7 Df7 C8 D8 Df8 Cl Dl E30
    repeat (first | go_values | go_skip | go_guarded | go_step | go_upon)
    exact bodyPost_ret (v := .agg (cells9 4 qv qb (some ⟨b2, 0, none⟩) 1 c2)) (results_blk rfl rfl R9.out Tryz.underlying28 rfl (by kernel_rfl)) rfl (by
      rw [HB2.out]
      exact ⟨.mk 4 qb qv (some ⟨b2, 0, none⟩) c2 [ta], rfl, by rw [← HXa.out]; rfl, Z9.out.1, Z9.out.2.1, Z9.out.2.2⟩)
set_option maxHeartbeats 8000000 in
set_option maxRecDepth 100000 in
theorem expr_5 (l : List Prod) (d : Nat) (f : List Tok → Int → PX) (hf : ∀ L e, (f L e).L.length ≤ L.length) (A : Option Addr) (c : Nat) (L : List Tok) (g : Nat) (w : World) (hl : l.length ≤ 5000) (hp : PS w (.slice A l.length c) l) (hA : ∀ b o, A = some ⟨b, o, none⟩ → b ≠ g) (hn : ∀ p ∈ l, p.name.size ≤ maxLen) (hs : Scan 113 109 w g L 0) (hm : L.length ≤ 5000) (h0 : 0 < L.length)
    (HARG : ∀ L' e' W, (e' = 0 → L'.length < L.length) → Only g w W → Scan 113 109 W g L' e' → Calls Tryz.prog 77 #[.agg #[.slice A l.length c, .pointer (some ⟨g, 0, none⟩)]] W (ExprPost d (argX f L' e') g W)) (hk : (peekT L 0).kind = 1) (hop : opW (peekT L 0).text = 5) :
    Calls Tryz.prog 36 #[.agg #[.slice A l.length c, .pointer (some ⟨g, 0, none⟩)]] w (ExprPost (d + 1) (bodyX l f 5 (firstX f L 0)) g w) := by
  have hg := hs.lt
  have CP := Lib.hid fun W (h : Scan 113 109 W g L 0) => peek_any L 0 g W h (small_len hm)
  have CO := Lib.hid fun W => op_any (peekT L 0).text W
  have CF := Lib.hid fun W (h : Scan 113 109 W g L 0) => fail_any L 0 2 g W h
  have CN := Lib.hid fun W (h : Scan 113 109 W g L 0) => next_any L 0 g W h (small_len hm)
  have hN1 := nextL_len L 0
  have hL1 := expL_len (nextL L 0) 0 ⟨#[40]⟩
  have CX := Lib.hid fun W (h : Scan 113 109 W g (nextL L 0) 0) => expect_any (nextL L 0) 0 g ⟨#[40]⟩ W h (small_len (by omega))
  have CR := Lib.hid fun W (k : Only g w W) L' e' (h : Scan 113 109 W g L' e') (hm' : L'.length ≤ 5000) => priced_any l A c L' e' g W hl (ps_only hp hA k) hA hn h hm'
  have CE := Lib.hid fun W L' e' m (h : Scan 113 109 W g L' e') (hm' : L'.length ≤ 5000) => expect_any L' e' g m W h (small_len hm')
  have CM := Lib.hid fun W L' e' (h : Scan 113 109 W g L' e') (hm' : L'.length ≤ 5000) => amount_any L' e' 1000000 g W h (small_len hm')
  have HLESS : expE (nextL L 0) 0 ⟨#[40]⟩ = 0 → (expL (nextL L 0) 0 ⟨#[40]⟩).length < L.length := first_less h0
  have HA1 := Lib.hid fun W k h => HARG (expL (nextL L 0) 0 ⟨#[40]⟩) (expE (nextL L 0) 0 ⟨#[40]⟩) W HLESS k h
  have HARG := Lib.hid HARG
  have hal := argX_len hf (expL (nextL L 0) 0 ⟨#[40]⟩) (expE (nextL L 0) 0 ⟨#[40]⟩)
  unfold firstX
  rw [hop] at CO
  generalize expE (nextL L 0) 0 ⟨#[40]⟩ = ex at *
  generalize expL (nextL L 0) 0 ⟨#[40]⟩ = Lx at *
  generalize nextL L 0 = Ln at *
  generalize hargX : argX f Lx ex = a at *
  clear hargX
  obtain ⟨ax, aL, ae⟩ := a
  dsimp only at hal
  have haL : aL.length ≤ 5000 := by omega
  generalize peekT L 0 = t at *
  obtain ⟨tk, tt, tv, tp⟩ := t
  dsimp only at CP CO hk hop
  subst hk
  clear hop
  generalize hB : bodyX l f 5 ⟨ax, aL, ae⟩ = qr
  have HB := Lib.hid hB
  clear hB
  have S2 := Lib.hid ((hs.below (below_new w (.cells #[.slice A l.length c, .pointer (some ⟨g, 0, none⟩)] 64))).below (below_new _ (.cells (cells9 0 0 zero6 none 0 0) 28)))
  have K1 := Lib.hid ((Blk.new w 64 #[.slice A l.length c, .pointer (some ⟨g, 0, none⟩)]).alloc (.cells (cells9 0 0 zero6 none 0 0) 28))
  have K2 := Lib.hid (Blk.new (w.alloc (.cells #[.slice A l.length c, .pointer (some ⟨g, 0, none⟩)] 64)) 28 (cells9 0 0 zero6 none 0 0))
  have O2 := Lib.hid (((Only.refl g w).alloc (.cells #[.slice A l.length c, .pointer (some ⟨g, 0, none⟩)] 64)).alloc (.cells (cells9 0 0 zero6 none 0 0) 28))
  have hz : Hid ((w.alloc (.cells #[.slice A l.length c, .pointer (some ⟨g, 0, none⟩)] 64)).heap.size = w.heap.size + 1) := by show _ = _; go_size
  rw [hz.out] at K2
  clear hs hp hA hn HLESS
  have d2 := K1.out.c2
  go_enter Tryz.func36, Tryz.ntmps36
  go_wp2_with fail
  refine (CP.out _ S2.out).mono ?_
  rintro r w2 ⟨rfl, b2⟩
  have TS := Lib.hid ((S2.out.below b2).below (below_new w2 (.cells #[.int .i64 1, .string tt, .int .i64 tv, .int .i64 tp] 109)))
  have TK1 := Lib.hid ((K1.out.below' b2).alloc (.cells #[.int .i64 1, .string tt, .int .i64 tv, .int .i64 tp] 109))
  have TK2 := Lib.hid ((K2.out.below' b2).alloc (.cells #[.int .i64 1, .string tt, .int .i64 tv, .int .i64 tp] 109))
  have TO := Lib.hid ((O2.out.then_below b2).alloc (.cells #[.int .i64 1, .string tt, .int .i64 tv, .int .i64 tp] 109))
  have KT := Lib.hid (Blk.new w2 109 #[.int .i64 1, .string tt, .int .i64 tv, .int .i64 tp])
  clear b2 d2 S2 K1 K2 O2 hz
  have d4 := KT.out.c4
  have d2 := TK1.out.c2
  go_wp2_with fail
  generalize w2.alloc (.cells #[.int .i64 1, .string tt, .int .i64 tv, .int .i64 tp] 109) = w3 at *
  refine (CO.out _).mono ?_
  rintro r w4 ⟨rfl, b4⟩
  have S4 := Lib.hid (TS.out.below b4)
  have K14 := Lib.hid (TK1.out.below' b4)
  have K24 := Lib.hid (TK2.out.below' b4)
  have O4 := Lib.hid (TO.out.then_below b4)
  clear b4 d2 d4 TS TK1 TK2 TO KT
  have d2 := K14.out.c2
  have lp := K14.out.lt
  go_wp2_with fail
  
  have E6 : Hid (XMid 64 28 113 109 w (w4.alloc (.cells #[.int .i64 5, .int .i64 0, .int .i64 0, .int .i64 0, .int .i64 0, .int .i64 0, .int .i64 0, .int .i64 0, .slice none 0 0] 28)) g w4.heap.size #[.slice A l.length c, .pointer (some ⟨g, 0, none⟩)] 5 0 zero6 none 0 d [] L 0) := mid_new S4.out K14.out K24.out O4.out hg 5 d
  generalize w4.alloc (.cells #[.int .i64 5, .int .i64 0, .int .i64 0, .int .i64 0, .int .i64 0, .int .i64 0, .int .i64 0, .int .i64 0, .slice none 0 0] 28) = w6 at *
  generalize w4.heap.size = q at *
  clear S4 K14 K24 O4 d2 lp
  
  refine (CN.out _ E6.out.scan).mono ?_
  rintro r w7 ⟨rfl, s7, o7⟩
  have E7 := Lib.hid (E6.out.step s7 o7)
  clear s7 o7 E6
  have d2 := E7.out.par.c2
  go_wp2_with fail
  refine (CX.out _ E7.out.scan).mono ?_
  rintro r w8 ⟨rfl, s8, o8⟩
  have E8 := Lib.hid (E7.out.step s8 o8)
  clear s8 o8 E7 d2
  obtain ⟨j0, hj0, hj1, hj2, hj3⟩ := info_parts expr_info9
  have hxq := E8.out.far
  go_upto_region 13 with fail
  go_cut [43] from 38 (fun s wx => ∃ (ta : Tree) (b2 c2 : Nat), s = .slice (some ⟨b2, 0, none⟩) 1 c2 ∧ Hid (xF d ta = ax) ∧ Hid (XMid 64 28 113 109 w wx g q #[.slice A l.length c, .pointer (some ⟨g, 0, none⟩)] 5 0 zero6 (some ⟨b2, 0, none⟩) c2 d [ta] aL ae))
  case first =>
    have ED := Lib.hid (E8.out.below ((Below.refl _ _).drew))
    have HAW := E8.out.par.c2
    have HAD := ED.out.par.c2
    have lpar := ED.out.par.lt
    have kq : w8.drew.cell? ⟨q, 8, none⟩ = some (.slice none 0 0) := ED.out.box.cell 8
    have lq := ED.out.box.lt
    refine wp_region_held_drew (S := fun W => W.cell? ⟨w.heap.size, 0, none⟩ = some (.slice A l.length c) ∧ W.cell? ⟨w.heap.size, 1, none⟩ = some (.pointer (some ⟨g, 0, none⟩))) (by kernel_rfl) ?_ (fun hHeld => ?_)
    · (try dsimp only)
      first | with_reducible exact HAD | with_reducible exact HAW | go_keep
    refine wpAnyH_take (i := 0) (v := ?v0_5101) rfl (by kernel_rfl) (by kernel_rfl) (by kernel_rfl) (fun _ _ _ h => h) (Or.inl ⟨by rfl, ?h0_5101⟩) (by assumption) ?r0_5101
    case h0_5101 => intro w hSw; (try dsimp only at hSw); go_simp; try with_reducible rfl
    try simp only [Act.put, List.setIfInBounds_toArray, List.set_cons_zero, List.set_cons_succ]
    refine wpAnyH_take (i := 2) (v := ?v2_5102) rfl (by kernel_rfl) (by kernel_rfl) (by kernel_rfl) (fun _ _ _ h => h) (Or.inl ⟨by rfl, ?h2_5102⟩) (by assumption) ?r2_5102
    case h2_5102 => intro w hSw; (try dsimp only at hSw); go_simp; try with_reducible rfl
    try simp only [Act.put, List.setIfInBounds_toArray, List.set_cons_zero, List.set_cons_succ]
    refine wpAnyH_ready (rs := [1, 3]) (by kernel_rfl) (by simp) ?_
    refine AllReadyH.cons (o := ?o1_5103) ?ho1_5103 (fun KK hKK => ?st1_5103) ?mo1_5103
    case ho1_5103 => (simp only [List.getElem?_toArray, List.getElem?_cons_succ, List.getElem?_cons_zero]; rfl)
    case st1_5103 =>
      go_simp
      refine hKK.out _ _ ?_ (fun hHeld2 => ?_)
      · (try dsimp only)
        first | with_reducible exact HA12 | with_reducible exact HA10 | with_reducible exact HA9 | with_reducible exact HAD | go_keep
      clear hKK KK hHeld
      have hHeld := hHeld2
      clear hHeld2
      try simp only [Act.put, List.setIfInBounds_toArray, List.set_cons_zero, List.set_cons_succ]
      refine wpAnyH_ready (rs := [3]) (by kernel_rfl) (by simp) ?_
      refine AllReadyH.cons (o := ?o3_5104) ?ho3_5104 (fun KK hKK => ?st3_5104) ?mo3_5104
      case ho3_5104 => (simp only [List.getElem?_toArray, List.getElem?_cons_succ, List.getElem?_cons_zero]; rfl)
      case st3_5104 =>
        (go_simp; go_at_call 77; refine (HA1.out _ ED.out.only ED.out.scan).mono ?_; rintro r w9 ⟨ta, rfl, hx9, hi9, s9, o9⟩; have HX := Lib.hid hx9; have E9 := Lib.hid (ED.out.step s9 o9); have HI := Lib.hid hi9; clear s9 o9 hx9 hi9; have HA9 := E9.out.par.c2; have lp9 := E9.out.par.lt; have kq9 : w9.cell? ⟨q, 8, none⟩ = some (.slice none 0 0) := E9.out.box.cell 8; have lq9 := E9.out.box.lt; obtain ⟨op9, p9, v9, B9, cb9, ks9⟩ := ta; dsimp only [Tree.val, Tree.op, Tree.want, Tree.value, Tree.a, Tree.c, Tree.args])
        refine hKK.out _ _ ?_ (fun hHeld2 => ?_)
        · (try dsimp only)
          first | with_reducible exact HA12 | with_reducible exact HA10 | with_reducible exact HA9 | with_reducible exact HAD | go_keep
        clear hKK KK hHeld
        have hHeld := hHeld2
        clear hHeld2
        try simp only [Act.put, List.setIfInBounds_toArray, List.set_cons_zero, List.set_cons_succ]
        refine wpAnyH_ready (rs := [4]) (by kernel_rfl) (by simp) ?_
        refine AllReadyH.cons (o := ?o4_5105) ?ho4_5105 (fun KK hKK => ?st4_5105) ?mo4_5105
        case ho4_5105 => (simp only [List.getElem?_toArray, List.getElem?_cons_succ, List.getElem?_cons_zero]; rfl)
        case st4_5105 =>
          go_simp
          refine hKK.out _ _ ?_ (fun hHeld2 => ?_)
          · (try dsimp only)
            first | with_reducible exact HA12 | with_reducible exact HA10 | with_reducible exact HA9 | with_reducible exact HAD | go_keep
          clear hKK KK hHeld
          have hHeld := hHeld2
          clear hHeld2
          try simp only [Act.put, List.setIfInBounds_toArray, List.set_cons_zero, List.set_cons_succ]
          refine wpAnyH_ready (rs := [5]) (by kernel_rfl) (by simp) ?_
          refine AllReadyH.cons (o := ?o5_5106) ?ho5_5106 (fun KK hKK => ?st5_5106) ?mo5_5106
          case ho5_5106 => (simp only [List.getElem?_toArray, List.getElem?_cons_succ, List.getElem?_cons_zero]; rfl)
          case st5_5106 =>
            (have E11 := Lib.hid (E9.out.below (below_new w9 (.cells (Tree.mk op9 p9 v9 B9 cb9 ks9).cells.toArray 28))); refine step_append_lies _ rfl (.tmp 39) (.tmp 42) _ rfl (q + 1) 28 j0 _ 9 88 Tryz.underlying26 hj0 hj1 hj2 hj3 rfl (by decide) (.slice none 0 0) 0 (([] : List Tree).flatMap Tree.cells) rfl E11.out.own ⟨w9.heap.size, 0, none⟩ 1 1 (Tree.mk op9 p9 v9 B9 cb9 ks9).cells rfl rfl (tree_new w9 28 (Tree.mk op9 p9 v9 B9 cb9 ks9)) (tree_cell1 (Tree.mk op9 p9 v9 B9 cb9 ks9)) (by decide) (by decide) (by decide) (by simp; omega) _ rfl ?_; intro b2 c2 w10 hown hgrow hat hlt; have KG := E11.out.box.grown hgrow (E11.out.row_ne (Nat.le_refl _)).symm; have E12 : Hid (XMid 64 28 113 109 w (w10.setCell ⟨q, 8, none⟩ (.slice (some ⟨b2, 0, none⟩) 1 c2)) g q #[.slice A l.length c, .pointer (some ⟨g, 0, none⟩)] 5 0 zero6 (some ⟨b2, 0, none⟩) c2 d [(Tree.mk op9 p9 v9 B9 cb9 ks9)] aL ae) := (E11.out.grow (by decide) (by decide) (Tree.mk op9 p9 v9 B9 cb9 ks9) (ED.out.fit (HI.out.below (below_new w9 (.cells (Tree.mk op9 p9 v9 B9 cb9 ks9).cells.toArray 28)))) hgrow hown hat); have HA10 := (E11.out.par.grown hgrow (E11.out.row_ne (by have := E11.out.far; omega)).symm).c2; have HA12 := E12.out.par.c2; have kq10 : w10.cell? ⟨q, 8, none⟩ = some (.slice none 0 0) := KG.cell 8; have lq10 := KG.lt; have kf10 := KG.free 8; clear hown hgrow hat)
            refine hKK.out _ _ ?_ (fun hHeld2 => ?_)
            · (try dsimp only)
              first | with_reducible exact HA12 | with_reducible exact HA10 | with_reducible exact HA9 | with_reducible exact HAD | go_keep
            clear hKK KK hHeld
            have hHeld := hHeld2
            clear hHeld2
            try simp only [Act.put, List.setIfInBounds_toArray, List.set_cons_zero, List.set_cons_succ]
            refine wpAnyH_take (i := 6) (v := ?v6_5107) rfl (by kernel_rfl) (by kernel_rfl) (by kernel_rfl) (fun _ _ _ h => h) (Or.inl ⟨by rfl, ?h6_5107⟩) (by assumption) ?r6_5107
            case h6_5107 => intro w hSw; (try dsimp only at hSw); go_simp; try with_reducible rfl
            try simp only [Act.put, List.setIfInBounds_toArray, List.set_cons_zero, List.set_cons_succ]
            refine wpAnyH_ready (rs := [7]) (by kernel_rfl) (by simp) ?_
            refine AllReadyH.cons (o := ?o7_5108) ?ho7_5108 (fun KK hKK => ?st7_5108) ?mo7_5108
            case ho7_5108 => (simp only [List.getElem?_toArray, List.getElem?_cons_succ, List.getElem?_cons_zero]; rfl)
            case st7_5108 =>
              go_simp
              refine hKK.out _ _ ?_ (fun hHeld2 => ?_)
              · (try dsimp only)
                first | with_reducible exact HA12 | with_reducible exact HA10 | with_reducible exact HA9 | with_reducible exact HAD | go_keep
              clear hKK KK hHeld
              have hHeld := hHeld2
              clear hHeld2
              try simp only [Act.put, List.setIfInBounds_toArray, List.set_cons_zero, List.set_cons_succ]
              refine wpAnyH_done (by kernel_rfl) ?_ _
              go_wp2_with fail
              go_meet
              exact ⟨.mk op9 p9 v9 B9 cb9 ks9, b2, c2, rfl, HX, E12⟩
            case mo7_5108 =>
              exact AllReadyH.nil
          case mo5_5106 =>
            exact AllReadyH.nil
        case mo4_5105 =>
          exact AllReadyH.nil
      case mo3_5104 =>
        exact AllReadyH.nil
    case mo1_5103 =>
      refine AllReadyH.cons (o := ?o3_5109) ?ho3_5109 (fun KK hKK => ?st3_5109) ?mo3_5109
      case ho3_5109 => (simp only [List.getElem?_toArray, List.getElem?_cons_succ, List.getElem?_cons_zero]; rfl)
      case st3_5109 =>
        (go_simp; go_at_call 77; refine (HA1.out _ ED.out.only ED.out.scan).mono ?_; rintro r w9 ⟨ta, rfl, hx9, hi9, s9, o9⟩; have HX := Lib.hid hx9; have E9 := Lib.hid (ED.out.step s9 o9); have HI := Lib.hid hi9; clear s9 o9 hx9 hi9; have HA9 := E9.out.par.c2; have lp9 := E9.out.par.lt; have kq9 : w9.cell? ⟨q, 8, none⟩ = some (.slice none 0 0) := E9.out.box.cell 8; have lq9 := E9.out.box.lt; obtain ⟨op9, p9, v9, B9, cb9, ks9⟩ := ta; dsimp only [Tree.val, Tree.op, Tree.want, Tree.value, Tree.a, Tree.c, Tree.args])
        refine hKK.out _ _ ?_ (fun hHeld2 => ?_)
        · (try dsimp only)
          first | with_reducible exact HA12 | with_reducible exact HA10 | with_reducible exact HA9 | with_reducible exact HAD | go_keep
        clear hKK KK hHeld
        have hHeld := hHeld2
        clear hHeld2
        try simp only [Act.put, List.setIfInBounds_toArray, List.set_cons_zero, List.set_cons_succ]
        refine wpAnyH_ready (rs := [1, 4]) (by kernel_rfl) (by simp) ?_
        refine AllReadyH.cons (o := ?o1_5110) ?ho1_5110 (fun KK hKK => ?st1_5110) ?mo1_5110
        case ho1_5110 => (simp only [List.getElem?_toArray, List.getElem?_cons_succ, List.getElem?_cons_zero]; rfl)
        case st1_5110 =>
          go_simp
          refine hKK.out _ _ ?_ (fun hHeld2 => ?_)
          · (try dsimp only)
            first | with_reducible exact HA12 | with_reducible exact HA10 | with_reducible exact HA9 | with_reducible exact HAD | go_keep
          clear hKK KK hHeld
          have hHeld := hHeld2
          clear hHeld2
          try simp only [Act.put, List.setIfInBounds_toArray, List.set_cons_zero, List.set_cons_succ]
          refine wpAnyH_ready (rs := [4]) (by kernel_rfl) (by simp) ?_
          refine AllReadyH.cons (o := ?o4_5111) ?ho4_5111 (fun KK hKK => ?st4_5111) ?mo4_5111
          case ho4_5111 => (simp only [List.getElem?_toArray, List.getElem?_cons_succ, List.getElem?_cons_zero]; rfl)
          case st4_5111 =>
            go_simp
            refine hKK.out _ _ ?_ (fun hHeld2 => ?_)
            · (try dsimp only)
              first | with_reducible exact HA12 | with_reducible exact HA10 | with_reducible exact HA9 | with_reducible exact HAD | go_keep
            clear hKK KK hHeld
            have hHeld := hHeld2
            clear hHeld2
            try simp only [Act.put, List.setIfInBounds_toArray, List.set_cons_zero, List.set_cons_succ]
            refine wpAnyH_ready (rs := [5]) (by kernel_rfl) (by simp) ?_
            refine AllReadyH.cons (o := ?o5_5112) ?ho5_5112 (fun KK hKK => ?st5_5112) ?mo5_5112
            case ho5_5112 => (simp only [List.getElem?_toArray, List.getElem?_cons_succ, List.getElem?_cons_zero]; rfl)
            case st5_5112 =>
              (have E11 := Lib.hid (E9.out.below (below_new w9 (.cells (Tree.mk op9 p9 v9 B9 cb9 ks9).cells.toArray 28))); refine step_append_lies _ rfl (.tmp 39) (.tmp 42) _ rfl (q + 1) 28 j0 _ 9 88 Tryz.underlying26 hj0 hj1 hj2 hj3 rfl (by decide) (.slice none 0 0) 0 (([] : List Tree).flatMap Tree.cells) rfl E11.out.own ⟨w9.heap.size, 0, none⟩ 1 1 (Tree.mk op9 p9 v9 B9 cb9 ks9).cells rfl rfl (tree_new w9 28 (Tree.mk op9 p9 v9 B9 cb9 ks9)) (tree_cell1 (Tree.mk op9 p9 v9 B9 cb9 ks9)) (by decide) (by decide) (by decide) (by simp; omega) _ rfl ?_; intro b2 c2 w10 hown hgrow hat hlt; have KG := E11.out.box.grown hgrow (E11.out.row_ne (Nat.le_refl _)).symm; have E12 : Hid (XMid 64 28 113 109 w (w10.setCell ⟨q, 8, none⟩ (.slice (some ⟨b2, 0, none⟩) 1 c2)) g q #[.slice A l.length c, .pointer (some ⟨g, 0, none⟩)] 5 0 zero6 (some ⟨b2, 0, none⟩) c2 d [(Tree.mk op9 p9 v9 B9 cb9 ks9)] aL ae) := (E11.out.grow (by decide) (by decide) (Tree.mk op9 p9 v9 B9 cb9 ks9) (ED.out.fit (HI.out.below (below_new w9 (.cells (Tree.mk op9 p9 v9 B9 cb9 ks9).cells.toArray 28)))) hgrow hown hat); have HA10 := (E11.out.par.grown hgrow (E11.out.row_ne (by have := E11.out.far; omega)).symm).c2; have HA12 := E12.out.par.c2; have kq10 : w10.cell? ⟨q, 8, none⟩ = some (.slice none 0 0) := KG.cell 8; have lq10 := KG.lt; have kf10 := KG.free 8; clear hown hgrow hat)
              refine hKK.out _ _ ?_ (fun hHeld2 => ?_)
              · (try dsimp only)
                first | with_reducible exact HA12 | with_reducible exact HA10 | with_reducible exact HA9 | with_reducible exact HAD | go_keep
              clear hKK KK hHeld
              have hHeld := hHeld2
              clear hHeld2
              try simp only [Act.put, List.setIfInBounds_toArray, List.set_cons_zero, List.set_cons_succ]
              refine wpAnyH_take (i := 6) (v := ?v6_5113) rfl (by kernel_rfl) (by kernel_rfl) (by kernel_rfl) (fun _ _ _ h => h) (Or.inl ⟨by rfl, ?h6_5113⟩) (by assumption) ?r6_5113
              case h6_5113 => intro w hSw; (try dsimp only at hSw); go_simp; try with_reducible rfl
              try simp only [Act.put, List.setIfInBounds_toArray, List.set_cons_zero, List.set_cons_succ]
              refine wpAnyH_ready (rs := [7]) (by kernel_rfl) (by simp) ?_
              refine AllReadyH.cons (o := ?o7_5114) ?ho7_5114 (fun KK hKK => ?st7_5114) ?mo7_5114
              case ho7_5114 => (simp only [List.getElem?_toArray, List.getElem?_cons_succ, List.getElem?_cons_zero]; rfl)
              case st7_5114 =>
                go_simp
                refine hKK.out _ _ ?_ (fun hHeld2 => ?_)
                · (try dsimp only)
                  first | with_reducible exact HA12 | with_reducible exact HA10 | with_reducible exact HA9 | with_reducible exact HAD | go_keep
                clear hKK KK hHeld
                have hHeld := hHeld2
                clear hHeld2
                try simp only [Act.put, List.setIfInBounds_toArray, List.set_cons_zero, List.set_cons_succ]
                refine wpAnyH_done (by kernel_rfl) ?_ _
                go_wp2_with fail
                go_meet
                exact ⟨.mk op9 p9 v9 B9 cb9 ks9, b2, c2, rfl, HX, E12⟩
              case mo7_5114 =>
                exact AllReadyH.nil
            case mo5_5112 =>
              exact AllReadyH.nil
          case mo4_5111 =>
            exact AllReadyH.nil
        case mo1_5110 =>
          refine AllReadyH.cons (o := ?o4_5115) ?ho4_5115 (fun KK hKK => ?st4_5115) ?mo4_5115
          case ho4_5115 => (simp only [List.getElem?_toArray, List.getElem?_cons_succ, List.getElem?_cons_zero]; rfl)
          case st4_5115 =>
            go_simp
            refine hKK.out _ _ ?_ (fun hHeld2 => ?_)
            · (try dsimp only)
              first | with_reducible exact HA12 | with_reducible exact HA10 | with_reducible exact HA9 | with_reducible exact HAD | go_keep
            clear hKK KK hHeld
            have hHeld := hHeld2
            clear hHeld2
            try simp only [Act.put, List.setIfInBounds_toArray, List.set_cons_zero, List.set_cons_succ]
            refine wpAnyH_ready (rs := [1]) (by kernel_rfl) (by simp) ?_
            refine AllReadyH.cons (o := ?o1_5116) ?ho1_5116 (fun KK hKK => ?st1_5116) ?mo1_5116
            case ho1_5116 => (simp only [List.getElem?_toArray, List.getElem?_cons_succ, List.getElem?_cons_zero]; rfl)
            case st1_5116 =>
              go_simp
              refine hKK.out _ _ ?_ (fun hHeld2 => ?_)
              · (try dsimp only)
                first | with_reducible exact HA12 | with_reducible exact HA10 | with_reducible exact HA9 | with_reducible exact HAD | go_keep
              clear hKK KK hHeld
              have hHeld := hHeld2
              clear hHeld2
              try simp only [Act.put, List.setIfInBounds_toArray, List.set_cons_zero, List.set_cons_succ]
              refine wpAnyH_ready (rs := [5]) (by kernel_rfl) (by simp) ?_
              refine AllReadyH.cons (o := ?o5_5117) ?ho5_5117 (fun KK hKK => ?st5_5117) ?mo5_5117
              case ho5_5117 => (simp only [List.getElem?_toArray, List.getElem?_cons_succ, List.getElem?_cons_zero]; rfl)
              case st5_5117 =>
                (have E11 := Lib.hid (E9.out.below (below_new w9 (.cells (Tree.mk op9 p9 v9 B9 cb9 ks9).cells.toArray 28))); refine step_append_lies _ rfl (.tmp 39) (.tmp 42) _ rfl (q + 1) 28 j0 _ 9 88 Tryz.underlying26 hj0 hj1 hj2 hj3 rfl (by decide) (.slice none 0 0) 0 (([] : List Tree).flatMap Tree.cells) rfl E11.out.own ⟨w9.heap.size, 0, none⟩ 1 1 (Tree.mk op9 p9 v9 B9 cb9 ks9).cells rfl rfl (tree_new w9 28 (Tree.mk op9 p9 v9 B9 cb9 ks9)) (tree_cell1 (Tree.mk op9 p9 v9 B9 cb9 ks9)) (by decide) (by decide) (by decide) (by simp; omega) _ rfl ?_; intro b2 c2 w10 hown hgrow hat hlt; have KG := E11.out.box.grown hgrow (E11.out.row_ne (Nat.le_refl _)).symm; have E12 : Hid (XMid 64 28 113 109 w (w10.setCell ⟨q, 8, none⟩ (.slice (some ⟨b2, 0, none⟩) 1 c2)) g q #[.slice A l.length c, .pointer (some ⟨g, 0, none⟩)] 5 0 zero6 (some ⟨b2, 0, none⟩) c2 d [(Tree.mk op9 p9 v9 B9 cb9 ks9)] aL ae) := (E11.out.grow (by decide) (by decide) (Tree.mk op9 p9 v9 B9 cb9 ks9) (ED.out.fit (HI.out.below (below_new w9 (.cells (Tree.mk op9 p9 v9 B9 cb9 ks9).cells.toArray 28)))) hgrow hown hat); have HA10 := (E11.out.par.grown hgrow (E11.out.row_ne (by have := E11.out.far; omega)).symm).c2; have HA12 := E12.out.par.c2; have kq10 : w10.cell? ⟨q, 8, none⟩ = some (.slice none 0 0) := KG.cell 8; have lq10 := KG.lt; have kf10 := KG.free 8; clear hown hgrow hat)
                refine hKK.out _ _ ?_ (fun hHeld2 => ?_)
                · (try dsimp only)
                  first | with_reducible exact HA12 | with_reducible exact HA10 | with_reducible exact HA9 | with_reducible exact HAD | go_keep
                clear hKK KK hHeld
                have hHeld := hHeld2
                clear hHeld2
                try simp only [Act.put, List.setIfInBounds_toArray, List.set_cons_zero, List.set_cons_succ]
                refine wpAnyH_take (i := 6) (v := ?v6_5118) rfl (by kernel_rfl) (by kernel_rfl) (by kernel_rfl) (fun _ _ _ h => h) (Or.inl ⟨by rfl, ?h6_5118⟩) (by assumption) ?r6_5118
                case h6_5118 => intro w hSw; (try dsimp only at hSw); go_simp; try with_reducible rfl
                try simp only [Act.put, List.setIfInBounds_toArray, List.set_cons_zero, List.set_cons_succ]
                refine wpAnyH_ready (rs := [7]) (by kernel_rfl) (by simp) ?_
                refine AllReadyH.cons (o := ?o7_5119) ?ho7_5119 (fun KK hKK => ?st7_5119) ?mo7_5119
                case ho7_5119 => (simp only [List.getElem?_toArray, List.getElem?_cons_succ, List.getElem?_cons_zero]; rfl)
                case st7_5119 =>
                  go_simp
                  refine hKK.out _ _ ?_ (fun hHeld2 => ?_)
                  · (try dsimp only)
                    first | with_reducible exact HA12 | with_reducible exact HA10 | with_reducible exact HA9 | with_reducible exact HAD | go_keep
                  clear hKK KK hHeld
                  have hHeld := hHeld2
                  clear hHeld2
                  try simp only [Act.put, List.setIfInBounds_toArray, List.set_cons_zero, List.set_cons_succ]
                  refine wpAnyH_done (by kernel_rfl) ?_ _
                  go_wp2_with fail
                  go_meet
                  exact ⟨.mk op9 p9 v9 B9 cb9 ks9, b2, c2, rfl, HX, E12⟩
                case mo7_5119 =>
                  exact AllReadyH.nil
              case mo5_5117 =>
                exact AllReadyH.nil
            case mo1_5116 =>
              exact AllReadyH.nil
          case mo4_5115 =>
            exact AllReadyH.nil
      case mo3_5109 =>
        exact AllReadyH.nil
  case rest =>
    obtain ⟨ta, b2, c2, rfl, HXa, E20⟩ := hcut
    clear HA1 CN CX CP CO CF E8 hxq
    have d2 := E20.out.par.c2
    have lpr := E20.out.par.lt
    go_wp2_with fail
    refine (CE.out _ _ _ ⟨#[44]⟩ E20.out.scan (by omega)).mono ?_
    rintro r w22 ⟨rfl, s22, o22⟩
    have E22 := Lib.hid (E20.out.step s22 o22)
    have hL22 := expL_len aL ae ⟨#[44]⟩
    clear s22 o22 d2 lpr E20
    have hbx : bodyX l f 5 ⟨ax, aL, ae⟩ = closeX ⟨.mk 5 (n6 zero6) (amtV (expL aL ae ⟨#[44]⟩) (expE aL ae ⟨#[44]⟩) 1000000) [ax], amtL (expL aL ae ⟨#[44]⟩) (expE aL ae ⟨#[44]⟩) 1000000, amtE (expL aL ae ⟨#[44]⟩) (expE aL ae ⟨#[44]⟩) 1000000⟩ := by
      unfold bodyX
      rw [if_neg (by decide), if_neg (by decide), if_pos rfl]
    have HB2 := Lib.hid (HB.out.symm.trans hbx)
    clear hbx HB
    generalize expL aL ae ⟨#[44]⟩ = L22 at *
    generalize expE aL ae ⟨#[44]⟩ = e22 at *
    have hpl := amtL_len L22 e22 1000000
    have CMx := Lib.hid fun W (h : Scan 113 109 W g L22 e22) => CM.out W L22 e22 h (by omega)
    generalize amtV L22 e22 1000000 = v23 at *
    generalize amtL L22 e22 1000000 = qL at *
    generalize amtE L22 e22 1000000 = qe at *
    have d2 := E22.out.par.c2
    have lpr := E22.out.par.lt
    go_wp2_with fail
    refine (CMx.out _ E22.out.scan).mono ?_
    rintro r w23 ⟨rfl, s23, o23⟩
    have E23 := Lib.hid (E22.out.step s23 o23)
    clear s23 o23 d2 lpr E22
    have C0 : w23.cell? ⟨q, 0, none⟩ = some (.int .i64 5) := E23.out.box.cell 0
    have Cf0 := E23.out.box.free 0
    have C1 : w23.cell? ⟨q, 1, none⟩ = some (.int .i64 0) := E23.out.box.cell 1
    have Cf1 := E23.out.box.free 1
    have C2 : w23.cell? ⟨q, 2, none⟩ = some (.int .i64 0) := E23.out.box.cell 2
    have Cf2 := E23.out.box.free 2
    have C3 : w23.cell? ⟨q, 3, none⟩ = some (.int .i64 0) := E23.out.box.cell 3
    have Cf3 := E23.out.box.free 3
    have C4 : w23.cell? ⟨q, 4, none⟩ = some (.int .i64 0) := E23.out.box.cell 4
    have Cf4 := E23.out.box.free 4
    have C5 : w23.cell? ⟨q, 5, none⟩ = some (.int .i64 0) := E23.out.box.cell 5
    have Cf5 := E23.out.box.free 5
    have C6 : w23.cell? ⟨q, 6, none⟩ = some (.int .i64 0) := E23.out.box.cell 6
    have Cf6 := E23.out.box.free 6
    have C7 : w23.cell? ⟨q, 7, none⟩ = some (.int .i64 0) := E23.out.box.cell 7
    have Cf7 := E23.out.box.free 7
    have C8 : w23.cell? ⟨q, 8, none⟩ = some (.slice (some ⟨b2, 0, none⟩) 1 c2) := E23.out.box.cell 8
    have Cf8 := E23.out.box.free 8
    have Cl := E23.out.box.lt
    try dsimp only
    iterate 9 (first | go_values | go_skip | go_guarded | go_step | go_upon)
    have E24 : Hid (XMid 64 28 113 109 w (w23.setCell ⟨q, 7, none⟩ (.int .i64 v23)) g q #[.slice A l.length c, .pointer (some ⟨g, 0, none⟩)] 5 v23 zero6 (some ⟨b2, 0, none⟩) c2 d [ta] qL qe) := E23.out.put (by decide) (by decide) v23
    generalize w23.setCell ⟨q, 7, none⟩ (.int .i64 v23) = w24 at *
    clear E23 C0 Cf0 C1 Cf1 C2 Cf2 C3 Cf3 C4 Cf4 C5 Cf5 C6 Cf6 C7 Cf7 C8 Cf8 Cl
    
    have d2 := E24.out.par.c2
    have lpr := E24.out.par.lt
    go_wp2_with fail
    refine (CE.out _ _ _ ⟨#[41]⟩ E24.out.scan (by omega)).mono ?_
    rintro r w30 ⟨rfl, s30, o30⟩
    have E30 := Lib.hid (E24.out.step s30 o30)
    clear s30 o30 d2 lpr
    have C0 : w30.cell? ⟨q, 0, none⟩ = some (.int .i64 5) := E30.out.box.cell 0
    have C1 : w30.cell? ⟨q, 1, none⟩ = some (.int .i64 0) := E30.out.box.cell 1
    have C2 : w30.cell? ⟨q, 2, none⟩ = some (.int .i64 0) := E30.out.box.cell 2
    have C3 : w30.cell? ⟨q, 3, none⟩ = some (.int .i64 0) := E30.out.box.cell 3
    have C4 : w30.cell? ⟨q, 4, none⟩ = some (.int .i64 0) := E30.out.box.cell 4
    have C5 : w30.cell? ⟨q, 5, none⟩ = some (.int .i64 0) := E30.out.box.cell 5
    have C6 : w30.cell? ⟨q, 6, none⟩ = some (.int .i64 0) := E30.out.box.cell 6
    have C7 : w30.cell? ⟨q, 7, none⟩ = some (.int .i64 v23) := E30.out.box.cell 7
    have C8 : w30.cell? ⟨q, 8, none⟩ = some (.slice (some ⟨b2, 0, none⟩) 1 c2) := E30.out.box.cell 8
    have Cl := E30.out.box.lt
    have D0 : w30.cell? ⟨w.heap.size + 1, 0, none⟩ = some (.int .i64 0) := E30.out.res.cell 0
    have Df0 := E30.out.res.free 0
    have D1 : w30.cell? ⟨w.heap.size + 1, 1, none⟩ = some (.int .i64 0) := E30.out.res.cell 1
    have Df1 := E30.out.res.free 1
    have D2 : w30.cell? ⟨w.heap.size + 1, 2, none⟩ = some (.int .i64 0) := E30.out.res.cell 2
    have Df2 := E30.out.res.free 2
    have D3 : w30.cell? ⟨w.heap.size + 1, 3, none⟩ = some (.int .i64 0) := E30.out.res.cell 3
    have Df3 := E30.out.res.free 3
    have D4 : w30.cell? ⟨w.heap.size + 1, 4, none⟩ = some (.int .i64 0) := E30.out.res.cell 4
    have Df4 := E30.out.res.free 4
    have D5 : w30.cell? ⟨w.heap.size + 1, 5, none⟩ = some (.int .i64 0) := E30.out.res.cell 5
    have Df5 := E30.out.res.free 5
    have D6 : w30.cell? ⟨w.heap.size + 1, 6, none⟩ = some (.int .i64 0) := E30.out.res.cell 6
    have Df6 := E30.out.res.free 6
    have D7 : w30.cell? ⟨w.heap.size + 1, 7, none⟩ = some (.int .i64 0) := E30.out.res.cell 7
    have Df7 := E30.out.res.free 7
    have D8 : w30.cell? ⟨w.heap.size + 1, 8, none⟩ = some (.slice none 0 0) := E30.out.res.cell 8
    have Df8 := E30.out.res.free 8
    have Dl := E30.out.res.lt
    have hxq30 := E30.out.far
    have hne1 : (q == w.heap.size + 1) = false := by simp; omega
    have hne2 : (w.heap.size + 1 == q) = false := by simp; omega
    have hne3 : ¬ q = w.heap.size + 1 := by omega
    have hne4 : ¬ w.heap.size + 1 = q := by omega
    try dsimp only
    iterate 13 (first | go_values | go_skip | go_guarded | go_step | go_upon)
    have Z9 : InP (fun b => w.heap.size ≤ b) (d + 1) (((((((((w30.setCell ⟨w.heap.size + 1, 0, none⟩ (.int .i64 5)).setCell ⟨w.heap.size + 1, 1, none⟩ (.int .i64 0)).setCell ⟨w.heap.size + 1, 2, none⟩ (.int .i64 0)).setCell ⟨w.heap.size + 1, 3, none⟩ (.int .i64 0)).setCell ⟨w.heap.size + 1, 4, none⟩ (.int .i64 0)).setCell ⟨w.heap.size + 1, 5, none⟩ (.int .i64 0)).setCell ⟨w.heap.size + 1, 6, none⟩ (.int .i64 0)).setCell ⟨w.heap.size + 1, 7, none⟩ (.int .i64 v23)).setCell ⟨w.heap.size + 1, 8, none⟩ (.slice (some ⟨b2, 0, none⟩) 1 c2)) (.mk 5 zero6 v23 (some ⟨b2, 0, none⟩) c2 [ta]) ∧ Scan 113 109 (((((((((w30.setCell ⟨w.heap.size + 1, 0, none⟩ (.int .i64 5)).setCell ⟨w.heap.size + 1, 1, none⟩ (.int .i64 0)).setCell ⟨w.heap.size + 1, 2, none⟩ (.int .i64 0)).setCell ⟨w.heap.size + 1, 3, none⟩ (.int .i64 0)).setCell ⟨w.heap.size + 1, 4, none⟩ (.int .i64 0)).setCell ⟨w.heap.size + 1, 5, none⟩ (.int .i64 0)).setCell ⟨w.heap.size + 1, 6, none⟩ (.int .i64 0)).setCell ⟨w.heap.size + 1, 7, none⟩ (.int .i64 v23)).setCell ⟨w.heap.size + 1, 8, none⟩ (.slice (some ⟨b2, 0, none⟩) 1 c2)) g (expL qL qe ⟨#[41]⟩) (expE qL qe ⟨#[41]⟩) ∧ Only g w (((((((((w30.setCell ⟨w.heap.size + 1, 0, none⟩ (.int .i64 5)).setCell ⟨w.heap.size + 1, 1, none⟩ (.int .i64 0)).setCell ⟨w.heap.size + 1, 2, none⟩ (.int .i64 0)).setCell ⟨w.heap.size + 1, 3, none⟩ (.int .i64 0)).setCell ⟨w.heap.size + 1, 4, none⟩ (.int .i64 0)).setCell ⟨w.heap.size + 1, 5, none⟩ (.int .i64 0)).setCell ⟨w.heap.size + 1, 6, none⟩ (.int .i64 0)).setCell ⟨w.heap.size + 1, 7, none⟩ (.int .i64 v23)).setCell ⟨w.heap.size + 1, 8, none⟩ (.slice (some ⟨b2, 0, none⟩) 1 c2)) := E30.out.done (by decide) (by decide)
    have R9 : Blk (((((((((w30.setCell ⟨w.heap.size + 1, 0, none⟩ (.int .i64 5)).setCell ⟨w.heap.size + 1, 1, none⟩ (.int .i64 0)).setCell ⟨w.heap.size + 1, 2, none⟩ (.int .i64 0)).setCell ⟨w.heap.size + 1, 3, none⟩ (.int .i64 0)).setCell ⟨w.heap.size + 1, 4, none⟩ (.int .i64 0)).setCell ⟨w.heap.size + 1, 5, none⟩ (.int .i64 0)).setCell ⟨w.heap.size + 1, 6, none⟩ (.int .i64 0)).setCell ⟨w.heap.size + 1, 7, none⟩ (.int .i64 v23)).setCell ⟨w.heap.size + 1, 8, none⟩ (.slice (some ⟨b2, 0, none⟩) 1 c2)) (w.heap.size + 1) 28 (cells9 5 v23 zero6 (some ⟨b2, 0, none⟩) 1 c2) := blk_put9 (op := 5) (v := v23) (p := zero6) (A := (some ⟨b2, 0, none⟩)) (n := 1) (c := c2) E30.out.res
    generalize ((((((((w30.setCell ⟨w.heap.size + 1, 0, none⟩ (.int .i64 5)).setCell ⟨w.heap.size + 1, 1, none⟩ (.int .i64 0)).setCell ⟨w.heap.size + 1, 2, none⟩ (.int .i64 0)).setCell ⟨w.heap.size + 1, 3, none⟩ (.int .i64 0)).setCell ⟨w.heap.size + 1, 4, none⟩ (.int .i64 0)).setCell ⟨w.heap.size + 1, 5, none⟩ (.int .i64 0)).setCell ⟨w.heap.size + 1, 6, none⟩ (.int .i64 0)).setCell ⟨w.heap.size + 1, 7, none⟩ (.int .i64 v23)).setCell ⟨w.heap.size + 1, 8, none⟩ (.slice (some ⟨b2, 0, none⟩) 1 c2) = w31 at *
    have Z9 := Lib.hid Z9
    have R9 := Lib.hid R9
    clear C0 D0 Df0 C1 D1 Df1 C2 D2 Df2 C3 D3 Df3 C4 D4 Df4 C5 D5 Df5 C6 D6 Df6 C7 D7 Df7 C8 D8 Df8 Cl Dl E30
    repeat (first | go_values | go_skip | go_guarded | go_step | go_upon)
    exact bodyPost_ret (v := .agg (cells9 5 v23 zero6 (some ⟨b2, 0, none⟩) 1 c2)) (results_blk rfl rfl R9.out Tryz.underlying28 rfl (by kernel_rfl)) rfl (by
      rw [HB2.out]
      exact ⟨.mk 5 zero6 v23 (some ⟨b2, 0, none⟩) c2 [ta], rfl, by rw [← HXa.out]; rfl, Z9.out.1, Z9.out.2.1, Z9.out.2.2⟩)
end Go.Proofs.YtjjlhihocllgjaaGreatDoor.Ex
