/- Law 12, RoundTrip: the walk. Printed by gen_exW.py. -/
import Derived.Test.YtjjlhihocllgjaaDoorExV
namespace Go.Proofs.YtjjlhihocllgjaaDoor.Ex
open Go.ChangeShapes Go.WideShapes Go.ChangeAt Go.RowKit Gn Cat Lex
set_option linter.unusedVariables false
set_option linter.unusedSimpArgs false
theorem fmtX_err {l : List Prod} {d : Nat} {e : Tree} (h : (fmtX l d e).2 ≠ 0) : (fmtX l d e).1 = ⟨#[]⟩ := by
  by_cases h1 : checkE l = 0
  · by_cases h2 : checkX d e = 0
    · cases h3 : (textF l d e).2 with
      | false => rw [fx_3 h1 h2 h3]
      | true =>
        by_cases h4 : 4000 < (textF l d e).1.size
        · rw [fx_4 h1 h2 h3 h4]
        · rw [fx_5 h1 h2 h3 h4] at h; exact absurd rfl h
    · rw [fx_2 h1 h2]
  · rw [fx_1 h1]
/-- Parse of a text that denotes an expression which Check accepts -/
theorem parse_of (l : List Prod) (v : Value) (s : ByteArray) (w : World) (h : PL w v l) (hss : s.size ≤ 5000) {d : Nat} {e : Tree} (hd : Deep d e) (hc : checkX d e = 0) (hE : parseE l s = (0, xF d e)) : Calls Tryd.prog 12 #[v, .string s] w fun r w' => ∃ (t : Tree) (d' : Nat), r = .returned (.tuple #[t.val, .int .i64 0]) ∧ Below w.heap.size w w' ∧ In d' w'.heap.size w' t ∧ xF d' t = xF d e ∧ (preF d' t).length ≤ 5000 := by
  refine (parse_any l v s w h hss).mono ?_
  rintro r w' ⟨t, n, d', rfl, hb, hi, _, hp, hx⟩
  rcases hx with ⟨h1, _⟩ | ⟨_, t0, d0, hd0, h2, h3, h4⟩
  · rw [hE] at h1; exact absurd rfl h1
  · rw [hE] at h2
    have hc0 : checkX d0 t0 = 0 := (check_congr hd0 hd h2).trans hc
    rw [hc0] at h3
    subst h3
    rcases h4 with ⟨_, h4⟩ | ⟨h4, _⟩
    · rw [hE] at h4
      exact ⟨t, d', rfl, hb, hi.to_in, h4, hp⟩
    · exact absurd rfl h4
set_option maxHeartbeats 4000000 in
set_option maxRecDepth 100000 in
theorem law_round (l : List Prod) (v : Value) (d : Nat) (e : Tree) (w : World) (h : ArgX w v l d e) : Calls Tryd.prog 4 #[v, e.val] w (TrueP w) := by
  obtain ⟨A0, c0, rfl, hc0, hc1, _⟩ := ps_cases h.sl
  obtain ⟨op, p, vv, A, cb, ks⟩ := e
  dsimp only [Tree.val, Tree.op, Tree.want, Tree.value, Tree.a, Tree.c, Tree.args]
  have KE := Lib.hid (Blk.new w 27 #[.int .i64 op, .int .i64 (p 0), .int .i64 (p 1), .int .i64 (p 2), .int .i64 (p 3), .int .i64 (p 4), .int .i64 (p 5), .int .i64 vv, .slice A ks.length cb])
  have BE := Lib.hid (below_new w (.cells #[.int .i64 op, .int .i64 (p 0), .int .i64 (p 1), .int .i64 (p 2), .int .i64 (p 3), .int .i64 (p 4), .int .i64 (p 5), .int .i64 vv, .slice A ks.length cb] 27))
  have HT := Lib.hid (fun W (b : Below w.heap.size w W) => h.tab.keep b)
  have HI := Lib.hid (fun W (b : Below w.heap.size w W) => h.tree.keep b)
  have HS := Lib.hid (fun W (b : Below w.heap.size w W) => Sl.keep h.sl b)
  have HN := Lib.hid h.nm
  clear h
  
  have CW := Lib.hid (fun W (b : Below w.heap.size w W) => weigh_any d (.mk op p vv A cb ks) 61 w.heap.size W (HI.out W b) b.size (by decide) (by decide))
  dsimp only [Tree.val, Tree.op, Tree.want, Tree.value, Tree.a, Tree.c, Tree.args] at CW
  
  by_cases h10 : 10 < l.length
  · have q1 : decide ((10 : Int) < (l.length : Int)) = true := by simp; omega
    clear h10
    go_enter Tryd.func4, Tryd.ntmps4
    go_wp2_with fail
    refine (lives_any _ (HT.out _ BE.out)).mono ?_
    rintro r w2 ⟨rfl, dd⟩
    have B2 := Lib.hid (chain0 BE.out dd)
    go_wp2_with fail
    go_ret
    exact ⟨rfl, B2.out⟩
  · have q1 : decide ((10 : Int) < (l.length : Int)) = false := by simp; omega
    have C0 : (w.alloc (.cells #[.int .i64 op, .int .i64 (p 0), .int .i64 (p 1), .int .i64 (p 2), .int .i64 (p 3), .int .i64 (p 4), .int .i64 (p 5), .int .i64 vv, .slice A ks.length cb] 27)).cell? ⟨w.heap.size, 0, none⟩ = some (.int .i64 op) := KE.out.cell 0
    have C1 : (w.alloc (.cells #[.int .i64 op, .int .i64 (p 0), .int .i64 (p 1), .int .i64 (p 2), .int .i64 (p 3), .int .i64 (p 4), .int .i64 (p 5), .int .i64 vv, .slice A ks.length cb] 27)).cell? ⟨w.heap.size, 1, none⟩ = some (.int .i64 (p 0)) := KE.out.cell 1
    have C2 : (w.alloc (.cells #[.int .i64 op, .int .i64 (p 0), .int .i64 (p 1), .int .i64 (p 2), .int .i64 (p 3), .int .i64 (p 4), .int .i64 (p 5), .int .i64 vv, .slice A ks.length cb] 27)).cell? ⟨w.heap.size, 2, none⟩ = some (.int .i64 (p 1)) := KE.out.cell 2
    have C3 : (w.alloc (.cells #[.int .i64 op, .int .i64 (p 0), .int .i64 (p 1), .int .i64 (p 2), .int .i64 (p 3), .int .i64 (p 4), .int .i64 (p 5), .int .i64 vv, .slice A ks.length cb] 27)).cell? ⟨w.heap.size, 3, none⟩ = some (.int .i64 (p 2)) := KE.out.cell 3
    have C4 : (w.alloc (.cells #[.int .i64 op, .int .i64 (p 0), .int .i64 (p 1), .int .i64 (p 2), .int .i64 (p 3), .int .i64 (p 4), .int .i64 (p 5), .int .i64 vv, .slice A ks.length cb] 27)).cell? ⟨w.heap.size, 4, none⟩ = some (.int .i64 (p 3)) := KE.out.cell 4
    have C5 : (w.alloc (.cells #[.int .i64 op, .int .i64 (p 0), .int .i64 (p 1), .int .i64 (p 2), .int .i64 (p 3), .int .i64 (p 4), .int .i64 (p 5), .int .i64 vv, .slice A ks.length cb] 27)).cell? ⟨w.heap.size, 5, none⟩ = some (.int .i64 (p 4)) := KE.out.cell 5
    have C6 : (w.alloc (.cells #[.int .i64 op, .int .i64 (p 0), .int .i64 (p 1), .int .i64 (p 2), .int .i64 (p 3), .int .i64 (p 4), .int .i64 (p 5), .int .i64 vv, .slice A ks.length cb] 27)).cell? ⟨w.heap.size, 6, none⟩ = some (.int .i64 (p 5)) := KE.out.cell 6
    have C7 : (w.alloc (.cells #[.int .i64 op, .int .i64 (p 0), .int .i64 (p 1), .int .i64 (p 2), .int .i64 (p 3), .int .i64 (p 4), .int .i64 (p 5), .int .i64 vv, .slice A ks.length cb] 27)).cell? ⟨w.heap.size, 7, none⟩ = some (.int .i64 vv) := KE.out.cell 7
    have C8 : (w.alloc (.cells #[.int .i64 op, .int .i64 (p 0), .int .i64 (p 1), .int .i64 (p 2), .int .i64 (p 3), .int .i64 (p 4), .int .i64 (p 5), .int .i64 vv, .slice A ks.length cb] 27)).cell? ⟨w.heap.size, 8, none⟩ = some (.slice A ks.length cb) := KE.out.cell 8
    have Cl := KE.out.lt
    go_enter Tryd.func4, Tryd.ntmps4
    go_wp2_with fail
    refine (CW.out _ BE.out).mono ?_
    rintro r w2 ⟨rfl, d2⟩
    have K2 := Lib.hid (KE.out.below' d2)
    have B2 := Lib.hid (chain0 BE.out d2)
    clear d2 KE
    clear C0 C1 C2 C3 C4 C5 C6 C7 C8 Cl
    generalize hmn : min (preF d (.mk op p vv A cb ks)).length 61 = mn
    by_cases h60 : 60 < mn
    · have q2 : decide ((60 : Int) < (mn : Int)) = true := by simp; omega
      clear h60 hmn
      go_wp2_with fail
      refine (lives_any _ (HT.out _ B2.out)).mono ?_
      rintro r w3 ⟨rfl, dd⟩
      have B3 := Lib.hid (chain0 B2.out dd)
      go_wp2_with fail
      go_ret
      exact ⟨rfl, B3.out⟩
    · have q2 : decide ((60 : Int) < (mn : Int)) = false := by simp; omega
      have hsz : (preF d (.mk op p vv A cb ks)).length ≤ 60 := by omega
      clear h60 hmn
      have CF := Lib.hid (fun W (b : Below w.heap.size w W) => format_any l (.slice A0 l.length c0) d (.mk op p vv A cb ks) w.heap.size W ⟨HS.out W b, by omega, HN.out⟩ (HT.out W b) (HI.out W b) b.size (by omega))
      dsimp only [Tree.val, Tree.op, Tree.want, Tree.value, Tree.a, Tree.c, Tree.args] at CF
      have HDE := Lib.hid (HI.out w (Below.refl _ _)).deep
      have HFE := Lib.hid (fmtX_err (l := l) (d := d) (e := .mk op p vv A cb ks))
      have HFB := Lib.hid (fmt_bytes (l := l) (d := d) (e := .mk op p vv A cb ks))
      have HPF := Lib.hid (parse_fmt (l := l) (d := d) (e := .mk op p vv A cb ks))
      have CF2 := Lib.hid (fun (t : Tree) (d' : Nat) (hx : xF d' t = xF d (.mk op p vv A cb ks)) (hp : (preF d' t).length ≤ 5000) W (b : Below w.heap.size w W) (hi : In d' W.heap.size W t) => (show Calls Tryd.prog 10 #[.slice A0 l.length c0, t.val] W (FmtPost (fmtX l d (.mk op p vv A cb ks)) W) from by
        have := format_any l (.slice A0 l.length c0) d' t W.heap.size W ⟨HS.out W b, by omega, HN.out⟩ (HT.out W b) hi (Nat.le_refl _) hp
        rw [fmtX_congr hi.deep HDE.out hx] at this
        exact this))
      generalize hpr : fmtX l d (.mk op p vv A cb ks) = pr at *
      clear hpr
      obtain ⟨ps, pe⟩ := pr
      try dsimp only at CF HFE HFB HPF CF2
      have q3 := beq_self (x := (0 : Int))
      have q4 := beq_bytes (x := ps)
      have C0 : w2.cell? ⟨w.heap.size, 0, none⟩ = some (.int .i64 op) := K2.out.cell 0
      have C1 : w2.cell? ⟨w.heap.size, 1, none⟩ = some (.int .i64 (p 0)) := K2.out.cell 1
      have C2 : w2.cell? ⟨w.heap.size, 2, none⟩ = some (.int .i64 (p 1)) := K2.out.cell 2
      have C3 : w2.cell? ⟨w.heap.size, 3, none⟩ = some (.int .i64 (p 2)) := K2.out.cell 3
      have C4 : w2.cell? ⟨w.heap.size, 4, none⟩ = some (.int .i64 (p 3)) := K2.out.cell 4
      have C5 : w2.cell? ⟨w.heap.size, 5, none⟩ = some (.int .i64 (p 4)) := K2.out.cell 5
      have C6 : w2.cell? ⟨w.heap.size, 6, none⟩ = some (.int .i64 (p 5)) := K2.out.cell 6
      have C7 : w2.cell? ⟨w.heap.size, 7, none⟩ = some (.int .i64 vv) := K2.out.cell 7
      have C8 : w2.cell? ⟨w.heap.size, 8, none⟩ = some (.slice A ks.length cb) := K2.out.cell 8
      have Cl := K2.out.lt
      go_wp2_with fail
      refine (CF.out _ B2.out).mono ?_
      rintro r w3 ⟨rfl, d3⟩
      try dsimp only
      have K3 := Lib.hid (K2.out.below' d3)
      have B3 := Lib.hid (chain0 B2.out d3)
      clear d3 K2
      clear C0 C1 C2 C3 C4 C5 C6 C7 C8 Cl
      by_cases hpe : pe = 0
      · subst hpe
        have HB4 := HFB.out rfl
        have CP := Lib.hid (fun W (b : Below w.heap.size w W) => parse_of l (.slice A0 l.length c0) ps W ⟨HS.out W b, by omega, HN.out⟩ (by have h4 : ps.size ≤ 4000 := HB4.2.1; omega) HDE.out HB4.2.2 (HPF.out rfl))
        clear HB4 HFB HPF HFE
        go_wp2_with fail
        refine (CP.out _ B3.out).mono ?_
        rintro r w4 ⟨t, dX, rfl, d4, hi, hx, hpn⟩
        have CF3 := Lib.hid (CF2.out t dX hx hpn)
        have HX := Lib.hid hx
        have HPN := Lib.hid hpn
        clear CF2 hx hpn CP
        obtain ⟨xop, xp, xv, xB, xcb, xks⟩ := t
        dsimp only [Tree.val, Tree.op, Tree.want, Tree.value, Tree.a, Tree.c, Tree.args] at CF3 ⊢
        have K5 := Lib.hid ((K3.out.below' d4).alloc (.cells #[.int .i64 xop, .int .i64 (xp 0), .int .i64 (xp 1), .int .i64 (xp 2), .int .i64 (xp 3), .int .i64 (xp 4), .int .i64 (xp 5), .int .i64 xv, .slice xB xks.length xcb] 27))
        have KT := Lib.hid (Blk.new w4 27 #[.int .i64 xop, .int .i64 (xp 0), .int .i64 (xp 1), .int .i64 (xp 2), .int .i64 (xp 3), .int .i64 (xp 4), .int .i64 (xp 5), .int .i64 xv, .slice xB xks.length xcb])
        have IT := Lib.hid ((hi.keep (below_new w4 (.cells #[.int .i64 xop, .int .i64 (xp 0), .int .i64 (xp 1), .int .i64 (xp 2), .int .i64 (xp 3), .int .i64 (xp 4), .int .i64 (xp 5), .int .i64 xv, .slice xB xks.length xcb] 27))).mono (below_new w4 (.cells #[.int .i64 xop, .int .i64 (xp 0), .int .i64 (xp 1), .int .i64 (xp 2), .int .i64 (xp 3), .int .i64 (xp 4), .int .i64 (xp 5), .int .i64 xv, .slice xB xks.length xcb] 27)).size)
        have B5 := Lib.hid ((chain0 B3.out d4).alloc (chain0 B3.out d4).size (.cells #[.int .i64 xop, .int .i64 (xp 0), .int .i64 (xp 1), .int .i64 (xp 2), .int .i64 (xp 3), .int .i64 (xp 4), .int .i64 (xp 5), .int .i64 xv, .slice xB xks.length xcb] 27))
        clear hi d4 K3 B3
        have hkt := KT.out.cell
        go_upto_region 7 with fail
        clear hkt
        generalize w4.alloc (.cells #[.int .i64 xop, .int .i64 (xp 0), .int .i64 (xp 1), .int .i64 (xp 2), .int .i64 (xp 3), .int .i64 (xp 4), .int .i64 (xp 5), .int .i64 xv, .slice xB xks.length xcb] 27) = w5 at *
        generalize w4.heap.size = xb at *
        have X0 : w5.cell? ⟨xb, 0, none⟩ = some (.int .i64 xop) := KT.out.cell 0
        have X1 : w5.cell? ⟨xb, 1, none⟩ = some (.int .i64 (xp 0)) := KT.out.cell 1
        have X2 : w5.cell? ⟨xb, 2, none⟩ = some (.int .i64 (xp 1)) := KT.out.cell 2
        have X3 : w5.cell? ⟨xb, 3, none⟩ = some (.int .i64 (xp 2)) := KT.out.cell 3
        have X4 : w5.cell? ⟨xb, 4, none⟩ = some (.int .i64 (xp 3)) := KT.out.cell 4
        have X5 : w5.cell? ⟨xb, 5, none⟩ = some (.int .i64 (xp 4)) := KT.out.cell 5
        have X6 : w5.cell? ⟨xb, 6, none⟩ = some (.int .i64 (xp 5)) := KT.out.cell 6
        have X7 : w5.cell? ⟨xb, 7, none⟩ = some (.int .i64 xv) := KT.out.cell 7
        have X8 : w5.cell? ⟨xb, 8, none⟩ = some (.slice xB xks.length xcb) := KT.out.cell 8
        have Xl := KT.out.lt
        go_wp2_with fail
        refine (CF3.out _ B5.out IT.out).mono ?_
        rintro r w6 ⟨rfl, d6⟩
        try dsimp only
        have K6 := Lib.hid (K5.out.below' d6)
        have KT6 := Lib.hid (KT.out.below' d6)
        have B6 := Lib.hid (chain0 B5.out d6)
        have IT6 := Lib.hid ((IT.out.keep d6).mono d6.size)
        clear d6 K5 KT IT B5
        clear X0 X1 X2 X3 X4 X5 X6 X7 X8 Xl
        have CQ := Lib.hid (Ex.same_yes d dX (.mk op p vv A cb ks) (.mk xop xp xv xB xcb xks) w6.heap.size w6 ((HI.out w6 B6.out).mono B6.out.size) IT6.out (Nat.le_refl _) (by omega) HX.out.symm)
        dsimp only [Tree.val, Tree.op, Tree.want, Tree.value, Tree.a, Tree.c, Tree.args] at CQ
        have C0 : w6.cell? ⟨w.heap.size, 0, none⟩ = some (.int .i64 op) := K6.out.cell 0
        have C1 : w6.cell? ⟨w.heap.size, 1, none⟩ = some (.int .i64 (p 0)) := K6.out.cell 1
        have C2 : w6.cell? ⟨w.heap.size, 2, none⟩ = some (.int .i64 (p 1)) := K6.out.cell 2
        have C3 : w6.cell? ⟨w.heap.size, 3, none⟩ = some (.int .i64 (p 2)) := K6.out.cell 3
        have C4 : w6.cell? ⟨w.heap.size, 4, none⟩ = some (.int .i64 (p 3)) := K6.out.cell 4
        have C5 : w6.cell? ⟨w.heap.size, 5, none⟩ = some (.int .i64 (p 4)) := K6.out.cell 5
        have C6 : w6.cell? ⟨w.heap.size, 6, none⟩ = some (.int .i64 (p 5)) := K6.out.cell 6
        have C7 : w6.cell? ⟨w.heap.size, 7, none⟩ = some (.int .i64 vv) := K6.out.cell 7
        have C8 : w6.cell? ⟨w.heap.size, 8, none⟩ = some (.slice A ks.length cb) := K6.out.cell 8
        have Cl := K6.out.lt
        have X0 : w6.cell? ⟨xb, 0, none⟩ = some (.int .i64 xop) := KT6.out.cell 0
        have X1 : w6.cell? ⟨xb, 1, none⟩ = some (.int .i64 (xp 0)) := KT6.out.cell 1
        have X2 : w6.cell? ⟨xb, 2, none⟩ = some (.int .i64 (xp 1)) := KT6.out.cell 2
        have X3 : w6.cell? ⟨xb, 3, none⟩ = some (.int .i64 (xp 2)) := KT6.out.cell 3
        have X4 : w6.cell? ⟨xb, 4, none⟩ = some (.int .i64 (xp 3)) := KT6.out.cell 4
        have X5 : w6.cell? ⟨xb, 5, none⟩ = some (.int .i64 (xp 4)) := KT6.out.cell 5
        have X6 : w6.cell? ⟨xb, 6, none⟩ = some (.int .i64 (xp 5)) := KT6.out.cell 6
        have X7 : w6.cell? ⟨xb, 7, none⟩ = some (.int .i64 xv) := KT6.out.cell 7
        have X8 : w6.cell? ⟨xb, 8, none⟩ = some (.slice xB xks.length xcb) := KT6.out.cell 8
        have Xl := KT6.out.lt
        go_wp2_with fail
        refine (CQ.out).mono ?_
        rintro r w7 ⟨rfl, d7⟩
        have B7 := Lib.hid (chain0 B6.out d7)
        clear d7
        clear C0 C1 C2 C3 C4 C5 C6 C7 C8 Cl
        clear X0 X1 X2 X3 X4 X5 X6 X7 X8 Xl
        go_wp2_with fail
        refine (lives_any _ (HT.out _ B7.out)).mono ?_
        rintro r w8 ⟨rfl, dd⟩
        have B8 := Lib.hid (chain0 B7.out dd)
        go_wp2_with fail
        go_ret
        exact ⟨rfl, B8.out⟩
      · have q5 : (pe != 0) = true := by simpa using hpe
        have hps : ps = ⟨#[]⟩ := HFE.out hpe
        clear HFE HFB HPF hpe
        subst hps
        go_wp2_with fail
        refine (lives_any _ (HT.out _ B3.out)).mono ?_
        rintro r w8 ⟨rfl, dd⟩
        have B8 := Lib.hid (chain0 B3.out dd)
        go_wp2_with fail
        go_ret
        exact ⟨rfl, B8.out⟩
end Go.Proofs.YtjjlhihocllgjaaDoor.Ex
