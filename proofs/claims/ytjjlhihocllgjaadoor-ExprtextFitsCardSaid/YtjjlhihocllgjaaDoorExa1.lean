/- Law 12, Fits: wants; the walk. Printed by gen_ex_a.py. -/
import Derived.Test.YtjjlhihocllgjaaDoorExW
import Derived.Test.YtjjlhihocllgjaaDoorExZ
namespace Go.Proofs.YtjjlhihocllgjaaDoor.Ex
open Go.ChangeShapes Go.WideShapes Go.ChangeAt Go.RowKit Gn Cat Lex
set_option linter.unusedVariables false
set_option linter.unusedSimpArgs false
theorem add_sum2 (a b : ByteArray) (h : a.size + b.size ≤ 100000) (W : World) : (Op.stringOp .add a b).run Tryd.prog W = .ok (.string (a ++ b)) W := run_string_add_sum W _ _ (by omega)
theorem want_fits {l : List Prod} : ∀ {d d' : Nat} {t t0 : Tree}, Deep d t → Deep d' t0 → xF d t = xF d' t0 → WantP l d' (xF d' t0) → fitsF l d t = true
  | 0, _, _, _, h, _, _, _ => h.elim
  | _ + 1, 0, _, _, _, h, _, _ => h.elim
  | d + 1, d' + 1, t, t0, h, k, e, hw => by
    obtain ⟨⟨b, hb, hr⟩, hk⟩ := hw
    obtain ⟨e1, e2, e3, e4⟩ := xF_parts e
    show (rfitsB t.want l && t.args.all (fitsF l d)) = true
    rw [Bool.and_eq_true]
    refine ⟨by rw [rfits_congr (n6_eq (e2.trans hb.symm))]; exact hr, List.all_eq_true.2 fun x hx => ?_⟩
    have hm : xF d x ∈ t0.args.map (xF d') := by rw [← e4]; exact List.mem_map.2 ⟨x, hx, rfl⟩
    obtain ⟨y, hy, exy⟩ := List.mem_map.1 hm
    exact want_fits (h x hx) (k y hy) exy.symm (hk _ (List.mem_map.2 ⟨y, hy, rfl⟩))
set_option maxHeartbeats 4000000 in
set_option maxRecDepth 100000 in
theorem wants_yes (d : Nat) : ∀ (l : List Prod) (v : Value) (e : Tree) (B : Nat) (w : World), PL w v l → In d B w e → B ≤ w.heap.size → (preF d e).length ≤ 5000 → fitsF l d e = true → Calls Tryd.prog 15 #[v, e.val] w fun r w' => r = .returned (.bool true) ∧ Below w.heap.size w w' := by
  induction d with
  | zero => intro l v e B w _ h; exact h.elim
  | succ d ih =>
    intro l v e B w hpl h hB hsz hft
    have hlen : e.args.length ≤ 5000 := by have := args_le h; omega
    have hli : (e.args.length : Int) ≤ 5000 := by omega
    have hft2 : (rfitsB e.want l && e.args.all (fitsF l d)) = true := hft
    rw [Bool.and_eq_true] at hft2
    have HFA := Lib.hid (List.all_eq_true.1 hft2.2)
    have hfm := fmt_some hft2.1
    have HPA := Lib.hid (fun x (hx : x ∈ e.args) => pre_arg (d := d) hx)
    have HSZ := Lib.hid hsz
    have CF := Lib.hid (fun W (b : Below w.heap.size w W) => Cat.format_any l v e.want W hpl.len (hpl.sl.keep b) hpl.nm)
    obtain ⟨h1, h2, h3, h4⟩ := h
    have HI := Lib.hid (fun x (hx : x ∈ e.args) W (k : Below w.heap.size w W) => ih l v x B W (hpl.keep k) ((h4 x hx).keep (k.mono hB)) (Nat.le_trans hB k.size) (by have h5 := HPA.out x hx; have := HSZ.out; omega) (HFA.out x hx))
    obtain ⟨A1, c1, rfl, _⟩ := ps_cases hpl.sl
    obtain ⟨A, hA⟩ : ∃ A, A = e.a := ⟨_, rfl⟩
    rw [← hA] at h3
    have HR := Lib.hid h3
    have HB := Lib.hid hB
    have BX := Lib.hid (below_new w (.cells #[.int .i64 e.op, .int .i64 (e.want 0), .int .i64 (e.want 1), .int .i64 (e.want 2), .int .i64 (e.want 3), .int .i64 (e.want 4), .int .i64 (e.want 5), .int .i64 e.value, .slice A e.args.length e.c] 27))
    have KX := Lib.hid (Blk.new w 27 #[.int .i64 e.op, .int .i64 (e.want 0), .int .i64 (e.want 1), .int .i64 (e.want 2), .int .i64 (e.want 3), .int .i64 (e.want 4), .int .i64 (e.want 5), .int .i64 e.value, .slice A e.args.length e.c])
    obtain ⟨fs, hfs⟩ : ∃ fs, fs = fmtS e.want l := ⟨_, rfl⟩
    rw [← hfs] at CF hfm
    have q1 := hfm.1
    have q2 := hfm.2
    unfold arr at CF
    unfold Tree.val
    rw [← hA]
    clear ih h1 h2 h3 h4 hB hsz HPA hlen hA hpl hfs hft hft2 hfm
    go_enter Tryd.func15, Tryd.ntmps15
    have z0 := KX.out.cell 0
    have z1 := KX.out.cell 1
    have z2 := KX.out.cell 2
    have z3 := KX.out.cell 3
    have z4 := KX.out.cell 4
    have z5 := KX.out.cell 5
    have z6 := KX.out.cell 6
    have z7 := KX.out.cell 7
    have z8 := KX.out.cell 8
    have zl := KX.out.lt
    go_wp2_with fail
    refine (CF.out _ BX.out).mono ?_
    rintro r w1 ⟨rfl, d1⟩
    have K1 := Lib.hid (KX.out.below' d1)
    have B1 := Lib.hid (chain0 BX.out d1)
    clear d1 KX BX CF
    clear z0 z1 z2 z3 z4 z5 z6 z7 z8 zl
    go_wp2_with fail
    go_loopw [5] (fun iv wr => ∃ k : Nat, k ≤ e.args.length ∧ iv = .int .i64 (k : Int) ∧ Hid (Below w.heap.size w wr) ∧ Hid (Blk wr w.heap.size 27 #[.int .i64 e.op, .int .i64 (e.want 0), .int .i64 (e.want 1), .int .i64 (e.want 2), .int .i64 (e.want 3), .int .i64 (e.want 4), .int .i64 (e.want 5), .int .i64 e.value, .slice A e.args.length e.c])) (fun iv _ => e.args.length - (intOf iv).toNat)
    case atStart => exact ⟨0, Nat.zero_le _, rfl, B1.out, K1.out⟩
    case round =>
      clear B1 K1
      obtain ⟨k, hk, rfl, HW, HK⟩ := hrel
      have hk0 : (0 : Int) ≤ (k : Int) := by omega
      have z8 := HK.out.cell 8
      have zl := HK.out.lt
      by_cases hkn : k < e.args.length
      · have hd1 : decide (k < e.args.length) = true := decide_eq_true hkn
        have hd2 : decide ((k : Int) < (e.args.length : Int)) = true := decide_eq_true (by omega)
        have hkn1 : (k : Int) < (e.args.length : Int) := by omega
        obtain ⟨b, o, e1, hb, hrow⟩ := HR.out (by omega)
        have hat := tree_at (Row.keepB hrow hb (HW.out.mono HB.out)) k hkn
        have hbr : b < wr.heap.size := Nat.lt_of_lt_of_le hb (Nat.le_trans HB.out HW.out.size)
        have HIK := Lib.hid (HI.out e.args[k] (List.getElem_mem hkn))
        generalize e.args[k] = x at *
        unfold Tree.val at HIK
        clear hrow hb
        subst e1
        go_wp2_with fail
        refine (HIK.out _ HW.out).mono ?_
        rintro r w2 ⟨rfl, d2⟩
        have HW2 := Lib.hid (chain0 HW.out d2)
        have HK2 := Lib.hid (HK.out.below' d2)
        clear d2 hat hbr z8 zl HW HK HIK
        go_wp2_with fail
        go_roundw
        case rel => exact ⟨k + 1, hkn, by go_num, HW2.out, HK2.out⟩
        case measure => simp [intOf]; omega
      · obtain rfl : k = e.args.length := by omega
        have hd1 : decide (e.args.length < e.args.length) = false := decide_eq_false (Nat.lt_irrefl _)
        have hd2 : decide ((e.args.length : Int) < (e.args.length : Int)) = false := decide_eq_false (Int.lt_irrefl _)
        go_wp2_with fail
        go_ret
        exact ⟨rfl, HW.out⟩
theorem none_in (w : World) : In 1 w.heap.size w noTree := ⟨Nat.le_refl _, Nat.zero_le _, fun h => absurd h (by simp), fun x hx => by cases hx⟩
set_option maxHeartbeats 4000000 in
set_option maxRecDepth 100000 in
theorem law_fits (l : List Prod) (v : Value) (s : ByteArray) (w : World) (hsl : PS w v l) (hnm : ∀ p ∈ l, p.name.size ≤ maxLen) (ht : Tab w) : Calls Tryd.prog 6 #[v, .string s] w (TrueP w) := by
  obtain ⟨A0, c0, rfl, hc0, hc1, _⟩ := ps_cases hsl
  have HT := Lib.hid (fun W (b : Below w.heap.size w W) => ht.keep b)
  have HS := Lib.hid (fun W (b : Below w.heap.size w W) => Sl.keep hsl b)
  have HN := Lib.hid hnm
  have B0 := Lib.hid (Below.refl w.heap.size w)
  clear ht hsl hnm
  by_cases h10 : 10 < l.length
  · have q1 : decide ((10 : Int) < (l.length : Int)) = true := by simp; omega
    clear h10
    go_enter Tryd.func6, Tryd.ntmps6
    go_wp2_with fail
    refine (lives_any _ (HT.out _ B0.out)).mono ?_
    rintro r w8 ⟨rfl, dd⟩
    have B8 := Lib.hid (chain0 B0.out dd)
    go_wp2_with fail
    go_ret
    exact ⟨rfl, B8.out⟩
  · have q1 : decide ((10 : Int) < (l.length : Int)) = false := by simp; omega
    by_cases h20 : 2000 < s.size
    · have q2 : decide ((2000 : Int) < (s.size : Int)) = true := by simp; omega
      clear h20
      go_enter Tryd.func6, Tryd.ntmps6
      go_wp2_with fail
      refine (lives_any _ (HT.out _ B0.out)).mono ?_
      rintro r w8 ⟨rfl, dd⟩
      have B8 := Lib.hid (chain0 B0.out dd)
      go_wp2_with fail
      go_ret
      exact ⟨rfl, B8.out⟩
    · have q2 : decide ((2000 : Int) < (s.size : Int)) = false := by simp; omega
      have CP := Lib.hid (fun W (b : Below w.heap.size w W) => parse_any l (.slice A0 l.length c0) s W ⟨HS.out W b, by omega, HN.out⟩ (by omega))
      have HPP := Lib.hid (fun x => parse_paren (l := l) (s := s) (by omega) (x := x))
      have hap : (s ++ ⟨#[41]⟩ : ByteArray).size = s.size + 1 := by rw [ByteArray.size_append]; rfl
      have CP2 := Lib.hid (fun W (b : Below w.heap.size w W) => parse_any l (.slice A0 l.length c0) (s ++ ⟨#[41]⟩) W ⟨HS.out W b, by omega, HN.out⟩ (by omega))
      have had := fun W => add_sum2 s ⟨#[41]⟩ (by show _ + 1 ≤ _; omega) W
      clear hap
      go_enter Tryd.func6, Tryd.ntmps6
      go_wp2_with fail
      refine (CP.out _ B0.out).mono ?_
      rintro r w1 ⟨t, n, dX, rfl, d1, hi, _, hpn, hx⟩
      have HX := Lib.hid hx
      have HPN := Lib.hid hpn
      clear hx hpn CP
      obtain ⟨xop, xp, xv, xB, xcb, xks⟩ := t
      dsimp only [Tree.val, Tree.op, Tree.want, Tree.value, Tree.a, Tree.c, Tree.args]
      have KT := Lib.hid (Blk.new w1 27 #[.int .i64 xop, .int .i64 (xp 0), .int .i64 (xp 1), .int .i64 (xp 2), .int .i64 (xp 3), .int .i64 (xp 4), .int .i64 (xp 5), .int .i64 xv, .slice xB xks.length xcb])
      have IT := Lib.hid ((hi.to_in.keep (below_new w1 (.cells #[.int .i64 xop, .int .i64 (xp 0), .int .i64 (xp 1), .int .i64 (xp 2), .int .i64 (xp 3), .int .i64 (xp 4), .int .i64 (xp 5), .int .i64 xv, .slice xB xks.length xcb] 27))).mono (below_new w1 (.cells #[.int .i64 xop, .int .i64 (xp 0), .int .i64 (xp 1), .int .i64 (xp 2), .int .i64 (xp 3), .int .i64 (xp 4), .int .i64 (xp 5), .int .i64 xv, .slice xB xks.length xcb] 27)).size)
      have B2 := Lib.hid ((chain0 B0.out d1).alloc (chain0 B0.out d1).size (.cells #[.int .i64 xop, .int .i64 (xp 0), .int .i64 (xp 1), .int .i64 (xp 2), .int .i64 (xp 3), .int .i64 (xp 4), .int .i64 (xp 5), .int .i64 xv, .slice xB xks.length xcb] 27))
      have HDT := Lib.hid hi.deep
      clear hi d1 B0
      go_upto_region 4 with fail
      generalize w1.alloc (.cells #[.int .i64 xop, .int .i64 (xp 0), .int .i64 (xp 1), .int .i64 (xp 2), .int .i64 (xp 3), .int .i64 (xp 4), .int .i64 (xp 5), .int .i64 xv, .slice xB xks.length xcb] 27) = w2 at *
      generalize w1.heap.size = xb at *
      by_cases hn : n = 0
      · have HX2 : Hid (∃ t0 d0, Deep d0 t0 ∧ parseE l s = (0, xF d0 t0) ∧ xF dX (.mk xop xp xv xB xcb xks) = xF d0 t0) := by
          rcases HX.out with ⟨h1, h2, _⟩ | ⟨h1, t0, d0, hd0, h2, h3, h4⟩
          · exact absurd (h2.symm.trans hn) h1
          · rcases h4 with ⟨_, h4⟩ | ⟨h4, _⟩
            · exact ⟨t0, d0, hd0, by rw [h2, ← h1], h4.trans h2.symm⟩
            · exact absurd hn h4
        clear HX
        subst hn
        obtain ⟨t0, d0, hd0, hpe, hxe⟩ := HX2.out
        obtain ⟨h3, hw⟩ := HPP.out _ hpe
        have H3 := Lib.hid h3
        have hft : fitsF l dX (.mk xop xp xv xB xcb xks) = true := want_fits HDT.out hd0 hxe (hw d0)
        have CW := Lib.hid (wants_yes dX l (.slice A0 l.length c0) (.mk xop xp xv xB xcb xks) w2.heap.size w2 ⟨HS.out w2 B2.out, by omega, HN.out⟩ IT.out (Nat.le_refl _) HPN.out hft)
        dsimp only [Tree.val, Tree.op, Tree.want, Tree.value, Tree.a, Tree.c, Tree.args] at CW
        clear hd0 hpe hxe h3 hw hft HX2
        have X0 : w2.cell? ⟨xb, 0, none⟩ = some (.int .i64 xop) := KT.out.cell 0
        have X1 : w2.cell? ⟨xb, 1, none⟩ = some (.int .i64 (xp 0)) := KT.out.cell 1
        have X2 : w2.cell? ⟨xb, 2, none⟩ = some (.int .i64 (xp 1)) := KT.out.cell 2
        have X3 : w2.cell? ⟨xb, 3, none⟩ = some (.int .i64 (xp 2)) := KT.out.cell 3
        have X4 : w2.cell? ⟨xb, 4, none⟩ = some (.int .i64 (xp 3)) := KT.out.cell 4
        have X5 : w2.cell? ⟨xb, 5, none⟩ = some (.int .i64 (xp 4)) := KT.out.cell 5
        have X6 : w2.cell? ⟨xb, 6, none⟩ = some (.int .i64 (xp 5)) := KT.out.cell 6
        have X7 : w2.cell? ⟨xb, 7, none⟩ = some (.int .i64 xv) := KT.out.cell 7
        have X8 : w2.cell? ⟨xb, 8, none⟩ = some (.slice xB xks.length xcb) := KT.out.cell 8
        have Xl := KT.out.lt
        go_wp2_with fail
        refine (CW.out).mono ?_
        rintro r w3 ⟨rfl, d3⟩
        have B3 := Lib.hid (chain0 B2.out d3)
        clear d3
        clear X0 X1 X2 X3 X4 X5 X6 X7 X8 Xl
        go_wp2_with fail
        refine (CP2.out _ B3.out).mono ?_
        rintro r w4 ⟨t9, n9, d9, rfl, dd, hi9, _, _, hx9⟩
        have hn9 : n9 = 3 := by
          rcases hx9 with ⟨_, h2, _⟩ | ⟨h1, _⟩
          · rw [h2, H3.out]
          · rw [H3.out] at h1; cases h1
        subst hn9
        obtain ⟨yop, yp, yv, yB, ycb, yks⟩ := t9
        dsimp only [Tree.val, Tree.op, Tree.want, Tree.value, Tree.a, Tree.c, Tree.args]
        have B5 := Lib.hid ((chain0 B3.out dd).alloc (chain0 B3.out dd).size (.cells #[.int .i64 yop, .int .i64 (yp 0), .int .i64 (yp 1), .int .i64 (yp 2), .int .i64 (yp 3), .int .i64 (yp 4), .int .i64 (yp 5), .int .i64 yv, .slice yB yks.length ycb] 27))
        clear hx9 hi9 dd
        go_upto_region 9 with fail
        generalize w4.alloc (.cells #[.int .i64 yop, .int .i64 (yp 0), .int .i64 (yp 1), .int .i64 (yp 2), .int .i64 (yp 3), .int .i64 (yp 4), .int .i64 (yp 5), .int .i64 yv, .slice yB yks.length ycb] 27) = w5 at *
        go_wp2_with fail
        refine (lives_any _ (HT.out _ B5.out)).mono ?_
        rintro r w8 ⟨rfl, dd⟩
        have B8 := Lib.hid (chain0 B5.out dd)
        go_wp2_with fail
        go_ret
        exact ⟨rfl, B8.out⟩
      · have q5 : (n != 0) = true := by simpa using hn
        have hxe : xF dX (.mk xop xp xv xB xcb xks) = xF 1 noTree := by
          rcases HX.out with ⟨_, _, h3⟩ | ⟨h1, t0, d0, hd0, h2, h3, h4⟩
          · exact h3
          · rcases h4 with ⟨h4, _⟩ | ⟨_, h4⟩
            · exact absurd h4 hn
            · exact h4
        have CQ := Lib.hid (Ex.same_yes dX 1 (.mk xop xp xv xB xcb xks) noTree w2.heap.size w2 IT.out (none_in w2) (Nat.le_refl _) HPN.out hxe)
        dsimp only [Tree.val, Tree.op, Tree.want, Tree.value, Tree.a, Tree.c, Tree.args, noTree] at CQ
        clear HX hn hxe
        have X0 : w2.cell? ⟨xb, 0, none⟩ = some (.int .i64 xop) := KT.out.cell 0
        have X1 : w2.cell? ⟨xb, 1, none⟩ = some (.int .i64 (xp 0)) := KT.out.cell 1
        have X2 : w2.cell? ⟨xb, 2, none⟩ = some (.int .i64 (xp 1)) := KT.out.cell 2
        have X3 : w2.cell? ⟨xb, 3, none⟩ = some (.int .i64 (xp 2)) := KT.out.cell 3
        have X4 : w2.cell? ⟨xb, 4, none⟩ = some (.int .i64 (xp 3)) := KT.out.cell 4
        have X5 : w2.cell? ⟨xb, 5, none⟩ = some (.int .i64 (xp 4)) := KT.out.cell 5
        have X6 : w2.cell? ⟨xb, 6, none⟩ = some (.int .i64 (xp 5)) := KT.out.cell 6
        have X7 : w2.cell? ⟨xb, 7, none⟩ = some (.int .i64 xv) := KT.out.cell 7
        have X8 : w2.cell? ⟨xb, 8, none⟩ = some (.slice xB xks.length xcb) := KT.out.cell 8
        have Xl := KT.out.lt
        go_wp2_with fail
        refine (CQ.out).mono ?_
        rintro r w3 ⟨rfl, d3⟩
        have B3 := Lib.hid (chain0 B2.out d3)
        clear d3
        clear X0 X1 X2 X3 X4 X5 X6 X7 X8 Xl
        go_wp2_with fail
        refine (lives_any _ (HT.out _ B3.out)).mono ?_
        rintro r w8 ⟨rfl, dd⟩
        have B8 := Lib.hid (chain0 B3.out dd)
        go_wp2_with fail
        go_ret
        exact ⟨rfl, B8.out⟩
end Go.Proofs.YtjjlhihocllgjaaDoor.Ex
