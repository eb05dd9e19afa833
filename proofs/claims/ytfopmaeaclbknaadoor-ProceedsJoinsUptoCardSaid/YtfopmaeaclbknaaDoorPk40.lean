/- Contracts of proceeds.Format and of the reference's Format. Printed by gen_prf.py. -/
import Derived.Test.YtfopmaeaclbknaaDoorPk38
import Derived.Test.YtfopmaeaclbknaaDoorPk39
import Derived.Deep.RegionHeld3
namespace Go.Proofs.YtfopmaeaclbknaaDoor.Pr
open Go.ChangeShapes Go.WideShapes Go.ChangeAt Go.RowKit Go.Maps Go.WideMaps Gn Cat Lex So
set_option linter.unusedVariables false
set_option linter.unusedSimpArgs false
attribute [local go_sem] later_cell
/-- the text of the shares from here on, behind a text and a total -/
def fmtSh (l : List Sel) : List Shr → ByteArray → Int → ByteArray
  | [], t, tot => t ++ lineS ⟨#[116, 111, 116, 97, 108]⟩ [tot]
  | y :: r, t, tot => if y.sel < 0 ∨ (l.length : Int) ≤ y.sel ∨ y.reserve < 0 ∨ 1099511627776 < y.reserve ∨ y.net < 0 ∨ 1099511627776 < y.net then ⟨#[]⟩ else fmtSh l r (t ++ lineS ((l[y.sel.toNat]?.map Sel.name).getD ⟨#[]⟩) [y.reserve, y.net, y.reserve + y.net]) (tot + (y.reserve + y.net))
theorem fmtSh_drop {l : List Sel} {xs : List Shr} {k : Nat} (h : k < xs.length) (t : ByteArray) (tot : Int) : fmtSh l (xs.drop k) t tot = if xs[k].sel < 0 ∨ (l.length : Int) ≤ xs[k].sel ∨ xs[k].reserve < 0 ∨ 1099511627776 < xs[k].reserve ∨ xs[k].net < 0 ∨ 1099511627776 < xs[k].net then ⟨#[]⟩ else fmtSh l (xs.drop (k + 1)) (t ++ lineS ((l[xs[k].sel.toNat]?.map Sel.name).getD ⟨#[]⟩) [xs[k].reserve, xs[k].net, xs[k].reserve + xs[k].net]) (tot + (xs[k].reserve + xs[k].net)) := by
  rw [List.drop_eq_getElem_cons h, fmtSh]
theorem fmtSh_end {l : List Sel} {xs : List Shr} (t : ByteArray) (tot : Int) : fmtSh l (xs.drop xs.length) t tot = t ++ lineS ⟨#[116, 111, 116, 97, 108]⟩ [tot] := by rw [List.drop_length, fmtSh]
theorem ba_ext {a b : ByteArray} (h : a.data.toList = b.data.toList) : a = b := by
  obtain ⟨⟨x⟩⟩ := a
  obtain ⟨⟨y⟩⟩ := b
  simp at h
  rw [h]
theorem add_big (a b : ByteArray) (h : a.size + b.size ≤ 100000) (W : World) : (Op.stringOp .add a b).run Tryd.prog W = .ok (.string (a ++ b)) W := run_string_add_sum W _ _ (by omega)
theorem line3 (t nm : ByteArray) (a b c : Int) : t ++ lineS nm [a, b, c] = t ++ nm ++ ⟨#[32]⟩ ++ decS a ++ ⟨#[32]⟩ ++ decS b ++ ⟨#[32]⟩ ++ decS c ++ ⟨#[10]⟩ := by
  apply ba_ext
  simp [lineS, decS, Lib.join_cons, Lib.joinTail, ByteArray.data_append]
theorem line1 (t : ByteArray) (a : Int) : t ++ lineS ⟨#[116, 111, 116, 97, 108]⟩ [a] = t ++ ⟨#[116, 111, 116, 97, 108, 32]⟩ ++ decS a ++ ⟨#[10]⟩ := by
  apply ba_ext
  simp [lineS, decS, Lib.join_cons, Lib.joinTail, ByteArray.data_append]
theorem is_three (w : World) (a b c : Int) : IS (w.alloc (.cells #[.int .i64 a, .int .i64 b, .int .i64 c] 2)) (.slice (some ⟨w.heap.size, 0, none⟩) 3 3) [a, b, c] := by
  have h := is_of_blk (m := 3) (f := fun i => match i with | 0 => a | 1 => b | _ => c) (Blk.new w 2 #[.int .i64 a, .int .i64 b, .int .i64 c]) (by unfold maxLen; omega)
  exact h
theorem is_one (w : World) (a : Int) : IS (w.alloc (.cells #[.int .i64 a] 2)) (.slice (some ⟨w.heap.size, 0, none⟩) 1 1) [a] := by
  have h := is_of_blk (m := 1) (f := fun _ => a) (Blk.new w 2 #[.int .i64 a]) (by unfold maxLen; omega)
  exact h
set_option maxHeartbeats 8000000 in
set_option maxRecDepth 100000 in
theorem sformat_any (l : List Sel) (xs : List Shr) (v vx : Value) (w : World) (hl : SellP w v l) (hn : ∀ x ∈ l, x.name.size ≤ 100) (hx : xs.length ≤ 20) (h : ShrS w vx xs) (ht : Am.Tab w) : Calls Tryd.prog 42 #[v, vx] w fun e w' => e = .returned (.string (fmtSh l xs ⟨#[]⟩ 0)) ∧ Below w.heap.size w w' := by
  obtain ⟨A, c, rfl, _, _, hc⟩ := sl_parts h
  obtain ⟨AS, cS, rfl, _, _, hlp⟩ := sl_parts hl.sl
  have hll : (l.length : Int) ≤ 140737488355328 := by have := hl.size; omega
  have HSL := Lib.hid (fun W (b : Below w.heap.size w W) j (hj : j < l.length) => by obtain ⟨bs, os, e, hbs, hrs⟩ := hlp (by omega); exact (⟨bs, os, e, sel_at (hrs.below hbs b) j hj⟩ : ∃ bs os, AS = some ⟨bs, os, none⟩ ∧ W.cell? ⟨bs, os + j * 2, none⟩ = some (.string l[j].name) ∧ W.cell? ⟨bs, os + j * 2 + 1, none⟩ = some l[j].v))
  have HNM := Lib.hid (fun j (hj : j < l.length) => hn _ (List.getElem_mem hj))
  have HC := Lib.hid hc
  have HX : Hid (xs.length ≤ 20) := hx
  have hx6 : (xs.length : Int) ≤ 20 := by omega
  have HT := Lib.hid (fun W (b : Below w.heap.size w W) => tab_keep ht b)
  obtain ⟨R, hR⟩ : ∃ R, R = fmtSh l xs ⟨#[]⟩ 0 := ⟨_, rfl⟩
  rw [← hR]
  have HR0 : Hid (fmtSh l (xs.drop 0) ⟨#[]⟩ 0 = R) := hR.symm
  clear h hl hn hx ht hc hlp hR
  go_enter Tryd.func42, Tryd.ntmps42
  go_wp2_with fail
  go_loopw [11, 5, 6] (fun iv tv ov wr => ∃ (k : Nat) (t : ByteArray) (tot : Int), k ≤ xs.length ∧ iv = .int .i64 (k : Int) ∧ tv = .string t ∧ ov = .int .i64 tot ∧ Hid (t.size ≤ k * 200) ∧ Hid (0 ≤ tot ∧ tot ≤ k * 2199023255552) ∧ Hid (fmtSh l (xs.drop k) t tot = R) ∧ Hid (Below w.heap.size w wr)) (fun iv _ _ _ => xs.length - (intOf iv).toNat)
  case atStart => exact ⟨0, ⟨#[]⟩, 0, Nat.zero_le _, rfl, rfl, rfl, Nat.zero_le _, ⟨Int.le_refl _, by simp⟩, HR0.out, Below.refl _ _⟩
  case round =>
    clear HR0
    obtain ⟨k, t, tot, hk, rfl, rfl, rfl, HTS, HTT, HRI, HB⟩ := hrel
    have hk0 : (0 : Int) ≤ (k : Int) := by omega
    have hk5 : (k : Int) ≤ 20 := by omega
    have HK5 : Hid (k ≤ 20) := by have := HX.out; show k ≤ 20; omega
    by_cases hkn : k < xs.length
    · have hd1 : decide (k < xs.length) = true := decide_eq_true hkn
      have hd2 : decide ((k : Int) < (xs.length : Int)) = true := decide_eq_true (by omega)
      have hkn1 : (k : Int) < (xs.length : Int) := by omega
      obtain ⟨b, o, eA, hb, hrow⟩ := HC.out (by omega)
      subst eA
      have HAT := Lib.hid (fun W (bw : Below w.heap.size w W) => shr_at (hrow.below hb bw) k hkn)
      have hat := HAT.out _ HB.out
      have HD := Lib.hid (fmtSh_drop (l := l) hkn t tot)
      generalize xs[k] = y at *
      clear hrow hb
      have BA := Lib.hid (HB.out.alloc HB.out.size (.cells #[.int .i64 y.sel, .int .i64 y.reserve, .int .i64 y.net] 75))
      have YX := Lib.hid (Blk.new wr 75 #[.int .i64 y.sel, .int .i64 y.reserve, .int .i64 y.net])
      by_cases p0 : y.sel < 0
      case pos =>
        have s0 : decide (y.sel < 0) = true := decide_eq_true p0
        have HE : Hid (R = ⟨#[]⟩) := by have := HRI.out; rw [HD.out, if_pos (by omega)] at this; exact this.symm
        clear HD HRI p0
        go_wp2_with fail
        go_ret
        exact ⟨by rw [HE.out]; rfl, BA.out⟩
      have s0 : decide (y.sel < 0) = false := decide_eq_false p0
      obtain ⟨s, hs⟩ : ∃ s : Nat, y.sel = (s : Int) := ⟨y.sel.toNat, by omega⟩
      have hs0 : (0 : Int) ≤ (s : Int) := by omega
      rw [hs] at HD hat s0
      have HSE := Lib.hid hs
      rw [hs] at BA YX
      clear hs
      by_cases p1 : (l.length : Int) ≤ (s : Int)
      case pos =>
        have s1 : decide ((l.length : Int) ≤ (s : Int)) = true := decide_eq_true p1
        have p1n : decide (l.length ≤ s) = true := decide_eq_true (by omega)
        have HE : Hid (R = ⟨#[]⟩) := by have := HRI.out; rw [HD.out, if_pos (by omega)] at this; exact this.symm
        clear HD HRI p1
        go_wp2_with fail
        go_ret
        exact ⟨by rw [HE.out]; rfl, BA.out⟩
      have s1 : decide ((l.length : Int) ≤ (s : Int)) = false := decide_eq_false p1
      have p1n : decide (l.length ≤ s) = false := decide_eq_false (by omega)
      by_cases p2 : y.reserve < 0
      case pos =>
        have s2 : decide (y.reserve < 0) = true := decide_eq_true p2
        have HE : Hid (R = ⟨#[]⟩) := by have := HRI.out; rw [HD.out, if_pos (by omega)] at this; exact this.symm
        clear HD HRI p2
        go_wp2_with fail
        go_ret
        exact ⟨by rw [HE.out]; rfl, BA.out⟩
      have s2 : decide (y.reserve < 0) = false := decide_eq_false p2
      by_cases p3 : 1099511627776 < y.reserve
      case pos =>
        have s3 : decide (1099511627776 < y.reserve) = true := decide_eq_true p3
        have HE : Hid (R = ⟨#[]⟩) := by have := HRI.out; rw [HD.out, if_pos (by omega)] at this; exact this.symm
        clear HD HRI p3
        go_wp2_with fail
        go_ret
        exact ⟨by rw [HE.out]; rfl, BA.out⟩
      have s3 : decide (1099511627776 < y.reserve) = false := decide_eq_false p3
      by_cases p4 : y.net < 0
      case pos =>
        have s4 : decide (y.net < 0) = true := decide_eq_true p4
        have HE : Hid (R = ⟨#[]⟩) := by have := HRI.out; rw [HD.out, if_pos (by omega)] at this; exact this.symm
        clear HD HRI p4
        go_wp2_with fail
        go_ret
        exact ⟨by rw [HE.out]; rfl, BA.out⟩
      have s4 : decide (y.net < 0) = false := decide_eq_false p4
      by_cases p5 : 1099511627776 < y.net
      case pos =>
        have s5 : decide (1099511627776 < y.net) = true := decide_eq_true p5
        have HE : Hid (R = ⟨#[]⟩) := by have := HRI.out; rw [HD.out, if_pos (by omega)] at this; exact this.symm
        clear HD HRI p5
        go_wp2_with fail
        go_ret
        exact ⟨by rw [HE.out]; rfl, BA.out⟩
      have s5 : decide (1099511627776 < y.net) = false := decide_eq_false p5
      have hsl : s < l.length := by omega
      have hsl1 : (s : Int) < (l.length : Int) := by omega
      obtain ⟨a, ha⟩ : ∃ a, a = y.reserve := ⟨_, rfl⟩
      obtain ⟨z, hz⟩ : ∃ z, z = y.net := ⟨_, rfl⟩
      rw [← ha, ← hz] at HD hat BA YX
      rw [← ha] at p2 p3 s2 s3
      rw [← hz] at p4 p5 s4 s5
      obtain ⟨bs, os, eS, hsc, _⟩ := HSL.out _ HB.out s hsl
      subst eS
      have HSC : Hid (∀ W, Below w.heap.size w W → W.cell? ⟨bs, os + s * 2, none⟩ = some (.string l[s].name)) := fun W bw => by
        obtain ⟨bs', os', e, h1, _⟩ := HSL.out W bw s hsl
        injection e with e; injection e with e1 e2 e3
        subst e1 e2; exact h1
      have hnm := HNM.out s hsl
      have HDD : Hid (fmtSh l (xs.drop (k + 1)) (t ++ lineS l[s].name [a, z, a + z]) (tot + (a + z)) = R) := by
        have := HRI.out
        rw [HD.out, if_neg (by omega)] at this
        show fmtSh _ _ _ _ = _
        simpa [hsl] using this
      generalize l[s].name = nm at *
      have HI : Hid (∀ x ∈ [a, z, a + z], I64 x) := by intro x hx; simp at hx; unfold I64; rcases hx with rfl | rfl | rfl <;> omega
      have hls : (lineS nm [a, z, a + z]).size ≤ nm.size + 67 := by have h := lineS_size (word := nm) HI.out; simp only [List.length_cons, List.length_nil] at h; omega
      have htt := HTT.out
      have a0 : 0 ≤ a := by omega
      have a1 : a ≤ 1099511627776 := by omega
      have z0 : 0 ≤ z := by omega
      have z1 : z ≤ 1099511627776 := by omega
      have w1 : IntKind.i64.wrap (a + z) = a + z := IntWalk.i64_in _ (by omega)
      have t0 : 0 ≤ tot := htt.1
      have t1 : tot ≤ 100000000000000 := by omega
      have w2 : IntKind.i64.wrap (tot + (a + z)) = tot + (a + z) := IntWalk.i64_in _ (by omega)
      have HTT2 : Hid (0 ≤ tot + (a + z) ∧ tot + (a + z) ≤ (k + 1 : Nat) * 2199023255552) := by show 0 ≤ tot + (a + z) ∧ _; omega
      have hts := HTS.out
      have HTS2 : Hid ((t ++ lineS nm [a, z, a + z]).size ≤ (k + 1) * 200) := by show _ ≤ _; rw [ByteArray.size_append]; omega
      have had := fun W => add_big t (lineS nm [a, z, a + z]) (by omega) W
      have CL := Lib.hid (fun W v (bw : Below w.heap.size w W) (hi : IS W v [a, z, a + z]) => line_any nm [a, z, a + z] v W hnm HI.out (by simp) (HT.out W bw) hi)
      generalize lineS nm [a, z, a + z] = ln at *
      clear HD HRI hls htt hts p0 p1 p2 p3 p4 p5 ha hz hsc
      go_wp2_with fail
      clear hat
      generalize wr.alloc (.cells #[.int .i64 (s : Int), .int .i64 a, .int .i64 z] 75) = wa at *
      generalize wr.heap.size = gi at *
      have I1 := Lib.hid (is_three wa a z (a + z))
      have IB := Lib.hid (BA.out.alloc BA.out.size (.cells #[.int .i64 a, .int .i64 z, .int .i64 (a + z)] 2))
      have HKP : Hid (∀ W, Below wa.heap.size wa W → W.cell? ⟨gi, 0, none⟩ = some (.int .i64 (s : Int)) ∧ W.cell? ⟨gi, 1, none⟩ = some (.int .i64 a) ∧ W.cell? ⟨gi, 2, none⟩ = some (.int .i64 z) ∧ W.cell? ⟨bs, os + s * 2, none⟩ = some (.string nm)) := fun W bw => ⟨(YX.out.below' bw).cell 0, (YX.out.below' bw).cell 1, (YX.out.below' bw).cell 2, HSC.out W (chain0 BA.out bw)⟩
      obtain ⟨ya, yb, yc, yd⟩ := HKP.out wa (Below.refl _ _)
      have BA0 := Lib.hid (below_new wa (.cells #[.int .i64 a, .int .i64 z, .int .i64 (a + z)] 2))
      go_region_held3 (fun w' => w'.cell? ⟨gi, 0, none⟩ = some (.int .i64 (s : Int)) ∧ w'.cell? ⟨gi, 1, none⟩ = some (.int .i64 a) ∧ w'.cell? ⟨gi, 2, none⟩ = some (.int .i64 z) ∧ w'.cell? ⟨bs, os + s * 2, none⟩ = some (.string nm)) (first | exact HKP.out _ B6.out | exact HKP.out _ (Below.refl _ _).drew | exact HKP.out _ BA0.out.drew | exact HKP.out _ BA0.out | exact HKP.out _ (Below.refl _ _) | go_keep) ((go_at_call 67; refine (CL.out _ _ (by first | exact IB.out.drew | exact IB.out) (by first | exact I1.out.keep ((Below.refl _ _).drew) | exact I1.out)).mono ?_; rintro e w5 ⟨rfl, d5⟩; have B5 : Hid (Below w.heap.size w w5) := chain0 (by first | exact IB.out.drew | exact IB.out) d5; have B6 : Hid (Below wa.heap.size wa w5) := chain0 (by first | exact BA0.out.drew | exact BA0.out) d5; obtain ⟨k1, k2, k3, k4⟩ := HKP.out w5 B6.out; clear d5))
      all_goals go_wp2_with fail
      all_goals go_roundw
      all_goals first
        | exact ⟨k + 1, _, _, hkn, by go_num, rfl, rfl, HTS2.out, HTT2.out, HDD.out, B5.out⟩
        | (simp [intOf]; omega)
    · obtain rfl : k = xs.length := by omega
      have hd1 : decide (xs.length < xs.length) = false := decide_eq_false (Nat.lt_irrefl _)
      have hd2 : decide ((xs.length : Int) < (xs.length : Int)) = false := decide_eq_false (Int.lt_irrefl _)
      have HFE : Hid (t ++ lineS ⟨#[116, 111, 116, 97, 108]⟩ [tot] = R) := by have := HRI.out; rw [fmtSh_end] at this; exact this
      have htt := HTT.out
      have hts := HTS.out
      have hxx := HX.out
      have t64 : I64 tot := by unfold I64; omega
      have HI1 : Hid (∀ x ∈ [tot], I64 x) := by intro x hx; simp at hx; rw [hx]; exact t64
      have hls : (lineS ⟨#[116, 111, 116, 97, 108]⟩ [tot]).size ≤ 28 := by have h := lineS_size (word := ⟨#[116, 111, 116, 97, 108]⟩) HI1.out; simp only [List.length_cons, List.length_nil] at h; have e : (⟨#[116, 111, 116, 97, 108]⟩ : ByteArray).size = 5 := rfl; omega
      have had := fun W => add_big t (lineS ⟨#[116, 111, 116, 97, 108]⟩ [tot]) (by omega) W
      have HB2 := Lib.hid (HB.out.alloc HB.out.size (.cells #[.int .i64 tot] 2))
      have CL := Lib.hid (line_any ⟨#[116, 111, 116, 97, 108]⟩ [tot] (.slice (some ⟨wr.heap.size, 0, none⟩) 1 1) (wr.alloc (.cells #[.int .i64 tot] 2)) (by show 5 ≤ 100; omega) HI1.out (by simp) (HT.out _ HB2.out) (is_one wr tot))
      generalize lineS ⟨#[116, 111, 116, 97, 108]⟩ [tot] = ln at *
      clear htt hts hxx hls t64 HRI
      go_wp2_with fail
      refine CL.out.mono ?_
      rintro e w5 ⟨rfl, d5⟩
      have B5 := Lib.hid (chain0 HB2.out d5)
      clear d5
      go_wp2_with fail
      go_ret
      exact ⟨by rw [← HFE.out]; rfl, B5.out⟩
set_option maxHeartbeats 8000000 in
set_option maxRecDepth 100000 in
theorem rsformat_any (l : List Sel) (xs : List Shr) (v vx : Value) (w : World) (hl : SellP w v l) (hn : ∀ x ∈ l, x.name.size ≤ 100) (hx : xs.length ≤ 20) (h : ShrS w vx xs) (ht : Am.Tab w) : Calls Tryd.prog 43 #[v, vx] w fun e w' => e = .returned (.string (fmtSh l xs ⟨#[]⟩ 0)) ∧ Below w.heap.size w w' := by
  obtain ⟨A, c, rfl, _, _, hc⟩ := sl_parts h
  obtain ⟨AS, cS, rfl, _, _, hlp⟩ := sl_parts hl.sl
  have hll : (l.length : Int) ≤ 140737488355328 := by have := hl.size; omega
  have HSL := Lib.hid (fun W (b : Below w.heap.size w W) j (hj : j < l.length) => by obtain ⟨bs, os, e, hbs, hrs⟩ := hlp (by omega); exact (⟨bs, os, e, sel_at (hrs.below hbs b) j hj⟩ : ∃ bs os, AS = some ⟨bs, os, none⟩ ∧ W.cell? ⟨bs, os + j * 2, none⟩ = some (.string l[j].name) ∧ W.cell? ⟨bs, os + j * 2 + 1, none⟩ = some l[j].v))
  have HNM := Lib.hid (fun j (hj : j < l.length) => hn _ (List.getElem_mem hj))
  have HC := Lib.hid hc
  have HX : Hid (xs.length ≤ 20) := hx
  have hx6 : (xs.length : Int) ≤ 20 := by omega
  have HT := Lib.hid (fun W (b : Below w.heap.size w W) => tab_keep ht b)
  obtain ⟨R, hR⟩ : ∃ R, R = fmtSh l xs ⟨#[]⟩ 0 := ⟨_, rfl⟩
  rw [← hR]
  have HR0 : Hid (fmtSh l (xs.drop 0) ⟨#[]⟩ 0 = R) := hR.symm
  clear h hl hn hx ht hc hlp hR
  go_enter Tryd.func43, Tryd.ntmps43
  go_wp2_with fail
  go_loopw [7, 5, 6] (fun iv tv ov wr => ∃ (k : Nat) (t : ByteArray) (tot : Int), k ≤ xs.length ∧ iv = .int .i64 (k : Int) ∧ tv = .string t ∧ ov = .int .i64 tot ∧ Hid (t.size ≤ k * 200) ∧ Hid (0 ≤ tot ∧ tot ≤ k * 2199023255552) ∧ Hid (fmtSh l (xs.drop k) t tot = R) ∧ Hid (Below w.heap.size w wr)) (fun iv _ _ _ => xs.length - (intOf iv).toNat)
  case atStart => exact ⟨0, ⟨#[]⟩, 0, Nat.zero_le _, rfl, rfl, rfl, Nat.zero_le _, ⟨Int.le_refl _, by simp⟩, HR0.out, Below.refl _ _⟩
  case round =>
    clear HR0
    obtain ⟨k, t, tot, hk, rfl, rfl, rfl, HTS, HTT, HRI, HB⟩ := hrel
    have hk0 : (0 : Int) ≤ (k : Int) := by omega
    have hk5 : (k : Int) ≤ 20 := by omega
    have HK5 : Hid (k ≤ 20) := by have := HX.out; show k ≤ 20; omega
    by_cases hkn : k < xs.length
    · have hd1 : decide (k < xs.length) = true := decide_eq_true hkn
      have hd2 : decide ((k : Int) < (xs.length : Int)) = true := decide_eq_true (by omega)
      have hkn1 : (k : Int) < (xs.length : Int) := by omega
      obtain ⟨b, o, eA, hb, hrow⟩ := HC.out (by omega)
      subst eA
      have HAT := Lib.hid (fun W (bw : Below w.heap.size w W) => shr_at (hrow.below hb bw) k hkn)
      have hat := HAT.out _ HB.out
      have HD := Lib.hid (fmtSh_drop (l := l) hkn t tot)
      generalize xs[k] = y at *
      clear hrow hb
      have BA := HB
      by_cases p0 : y.sel < 0
      case pos =>
        have s0 : decide (y.sel < 0) = true := decide_eq_true p0
        have HE : Hid (R = ⟨#[]⟩) := by have := HRI.out; rw [HD.out, if_pos (by omega)] at this; exact this.symm
        clear HD HRI p0
        go_wp2_with fail
        go_ret
        exact ⟨by rw [HE.out]; rfl, BA.out⟩
      have s0 : decide (y.sel < 0) = false := decide_eq_false p0
      obtain ⟨s, hs⟩ : ∃ s : Nat, y.sel = (s : Int) := ⟨y.sel.toNat, by omega⟩
      have hs0 : (0 : Int) ≤ (s : Int) := by omega
      rw [hs] at HD hat s0
      have HSE := Lib.hid hs
      have HAT2 : Hid (∀ W, Below w.heap.size w W → W.cell? ⟨b, o + k * 3, none⟩ = some (.int .i64 (s : Int)) ∧ W.cell? ⟨b, o + k * 3 + 1, none⟩ = some (.int .i64 y.reserve) ∧ W.cell? ⟨b, o + k * 3 + 2, none⟩ = some (.int .i64 y.net)) := fun W bw => by rw [← HSE.out]; exact HAT.out W bw
      clear hs
      by_cases p1 : (l.length : Int) ≤ (s : Int)
      case pos =>
        have s1 : decide ((l.length : Int) ≤ (s : Int)) = true := decide_eq_true p1
        have p1n : decide (l.length ≤ s) = true := decide_eq_true (by omega)
        have HE : Hid (R = ⟨#[]⟩) := by have := HRI.out; rw [HD.out, if_pos (by omega)] at this; exact this.symm
        clear HD HRI p1
        go_wp2_with fail
        go_ret
        exact ⟨by rw [HE.out]; rfl, BA.out⟩
      have s1 : decide ((l.length : Int) ≤ (s : Int)) = false := decide_eq_false p1
      have p1n : decide (l.length ≤ s) = false := decide_eq_false (by omega)
      by_cases p2 : y.reserve < 0
      case pos =>
        have s2 : decide (y.reserve < 0) = true := decide_eq_true p2
        have HE : Hid (R = ⟨#[]⟩) := by have := HRI.out; rw [HD.out, if_pos (by omega)] at this; exact this.symm
        clear HD HRI p2
        go_wp2_with fail
        go_ret
        exact ⟨by rw [HE.out]; rfl, BA.out⟩
      have s2 : decide (y.reserve < 0) = false := decide_eq_false p2
      by_cases p3 : 1099511627776 < y.reserve
      case pos =>
        have s3 : decide (1099511627776 < y.reserve) = true := decide_eq_true p3
        have HE : Hid (R = ⟨#[]⟩) := by have := HRI.out; rw [HD.out, if_pos (by omega)] at this; exact this.symm
        clear HD HRI p3
        go_wp2_with fail
        go_ret
        exact ⟨by rw [HE.out]; rfl, BA.out⟩
      have s3 : decide (1099511627776 < y.reserve) = false := decide_eq_false p3
      by_cases p4 : y.net < 0
      case pos =>
        have s4 : decide (y.net < 0) = true := decide_eq_true p4
        have HE : Hid (R = ⟨#[]⟩) := by have := HRI.out; rw [HD.out, if_pos (by omega)] at this; exact this.symm
        clear HD HRI p4
        go_wp2_with fail
        go_ret
        exact ⟨by rw [HE.out]; rfl, BA.out⟩
      have s4 : decide (y.net < 0) = false := decide_eq_false p4
      by_cases p5 : 1099511627776 < y.net
      case pos =>
        have s5 : decide (1099511627776 < y.net) = true := decide_eq_true p5
        have HE : Hid (R = ⟨#[]⟩) := by have := HRI.out; rw [HD.out, if_pos (by omega)] at this; exact this.symm
        clear HD HRI p5
        go_wp2_with fail
        go_ret
        exact ⟨by rw [HE.out]; rfl, BA.out⟩
      have s5 : decide (1099511627776 < y.net) = false := decide_eq_false p5
      have hsl : s < l.length := by omega
      have hsl1 : (s : Int) < (l.length : Int) := by omega
      obtain ⟨a, ha⟩ : ∃ a, a = y.reserve := ⟨_, rfl⟩
      obtain ⟨z, hz⟩ : ∃ z, z = y.net := ⟨_, rfl⟩
      rw [← ha, ← hz] at HD hat
      rw [← ha] at p2 p3 s2 s3
      rw [← hz] at p4 p5 s4 s5
      have HAT3 := HAT2
      rw [← ha, ← hz] at HAT3
      obtain ⟨bs, os, eS, hsc, _⟩ := HSL.out _ HB.out s hsl
      subst eS
      have HSC : Hid (∀ W, Below w.heap.size w W → W.cell? ⟨bs, os + s * 2, none⟩ = some (.string l[s].name)) := fun W bw => by
        obtain ⟨bs', os', e, h1, _⟩ := HSL.out W bw s hsl
        injection e with e; injection e with e1 e2 e3
        subst e1 e2; exact h1
      have hnm := HNM.out s hsl
      have HDD : Hid (fmtSh l (xs.drop (k + 1)) (t ++ lineS l[s].name [a, z, a + z]) (tot + (a + z)) = R) := by
        have := HRI.out
        rw [HD.out, if_neg (by omega)] at this
        show fmtSh _ _ _ _ = _
        simpa [hsl] using this
      generalize l[s].name = nm at *
      have HI : Hid (∀ x ∈ [a, z, a + z], I64 x) := by intro x hx; simp at hx; unfold I64; rcases hx with rfl | rfl | rfl <;> omega
      have hls : (lineS nm [a, z, a + z]).size ≤ nm.size + 67 := by have h := lineS_size (word := nm) HI.out; simp only [List.length_cons, List.length_nil] at h; omega
      have htt := HTT.out
      have a0 : 0 ≤ a := by omega
      have a1 : a ≤ 1099511627776 := by omega
      have z0 : 0 ≤ z := by omega
      have z1 : z ≤ 1099511627776 := by omega
      have w1 : IntKind.i64.wrap (a + z) = a + z := IntWalk.i64_in _ (by omega)
      have t0 : 0 ≤ tot := htt.1
      have t1 : tot ≤ 100000000000000 := by omega
      have w2 : IntKind.i64.wrap (tot + (a + z)) = tot + (a + z) := IntWalk.i64_in _ (by omega)
      have HTT2 : Hid (0 ≤ tot + (a + z) ∧ tot + (a + z) ≤ (k + 1 : Nat) * 2199023255552) := by show 0 ≤ tot + (a + z) ∧ _; omega
      have hts := HTS.out
      have HTS2 : Hid ((t ++ lineS nm [a, z, a + z]).size ≤ (k + 1) * 200) := by show _ ≤ _; rw [ByteArray.size_append]; omega
      have hia : I64 a := by unfold I64; omega
      have hiz : I64 z := by unfold I64; omega
      have hic : I64 (a + z) := by unfold I64; omega
      have F1 : Hid (∀ W, Calls Tryd.prog 21 #[.int .i64 a] W fun e w' => e = .returned (.string (decS a)) ∧ Below W.heap.size W w') := fun W => Am.rformat_any a W hia.1 hia.2
      have F2 : Hid (∀ W, Calls Tryd.prog 21 #[.int .i64 z] W fun e w' => e = .returned (.string (decS z)) ∧ Below W.heap.size W w') := fun W => Am.rformat_any z W hiz.1 hiz.2
      have F3 : Hid (∀ W, Calls Tryd.prog 21 #[.int .i64 (a + z)] W fun e w' => e = .returned (.string (decS (a + z))) ∧ Below W.heap.size W w') := fun W => Am.rformat_any (a + z) W hic.1 hic.2
      have za := decS_size hia
      have zb := decS_size hiz
      have zc := decS_size hic
      rw [line3] at HTS2 HDD
      have hs1 : (⟨#[32]⟩ : ByteArray).size = 1 := rfl
      have hs2 : (⟨#[10]⟩ : ByteArray).size = 1 := rfl
      obtain ⟨da, hda⟩ : ∃ d, d = decS a := ⟨_, rfl⟩
      obtain ⟨db, hdb⟩ : ∃ d, d = decS z := ⟨_, rfl⟩
      obtain ⟨dc, hdc⟩ : ∃ d, d = decS (a + z) := ⟨_, rfl⟩
      rw [← hda] at F1 HTS2 HDD za
      rw [← hdb] at F2 HTS2 HDD zb
      rw [← hdc] at F3 HTS2 HDD zc
      have q0 := fun W => add_big t nm (by (try simp only [ByteArray.size_append]); (try simp only [hs1, hs2]); omega) W
      have q1 := fun W => add_big (t ++ nm) ⟨#[32]⟩ (by (try simp only [ByteArray.size_append]); (try simp only [hs1, hs2]); omega) W
      have q2 := fun W => add_big (t ++ nm ++ ⟨#[32]⟩) da (by (try simp only [ByteArray.size_append]); (try simp only [hs1, hs2]); omega) W
      have q3 := fun W => add_big (t ++ nm ++ ⟨#[32]⟩ ++ da) ⟨#[32]⟩ (by (try simp only [ByteArray.size_append]); (try simp only [hs1, hs2]); omega) W
      have q4 := fun W => add_big (t ++ nm ++ ⟨#[32]⟩ ++ da ++ ⟨#[32]⟩) db (by (try simp only [ByteArray.size_append]); (try simp only [hs1, hs2]); omega) W
      have q5 := fun W => add_big (t ++ nm ++ ⟨#[32]⟩ ++ da ++ ⟨#[32]⟩ ++ db) ⟨#[32]⟩ (by (try simp only [ByteArray.size_append]); (try simp only [hs1, hs2]); omega) W
      have q6 := fun W => add_big (t ++ nm ++ ⟨#[32]⟩ ++ da ++ ⟨#[32]⟩ ++ db ++ ⟨#[32]⟩) dc (by (try simp only [ByteArray.size_append]); (try simp only [hs1, hs2]); omega) W
      have q7 := fun W => add_big (t ++ nm ++ ⟨#[32]⟩ ++ da ++ ⟨#[32]⟩ ++ db ++ ⟨#[32]⟩ ++ dc) ⟨#[10]⟩ (by (try simp only [ByteArray.size_append]); (try simp only [hs1, hs2]); omega) W
      clear HD HRI hls htt hts p0 p1 p2 p3 p4 p5 ha hz hsc hia hiz hic hda hdb hdc za zb zc hs1 hs2 hnm HSE
      go_wp2_with fail
      go_quiet (fail)
      go_wp2_with fail
      clear hat
      have HB3 : Hid (Below w.heap.size w (wr.drewN nq)) := chain0 HB.out (Fr.drewN_below _ _)
      generalize wr.drewN nq = w3 at *
      have ya := HAT3.out _ HB3.out
      have yd := HSC.out _ HB3.out
      have HKP : Hid (∀ W, Below w3.heap.size w3 W → W.cell? ⟨b, o + k * 3, none⟩ = some (.int .i64 (s : Int)) ∧ W.cell? ⟨b, o + k * 3 + 1, none⟩ = some (.int .i64 a) ∧ W.cell? ⟨b, o + k * 3 + 2, none⟩ = some (.int .i64 z) ∧ W.cell? ⟨bs, os + s * 2, none⟩ = some (.string nm)) := fun W bw => by
        have h := HAT3.out W (chain0 HB3.out bw)
        exact ⟨h.1, h.2.1, h.2.2, HSC.out W (chain0 HB3.out bw)⟩
      go_region_held3 (fun w' => w'.cell? ⟨b, o + k * 3, none⟩ = some (.int .i64 (s : Int)) ∧ w'.cell? ⟨b, o + k * 3 + 1, none⟩ = some (.int .i64 a) ∧ w'.cell? ⟨b, o + k * 3 + 2, none⟩ = some (.int .i64 z) ∧ w'.cell? ⟨bs, os + s * 2, none⟩ = some (.string nm)) (first | exact HKP.out _ D6.out | exact HKP.out _ D5.out | exact HKP.out _ D4.out | exact HKP.out _ (Below.refl _ _).drew | exact HKP.out _ (Below.refl _ _) | go_keep) (first | (go_at_call 21; with_reducible refine (F1.out _).mono ?_; rintro e w4 ⟨rfl, d4⟩; have D4 := Lib.hid (chain0 (Below.refl w3.heap.size w3).drew d4); clear d4) | (go_at_call 21; with_reducible refine (F2.out _).mono ?_; rintro e w5 ⟨rfl, d5⟩; have D5 := Lib.hid (chain0 D4.out d5); clear d5) | (go_at_call 21; with_reducible refine (F3.out _).mono ?_; rintro e w6 ⟨rfl, d6⟩; have D6 := Lib.hid (chain0 D5.out d6); clear d6))
      have HB4 : Hid (Below w.heap.size w w6) := chain0 HB3.out D6.out
      go_wp2_with fail
      go_roundw
      case rel => exact ⟨k + 1, _, _, hkn, by go_num, rfl, rfl, HTS2.out, HTT2.out, HDD.out, HB4.out⟩
      case measure => simp [intOf]; omega
    · obtain rfl : k = xs.length := by omega
      have hd1 : decide (xs.length < xs.length) = false := decide_eq_false (Nat.lt_irrefl _)
      have hd2 : decide ((xs.length : Int) < (xs.length : Int)) = false := decide_eq_false (Int.lt_irrefl _)
      have HFE : Hid (t ++ lineS ⟨#[116, 111, 116, 97, 108]⟩ [tot] = R) := by have := HRI.out; rw [fmtSh_end] at this; exact this
      have htt := HTT.out
      have hts := HTS.out
      have hxx := HX.out
      have t64 : I64 tot := by unfold I64; omega
      have HI1 : Hid (∀ x ∈ [tot], I64 x) := by intro x hx; simp at hx; rw [hx]; exact t64
      have hls : (lineS ⟨#[116, 111, 116, 97, 108]⟩ [tot]).size ≤ 28 := by have h := lineS_size (word := ⟨#[116, 111, 116, 97, 108]⟩) HI1.out; simp only [List.length_cons, List.length_nil] at h; have e : (⟨#[116, 111, 116, 97, 108]⟩ : ByteArray).size = 5 := rfl; omega
      rw [line1] at HFE
      have hdt := decS_size t64
      have CL := Lib.hid (Am.rformat_any tot wr t64.1 t64.2)
      unfold Am.fmtPost at CL
      have CL2 : Hid (Calls Tryd.prog 21 #[.int .i64 tot] wr fun e w' => e = .returned (.string (decS tot)) ∧ Below wr.heap.size wr w') := CL.out
      have a1 := fun W => add_big t ⟨#[116, 111, 116, 97, 108, 32]⟩ (by show _ + 6 ≤ _; omega) W
      have a2 := fun W => add_big (t ++ ⟨#[116, 111, 116, 97, 108, 32]⟩) (decS tot) (by rw [ByteArray.size_append]; show _ + 6 + _ ≤ _; omega) W
      have a3 := fun W => add_big (t ++ ⟨#[116, 111, 116, 97, 108, 32]⟩ ++ decS tot) ⟨#[10]⟩ (by rw [ByteArray.size_append, ByteArray.size_append]; show _ + 6 + _ + 1 ≤ _; omega) W
      generalize decS tot = ds at *
      clear htt hts hxx hls t64 HRI CL hdt
      go_wp2_with fail
      refine CL2.out.mono ?_
      rintro e w5 ⟨rfl, d5⟩
      have B5 := Lib.hid (chain0 HB.out d5)
      clear d5
      go_wp2_with fail
      go_ret
      exact ⟨by rw [← HFE.out]; rfl, B5.out⟩
end Go.Proofs.YtfopmaeaclbknaaDoor.Pr
