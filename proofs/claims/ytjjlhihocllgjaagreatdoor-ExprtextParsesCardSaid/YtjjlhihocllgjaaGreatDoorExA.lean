/- Contracts of exprtext.text and Format, whole. Printed by gen_exA.py. -/
import Derived.Test.YtjjlhihocllgjaaGreatDoorEx9
namespace Go.Proofs.YtjjlhihocllgjaaGreatDoor.Ex
open Go.ChangeShapes Go.WideShapes Go.ChangeAt Go.RowKit Gn Cat Lex
set_option linter.unusedVariables false
set_option linter.unusedSimpArgs false
theorem text_any (d : Nat) : ∀ (l : List Prod) (v : Value) (e : Tree) (B : Nat) (w : World), PL w v l → Tab w → In d B w e → B ≤ w.heap.size → errN (preF d e) = 0 → (preF d e).length ≤ 40 → Calls Tryz.prog 65 #[v, e.val] w (TextPost (textF l d e) w) := by
  induction d with
  | zero => intro l v e B w _ _ h; exact h.elim
  | succ d ih =>
    intro l v e B w hp ht h hB he hs
    obtain ⟨hf, _, _⟩ := err_parts he
    rcases form_op hf with ho | ho | ho | ho | ho
    · exact text_1 d ih l v e B w hp ht h hB he hs ho
    · exact text_2 d ih l v e B w hp ht h hB he hs ho
    · exact text_3 d ih l v e B w hp ht h hB he hs ho
    · exact text_4 d ih l v e B w hp ht h hB he hs ho
    · exact text_5 d ih l v e B w hp ht h hB he hs ho
/-- what Format answers -/
def fmtX (l : List Prod) (d : Nat) (e : Tree) : ByteArray × Int :=
  if checkE l ≠ 0 then (⟨#[]⟩, checkE l)
  else if checkX d e ≠ 0 then (⟨#[]⟩, checkX d e)
  else if (textF l d e).2 = false then (⟨#[]⟩, 4)
  else if 4000 < (textF l d e).1.size then (⟨#[]⟩, 3)
  else ((textF l d e).1, 0)
theorem fx_1 {l : List Prod} {d : Nat} {e : Tree} (h : checkE l ≠ 0) : fmtX l d e = (⟨#[]⟩, checkE l) := by unfold fmtX; rw [if_pos h]
theorem fx_2 {l : List Prod} {d : Nat} {e : Tree} (h : checkE l = 0) (h2 : checkX d e ≠ 0) : fmtX l d e = (⟨#[]⟩, checkX d e) := by unfold fmtX; rw [if_neg (fun q => q h), if_pos h2]
theorem fx_3 {l : List Prod} {d : Nat} {e : Tree} (h : checkE l = 0) (h2 : checkX d e = 0) (h3 : (textF l d e).2 = false) : fmtX l d e = (⟨#[]⟩, 4) := by unfold fmtX; rw [if_neg (fun q => q h), if_neg (fun q => q h2), if_pos h3]
theorem fx_4 {l : List Prod} {d : Nat} {e : Tree} (h : checkE l = 0) (h2 : checkX d e = 0) (h3 : (textF l d e).2 = true) (h4 : 4000 < (textF l d e).1.size) : fmtX l d e = (⟨#[]⟩, 3) := by unfold fmtX; rw [if_neg (fun q => q h), if_neg (fun q => q h2), if_neg (by rw [h3]; simp), if_pos h4]
theorem fx_5 {l : List Prod} {d : Nat} {e : Tree} (h : checkE l = 0) (h2 : checkX d e = 0) (h3 : (textF l d e).2 = true) (h4 : ¬ 4000 < (textF l d e).1.size) : fmtX l d e = ((textF l d e).1, 0) := by unfold fmtX; rw [if_neg (fun q => q h), if_neg (fun q => q h2), if_neg (by rw [h3]; simp), if_neg h4]
theorem checkX_zero {d : Nat} {e : Tree} (h : checkX d e = 0) : depthF d e ≤ 6 ∧ wideB (preF d e) = false ∧ (preF d e).length ≤ 40 ∧ errN (preF d e) = 0 := by
  unfold checkX at h
  split at h
  · cases h
  · rename_i q1
    split at h
    · cases h
    · rename_i q2
      rw [Bool.not_eq_true, Bool.or_eq_false_iff] at q2
      have := of_decide_eq_false q2.2
      exact ⟨by omega, q2.1, by omega, h⟩
abbrev FmtPost (p : ByteArray × Int) (w : World) : Ending → World → Prop := fun r w' => r = .returned (.tuple #[.string p.1, .int .i64 p.2]) ∧ Below w.heap.size w w'
set_option maxHeartbeats 4000000 in
set_option maxRecDepth 100000 in
theorem format_any (l : List Prod) (v : Value) (d : Nat) (e : Tree) (B : Nat) (w : World) (hp : PL w v l) (ht : Tab w) (h : In d B w e) (hB : B ≤ w.heap.size) (hs : (preF d e).length ≤ 5000) : Calls Tryz.prog 31 #[v, e.val] w (FmtPost (fmtX l d e) w) := by
  have CC := Lib.hid (fun W (k : Below w.heap.size w W) => Cat.check_any l v W hp.len (hp.sl.keep k) hp.nm)
  have CX := Lib.hid (fun W (k : Below w.heap.size w W) => Ex.check_any d e B W (h.keep (k.mono hB)) (Nat.le_trans hB k.size) hs)
  have CT := Lib.hid (fun (hz : checkX d e = 0) W (k : Below w.heap.size w W) => text_any d l v e B W (hp.keep k) (ht.keep k) (h.keep (k.mono hB)) (Nat.le_trans hB k.size) (checkX_zero hz).2.2.2 (checkX_zero hz).2.2.1)
  obtain ⟨A1, c1, rfl, _⟩ := ps_cases hp.sl
  have BX := Lib.hid (below_new w (.cells #[.int .i64 e.op, .int .i64 (e.want 0), .int .i64 (e.want 1), .int .i64 (e.want 2), .int .i64 (e.want 3), .int .i64 (e.want 4), .int .i64 (e.want 5), .int .i64 e.value, .slice e.a e.args.length e.c] 28))
  have KX := Lib.hid (Blk.new w 28 #[.int .i64 e.op, .int .i64 (e.want 0), .int .i64 (e.want 1), .int .i64 (e.want 2), .int .i64 (e.want 3), .int .i64 (e.want 4), .int .i64 (e.want 5), .int .i64 e.value, .slice e.a e.args.length e.c])
  have E1 := Lib.hid (fx_1 (l := l) (d := d) (e := e))
  have E2 := Lib.hid (fx_2 (l := l) (d := d) (e := e))
  have E3 := Lib.hid (fx_3 (l := l) (d := d) (e := e))
  have E4 := Lib.hid (fx_4 (l := l) (d := d) (e := e))
  have E5 := Lib.hid (fx_5 (l := l) (d := d) (e := e))
  have HTL : Hid (checkX d e = 0 → (textF l d e).1.size ≤ 200000) := fun hz => by
    have h1 := text_len l d e (checkX_zero hz).2.2.2
    have h2 := (checkX_zero hz).2.2.1
    omega
  obtain ⟨R, hR⟩ : ∃ R, R = fmtX l d e := ⟨_, rfl⟩
  rw [← hR] at E1 E2 E3 E4 E5
  rw [← hR]
  unfold FmtPost
  unfold Tree.val at CX CT ⊢
  clear hp ht h hB hs hR
  go_enter Tryz.func31, Tryz.ntmps31
  have z0 := KX.out.cell 0
  have z1 := KX.out.cell 1
  have z2 := KX.out.cell 2
  have z3 := KX.out.cell 3
  have z4 := KX.out.cell 4
  have z5 := KX.out.cell 5
  have z6 := KX.out.cell 6
  have z7 := KX.out.cell 7
  have z8 := KX.out.cell 8
  have zl := KX.out.lt
  go_wp2_with fail
  refine (CC.out _ BX.out).mono ?_
  rintro r w1 ⟨rfl, d1⟩
  have K1 := Lib.hid (KX.out.below' d1)
  have B1 := Lib.hid (chain0 BX.out d1)
  clear d1 KX BX CC
  clear z0 z1 z2 z3 z4 z5 z6 z7 z8 zl
  by_cases hz : checkE l = 0
  case neg =>
    have t1 : (checkE l != 0) = true := by simpa using hz
    have HV := Lib.hid (E1.out hz)
    clear hz
    go_wp2_with fail
    go_ret2
    exact ⟨by rw [HV.out]; rfl, B1.out⟩
  have t1 : (checkE l != 0) = false := by rw [hz]; rfl
  have HZ := Lib.hid hz
  clear hz
  have z0 := K1.out.cell 0
  have z1 := K1.out.cell 1
  have z2 := K1.out.cell 2
  have z3 := K1.out.cell 3
  have z4 := K1.out.cell 4
  have z5 := K1.out.cell 5
  have z6 := K1.out.cell 6
  have z7 := K1.out.cell 7
  have z8 := K1.out.cell 8
  have zl := K1.out.lt
  go_wp2_with fail
  refine (CX.out _ B1.out).mono ?_
  rintro r w2 ⟨rfl, d2⟩
  have K2 := Lib.hid (K1.out.below' d2)
  have B2 := Lib.hid (chain0 B1.out d2)
  clear d2 K1 B1 CX
  clear z0 z1 z2 z3 z4 z5 z6 z7 z8 zl
  by_cases hx : checkX d e = 0
  case neg =>
    have t2 : (checkX d e != 0) = true := by simpa using hx
    have HV := Lib.hid (E2.out HZ.out hx)
    clear hx
    go_wp2_with fail
    go_ret2
    exact ⟨by rw [HV.out]; rfl, B2.out⟩
  have t2 : (checkX d e != 0) = false := by rw [hx]; rfl
  have HX := Lib.hid hx
  have CT2 := Lib.hid (CT.out hx)
  have HTS := HTL.out hx
  have E3a := Lib.hid (E3.out HZ.out hx)
  have E4a := Lib.hid (E4.out HZ.out hx)
  have E5a := Lib.hid (E5.out HZ.out hx)
  unfold TextPost at CT2
  generalize (textF l d e).1 = t at *
  generalize (textF l d e).2 = f at *
  clear hx CT E1 E2 E3 E4 E5 HTL
  have z0 := K2.out.cell 0
  have z1 := K2.out.cell 1
  have z2 := K2.out.cell 2
  have z3 := K2.out.cell 3
  have z4 := K2.out.cell 4
  have z5 := K2.out.cell 5
  have z6 := K2.out.cell 6
  have z7 := K2.out.cell 7
  have z8 := K2.out.cell 8
  have zl := K2.out.lt
  go_wp2_with fail
  refine (CT2.out _ B2.out).mono ?_
  rintro r w3 ⟨rfl, d3⟩
  have B3 := Lib.hid (chain0 B2.out d3)
  clear d3 K2 B2 CT2
  clear z0 z1 z2 z3 z4 z5 z6 z7 z8 zl
  cases f with
  | false =>
    have HV := Lib.hid (E3a.out (by first | rfl | trivial))
    go_wp2_with fail
    go_ret2
    exact ⟨by rw [HV.out]; rfl, B3.out⟩
  | true =>
    have hti : (t.size : Int) ≤ 200000 := by omega
    by_cases h4 : 4000 < t.size
    · have t4 : decide ((4000 : Int) < (t.size : Int)) = true := decide_eq_true (by omega)
      have HV := Lib.hid (E4a.out (by first | rfl | trivial) h4)
      clear h4
      go_wp2_with fail
      go_ret2
      exact ⟨by rw [HV.out]; rfl, B3.out⟩
    · have t4 : decide ((4000 : Int) < (t.size : Int)) = false := decide_eq_false (by omega)
      have HV := Lib.hid (E5a.out (by first | rfl | trivial) h4)
      clear h4
      go_wp2_with fail
      go_ret2
      exact ⟨by rw [HV.out]; rfl, B3.out⟩
end Go.Proofs.YtjjlhihocllgjaaGreatDoor.Ex
