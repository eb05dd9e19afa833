/- Contract of the reference's expression. Printed by gen_exb4.py. -/
import Derived.Test.YtjjlhihocllgjaaGreatDoorExb2
import Derived.Test.YtjjlhihocllgjaaGreatDoorExb3
import Derived.Test.YtjjlhihocllgjaaGreatDoorExK
import Derived.Deep.LoopGhost
namespace Go.Proofs.YtjjlhihocllgjaaGreatDoor.Ex
open Go.ChangeShapes Go.WideShapes Go.ChangeAt Go.RowKit Gn Cat Lex
set_option linter.unusedVariables false
set_option linter.unusedSimpArgs false
abbrev RExprPost (d : Nat) (q : PX) (g : Nat) (w : World) : Ending → World → Prop := fun r w' => ∃ t : Tree, r = .returned t.val ∧ xF d t = q.x ∧ InP (fun b => w.heap.size ≤ b) d w' t ∧ Scan 73 125 w' g q.L q.e ∧ Only g w w'
theorem rpriced_any (l : List Prod) (A : Option Addr) (c : Nat) (L : List Tok) (e : Int) (g : Nat) (w : World) (hz : checkE l = 0) (hp : PS w (.slice A l.length c) l) (hA : ∀ b o, A = some ⟨b, o, none⟩ → b ≠ g) (hs : Scan 73 125 w g L e) (hm : L.length ≤ 5000) : Calls Tryz.prog 91 #[.slice A l.length c, .pointer (some ⟨g, 0, none⟩)] w (RPricedPost (rpricedF l L e) g w) := by
  have h6 := (checkE_zero hz).2.1
  by_cases he : e = 0
  · cases hr : refF l L with
    | error x => exact rpriced_bad l A c L e g w h6 hp hA hs hm he hz x hr
    | ok r =>
      obtain ⟨b, R, n⟩ := r
      exact rpriced_ok l A c L e g w h6 hp hA hs hm he b R n hr
  · exact rpriced_err l A c L e g w h6 hp hA hs hm he
theorem rpriced_len {l : List Prod} {L : List Tok} {e : Int} : (rpricedF l L e).L.length ≤ L.length := by
  unfold rpricedF
  split
  · exact Nat.le_refl _
  · split
    · exact Nat.le_refl _
    · rename_i b R n hr
      have h := (refF_rest hr).1
      have h2 := amtL_len (expL R 0 ⟨#[64]⟩) (expE R 0 ⟨#[64]⟩) 1000000
      have h3 := expL_len R 0 ⟨#[64]⟩
      have h4 : R.length ≤ L.length := by rw [h, List.length_drop]; omega
      show (amtL (expL R 0 ⟨#[64]⟩) (expE R 0 ⟨#[64]⟩) 1000000).length ≤ _
      omega
theorem name_len (L : List Tok) (e : Int) : (nameL L e).length ≤ L.length := by
  unfold nameL
  split
  · exact nextL_len _ _
  · exact Nat.le_refl _
theorem ytree_len {f : List Tok → Int → PX} (h : ∀ L e, (f L e).L.length ≤ L.length) (k : Nat) (s : PXs) : (moreF f k s).L.length ≤ s.L.length := moreF_len h k s
set_option maxHeartbeats 8000000 in
set_option maxRecDepth 100000 in
theorem rexpr_atom (l : List Prod) (d : Nat) (A : Option Addr) (c : Nat) (L : List Tok) (e : Int) (g : Nat) (w : World) (hz : checkE l = 0) (hp : PS w (.slice A l.length c) l) (hA : ∀ b o, A = some ⟨b, o, none⟩ → b ≠ g) (hs : Scan 73 125 w g L e) (hm : L.length ≤ 5000) (ha : accB L e ⟨#[123]⟩) : Calls Tryz.prog 41 #[.slice A l.length c, .pointer (some ⟨g, 0, none⟩)] w (RExprPost (d + 1) ⟨.mk 1 (n6 (rpricedF l L e).b) (rpricedF l L e).v [], (rpricedF l L e).L, (rpricedF l L e).e⟩ g w) := by
  have hg := hs.lt
  have CP := Lib.hid fun W (h : Scan 73 125 W g L e) => rpeek_any L e g W h (small_len hm)
  have CR := Lib.hid fun W (k : Only g w W) (h : Scan 73 125 W g L e) => rpriced_any l A c L e g W hz (ref_only hp hA k) hA h hm
  generalize rpricedF l L e = q at *
  obtain ⟨qb, qv, qL, qe⟩ := q
  dsimp only at CR ⊢
  obtain ⟨ha1, ha2⟩ := ha
  generalize peekT L e = t at *
  obtain ⟨tk, tt, tv, tp⟩ := t
  dsimp only at CP ha1 ha2
  subst ha1 ha2
  have S2 := Lib.hid (hs.below (below_new w (.cells (cells9 0 0 zero6 none 0 0) 28)))
  have K2 := Lib.hid (Blk.new w 28 (cells9 0 0 zero6 none 0 0))
  have O2 := Lib.hid ((Only.refl g w).alloc (.cells (cells9 0 0 zero6 none 0 0) 28))
  clear hs hp hA
  go_enter Tryz.func41, Tryz.ntmps41
  go_wp2_with fail
  refine (CP.out _ S2.out).mono ?_
  rintro r w2 ⟨rfl, b2⟩
  have S3 := Lib.hid ((S2.out.below b2).below (below_new w2 (.cells #[.int .i64 3, .string ⟨#[123]⟩, .int .i64 tv, .int .i64 tp] 125)))
  have K3 := Lib.hid ((K2.out.below' b2).alloc (.cells #[.int .i64 3, .string ⟨#[123]⟩, .int .i64 tv, .int .i64 tp] 125))
  have O3 := Lib.hid ((O2.out.then_below b2).alloc (.cells #[.int .i64 3, .string ⟨#[123]⟩, .int .i64 tv, .int .i64 tp] 125))
  have KT := Lib.hid (Blk.new w2 125 #[.int .i64 3, .string ⟨#[123]⟩, .int .i64 tv, .int .i64 tp])
  have hkl : w.heap.size < w2.heap.size := (K2.out.below' b2).lt
  clear b2 S2 K2 O2
  go_upto_region 2 with fail
  generalize w2.alloc (.cells #[.int .i64 3, .string ⟨#[123]⟩, .int .i64 tv, .int .i64 tp] 125) = w3 at *
  have d4 := KT.out.c4
  go_wp2_with fail
  refine (CR.out _ O3.out S3.out).mono ?_
  rintro r w4 ⟨rfl, s4, o4⟩
  have K5 := Lib.hid ((K3.out.only o4 (by omega)).alloc (.cells (arr qb) 25))
  have S5 := Lib.hid (s4.below (below_new w4 (.cells (arr qb) 25)))
  have O5 := Lib.hid ((O3.out.trans o4).alloc (.cells (arr qb) 25))
  have Q5 := Lib.hid (Blk.new w4 25 (arr qb))
  have hkl2 : w.heap.size < w4.heap.size := (K3.out.only o4 (by omega)).lt
  clear s4 o4 S3 K3 O3 KT d4
  unfold arr at *
  go_upto_region 4 with fail
  generalize w4.alloc (.cells #[.int .i64 (qb 0), .int .i64 (qb 1), .int .i64 (qb 2), .int .i64 (qb 3), .int .i64 (qb 4), .int .i64 (qb 5)] 25) = w5 at *
  generalize w4.heap.size = y at *
  have C0 : w5.cell? ⟨y, 0, none⟩ = some (.int .i64 (qb 0)) := Q5.out.cell 0
  have C1 : w5.cell? ⟨y, 1, none⟩ = some (.int .i64 (qb 1)) := Q5.out.cell 1
  have C2 : w5.cell? ⟨y, 2, none⟩ = some (.int .i64 (qb 2)) := Q5.out.cell 2
  have C3 : w5.cell? ⟨y, 3, none⟩ = some (.int .i64 (qb 3)) := Q5.out.cell 3
  have C4 : w5.cell? ⟨y, 4, none⟩ = some (.int .i64 (qb 4)) := Q5.out.cell 4
  have C5 : w5.cell? ⟨y, 5, none⟩ = some (.int .i64 (qb 5)) := Q5.out.cell 5
  have Cl := Q5.out.lt
  have D0 : w5.cell? ⟨w.heap.size, 0, none⟩ = some (.int .i64 0) := K5.out.cell 0
  have Df0 := K5.out.free 0
  have D1 : w5.cell? ⟨w.heap.size, 1, none⟩ = some (.int .i64 0) := K5.out.cell 1
  have Df1 := K5.out.free 1
  have D2 : w5.cell? ⟨w.heap.size, 2, none⟩ = some (.int .i64 0) := K5.out.cell 2
  have Df2 := K5.out.free 2
  have D3 : w5.cell? ⟨w.heap.size, 3, none⟩ = some (.int .i64 0) := K5.out.cell 3
  have Df3 := K5.out.free 3
  have D4 : w5.cell? ⟨w.heap.size, 4, none⟩ = some (.int .i64 0) := K5.out.cell 4
  have Df4 := K5.out.free 4
  have D5 : w5.cell? ⟨w.heap.size, 5, none⟩ = some (.int .i64 0) := K5.out.cell 5
  have Df5 := K5.out.free 5
  have D6 : w5.cell? ⟨w.heap.size, 6, none⟩ = some (.int .i64 0) := K5.out.cell 6
  have Df6 := K5.out.free 6
  have D7 : w5.cell? ⟨w.heap.size, 7, none⟩ = some (.int .i64 0) := K5.out.cell 7
  have Df7 := K5.out.free 7
  have D8 : w5.cell? ⟨w.heap.size, 8, none⟩ = some (.slice none 0 0) := K5.out.cell 8
  have Df8 := K5.out.free 8
  have Dl := K5.out.lt
  try dsimp only
  iterate 17 (first | go_values | go_skip | go_guarded | go_step | go_upon)
  have R9 : Blk (((((((((w5.setCell ⟨w.heap.size, 0, none⟩ (.int .i64 1)).setCell ⟨w.heap.size, 1, none⟩ (.int .i64 (qb 0))).setCell ⟨w.heap.size, 2, none⟩ (.int .i64 (qb 1))).setCell ⟨w.heap.size, 3, none⟩ (.int .i64 (qb 2))).setCell ⟨w.heap.size, 4, none⟩ (.int .i64 (qb 3))).setCell ⟨w.heap.size, 5, none⟩ (.int .i64 (qb 4))).setCell ⟨w.heap.size, 6, none⟩ (.int .i64 (qb 5))).setCell ⟨w.heap.size, 7, none⟩ (.int .i64 qv)).setCell ⟨w.heap.size, 8, none⟩ (.slice none 0 0)) w.heap.size 28 (cells9 1 qv qb none 0 0) := blk_put9 (op := 1) (v := qv) (p := qb) (A := none) (n := 0) (c := 0) K5.out
  have S9 : Scan 73 125 (((((((((w5.setCell ⟨w.heap.size, 0, none⟩ (.int .i64 1)).setCell ⟨w.heap.size, 1, none⟩ (.int .i64 (qb 0))).setCell ⟨w.heap.size, 2, none⟩ (.int .i64 (qb 1))).setCell ⟨w.heap.size, 3, none⟩ (.int .i64 (qb 2))).setCell ⟨w.heap.size, 4, none⟩ (.int .i64 (qb 3))).setCell ⟨w.heap.size, 5, none⟩ (.int .i64 (qb 4))).setCell ⟨w.heap.size, 6, none⟩ (.int .i64 (qb 5))).setCell ⟨w.heap.size, 7, none⟩ (.int .i64 qv)).setCell ⟨w.heap.size, 8, none⟩ (.slice none 0 0)) g qL qe := scan_put9 (op := 1) (v := qv) (p := qb) (A := none) (n := 0) (c := 0) S5.out K5.out (by decide) (by decide)
  have O9 : Only g w (((((((((w5.setCell ⟨w.heap.size, 0, none⟩ (.int .i64 1)).setCell ⟨w.heap.size, 1, none⟩ (.int .i64 (qb 0))).setCell ⟨w.heap.size, 2, none⟩ (.int .i64 (qb 1))).setCell ⟨w.heap.size, 3, none⟩ (.int .i64 (qb 2))).setCell ⟨w.heap.size, 4, none⟩ (.int .i64 (qb 3))).setCell ⟨w.heap.size, 5, none⟩ (.int .i64 (qb 4))).setCell ⟨w.heap.size, 6, none⟩ (.int .i64 (qb 5))).setCell ⟨w.heap.size, 7, none⟩ (.int .i64 qv)).setCell ⟨w.heap.size, 8, none⟩ (.slice none 0 0)) := only_put9 (op := 1) (v := qv) (p := qb) (A := none) (n := 0) (c := 0) (x := w.heap.size) O5.out (by omega)
  generalize ((((((((w5.setCell ⟨w.heap.size, 0, none⟩ (.int .i64 1)).setCell ⟨w.heap.size, 1, none⟩ (.int .i64 (qb 0))).setCell ⟨w.heap.size, 2, none⟩ (.int .i64 (qb 1))).setCell ⟨w.heap.size, 3, none⟩ (.int .i64 (qb 2))).setCell ⟨w.heap.size, 4, none⟩ (.int .i64 (qb 3))).setCell ⟨w.heap.size, 5, none⟩ (.int .i64 (qb 4))).setCell ⟨w.heap.size, 6, none⟩ (.int .i64 (qb 5))).setCell ⟨w.heap.size, 7, none⟩ (.int .i64 qv)).setCell ⟨w.heap.size, 8, none⟩ (.slice none 0 0) = w9 at *
  have R9 := Lib.hid R9
  have S9 := Lib.hid S9
  have O9 := Lib.hid O9
  clear C0 C1 C2 C3 C4 C5 Cl
  clear D0 Df0 D1 Df1 D2 Df2 D3 Df3 D4 Df4 D5 Df5 D6 Df6 D7 Df7 D8 Df8 Dl
  clear Q5 K5 S5 O5
  repeat (first | go_values | go_skip | go_guarded | go_step | go_upon)
  exact bodyPost_ret (v := .agg (cells9 1 qv qb none 0 0)) (results_blk rfl rfl R9.out Tryz.underlying28 rfl (by kernel_rfl)) rfl ⟨.mk 1 qb qv none 0 [], rfl, rfl, ⟨Nat.le_refl _, Nat.zero_le _, fun h => absurd h (by simp), fun x hx => by simp at hx⟩, S9.out, O9.out⟩
theorem opW_lit {s : ByteArray} : (opW s = 2 → s = wXor) ∧ (opW s = 3 → s = wOr) ∧ (opW s = 4 → s = wBonus) ∧ (opW s = 5 → s = wLimit) ∧ (opW s = 0 → s ≠ wXor ∧ s ≠ wOr ∧ s ≠ wBonus ∧ s ≠ wLimit) := by
  unfold opW
  by_cases h2 : eqB wXor s = true
  · rw [if_pos h2]
    have := eqB_iff.1 h2
    refine ⟨fun h => ?_, fun h => ?_, fun h => ?_, fun h => ?_, fun h => ?_⟩ <;> first | (exact absurd h (by decide)) | (exact this.symm)
  · rw [if_neg h2]
    by_cases h3 : eqB wOr s = true
    · rw [if_pos h3]
      have := eqB_iff.1 h3
      refine ⟨fun h => ?_, fun h => ?_, fun h => ?_, fun h => ?_, fun h => ?_⟩ <;> first | (exact absurd h (by decide)) | (exact this.symm)
    · rw [if_neg h3]
      by_cases h4 : eqB wBonus s = true
      · rw [if_pos h4]
        have := eqB_iff.1 h4
        refine ⟨fun h => ?_, fun h => ?_, fun h => ?_, fun h => ?_, fun h => ?_⟩ <;> first | (exact absurd h (by decide)) | (exact this.symm)
      · rw [if_neg h4]
        by_cases h5 : eqB wLimit s = true
        · rw [if_pos h5]
          have := eqB_iff.1 h5
          refine ⟨fun h => ?_, fun h => ?_, fun h => ?_, fun h => ?_, fun h => ?_⟩ <;> first | (exact absurd h (by decide)) | (exact this.symm)
        · rw [if_neg h5]
          refine ⟨fun h => absurd h (by decide), fun h => absurd h (by decide), fun h => absurd h (by decide), fun h => absurd h (by decide), fun _ => ⟨fun e => h2 (eqB_iff.2 e.symm), fun e => h3 (eqB_iff.2 e.symm), fun e => h4 (eqB_iff.2 e.symm), fun e => h5 (eqB_iff.2 e.symm)⟩⟩
set_option maxHeartbeats 8000000 in
set_option maxRecDepth 100000 in
theorem rexpr_bad (l : List Prod) (d : Nat) (A : Option Addr) (c : Nat) (L : List Tok) (e : Int) (g : Nat) (w : World) (hz : checkE l = 0) (hp : PS w (.slice A l.length c) l) (hA : ∀ b o, A = some ⟨b, o, none⟩ → b ≠ g) (hs : Scan 73 125 w g L e) (hm : L.length ≤ 5000) (ha : ¬ accB L e ⟨#[123]⟩) (hw : opW (nameT L e) = 0) : Calls Tryz.prog 41 #[.slice A l.length c, .pointer (some ⟨g, 0, none⟩)] w (RExprPost (d + 1) ⟨x0, nameL L e, failE (nameE L e) 2⟩ g w) := by
  have hg := hs.lt
  have CP := Lib.hid fun W (h : Scan 73 125 W g L e) => rpeek_any L e g W h (small_len hm)
  have CN := Lib.hid fun W (h : Scan 73 125 W g L e) => rname_any L e g W h (small_len hm)
  have CF := Lib.hid fun W (h : Scan 73 125 W g (nameL L e) (nameE L e)) => rfail_any (nameL L e) (nameE L e) 2 g W h
  obtain ⟨hn2, hn3, hn4, hn5⟩ := opW_lit.2.2.2.2 hw
  clear hw
  have HNA := Lib.hid ha
  unfold accB at HNA
  clear ha
  generalize nameT L e = nm at *
  generalize failE (nameE L e) 2 = ef at *
  generalize nameL L e = Ln at *
  generalize nameE L e = en at *
  have n2 := toList_of_ne hn2
  rw [show (⟨#[120, 111, 114]⟩ : ByteArray).toList = [120, 111, 114] by decide +kernel] at n2
  clear hn2
  have n3 := toList_of_ne hn3
  rw [show (⟨#[111, 114]⟩ : ByteArray).toList = [111, 114] by decide +kernel] at n3
  clear hn3
  have n4 := toList_of_ne hn4
  rw [show (⟨#[98, 111, 110, 117, 115]⟩ : ByteArray).toList = [98, 111, 110, 117, 115] by decide +kernel] at n4
  clear hn4
  have n5 := toList_of_ne hn5
  rw [show (⟨#[108, 105, 109, 105, 116]⟩ : ByteArray).toList = [108, 105, 109, 105, 116] by decide +kernel] at n5
  clear hn5
  generalize peekT L e = t at *
  obtain ⟨tk, tt, tv, tp⟩ := t
  dsimp only at CP HNA
  by_cases hk3 : tk = 3
  · have hm3 : tt ≠ ⟨#[123]⟩ := fun h => HNA.out ⟨hk3, h⟩
    clear HNA
    subst hk3
    have hne := toList_of_ne hm3
    rw [show (⟨#[123]⟩ : ByteArray).toList = [123] by decide +kernel] at hne
    clear hm3
    
    have S2 := Lib.hid (hs.below (below_new w (.cells (cells9 0 0 zero6 none 0 0) 28)))
    have K2 := Lib.hid (Blk.new w 28 (cells9 0 0 zero6 none 0 0))
    have O2 := Lib.hid ((Only.refl g w).alloc (.cells (cells9 0 0 zero6 none 0 0) 28))
    clear hs hp hA
    go_enter Tryz.func41, Tryz.ntmps41
    go_wp2_with fail
    refine (CP.out _ S2.out).mono ?_
    rintro r w2 ⟨rfl, b2⟩
    have S3 := Lib.hid ((S2.out.below b2).below (below_new w2 (.cells #[.int .i64 3, .string tt, .int .i64 tv, .int .i64 tp] 125)))
    have K3 := Lib.hid ((K2.out.below' b2).alloc (.cells #[.int .i64 3, .string tt, .int .i64 tv, .int .i64 tp] 125))
    have O3 := Lib.hid ((O2.out.then_below b2).alloc (.cells #[.int .i64 3, .string tt, .int .i64 tv, .int .i64 tp] 125))
    have KT := Lib.hid (Blk.new w2 125 #[.int .i64 3, .string tt, .int .i64 tv, .int .i64 tp])
    have hkl : w.heap.size < w2.heap.size := (K2.out.below' b2).lt
    clear b2 S2 K2 O2
    go_upto_region 2 with fail
    generalize w2.alloc (.cells #[.int .i64 3, .string tt, .int .i64 tv, .int .i64 tp] 125) = w3 at *
    have d4 := KT.out.c4
    go_wp2_with fail
    
    have E4 : Hid (YMid 28 73 125 w (w3.alloc (.cells #[.int .i64 0, .int .i64 0, .int .i64 0, .int .i64 0, .int .i64 0, .int .i64 0, .int .i64 0, .int .i64 0, .slice none 0 0] 28)) g w3.heap.size 0 0 zero6 none 0 d [] L e) := ymid_new S3.out K3.out O3.out hg d
    clear S3 K3 O3 KT d4
    generalize w3.alloc (.cells #[.int .i64 0, .int .i64 0, .int .i64 0, .int .i64 0, .int .i64 0, .int .i64 0, .int .i64 0, .int .i64 0, .slice none 0 0] 28) = w4 at *
    generalize w3.heap.size = q at *
    refine (CN.out _ E4.out.scan).mono ?_
    rintro r w6 ⟨rfl, s6, o6⟩
    have E6 := Lib.hid (E4.out.step s6 o6)
    clear s6 o6 E4
    
    go_wp2_with fail
    refine (CF.out _ E6.out.scan).mono ?_
    rintro r w8 ⟨rfl, s8, o8⟩
    have E8 := Lib.hid (E6.out.step s8 o8)
    clear s8 o8 E6
    
    have C0 : w8.cell? ⟨q, 0, none⟩ = some (.int .i64 0) := E8.out.box.cell 0
    have C1 : w8.cell? ⟨q, 1, none⟩ = some (.int .i64 0) := E8.out.box.cell 1
    have C2 : w8.cell? ⟨q, 2, none⟩ = some (.int .i64 0) := E8.out.box.cell 2
    have C3 : w8.cell? ⟨q, 3, none⟩ = some (.int .i64 0) := E8.out.box.cell 3
    have C4 : w8.cell? ⟨q, 4, none⟩ = some (.int .i64 0) := E8.out.box.cell 4
    have C5 : w8.cell? ⟨q, 5, none⟩ = some (.int .i64 0) := E8.out.box.cell 5
    have C6 : w8.cell? ⟨q, 6, none⟩ = some (.int .i64 0) := E8.out.box.cell 6
    have C7 : w8.cell? ⟨q, 7, none⟩ = some (.int .i64 0) := E8.out.box.cell 7
    have C8 : w8.cell? ⟨q, 8, none⟩ = some (.slice none 0 0) := E8.out.box.cell 8
    have Cl := E8.out.box.lt
    have D0 : w8.cell? ⟨w.heap.size, 0, none⟩ = some (.int .i64 0) := E8.out.res.cell 0
    have Df0 := E8.out.res.free 0
    have D1 : w8.cell? ⟨w.heap.size, 1, none⟩ = some (.int .i64 0) := E8.out.res.cell 1
    have Df1 := E8.out.res.free 1
    have D2 : w8.cell? ⟨w.heap.size, 2, none⟩ = some (.int .i64 0) := E8.out.res.cell 2
    have Df2 := E8.out.res.free 2
    have D3 : w8.cell? ⟨w.heap.size, 3, none⟩ = some (.int .i64 0) := E8.out.res.cell 3
    have Df3 := E8.out.res.free 3
    have D4 : w8.cell? ⟨w.heap.size, 4, none⟩ = some (.int .i64 0) := E8.out.res.cell 4
    have Df4 := E8.out.res.free 4
    have D5 : w8.cell? ⟨w.heap.size, 5, none⟩ = some (.int .i64 0) := E8.out.res.cell 5
    have Df5 := E8.out.res.free 5
    have D6 : w8.cell? ⟨w.heap.size, 6, none⟩ = some (.int .i64 0) := E8.out.res.cell 6
    have Df6 := E8.out.res.free 6
    have D7 : w8.cell? ⟨w.heap.size, 7, none⟩ = some (.int .i64 0) := E8.out.res.cell 7
    have Df7 := E8.out.res.free 7
    have D8 : w8.cell? ⟨w.heap.size, 8, none⟩ = some (.slice none 0 0) := E8.out.res.cell 8
    have Df8 := E8.out.res.free 8
    have Dl := E8.out.res.lt
    have hxq30 := E8.out.far
    have hne1 : (q == w.heap.size) = false := by simp; omega
    have hne2 : (w.heap.size == q) = false := by simp; omega
    have hne3 : ¬ q = w.heap.size := by omega
    have hne4 : ¬ w.heap.size = q := by omega
    try dsimp only
    iterate 11 (first | go_values | go_skip | go_guarded | go_step | go_upon)
    have Z9 : InP (fun b => w.heap.size ≤ b) (d + 1) (((((((((w8.setCell ⟨w.heap.size, 0, none⟩ (.int .i64 0)).setCell ⟨w.heap.size, 1, none⟩ (.int .i64 0)).setCell ⟨w.heap.size, 2, none⟩ (.int .i64 0)).setCell ⟨w.heap.size, 3, none⟩ (.int .i64 0)).setCell ⟨w.heap.size, 4, none⟩ (.int .i64 0)).setCell ⟨w.heap.size, 5, none⟩ (.int .i64 0)).setCell ⟨w.heap.size, 6, none⟩ (.int .i64 0)).setCell ⟨w.heap.size, 7, none⟩ (.int .i64 0)).setCell ⟨w.heap.size, 8, none⟩ (.slice none 0 0)) (.mk 0 zero6 0 none 0 []) ∧ Scan 73 125 (((((((((w8.setCell ⟨w.heap.size, 0, none⟩ (.int .i64 0)).setCell ⟨w.heap.size, 1, none⟩ (.int .i64 0)).setCell ⟨w.heap.size, 2, none⟩ (.int .i64 0)).setCell ⟨w.heap.size, 3, none⟩ (.int .i64 0)).setCell ⟨w.heap.size, 4, none⟩ (.int .i64 0)).setCell ⟨w.heap.size, 5, none⟩ (.int .i64 0)).setCell ⟨w.heap.size, 6, none⟩ (.int .i64 0)).setCell ⟨w.heap.size, 7, none⟩ (.int .i64 0)).setCell ⟨w.heap.size, 8, none⟩ (.slice none 0 0)) g Ln ef ∧ Only g w (((((((((w8.setCell ⟨w.heap.size, 0, none⟩ (.int .i64 0)).setCell ⟨w.heap.size, 1, none⟩ (.int .i64 0)).setCell ⟨w.heap.size, 2, none⟩ (.int .i64 0)).setCell ⟨w.heap.size, 3, none⟩ (.int .i64 0)).setCell ⟨w.heap.size, 4, none⟩ (.int .i64 0)).setCell ⟨w.heap.size, 5, none⟩ (.int .i64 0)).setCell ⟨w.heap.size, 6, none⟩ (.int .i64 0)).setCell ⟨w.heap.size, 7, none⟩ (.int .i64 0)).setCell ⟨w.heap.size, 8, none⟩ (.slice none 0 0)) := E8.out.done (by decide) (by decide)
    have R9 : Blk (((((((((w8.setCell ⟨w.heap.size, 0, none⟩ (.int .i64 0)).setCell ⟨w.heap.size, 1, none⟩ (.int .i64 0)).setCell ⟨w.heap.size, 2, none⟩ (.int .i64 0)).setCell ⟨w.heap.size, 3, none⟩ (.int .i64 0)).setCell ⟨w.heap.size, 4, none⟩ (.int .i64 0)).setCell ⟨w.heap.size, 5, none⟩ (.int .i64 0)).setCell ⟨w.heap.size, 6, none⟩ (.int .i64 0)).setCell ⟨w.heap.size, 7, none⟩ (.int .i64 0)).setCell ⟨w.heap.size, 8, none⟩ (.slice none 0 0)) w.heap.size 28 (cells9 0 0 zero6 none 0 0) := blk_put9 (op := 0) (v := 0) (p := zero6) (A := none) (n := 0) (c := 0) E8.out.res
    generalize ((((((((w8.setCell ⟨w.heap.size, 0, none⟩ (.int .i64 0)).setCell ⟨w.heap.size, 1, none⟩ (.int .i64 0)).setCell ⟨w.heap.size, 2, none⟩ (.int .i64 0)).setCell ⟨w.heap.size, 3, none⟩ (.int .i64 0)).setCell ⟨w.heap.size, 4, none⟩ (.int .i64 0)).setCell ⟨w.heap.size, 5, none⟩ (.int .i64 0)).setCell ⟨w.heap.size, 6, none⟩ (.int .i64 0)).setCell ⟨w.heap.size, 7, none⟩ (.int .i64 0)).setCell ⟨w.heap.size, 8, none⟩ (.slice none 0 0) = w31 at *
    have Z9 := Lib.hid Z9
    have R9 := Lib.hid R9
    clear C0 C1 C2 C3 C4 C5 C6 C7 C8 Cl
    clear D0 Df0 D1 Df1 D2 Df2 D3 Df3 D4 Df4 D5 Df5 D6 Df6 D7 Df7 D8 Df8 Dl
    clear E8 hne1 hne2 hne3 hne4
    repeat (first | go_values | go_skip | go_guarded | go_step | go_upon)
    exact bodyPost_ret (v := .agg (cells9 0 0 zero6 none 0 0)) (results_blk rfl rfl R9.out Tryz.underlying28 rfl (by kernel_rfl)) rfl (by
      exact ⟨.mk 0 zero6 0 none 0 [], rfl, rfl, Z9.out.1, Z9.out.2.1, Z9.out.2.2⟩)
  · clear HNA
    have q3 : (tk == 3) = false := by simpa using hk3
    clear hk3
    
    have S2 := Lib.hid (hs.below (below_new w (.cells (cells9 0 0 zero6 none 0 0) 28)))
    have K2 := Lib.hid (Blk.new w 28 (cells9 0 0 zero6 none 0 0))
    have O2 := Lib.hid ((Only.refl g w).alloc (.cells (cells9 0 0 zero6 none 0 0) 28))
    clear hs hp hA
    go_enter Tryz.func41, Tryz.ntmps41
    go_wp2_with fail
    refine (CP.out _ S2.out).mono ?_
    rintro r w2 ⟨rfl, b2⟩
    have S3 := Lib.hid ((S2.out.below b2).below (below_new w2 (.cells #[.int .i64 tk, .string tt, .int .i64 tv, .int .i64 tp] 125)))
    have K3 := Lib.hid ((K2.out.below' b2).alloc (.cells #[.int .i64 tk, .string tt, .int .i64 tv, .int .i64 tp] 125))
    have O3 := Lib.hid ((O2.out.then_below b2).alloc (.cells #[.int .i64 tk, .string tt, .int .i64 tv, .int .i64 tp] 125))
    have KT := Lib.hid (Blk.new w2 125 #[.int .i64 tk, .string tt, .int .i64 tv, .int .i64 tp])
    have hkl : w.heap.size < w2.heap.size := (K2.out.below' b2).lt
    clear b2 S2 K2 O2
    go_upto_region 2 with fail
    generalize w2.alloc (.cells #[.int .i64 tk, .string tt, .int .i64 tv, .int .i64 tp] 125) = w3 at *
    have d4 := KT.out.c4
    go_wp2_with fail
    
    have E4 : Hid (YMid 28 73 125 w (w3.alloc (.cells #[.int .i64 0, .int .i64 0, .int .i64 0, .int .i64 0, .int .i64 0, .int .i64 0, .int .i64 0, .int .i64 0, .slice none 0 0] 28)) g w3.heap.size 0 0 zero6 none 0 d [] L e) := ymid_new S3.out K3.out O3.out hg d
    clear S3 K3 O3 KT d4
    generalize w3.alloc (.cells #[.int .i64 0, .int .i64 0, .int .i64 0, .int .i64 0, .int .i64 0, .int .i64 0, .int .i64 0, .int .i64 0, .slice none 0 0] 28) = w4 at *
    generalize w3.heap.size = q at *
    refine (CN.out _ E4.out.scan).mono ?_
    rintro r w6 ⟨rfl, s6, o6⟩
    have E6 := Lib.hid (E4.out.step s6 o6)
    clear s6 o6 E4
    
    go_wp2_with fail
    refine (CF.out _ E6.out.scan).mono ?_
    rintro r w8 ⟨rfl, s8, o8⟩
    have E8 := Lib.hid (E6.out.step s8 o8)
    clear s8 o8 E6
    
    have C0 : w8.cell? ⟨q, 0, none⟩ = some (.int .i64 0) := E8.out.box.cell 0
    have C1 : w8.cell? ⟨q, 1, none⟩ = some (.int .i64 0) := E8.out.box.cell 1
    have C2 : w8.cell? ⟨q, 2, none⟩ = some (.int .i64 0) := E8.out.box.cell 2
    have C3 : w8.cell? ⟨q, 3, none⟩ = some (.int .i64 0) := E8.out.box.cell 3
    have C4 : w8.cell? ⟨q, 4, none⟩ = some (.int .i64 0) := E8.out.box.cell 4
    have C5 : w8.cell? ⟨q, 5, none⟩ = some (.int .i64 0) := E8.out.box.cell 5
    have C6 : w8.cell? ⟨q, 6, none⟩ = some (.int .i64 0) := E8.out.box.cell 6
    have C7 : w8.cell? ⟨q, 7, none⟩ = some (.int .i64 0) := E8.out.box.cell 7
    have C8 : w8.cell? ⟨q, 8, none⟩ = some (.slice none 0 0) := E8.out.box.cell 8
    have Cl := E8.out.box.lt
    have D0 : w8.cell? ⟨w.heap.size, 0, none⟩ = some (.int .i64 0) := E8.out.res.cell 0
    have Df0 := E8.out.res.free 0
    have D1 : w8.cell? ⟨w.heap.size, 1, none⟩ = some (.int .i64 0) := E8.out.res.cell 1
    have Df1 := E8.out.res.free 1
    have D2 : w8.cell? ⟨w.heap.size, 2, none⟩ = some (.int .i64 0) := E8.out.res.cell 2
    have Df2 := E8.out.res.free 2
    have D3 : w8.cell? ⟨w.heap.size, 3, none⟩ = some (.int .i64 0) := E8.out.res.cell 3
    have Df3 := E8.out.res.free 3
    have D4 : w8.cell? ⟨w.heap.size, 4, none⟩ = some (.int .i64 0) := E8.out.res.cell 4
    have Df4 := E8.out.res.free 4
    have D5 : w8.cell? ⟨w.heap.size, 5, none⟩ = some (.int .i64 0) := E8.out.res.cell 5
    have Df5 := E8.out.res.free 5
    have D6 : w8.cell? ⟨w.heap.size, 6, none⟩ = some (.int .i64 0) := E8.out.res.cell 6
    have Df6 := E8.out.res.free 6
    have D7 : w8.cell? ⟨w.heap.size, 7, none⟩ = some (.int .i64 0) := E8.out.res.cell 7
    have Df7 := E8.out.res.free 7
    have D8 : w8.cell? ⟨w.heap.size, 8, none⟩ = some (.slice none 0 0) := E8.out.res.cell 8
    have Df8 := E8.out.res.free 8
    have Dl := E8.out.res.lt
    have hxq30 := E8.out.far
    have hne1 : (q == w.heap.size) = false := by simp; omega
    have hne2 : (w.heap.size == q) = false := by simp; omega
    have hne3 : ¬ q = w.heap.size := by omega
    have hne4 : ¬ w.heap.size = q := by omega
    try dsimp only
    iterate 11 (first | go_values | go_skip | go_guarded | go_step | go_upon)
    have Z9 : InP (fun b => w.heap.size ≤ b) (d + 1) (((((((((w8.setCell ⟨w.heap.size, 0, none⟩ (.int .i64 0)).setCell ⟨w.heap.size, 1, none⟩ (.int .i64 0)).setCell ⟨w.heap.size, 2, none⟩ (.int .i64 0)).setCell ⟨w.heap.size, 3, none⟩ (.int .i64 0)).setCell ⟨w.heap.size, 4, none⟩ (.int .i64 0)).setCell ⟨w.heap.size, 5, none⟩ (.int .i64 0)).setCell ⟨w.heap.size, 6, none⟩ (.int .i64 0)).setCell ⟨w.heap.size, 7, none⟩ (.int .i64 0)).setCell ⟨w.heap.size, 8, none⟩ (.slice none 0 0)) (.mk 0 zero6 0 none 0 []) ∧ Scan 73 125 (((((((((w8.setCell ⟨w.heap.size, 0, none⟩ (.int .i64 0)).setCell ⟨w.heap.size, 1, none⟩ (.int .i64 0)).setCell ⟨w.heap.size, 2, none⟩ (.int .i64 0)).setCell ⟨w.heap.size, 3, none⟩ (.int .i64 0)).setCell ⟨w.heap.size, 4, none⟩ (.int .i64 0)).setCell ⟨w.heap.size, 5, none⟩ (.int .i64 0)).setCell ⟨w.heap.size, 6, none⟩ (.int .i64 0)).setCell ⟨w.heap.size, 7, none⟩ (.int .i64 0)).setCell ⟨w.heap.size, 8, none⟩ (.slice none 0 0)) g Ln ef ∧ Only g w (((((((((w8.setCell ⟨w.heap.size, 0, none⟩ (.int .i64 0)).setCell ⟨w.heap.size, 1, none⟩ (.int .i64 0)).setCell ⟨w.heap.size, 2, none⟩ (.int .i64 0)).setCell ⟨w.heap.size, 3, none⟩ (.int .i64 0)).setCell ⟨w.heap.size, 4, none⟩ (.int .i64 0)).setCell ⟨w.heap.size, 5, none⟩ (.int .i64 0)).setCell ⟨w.heap.size, 6, none⟩ (.int .i64 0)).setCell ⟨w.heap.size, 7, none⟩ (.int .i64 0)).setCell ⟨w.heap.size, 8, none⟩ (.slice none 0 0)) := E8.out.done (by decide) (by decide)
    have R9 : Blk (((((((((w8.setCell ⟨w.heap.size, 0, none⟩ (.int .i64 0)).setCell ⟨w.heap.size, 1, none⟩ (.int .i64 0)).setCell ⟨w.heap.size, 2, none⟩ (.int .i64 0)).setCell ⟨w.heap.size, 3, none⟩ (.int .i64 0)).setCell ⟨w.heap.size, 4, none⟩ (.int .i64 0)).setCell ⟨w.heap.size, 5, none⟩ (.int .i64 0)).setCell ⟨w.heap.size, 6, none⟩ (.int .i64 0)).setCell ⟨w.heap.size, 7, none⟩ (.int .i64 0)).setCell ⟨w.heap.size, 8, none⟩ (.slice none 0 0)) w.heap.size 28 (cells9 0 0 zero6 none 0 0) := blk_put9 (op := 0) (v := 0) (p := zero6) (A := none) (n := 0) (c := 0) E8.out.res
    generalize ((((((((w8.setCell ⟨w.heap.size, 0, none⟩ (.int .i64 0)).setCell ⟨w.heap.size, 1, none⟩ (.int .i64 0)).setCell ⟨w.heap.size, 2, none⟩ (.int .i64 0)).setCell ⟨w.heap.size, 3, none⟩ (.int .i64 0)).setCell ⟨w.heap.size, 4, none⟩ (.int .i64 0)).setCell ⟨w.heap.size, 5, none⟩ (.int .i64 0)).setCell ⟨w.heap.size, 6, none⟩ (.int .i64 0)).setCell ⟨w.heap.size, 7, none⟩ (.int .i64 0)).setCell ⟨w.heap.size, 8, none⟩ (.slice none 0 0) = w31 at *
    have Z9 := Lib.hid Z9
    have R9 := Lib.hid R9
    clear C0 C1 C2 C3 C4 C5 C6 C7 C8 Cl
    clear D0 Df0 D1 Df1 D2 Df2 D3 Df3 D4 Df4 D5 Df5 D6 Df6 D7 Df7 D8 Df8 Dl
    clear E8 hne1 hne2 hne3 hne4
    repeat (first | go_values | go_skip | go_guarded | go_step | go_upon)
    exact bodyPost_ret (v := .agg (cells9 0 0 zero6 none 0 0)) (results_blk rfl rfl R9.out Tryz.underlying28 rfl (by kernel_rfl)) rfl (by
      exact ⟨.mk 0 zero6 0 none 0 [], rfl, rfl, Z9.out.1, Z9.out.2.1, Z9.out.2.2⟩)
set_option maxHeartbeats 8000000 in
set_option maxRecDepth 100000 in
theorem rexpr_2 (l : List Prod) (d : Nat) (A : Option Addr) (c : Nat) (L : List Tok) (g : Nat) (w : World) (hz : checkE l = 0) (hp : PS w (.slice A l.length c) l) (hA : ∀ b o, A = some ⟨b, o, none⟩ → b ≠ g) (hs : Scan 73 125 w g L 0) (hm : L.length ≤ 5000) (h0 : 0 < L.length) (f : List Tok → Int → PX) (hf : ∀ L e, (f L e).L.length ≤ L.length) (hk : (peekT L 0).kind = 1) (hop : opW (peekT L 0).text = 2)
    (HARG : ∀ L' e' W, L'.length < L.length → Only g w W → Scan 73 125 W g L' e' → Calls Tryz.prog 41 #[.slice A l.length c, .pointer (some ⟨g, 0, none⟩)] W (RExprPost d (f L' e') g W)) : Calls Tryz.prog 41 #[.slice A l.length c, .pointer (some ⟨g, 0, none⟩)] w (RExprPost (d + 1) (rbodyX l f 2 (rfirstX f L 0)) g w) := by
  have hg := hs.lt
  have hT : nameT L 0 = (peekT L 0).text := by unfold nameT; rw [if_pos hk]
  have hE : nameE L 0 = 0 := by unfold nameE; rw [if_pos hk]
  have hL : nameL L 0 = nextL L 0 := by unfold nameL; rw [if_pos hk]
  have CP := Lib.hid fun W (h : Scan 73 125 W g L 0) => rpeek_any L 0 g W h (small_len hm)
  have CN := Lib.hid fun W (h : Scan 73 125 W g L 0) => rname_any L 0 g W h (small_len hm)
  rw [hT, hE, hL] at CN
  have CR := Lib.hid fun W (k : Only g w W) L' e' (h : Scan 73 125 W g L' e') (hm' : L'.length ≤ 5000) => rpriced_any l A c L' e' g W hz (ref_only hp hA k) hA h hm'
  have CE := Lib.hid fun W L' e' m (h : Scan 73 125 W g L' e') (hm' : L'.length ≤ 5000) => rexpect_any L' e' g m W h (small_len hm')
  have CM := Lib.hid fun W L' e' (h : Scan 73 125 W g L' e') (hm' : L'.length ≤ 5000) => ramount_any L' e' 1000000 g W h (small_len hm')
  have hN1 : (nextL L 0).length < L.length := by unfold nextL; rw [if_pos rfl, List.length_tail]; omega
  have hL1 := expL_len (nextL L 0) 0 ⟨#[40]⟩
  have HA1 := Lib.hid fun W k h => HARG (expL (nextL L 0) 0 ⟨#[40]⟩) (expE (nextL L 0) 0 ⟨#[40]⟩) W (by omega) k h
  have HARG := Lib.hid HARG
  have hal := hf (expL (nextL L 0) 0 ⟨#[40]⟩) (expE (nextL L 0) 0 ⟨#[40]⟩)
  unfold rfirstX
  rw [hE, hL]
  have hop2 := opW_lit.1 hop
  have CX := Lib.hid fun W (h : Scan 73 125 W g (nextL L 0) 0) => CE.out W (nextL L 0) 0 ⟨#[40]⟩ h (by omega)
  generalize expE (nextL L 0) 0 ⟨#[40]⟩ = ex at *
  generalize expL (nextL L 0) 0 ⟨#[40]⟩ = Lx at *
  generalize nextL L 0 = Ln at *
  generalize hfa : f Lx ex = a at *
  clear hfa
  obtain ⟨ax, aL, ae⟩ := a
  dsimp only at hal
  have haL : aL.length ≤ 5000 := by omega
  clear hop hT hE hL
  generalize peekT L 0 = t at *
  obtain ⟨tk, tt, tv, tp⟩ := t
  dsimp only at CP CN hk hop2
  subst hk hop2
  generalize hB : rbodyX l f 2 ⟨ax, aL, ae⟩ = qr
  have HB := Lib.hid hB
  clear hB
  
  have S2 := Lib.hid (hs.below (below_new w (.cells (cells9 0 0 zero6 none 0 0) 28)))
  have K2 := Lib.hid (Blk.new w 28 (cells9 0 0 zero6 none 0 0))
  have O2 := Lib.hid ((Only.refl g w).alloc (.cells (cells9 0 0 zero6 none 0 0) 28))
  clear hs hp hA
  go_enter Tryz.func41, Tryz.ntmps41
  go_wp2_with fail
  refine (CP.out _ S2.out).mono ?_
  rintro r w2 ⟨rfl, b2⟩
  have S3 := Lib.hid ((S2.out.below b2).below (below_new w2 (.cells #[.int .i64 1, .string ⟨#[120, 111, 114]⟩, .int .i64 tv, .int .i64 tp] 125)))
  have K3 := Lib.hid ((K2.out.below' b2).alloc (.cells #[.int .i64 1, .string ⟨#[120, 111, 114]⟩, .int .i64 tv, .int .i64 tp] 125))
  have O3 := Lib.hid ((O2.out.then_below b2).alloc (.cells #[.int .i64 1, .string ⟨#[120, 111, 114]⟩, .int .i64 tv, .int .i64 tp] 125))
  have KT := Lib.hid (Blk.new w2 125 #[.int .i64 1, .string ⟨#[120, 111, 114]⟩, .int .i64 tv, .int .i64 tp])
  have hkl : w.heap.size < w2.heap.size := (K2.out.below' b2).lt
  clear b2 S2 K2 O2
  go_upto_region 2 with fail
  generalize w2.alloc (.cells #[.int .i64 1, .string ⟨#[120, 111, 114]⟩, .int .i64 tv, .int .i64 tp] 125) = w3 at *
  have d4 := KT.out.c4
  go_wp2_with fail
  
  have E4 : Hid (YMid 28 73 125 w (w3.alloc (.cells #[.int .i64 0, .int .i64 0, .int .i64 0, .int .i64 0, .int .i64 0, .int .i64 0, .int .i64 0, .int .i64 0, .slice none 0 0] 28)) g w3.heap.size 0 0 zero6 none 0 d [] L 0) := ymid_new S3.out K3.out O3.out hg d
  clear S3 K3 O3 KT d4
  generalize w3.alloc (.cells #[.int .i64 0, .int .i64 0, .int .i64 0, .int .i64 0, .int .i64 0, .int .i64 0, .int .i64 0, .int .i64 0, .slice none 0 0] 28) = w4 at *
  generalize w3.heap.size = q at *
  refine (CN.out _ E4.out.scan).mono ?_
  rintro r w6 ⟨rfl, s6, o6⟩
  have E6 := Lib.hid (E4.out.step s6 o6)
  clear s6 o6 E4
  have C0 : w6.cell? ⟨q, 0, none⟩ = some (.int .i64 0) := E6.out.box.cell 0
  have Cf0 := E6.out.box.free 0
  have C1 : w6.cell? ⟨q, 1, none⟩ = some (.int .i64 0) := E6.out.box.cell 1
  have Cf1 := E6.out.box.free 1
  have C2 : w6.cell? ⟨q, 2, none⟩ = some (.int .i64 0) := E6.out.box.cell 2
  have Cf2 := E6.out.box.free 2
  have C3 : w6.cell? ⟨q, 3, none⟩ = some (.int .i64 0) := E6.out.box.cell 3
  have Cf3 := E6.out.box.free 3
  have C4 : w6.cell? ⟨q, 4, none⟩ = some (.int .i64 0) := E6.out.box.cell 4
  have Cf4 := E6.out.box.free 4
  have C5 : w6.cell? ⟨q, 5, none⟩ = some (.int .i64 0) := E6.out.box.cell 5
  have Cf5 := E6.out.box.free 5
  have C6 : w6.cell? ⟨q, 6, none⟩ = some (.int .i64 0) := E6.out.box.cell 6
  have Cf6 := E6.out.box.free 6
  have C7 : w6.cell? ⟨q, 7, none⟩ = some (.int .i64 0) := E6.out.box.cell 7
  have Cf7 := E6.out.box.free 7
  have C8 : w6.cell? ⟨q, 8, none⟩ = some (.slice none 0 0) := E6.out.box.cell 8
  have Cf8 := E6.out.box.free 8
  have Cl := E6.out.box.lt
  go_wp2_with fail
  have E7 : Hid (YMid 28 73 125 w (w6.setCell ⟨q, 0, none⟩ (.int .i64 2)) g q 2 0 zero6 none 0 d [] Ln 0) := E6.out.setOp (by decide) (by decide) 2
  generalize w6.setCell ⟨q, 0, none⟩ (.int .i64 2) = w7 at *
  clear C0 Cf0 C1 Cf1 C2 Cf2 C3 Cf3 C4 Cf4 C5 Cf5 C6 Cf6 C7 Cf7 C8 Cf8 Cl
  clear E6
  refine (CX.out _ E7.out.scan).mono ?_
  rintro r w8 ⟨rfl, s8, o8⟩
  have E8 := Lib.hid (E7.out.step s8 o8)
  clear s8 o8 E7
  go_wp2_with fail
  refine (HA1.out _ E8.out.only E8.out.scan).mono ?_
  rintro r w9 ⟨ta, rfl, hx9, hi9, s9, o9⟩
  have HXa : Hid (xF d ta = ax) := hx9
  have E9 := Lib.hid (E8.out.step s9 o9)
  have HI := Lib.hid (hi9.mono (ok' := fun b => q < b) (fun b _ ok => by have := E8.out.box.lt; omega))
  clear s9 o9 hx9 hi9
  have E10 := Lib.hid (E9.out.first (by decide) (by decide) ta HI.out)
  have kq9 : w9.cell? ⟨q, 8, none⟩ = some (.slice none 0 0) := E9.out.box.cell 8
  have kf9 := E9.out.box.free 8
  have lq9 := E9.out.box.lt
  have hT2 : xF d ta = ax := HXa.out
  obtain ⟨ta, hta⟩ : ∃ t, t = ta := ⟨ta, rfl⟩
  subst hta
  obtain ⟨op9, p9, v9, B9, cb9, ks9⟩ := ta
  dsimp only [Tree.val, Tree.op, Tree.want, Tree.value, Tree.a, Tree.c, Tree.args]
  go_upto_region 19 with fail
  have E10 : Hid (YMid 28 73 125 w ((w9.setCell ⟨q, 8, none⟩ (.slice (some ⟨w9.heap.size, 0, none⟩) 1 1)).alloc (.cells #[.int .i64 op9, .int .i64 (p9 0), .int .i64 (p9 1), .int .i64 (p9 2), .int .i64 (p9 3), .int .i64 (p9 4), .int .i64 (p9 5), .int .i64 v9, .slice B9 ks9.length cb9] 28)) g q 2 0 zero6 (some ⟨w9.heap.size, 0, none⟩) 1 d [.mk op9 p9 v9 B9 cb9 ks9] aL ae) := by
    show YMid _ _ _ _ _ _ _ _ _ _ _ _ _ _ _ _
    rw [← World.setCell_alloc_past _ q 8 _ lq9]
    exact E10.out
  generalize (w9.setCell ⟨q, 8, none⟩ (.slice (some ⟨w9.heap.size, 0, none⟩) 1 1)).alloc (.cells #[.int .i64 op9, .int .i64 (p9 0), .int .i64 (p9 1), .int .i64 (p9 2), .int .i64 (p9 3), .int .i64 (p9 4), .int .i64 (p9 5), .int .i64 v9, .slice B9 ks9.length cb9] 28) = w10 at *
  generalize w9.heap.size = b2 at *
  clear E8 E9 HI kq9 kf9 lq9 hT2
  generalize Tree.mk op9 p9 v9 B9 cb9 ks9 = ta at *
  have k10 : w10.cell? ⟨q, 0, none⟩ = some (.int .i64 2) := E10.out.box.cell 0
  have l10 := E10.out.box.lt
  
  have hbx : rbodyX l f 2 ⟨ax, aL, ae⟩ = closeX ⟨.mk 2 (n6 zero6) 0 (moreF f (aL.length + 1) ⟨[ax], aL, ae⟩).xs, (moreF f (aL.length + 1) ⟨[ax], aL, ae⟩).L, (moreF f (aL.length + 1) ⟨[ax], aL, ae⟩).e⟩ := by
    unfold rbodyX
    rw [if_pos (by decide)]
  have HB2 := Lib.hid (HB.out.symm.trans hbx)
  clear hbx HB
  have HF0 : Hid (moreF f (aL.length + 1) ⟨[ta].map (xF d), aL, ae⟩ = moreF f (aL.length + 1) ⟨[ax], aL, ae⟩) := by
    show _ = _
    rw [← HXa.out]
    rfl
  generalize moreF f (aL.length + 1) ⟨[ax], aL, ae⟩ = fin at *
  have CAY := Lib.hid fun W L' e' (h : Scan 73 125 W g L' e') (hm' : L'.length ≤ 5000) (k : accB L' e' ⟨#[44]⟩) => raccept_yes L' e' g ⟨#[44]⟩ W h (small_len hm') k
  have CAN := Lib.hid fun W L' e' (h : Scan 73 125 W g L' e') (hm' : L'.length ≤ 5000) (k : ¬ accB L' e' ⟨#[44]⟩) => raccept_no L' e' g ⟨#[44]⟩ W h (small_len hm') k
  obtain ⟨j0, hj0, hj1, hj2, hj3⟩ := info_parts expr_info9
  have hxq := E10.out.far
  go_wp2_with fail
  go_loopg [] (aL.length + 1) (fun fk wr => ∃ (Aq : Option Addr) (cq : Nat) (ks : List Tree) (L9 : List Tok) (e9 : Int), Hid (YMid 28 73 125 w wr g q 2 0 zero6 Aq cq d ks L9 e9) ∧ Hid (moreF f fk ⟨ks.map (xF d), L9, e9⟩ = fin) ∧ L9.length < fk ∧ ks.length + L9.length ≤ 5001 ∧ L9.length ≤ aL.length)
  case atStart => exact ⟨_, _, [ta], aL, ae, E10, HF0, by omega, by simp; omega, Nat.le_refl _⟩
  case round =>
    obtain ⟨Aq, cq, ks, L9, e9, E, HF, hk1, hk2, hk3⟩ := hrel
    obtain ⟨fk, rfl⟩ : ∃ fk, gk = fk + 1 := ⟨gk - 1, by omega⟩
    clear E10 k10 l10
    by_cases hk : accB L9 e9 ⟨#[44]⟩
    · have h90 : e9 = 0 := by
        by_cases hx : e9 = 0
        · exact hx
        · exact absurd hk (err_acc hx _)
      have hag : argX f (nextL L9 e9) e9 = f (nextL L9 e9) e9 := by rw [h90]; exact argX_ok f _
      have HF2 := Lib.hid (show moreF f fk ⟨ks.map (xF d) ++ [(f (nextL L9 e9) e9).x], (f (nextL L9 e9) e9).L, (f (nextL L9 e9) e9).e⟩ = fin by rw [← hag, ← HF.out]; conv => (rhs; unfold moreF); rw [if_pos hk])
      have hnx := acc_next hk
      have C1 := Lib.hid (fun W h => CAY.out W L9 e9 h (by omega) hk)
      have HA2 := Lib.hid fun W k h => HARG.out (nextL L9 e9) e9 W (by omega) k h
      have hal2 := hf (nextL L9 e9) e9
      clear hk HF hag h90
      generalize nextL L9 e9 = Ln2 at *
      generalize f Ln2 e9 = a2 at *
      obtain ⟨ax2, aL2, ae2⟩ := a2
      dsimp only at hal2 HF2
      go_wp2_with fail
      refine (C1.out _ E.out.scan).mono ?_
      rintro r w17 ⟨rfl, s7, o7⟩
      have E7 := Lib.hid (E.out.step s7 o7)
      clear s7 o7 E
      go_upto_region 25 with fail
      have ED := Lib.hid (E7.out.below ((Below.refl _ _).drew))
      have kq : w17.drew.cell? ⟨q, 8, none⟩ = some (.slice Aq ks.length cq) := ED.out.box.cell 8
      have lq := ED.out.box.lt
      refine wp_region_held_drew (S := fun _ => True) (by kernel_rfl) ?_ (fun hHeld => ?_)
      · trivial
      refine wpAnyH_take (i := 0) (v := ?v0_2501) rfl (by kernel_rfl) (by kernel_rfl) (by kernel_rfl) (fun _ _ _ h => h) (Or.inl ⟨by rfl, ?h0_2501⟩) (by assumption) ?r0_2501
      case h0_2501 => intro w hSw; (try dsimp only at hSw); go_simp; try with_reducible rfl
      try simp only [Act.put, List.setIfInBounds_toArray, List.set_cons_zero, List.set_cons_succ]
      refine wpAnyH_take (i := 2) (v := ?v2_2502) rfl (by kernel_rfl) (by kernel_rfl) (by kernel_rfl) (fun _ _ _ h => h) (Or.inl ⟨by rfl, ?h2_2502⟩) (by assumption) ?r2_2502
      case h2_2502 => intro w hSw; (try dsimp only at hSw); go_simp; try with_reducible rfl
      try simp only [Act.put, List.setIfInBounds_toArray, List.set_cons_zero, List.set_cons_succ]
      refine wpAnyH_take (i := 3) (v := ?v3_2503) rfl (by kernel_rfl) (by kernel_rfl) (by kernel_rfl) (fun _ _ _ h => h) (Or.inl ⟨by rfl, ?h3_2503⟩) (by assumption) ?r3_2503
      case h3_2503 => intro w hSw; (try dsimp only at hSw); go_simp; try with_reducible rfl
      try simp only [Act.put, List.setIfInBounds_toArray, List.set_cons_zero, List.set_cons_succ]
      refine wpAnyH_ready (rs := [1, 4]) (by kernel_rfl) (by simp) ?_
      refine AllReadyH.cons (o := ?o1_2504) ?ho1_2504 (fun KK hKK => ?st1_2504) ?mo1_2504
      case ho1_2504 => (simp only [List.getElem?_toArray, List.getElem?_cons_succ, List.getElem?_cons_zero]; rfl)
      case st1_2504 =>
        go_simp
        refine hKK.out _ _ ?_ (fun hHeld2 => ?_)
        · (try dsimp only)
          try trivial
        clear hKK KK hHeld
        have hHeld := hHeld2
        clear hHeld2
        try simp only [Act.put, List.setIfInBounds_toArray, List.set_cons_zero, List.set_cons_succ]
        refine wpAnyH_ready (rs := [4]) (by kernel_rfl) (by simp) ?_
        refine AllReadyH.cons (o := ?o4_2505) ?ho4_2505 (fun KK hKK => ?st4_2505) ?mo4_2505
        case ho4_2505 => (simp only [List.getElem?_toArray, List.getElem?_cons_succ, List.getElem?_cons_zero]; rfl)
        case st4_2505 =>
          (go_simp; go_at_call 41; refine (HA2.out _ ED.out.only ED.out.scan).mono ?_; rintro r w9 ⟨ta, rfl, hx9, hi9, s9, o9⟩; have HX := Lib.hid hx9; have E9 := Lib.hid (ED.out.step s9 o9); have HI := Lib.hid hi9; clear s9 o9 hx9 hi9; have kq9 : w9.cell? ⟨q, 8, none⟩ = some (.slice Aq ks.length cq) := E9.out.box.cell 8; have lq9 := E9.out.box.lt; obtain ⟨op9, p9, v9, B9, cb9, ks9⟩ := ta; dsimp only [Tree.val, Tree.op, Tree.want, Tree.value, Tree.a, Tree.c, Tree.args])
          refine hKK.out _ _ ?_ (fun hHeld2 => ?_)
          · (try dsimp only)
            try trivial
          clear hKK KK hHeld
          have hHeld := hHeld2
          clear hHeld2
          try simp only [Act.put, List.setIfInBounds_toArray, List.set_cons_zero, List.set_cons_succ]
          refine wpAnyH_ready (rs := [5]) (by kernel_rfl) (by simp) ?_
          refine AllReadyH.cons (o := ?o5_2506) ?ho5_2506 (fun KK hKK => ?st5_2506) ?mo5_2506
          case ho5_2506 => (simp only [List.getElem?_toArray, List.getElem?_cons_succ, List.getElem?_cons_zero]; rfl)
          case st5_2506 =>
            go_simp
            refine hKK.out _ _ ?_ (fun hHeld2 => ?_)
            · (try dsimp only)
              try trivial
            clear hKK KK hHeld
            have hHeld := hHeld2
            clear hHeld2
            try simp only [Act.put, List.setIfInBounds_toArray, List.set_cons_zero, List.set_cons_succ]
            refine wpAnyH_ready (rs := [6]) (by kernel_rfl) (by simp) ?_
            refine AllReadyH.cons (o := ?o6_2507) ?ho6_2507 (fun KK hKK => ?st6_2507) ?mo6_2507
            case ho6_2507 => (simp only [List.getElem?_toArray, List.getElem?_cons_succ, List.getElem?_cons_zero]; rfl)
            case st6_2507 =>
              (have E11 := Lib.hid (E9.out.below (below_new w9 (.cells (Tree.mk op9 p9 v9 B9 cb9 ks9).cells.toArray 28))); refine step_append_lies _ rfl (.tmp 68) (.tmp 72) _ rfl (q + 1) 28 j0 _ 9 88 Tryz.underlying26 hj0 hj1 hj2 hj3 rfl (by decide) (.slice Aq ks.length cq) ks.length (ks.flatMap Tree.cells) rfl E11.out.own ⟨w9.heap.size, 0, none⟩ 1 1 (Tree.mk op9 p9 v9 B9 cb9 ks9).cells rfl rfl (tree_new w9 28 (Tree.mk op9 p9 v9 B9 cb9 ks9)) (tree_cell1 (Tree.mk op9 p9 v9 B9 cb9 ks9)) (by decide) (by unfold maxLen; omega) (by omega) (by simp; omega) _ rfl ?_; intro b2 c2 w10 hown hgrow hat hlt; have KG := E11.out.box.grown hgrow (E11.out.row_ne (Nat.le_refl _)).symm; have E12 : Hid (YMid 28 73 125 w (w10.setCell ⟨q, 8, none⟩ (.slice (some ⟨b2, 0, none⟩) (ks.length + 1) c2)) g q 2 0 zero6 (some ⟨b2, 0, none⟩) c2 d (ks ++ [(Tree.mk op9 p9 v9 B9 cb9 ks9)]) aL2 ae2) := (E11.out.grow (by decide) (by decide) (Tree.mk op9 p9 v9 B9 cb9 ks9) (ED.out.fit (HI.out.below (below_new w9 (.cells (Tree.mk op9 p9 v9 B9 cb9 ks9).cells.toArray 28)))) hgrow hown hat); have kq10 : w10.cell? ⟨q, 8, none⟩ = some (.slice Aq ks.length cq) := KG.cell 8; have lq10 := KG.lt; have kf10 := KG.free 8; clear hown hgrow hat)
              refine hKK.out _ _ ?_ (fun hHeld2 => ?_)
              · (try dsimp only)
                try trivial
              clear hKK KK hHeld
              have hHeld := hHeld2
              clear hHeld2
              try simp only [Act.put, List.setIfInBounds_toArray, List.set_cons_zero, List.set_cons_succ]
              refine wpAnyH_take (i := 7) (v := ?v7_2508) rfl (by kernel_rfl) (by kernel_rfl) (by kernel_rfl) (fun _ _ _ h => h) (Or.inl ⟨by rfl, ?h7_2508⟩) (by assumption) ?r7_2508
              case h7_2508 => intro w hSw; (try dsimp only at hSw); go_simp; try with_reducible rfl
              try simp only [Act.put, List.setIfInBounds_toArray, List.set_cons_zero, List.set_cons_succ]
              refine wpAnyH_ready (rs := [8]) (by kernel_rfl) (by simp) ?_
              refine AllReadyH.cons (o := ?o8_2509) ?ho8_2509 (fun KK hKK => ?st8_2509) ?mo8_2509
              case ho8_2509 => (simp only [List.getElem?_toArray, List.getElem?_cons_succ, List.getElem?_cons_zero]; rfl)
              case st8_2509 =>
                go_simp
                refine hKK.out _ _ ?_ (fun hHeld2 => ?_)
                · (try dsimp only)
                  try trivial
                clear hKK KK hHeld
                have hHeld := hHeld2
                clear hHeld2
                try simp only [Act.put, List.setIfInBounds_toArray, List.set_cons_zero, List.set_cons_succ]
                refine wpAnyH_done (by kernel_rfl) ?_ _
                go_wp2_with fail
                go_roundg fk
                case measure => omega
                case rel => exact ⟨_, _, ks ++ [.mk op9 p9 v9 B9 cb9 ks9], aL2, ae2, E12, by rw [List.map_append, List.map_cons, List.map_nil, HX.out]; exact HF2, by omega, by simp; omega, by omega⟩
              case mo8_2509 =>
                exact AllReadyH.nil
            case mo6_2507 =>
              exact AllReadyH.nil
          case mo5_2506 =>
            exact AllReadyH.nil
        case mo4_2505 =>
          exact AllReadyH.nil
      case mo1_2504 =>
        refine AllReadyH.cons (o := ?o4_2510) ?ho4_2510 (fun KK hKK => ?st4_2510) ?mo4_2510
        case ho4_2510 => (simp only [List.getElem?_toArray, List.getElem?_cons_succ, List.getElem?_cons_zero]; rfl)
        case st4_2510 =>
          (go_simp; go_at_call 41; refine (HA2.out _ ED.out.only ED.out.scan).mono ?_; rintro r w9 ⟨ta, rfl, hx9, hi9, s9, o9⟩; have HX := Lib.hid hx9; have E9 := Lib.hid (ED.out.step s9 o9); have HI := Lib.hid hi9; clear s9 o9 hx9 hi9; have kq9 : w9.cell? ⟨q, 8, none⟩ = some (.slice Aq ks.length cq) := E9.out.box.cell 8; have lq9 := E9.out.box.lt; obtain ⟨op9, p9, v9, B9, cb9, ks9⟩ := ta; dsimp only [Tree.val, Tree.op, Tree.want, Tree.value, Tree.a, Tree.c, Tree.args])
          refine hKK.out _ _ ?_ (fun hHeld2 => ?_)
          · (try dsimp only)
            try trivial
          clear hKK KK hHeld
          have hHeld := hHeld2
          clear hHeld2
          try simp only [Act.put, List.setIfInBounds_toArray, List.set_cons_zero, List.set_cons_succ]
          refine wpAnyH_ready (rs := [1, 5]) (by kernel_rfl) (by simp) ?_
          refine AllReadyH.cons (o := ?o1_2511) ?ho1_2511 (fun KK hKK => ?st1_2511) ?mo1_2511
          case ho1_2511 => (simp only [List.getElem?_toArray, List.getElem?_cons_succ, List.getElem?_cons_zero]; rfl)
          case st1_2511 =>
            go_simp
            refine hKK.out _ _ ?_ (fun hHeld2 => ?_)
            · (try dsimp only)
              try trivial
            clear hKK KK hHeld
            have hHeld := hHeld2
            clear hHeld2
            try simp only [Act.put, List.setIfInBounds_toArray, List.set_cons_zero, List.set_cons_succ]
            refine wpAnyH_ready (rs := [5]) (by kernel_rfl) (by simp) ?_
            refine AllReadyH.cons (o := ?o5_2512) ?ho5_2512 (fun KK hKK => ?st5_2512) ?mo5_2512
            case ho5_2512 => (simp only [List.getElem?_toArray, List.getElem?_cons_succ, List.getElem?_cons_zero]; rfl)
            case st5_2512 =>
              go_simp
              refine hKK.out _ _ ?_ (fun hHeld2 => ?_)
              · (try dsimp only)
                try trivial
              clear hKK KK hHeld
              have hHeld := hHeld2
              clear hHeld2
              try simp only [Act.put, List.setIfInBounds_toArray, List.set_cons_zero, List.set_cons_succ]
              refine wpAnyH_ready (rs := [6]) (by kernel_rfl) (by simp) ?_
              refine AllReadyH.cons (o := ?o6_2513) ?ho6_2513 (fun KK hKK => ?st6_2513) ?mo6_2513
              case ho6_2513 => (simp only [List.getElem?_toArray, List.getElem?_cons_succ, List.getElem?_cons_zero]; rfl)
              case st6_2513 =>
                (have E11 := Lib.hid (E9.out.below (below_new w9 (.cells (Tree.mk op9 p9 v9 B9 cb9 ks9).cells.toArray 28))); refine step_append_lies _ rfl (.tmp 68) (.tmp 72) _ rfl (q + 1) 28 j0 _ 9 88 Tryz.underlying26 hj0 hj1 hj2 hj3 rfl (by decide) (.slice Aq ks.length cq) ks.length (ks.flatMap Tree.cells) rfl E11.out.own ⟨w9.heap.size, 0, none⟩ 1 1 (Tree.mk op9 p9 v9 B9 cb9 ks9).cells rfl rfl (tree_new w9 28 (Tree.mk op9 p9 v9 B9 cb9 ks9)) (tree_cell1 (Tree.mk op9 p9 v9 B9 cb9 ks9)) (by decide) (by unfold maxLen; omega) (by omega) (by simp; omega) _ rfl ?_; intro b2 c2 w10 hown hgrow hat hlt; have KG := E11.out.box.grown hgrow (E11.out.row_ne (Nat.le_refl _)).symm; have E12 : Hid (YMid 28 73 125 w (w10.setCell ⟨q, 8, none⟩ (.slice (some ⟨b2, 0, none⟩) (ks.length + 1) c2)) g q 2 0 zero6 (some ⟨b2, 0, none⟩) c2 d (ks ++ [(Tree.mk op9 p9 v9 B9 cb9 ks9)]) aL2 ae2) := (E11.out.grow (by decide) (by decide) (Tree.mk op9 p9 v9 B9 cb9 ks9) (ED.out.fit (HI.out.below (below_new w9 (.cells (Tree.mk op9 p9 v9 B9 cb9 ks9).cells.toArray 28)))) hgrow hown hat); have kq10 : w10.cell? ⟨q, 8, none⟩ = some (.slice Aq ks.length cq) := KG.cell 8; have lq10 := KG.lt; have kf10 := KG.free 8; clear hown hgrow hat)
                refine hKK.out _ _ ?_ (fun hHeld2 => ?_)
                · (try dsimp only)
                  try trivial
                clear hKK KK hHeld
                have hHeld := hHeld2
                clear hHeld2
                try simp only [Act.put, List.setIfInBounds_toArray, List.set_cons_zero, List.set_cons_succ]
                refine wpAnyH_take (i := 7) (v := ?v7_2514) rfl (by kernel_rfl) (by kernel_rfl) (by kernel_rfl) (fun _ _ _ h => h) (Or.inl ⟨by rfl, ?h7_2514⟩) (by assumption) ?r7_2514
                case h7_2514 => intro w hSw; (try dsimp only at hSw); go_simp; try with_reducible rfl
                try simp only [Act.put, List.setIfInBounds_toArray, List.set_cons_zero, List.set_cons_succ]
                refine wpAnyH_ready (rs := [8]) (by kernel_rfl) (by simp) ?_
                refine AllReadyH.cons (o := ?o8_2515) ?ho8_2515 (fun KK hKK => ?st8_2515) ?mo8_2515
                case ho8_2515 => (simp only [List.getElem?_toArray, List.getElem?_cons_succ, List.getElem?_cons_zero]; rfl)
                case st8_2515 =>
                  go_simp
                  refine hKK.out _ _ ?_ (fun hHeld2 => ?_)
                  · (try dsimp only)
                    try trivial
                  clear hKK KK hHeld
                  have hHeld := hHeld2
                  clear hHeld2
                  try simp only [Act.put, List.setIfInBounds_toArray, List.set_cons_zero, List.set_cons_succ]
                  refine wpAnyH_done (by kernel_rfl) ?_ _
                  go_wp2_with fail
                  go_roundg fk
                  case measure => omega
                  case rel => exact ⟨_, _, ks ++ [.mk op9 p9 v9 B9 cb9 ks9], aL2, ae2, E12, by rw [List.map_append, List.map_cons, List.map_nil, HX.out]; exact HF2, by omega, by simp; omega, by omega⟩
                case mo8_2515 =>
                  exact AllReadyH.nil
              case mo6_2513 =>
                exact AllReadyH.nil
            case mo5_2512 =>
              exact AllReadyH.nil
          case mo1_2511 =>
            refine AllReadyH.cons (o := ?o5_2516) ?ho5_2516 (fun KK hKK => ?st5_2516) ?mo5_2516
            case ho5_2516 => (simp only [List.getElem?_toArray, List.getElem?_cons_succ, List.getElem?_cons_zero]; rfl)
            case st5_2516 =>
              go_simp
              refine hKK.out _ _ ?_ (fun hHeld2 => ?_)
              · (try dsimp only)
                try trivial
              clear hKK KK hHeld
              have hHeld := hHeld2
              clear hHeld2
              try simp only [Act.put, List.setIfInBounds_toArray, List.set_cons_zero, List.set_cons_succ]
              refine wpAnyH_ready (rs := [1]) (by kernel_rfl) (by simp) ?_
              refine AllReadyH.cons (o := ?o1_2517) ?ho1_2517 (fun KK hKK => ?st1_2517) ?mo1_2517
              case ho1_2517 => (simp only [List.getElem?_toArray, List.getElem?_cons_succ, List.getElem?_cons_zero]; rfl)
              case st1_2517 =>
                go_simp
                refine hKK.out _ _ ?_ (fun hHeld2 => ?_)
                · (try dsimp only)
                  try trivial
                clear hKK KK hHeld
                have hHeld := hHeld2
                clear hHeld2
                try simp only [Act.put, List.setIfInBounds_toArray, List.set_cons_zero, List.set_cons_succ]
                refine wpAnyH_ready (rs := [6]) (by kernel_rfl) (by simp) ?_
                refine AllReadyH.cons (o := ?o6_2518) ?ho6_2518 (fun KK hKK => ?st6_2518) ?mo6_2518
                case ho6_2518 => (simp only [List.getElem?_toArray, List.getElem?_cons_succ, List.getElem?_cons_zero]; rfl)
                case st6_2518 =>
                  (have E11 := Lib.hid (E9.out.below (below_new w9 (.cells (Tree.mk op9 p9 v9 B9 cb9 ks9).cells.toArray 28))); refine step_append_lies _ rfl (.tmp 68) (.tmp 72) _ rfl (q + 1) 28 j0 _ 9 88 Tryz.underlying26 hj0 hj1 hj2 hj3 rfl (by decide) (.slice Aq ks.length cq) ks.length (ks.flatMap Tree.cells) rfl E11.out.own ⟨w9.heap.size, 0, none⟩ 1 1 (Tree.mk op9 p9 v9 B9 cb9 ks9).cells rfl rfl (tree_new w9 28 (Tree.mk op9 p9 v9 B9 cb9 ks9)) (tree_cell1 (Tree.mk op9 p9 v9 B9 cb9 ks9)) (by decide) (by unfold maxLen; omega) (by omega) (by simp; omega) _ rfl ?_; intro b2 c2 w10 hown hgrow hat hlt; have KG := E11.out.box.grown hgrow (E11.out.row_ne (Nat.le_refl _)).symm; have E12 : Hid (YMid 28 73 125 w (w10.setCell ⟨q, 8, none⟩ (.slice (some ⟨b2, 0, none⟩) (ks.length + 1) c2)) g q 2 0 zero6 (some ⟨b2, 0, none⟩) c2 d (ks ++ [(Tree.mk op9 p9 v9 B9 cb9 ks9)]) aL2 ae2) := (E11.out.grow (by decide) (by decide) (Tree.mk op9 p9 v9 B9 cb9 ks9) (ED.out.fit (HI.out.below (below_new w9 (.cells (Tree.mk op9 p9 v9 B9 cb9 ks9).cells.toArray 28)))) hgrow hown hat); have kq10 : w10.cell? ⟨q, 8, none⟩ = some (.slice Aq ks.length cq) := KG.cell 8; have lq10 := KG.lt; have kf10 := KG.free 8; clear hown hgrow hat)
                  refine hKK.out _ _ ?_ (fun hHeld2 => ?_)
                  · (try dsimp only)
                    try trivial
                  clear hKK KK hHeld
                  have hHeld := hHeld2
                  clear hHeld2
                  try simp only [Act.put, List.setIfInBounds_toArray, List.set_cons_zero, List.set_cons_succ]
                  refine wpAnyH_take (i := 7) (v := ?v7_2519) rfl (by kernel_rfl) (by kernel_rfl) (by kernel_rfl) (fun _ _ _ h => h) (Or.inl ⟨by rfl, ?h7_2519⟩) (by assumption) ?r7_2519
                  case h7_2519 => intro w hSw; (try dsimp only at hSw); go_simp; try with_reducible rfl
                  try simp only [Act.put, List.setIfInBounds_toArray, List.set_cons_zero, List.set_cons_succ]
                  refine wpAnyH_ready (rs := [8]) (by kernel_rfl) (by simp) ?_
                  refine AllReadyH.cons (o := ?o8_2520) ?ho8_2520 (fun KK hKK => ?st8_2520) ?mo8_2520
                  case ho8_2520 => (simp only [List.getElem?_toArray, List.getElem?_cons_succ, List.getElem?_cons_zero]; rfl)
                  case st8_2520 =>
                    go_simp
                    refine hKK.out _ _ ?_ (fun hHeld2 => ?_)
                    · (try dsimp only)
                      try trivial
                    clear hKK KK hHeld
                    have hHeld := hHeld2
                    clear hHeld2
                    try simp only [Act.put, List.setIfInBounds_toArray, List.set_cons_zero, List.set_cons_succ]
                    refine wpAnyH_done (by kernel_rfl) ?_ _
                    go_wp2_with fail
                    go_roundg fk
                    case measure => omega
                    case rel => exact ⟨_, _, ks ++ [.mk op9 p9 v9 B9 cb9 ks9], aL2, ae2, E12, by rw [List.map_append, List.map_cons, List.map_nil, HX.out]; exact HF2, by omega, by simp; omega, by omega⟩
                  case mo8_2520 =>
                    exact AllReadyH.nil
                case mo6_2518 =>
                  exact AllReadyH.nil
              case mo1_2517 =>
                exact AllReadyH.nil
            case mo5_2516 =>
              exact AllReadyH.nil
        case mo4_2510 =>
          exact AllReadyH.nil
  
    · have HF2 := Lib.hid (show fin = ⟨ks.map (xF d), L9, e9⟩ by rw [← HF.out]; unfold moreF; rw [if_neg hk])
      have C1 := Lib.hid (fun W h => CAN.out W L9 e9 h (by omega) hk)
      clear hk HF
      rw [HF2.out] at HB2
      dsimp only at HB2
      go_wp2_with fail
      refine (C1.out _ E.out.scan).mono ?_
      rintro r w17 ⟨rfl, s7, o7⟩
      have E7 := Lib.hid (E.out.step s7 o7)
      clear s7 o7 E
      go_wp2_with fail
      refine (CE.out _ L9 e9 ⟨#[41]⟩ E7.out.scan (by omega)).mono ?_
      rintro r w30 ⟨rfl, s30, o30⟩
      have E30 := Lib.hid (E7.out.step s30 o30)
      clear s30 o30
      
      have C0 : w30.cell? ⟨q, 0, none⟩ = some (.int .i64 2) := E30.out.box.cell 0
      have C1 : w30.cell? ⟨q, 1, none⟩ = some (.int .i64 0) := E30.out.box.cell 1
      have C2 : w30.cell? ⟨q, 2, none⟩ = some (.int .i64 0) := E30.out.box.cell 2
      have C3 : w30.cell? ⟨q, 3, none⟩ = some (.int .i64 0) := E30.out.box.cell 3
      have C4 : w30.cell? ⟨q, 4, none⟩ = some (.int .i64 0) := E30.out.box.cell 4
      have C5 : w30.cell? ⟨q, 5, none⟩ = some (.int .i64 0) := E30.out.box.cell 5
      have C6 : w30.cell? ⟨q, 6, none⟩ = some (.int .i64 0) := E30.out.box.cell 6
      have C7 : w30.cell? ⟨q, 7, none⟩ = some (.int .i64 0) := E30.out.box.cell 7
      have C8 : w30.cell? ⟨q, 8, none⟩ = some (.slice Aq ks.length cq) := E30.out.box.cell 8
      have Cl := E30.out.box.lt
      have D0 : w30.cell? ⟨w.heap.size, 0, none⟩ = some (.int .i64 0) := E30.out.res.cell 0
      have Df0 := E30.out.res.free 0
      have D1 : w30.cell? ⟨w.heap.size, 1, none⟩ = some (.int .i64 0) := E30.out.res.cell 1
      have Df1 := E30.out.res.free 1
      have D2 : w30.cell? ⟨w.heap.size, 2, none⟩ = some (.int .i64 0) := E30.out.res.cell 2
      have Df2 := E30.out.res.free 2
      have D3 : w30.cell? ⟨w.heap.size, 3, none⟩ = some (.int .i64 0) := E30.out.res.cell 3
      have Df3 := E30.out.res.free 3
      have D4 : w30.cell? ⟨w.heap.size, 4, none⟩ = some (.int .i64 0) := E30.out.res.cell 4
      have Df4 := E30.out.res.free 4
      have D5 : w30.cell? ⟨w.heap.size, 5, none⟩ = some (.int .i64 0) := E30.out.res.cell 5
      have Df5 := E30.out.res.free 5
      have D6 : w30.cell? ⟨w.heap.size, 6, none⟩ = some (.int .i64 0) := E30.out.res.cell 6
      have Df6 := E30.out.res.free 6
      have D7 : w30.cell? ⟨w.heap.size, 7, none⟩ = some (.int .i64 0) := E30.out.res.cell 7
      have Df7 := E30.out.res.free 7
      have D8 : w30.cell? ⟨w.heap.size, 8, none⟩ = some (.slice none 0 0) := E30.out.res.cell 8
      have Df8 := E30.out.res.free 8
      have Dl := E30.out.res.lt
      have hxq30 := E30.out.far
      have hne1 : (q == w.heap.size) = false := by simp; omega
      have hne2 : (w.heap.size == q) = false := by simp; omega
      have hne3 : ¬ q = w.heap.size := by omega
      have hne4 : ¬ w.heap.size = q := by omega
      try dsimp only
      iterate 13 (first | go_values | go_skip | go_guarded | go_step | go_upon)
      have Z9 : InP (fun b => w.heap.size ≤ b) (d + 1) (((((((((w30.setCell ⟨w.heap.size, 0, none⟩ (.int .i64 2)).setCell ⟨w.heap.size, 1, none⟩ (.int .i64 0)).setCell ⟨w.heap.size, 2, none⟩ (.int .i64 0)).setCell ⟨w.heap.size, 3, none⟩ (.int .i64 0)).setCell ⟨w.heap.size, 4, none⟩ (.int .i64 0)).setCell ⟨w.heap.size, 5, none⟩ (.int .i64 0)).setCell ⟨w.heap.size, 6, none⟩ (.int .i64 0)).setCell ⟨w.heap.size, 7, none⟩ (.int .i64 0)).setCell ⟨w.heap.size, 8, none⟩ (.slice Aq ks.length cq)) (.mk 2 zero6 0 Aq cq ks) ∧ Scan 73 125 (((((((((w30.setCell ⟨w.heap.size, 0, none⟩ (.int .i64 2)).setCell ⟨w.heap.size, 1, none⟩ (.int .i64 0)).setCell ⟨w.heap.size, 2, none⟩ (.int .i64 0)).setCell ⟨w.heap.size, 3, none⟩ (.int .i64 0)).setCell ⟨w.heap.size, 4, none⟩ (.int .i64 0)).setCell ⟨w.heap.size, 5, none⟩ (.int .i64 0)).setCell ⟨w.heap.size, 6, none⟩ (.int .i64 0)).setCell ⟨w.heap.size, 7, none⟩ (.int .i64 0)).setCell ⟨w.heap.size, 8, none⟩ (.slice Aq ks.length cq)) g (expL L9 e9 ⟨#[41]⟩) (expE L9 e9 ⟨#[41]⟩) ∧ Only g w (((((((((w30.setCell ⟨w.heap.size, 0, none⟩ (.int .i64 2)).setCell ⟨w.heap.size, 1, none⟩ (.int .i64 0)).setCell ⟨w.heap.size, 2, none⟩ (.int .i64 0)).setCell ⟨w.heap.size, 3, none⟩ (.int .i64 0)).setCell ⟨w.heap.size, 4, none⟩ (.int .i64 0)).setCell ⟨w.heap.size, 5, none⟩ (.int .i64 0)).setCell ⟨w.heap.size, 6, none⟩ (.int .i64 0)).setCell ⟨w.heap.size, 7, none⟩ (.int .i64 0)).setCell ⟨w.heap.size, 8, none⟩ (.slice Aq ks.length cq)) := E30.out.done (by decide) (by decide)
      have R9 : Blk (((((((((w30.setCell ⟨w.heap.size, 0, none⟩ (.int .i64 2)).setCell ⟨w.heap.size, 1, none⟩ (.int .i64 0)).setCell ⟨w.heap.size, 2, none⟩ (.int .i64 0)).setCell ⟨w.heap.size, 3, none⟩ (.int .i64 0)).setCell ⟨w.heap.size, 4, none⟩ (.int .i64 0)).setCell ⟨w.heap.size, 5, none⟩ (.int .i64 0)).setCell ⟨w.heap.size, 6, none⟩ (.int .i64 0)).setCell ⟨w.heap.size, 7, none⟩ (.int .i64 0)).setCell ⟨w.heap.size, 8, none⟩ (.slice Aq ks.length cq)) w.heap.size 28 (cells9 2 0 zero6 Aq ks.length cq) := blk_put9 (op := 2) (v := 0) (p := zero6) (A := Aq) (n := ks.length) (c := cq) E30.out.res
      generalize ((((((((w30.setCell ⟨w.heap.size, 0, none⟩ (.int .i64 2)).setCell ⟨w.heap.size, 1, none⟩ (.int .i64 0)).setCell ⟨w.heap.size, 2, none⟩ (.int .i64 0)).setCell ⟨w.heap.size, 3, none⟩ (.int .i64 0)).setCell ⟨w.heap.size, 4, none⟩ (.int .i64 0)).setCell ⟨w.heap.size, 5, none⟩ (.int .i64 0)).setCell ⟨w.heap.size, 6, none⟩ (.int .i64 0)).setCell ⟨w.heap.size, 7, none⟩ (.int .i64 0)).setCell ⟨w.heap.size, 8, none⟩ (.slice Aq ks.length cq) = w31 at *
      have Z9 := Lib.hid Z9
      have R9 := Lib.hid R9
      clear C0 C1 C2 C3 C4 C5 C6 C7 C8 Cl
      clear D0 Df0 D1 Df1 D2 Df2 D3 Df3 D4 Df4 D5 Df5 D6 Df6 D7 Df7 D8 Df8 Dl
      clear E30 hne1 hne2 hne3 hne4
      repeat (first | go_values | go_skip | go_guarded | go_step | go_upon)
      exact bodyPost_ret (v := .agg (cells9 2 0 zero6 Aq ks.length cq)) (results_blk rfl rfl R9.out Tryz.underlying28 rfl (by kernel_rfl)) rfl (by
        rw [HB2.out]
        exact ⟨.mk 2 zero6 0 Aq cq ks, rfl, rfl, Z9.out.1, Z9.out.2.1, Z9.out.2.2⟩)
set_option maxHeartbeats 8000000 in
set_option maxRecDepth 100000 in
theorem rexpr_3 (l : List Prod) (d : Nat) (A : Option Addr) (c : Nat) (L : List Tok) (g : Nat) (w : World) (hz : checkE l = 0) (hp : PS w (.slice A l.length c) l) (hA : ∀ b o, A = some ⟨b, o, none⟩ → b ≠ g) (hs : Scan 73 125 w g L 0) (hm : L.length ≤ 5000) (h0 : 0 < L.length) (f : List Tok → Int → PX) (hf : ∀ L e, (f L e).L.length ≤ L.length) (hk : (peekT L 0).kind = 1) (hop : opW (peekT L 0).text = 3)
    (HARG : ∀ L' e' W, L'.length < L.length → Only g w W → Scan 73 125 W g L' e' → Calls Tryz.prog 41 #[.slice A l.length c, .pointer (some ⟨g, 0, none⟩)] W (RExprPost d (f L' e') g W)) : Calls Tryz.prog 41 #[.slice A l.length c, .pointer (some ⟨g, 0, none⟩)] w (RExprPost (d + 1) (rbodyX l f 3 (rfirstX f L 0)) g w) := by
  have hg := hs.lt
  have hT : nameT L 0 = (peekT L 0).text := by unfold nameT; rw [if_pos hk]
  have hE : nameE L 0 = 0 := by unfold nameE; rw [if_pos hk]
  have hL : nameL L 0 = nextL L 0 := by unfold nameL; rw [if_pos hk]
  have CP := Lib.hid fun W (h : Scan 73 125 W g L 0) => rpeek_any L 0 g W h (small_len hm)
  have CN := Lib.hid fun W (h : Scan 73 125 W g L 0) => rname_any L 0 g W h (small_len hm)
  rw [hT, hE, hL] at CN
  have CR := Lib.hid fun W (k : Only g w W) L' e' (h : Scan 73 125 W g L' e') (hm' : L'.length ≤ 5000) => rpriced_any l A c L' e' g W hz (ref_only hp hA k) hA h hm'
  have CE := Lib.hid fun W L' e' m (h : Scan 73 125 W g L' e') (hm' : L'.length ≤ 5000) => rexpect_any L' e' g m W h (small_len hm')
  have CM := Lib.hid fun W L' e' (h : Scan 73 125 W g L' e') (hm' : L'.length ≤ 5000) => ramount_any L' e' 1000000 g W h (small_len hm')
  have hN1 : (nextL L 0).length < L.length := by unfold nextL; rw [if_pos rfl, List.length_tail]; omega
  have hL1 := expL_len (nextL L 0) 0 ⟨#[40]⟩
  have HA1 := Lib.hid fun W k h => HARG (expL (nextL L 0) 0 ⟨#[40]⟩) (expE (nextL L 0) 0 ⟨#[40]⟩) W (by omega) k h
  have HARG := Lib.hid HARG
  have hal := hf (expL (nextL L 0) 0 ⟨#[40]⟩) (expE (nextL L 0) 0 ⟨#[40]⟩)
  unfold rfirstX
  rw [hE, hL]
  have hop2 := opW_lit.2.1 hop
  have CX := Lib.hid fun W (h : Scan 73 125 W g (nextL L 0) 0) => CE.out W (nextL L 0) 0 ⟨#[40]⟩ h (by omega)
  generalize expE (nextL L 0) 0 ⟨#[40]⟩ = ex at *
  generalize expL (nextL L 0) 0 ⟨#[40]⟩ = Lx at *
  generalize nextL L 0 = Ln at *
  generalize hfa : f Lx ex = a at *
  clear hfa
  obtain ⟨ax, aL, ae⟩ := a
  dsimp only at hal
  have haL : aL.length ≤ 5000 := by omega
  clear hop hT hE hL
  generalize peekT L 0 = t at *
  obtain ⟨tk, tt, tv, tp⟩ := t
  dsimp only at CP CN hk hop2
  subst hk hop2
  generalize hB : rbodyX l f 3 ⟨ax, aL, ae⟩ = qr
  have HB := Lib.hid hB
  clear hB
  
  have S2 := Lib.hid (hs.below (below_new w (.cells (cells9 0 0 zero6 none 0 0) 28)))
  have K2 := Lib.hid (Blk.new w 28 (cells9 0 0 zero6 none 0 0))
  have O2 := Lib.hid ((Only.refl g w).alloc (.cells (cells9 0 0 zero6 none 0 0) 28))
  clear hs hp hA
  go_enter Tryz.func41, Tryz.ntmps41
  go_wp2_with fail
  refine (CP.out _ S2.out).mono ?_
  rintro r w2 ⟨rfl, b2⟩
  have S3 := Lib.hid ((S2.out.below b2).below (below_new w2 (.cells #[.int .i64 1, .string ⟨#[111, 114]⟩, .int .i64 tv, .int .i64 tp] 125)))
  have K3 := Lib.hid ((K2.out.below' b2).alloc (.cells #[.int .i64 1, .string ⟨#[111, 114]⟩, .int .i64 tv, .int .i64 tp] 125))
  have O3 := Lib.hid ((O2.out.then_below b2).alloc (.cells #[.int .i64 1, .string ⟨#[111, 114]⟩, .int .i64 tv, .int .i64 tp] 125))
  have KT := Lib.hid (Blk.new w2 125 #[.int .i64 1, .string ⟨#[111, 114]⟩, .int .i64 tv, .int .i64 tp])
  have hkl : w.heap.size < w2.heap.size := (K2.out.below' b2).lt
  clear b2 S2 K2 O2
  go_upto_region 2 with fail
  generalize w2.alloc (.cells #[.int .i64 1, .string ⟨#[111, 114]⟩, .int .i64 tv, .int .i64 tp] 125) = w3 at *
  have d4 := KT.out.c4
  go_wp2_with fail
  
  have E4 : Hid (YMid 28 73 125 w (w3.alloc (.cells #[.int .i64 0, .int .i64 0, .int .i64 0, .int .i64 0, .int .i64 0, .int .i64 0, .int .i64 0, .int .i64 0, .slice none 0 0] 28)) g w3.heap.size 0 0 zero6 none 0 d [] L 0) := ymid_new S3.out K3.out O3.out hg d
  clear S3 K3 O3 KT d4
  generalize w3.alloc (.cells #[.int .i64 0, .int .i64 0, .int .i64 0, .int .i64 0, .int .i64 0, .int .i64 0, .int .i64 0, .int .i64 0, .slice none 0 0] 28) = w4 at *
  generalize w3.heap.size = q at *
  refine (CN.out _ E4.out.scan).mono ?_
  rintro r w6 ⟨rfl, s6, o6⟩
  have E6 := Lib.hid (E4.out.step s6 o6)
  clear s6 o6 E4
  have C0 : w6.cell? ⟨q, 0, none⟩ = some (.int .i64 0) := E6.out.box.cell 0
  have Cf0 := E6.out.box.free 0
  have C1 : w6.cell? ⟨q, 1, none⟩ = some (.int .i64 0) := E6.out.box.cell 1
  have Cf1 := E6.out.box.free 1
  have C2 : w6.cell? ⟨q, 2, none⟩ = some (.int .i64 0) := E6.out.box.cell 2
  have Cf2 := E6.out.box.free 2
  have C3 : w6.cell? ⟨q, 3, none⟩ = some (.int .i64 0) := E6.out.box.cell 3
  have Cf3 := E6.out.box.free 3
  have C4 : w6.cell? ⟨q, 4, none⟩ = some (.int .i64 0) := E6.out.box.cell 4
  have Cf4 := E6.out.box.free 4
  have C5 : w6.cell? ⟨q, 5, none⟩ = some (.int .i64 0) := E6.out.box.cell 5
  have Cf5 := E6.out.box.free 5
  have C6 : w6.cell? ⟨q, 6, none⟩ = some (.int .i64 0) := E6.out.box.cell 6
  have Cf6 := E6.out.box.free 6
  have C7 : w6.cell? ⟨q, 7, none⟩ = some (.int .i64 0) := E6.out.box.cell 7
  have Cf7 := E6.out.box.free 7
  have C8 : w6.cell? ⟨q, 8, none⟩ = some (.slice none 0 0) := E6.out.box.cell 8
  have Cf8 := E6.out.box.free 8
  have Cl := E6.out.box.lt
  go_wp2_with fail
  have E7 : Hid (YMid 28 73 125 w (w6.setCell ⟨q, 0, none⟩ (.int .i64 3)) g q 3 0 zero6 none 0 d [] Ln 0) := E6.out.setOp (by decide) (by decide) 3
  generalize w6.setCell ⟨q, 0, none⟩ (.int .i64 3) = w7 at *
  clear C0 Cf0 C1 Cf1 C2 Cf2 C3 Cf3 C4 Cf4 C5 Cf5 C6 Cf6 C7 Cf7 C8 Cf8 Cl
  clear E6
  refine (CX.out _ E7.out.scan).mono ?_
  rintro r w8 ⟨rfl, s8, o8⟩
  have E8 := Lib.hid (E7.out.step s8 o8)
  clear s8 o8 E7
  go_wp2_with fail
  refine (HA1.out _ E8.out.only E8.out.scan).mono ?_
  rintro r w9 ⟨ta, rfl, hx9, hi9, s9, o9⟩
  have HXa : Hid (xF d ta = ax) := hx9
  have E9 := Lib.hid (E8.out.step s9 o9)
  have HI := Lib.hid (hi9.mono (ok' := fun b => q < b) (fun b _ ok => by have := E8.out.box.lt; omega))
  clear s9 o9 hx9 hi9
  have E10 := Lib.hid (E9.out.first (by decide) (by decide) ta HI.out)
  have kq9 : w9.cell? ⟨q, 8, none⟩ = some (.slice none 0 0) := E9.out.box.cell 8
  have kf9 := E9.out.box.free 8
  have lq9 := E9.out.box.lt
  have hT2 : xF d ta = ax := HXa.out
  obtain ⟨ta, hta⟩ : ∃ t, t = ta := ⟨ta, rfl⟩
  subst hta
  obtain ⟨op9, p9, v9, B9, cb9, ks9⟩ := ta
  dsimp only [Tree.val, Tree.op, Tree.want, Tree.value, Tree.a, Tree.c, Tree.args]
  go_upto_region 19 with fail
  have E10 : Hid (YMid 28 73 125 w ((w9.setCell ⟨q, 8, none⟩ (.slice (some ⟨w9.heap.size, 0, none⟩) 1 1)).alloc (.cells #[.int .i64 op9, .int .i64 (p9 0), .int .i64 (p9 1), .int .i64 (p9 2), .int .i64 (p9 3), .int .i64 (p9 4), .int .i64 (p9 5), .int .i64 v9, .slice B9 ks9.length cb9] 28)) g q 3 0 zero6 (some ⟨w9.heap.size, 0, none⟩) 1 d [.mk op9 p9 v9 B9 cb9 ks9] aL ae) := by
    show YMid _ _ _ _ _ _ _ _ _ _ _ _ _ _ _ _
    rw [← World.setCell_alloc_past _ q 8 _ lq9]
    exact E10.out
  generalize (w9.setCell ⟨q, 8, none⟩ (.slice (some ⟨w9.heap.size, 0, none⟩) 1 1)).alloc (.cells #[.int .i64 op9, .int .i64 (p9 0), .int .i64 (p9 1), .int .i64 (p9 2), .int .i64 (p9 3), .int .i64 (p9 4), .int .i64 (p9 5), .int .i64 v9, .slice B9 ks9.length cb9] 28) = w10 at *
  generalize w9.heap.size = b2 at *
  clear E8 E9 HI kq9 kf9 lq9 hT2
  generalize Tree.mk op9 p9 v9 B9 cb9 ks9 = ta at *
  have k10 : w10.cell? ⟨q, 0, none⟩ = some (.int .i64 3) := E10.out.box.cell 0
  have l10 := E10.out.box.lt
  
  have hbx : rbodyX l f 3 ⟨ax, aL, ae⟩ = closeX ⟨.mk 3 (n6 zero6) 0 (moreF f (aL.length + 1) ⟨[ax], aL, ae⟩).xs, (moreF f (aL.length + 1) ⟨[ax], aL, ae⟩).L, (moreF f (aL.length + 1) ⟨[ax], aL, ae⟩).e⟩ := by
    unfold rbodyX
    rw [if_pos (by decide)]
  have HB2 := Lib.hid (HB.out.symm.trans hbx)
  clear hbx HB
  have HF0 : Hid (moreF f (aL.length + 1) ⟨[ta].map (xF d), aL, ae⟩ = moreF f (aL.length + 1) ⟨[ax], aL, ae⟩) := by
    show _ = _
    rw [← HXa.out]
    rfl
  generalize moreF f (aL.length + 1) ⟨[ax], aL, ae⟩ = fin at *
  have CAY := Lib.hid fun W L' e' (h : Scan 73 125 W g L' e') (hm' : L'.length ≤ 5000) (k : accB L' e' ⟨#[44]⟩) => raccept_yes L' e' g ⟨#[44]⟩ W h (small_len hm') k
  have CAN := Lib.hid fun W L' e' (h : Scan 73 125 W g L' e') (hm' : L'.length ≤ 5000) (k : ¬ accB L' e' ⟨#[44]⟩) => raccept_no L' e' g ⟨#[44]⟩ W h (small_len hm') k
  obtain ⟨j0, hj0, hj1, hj2, hj3⟩ := info_parts expr_info9
  have hxq := E10.out.far
  go_wp2_with fail
  go_loopg [] (aL.length + 1) (fun fk wr => ∃ (Aq : Option Addr) (cq : Nat) (ks : List Tree) (L9 : List Tok) (e9 : Int), Hid (YMid 28 73 125 w wr g q 3 0 zero6 Aq cq d ks L9 e9) ∧ Hid (moreF f fk ⟨ks.map (xF d), L9, e9⟩ = fin) ∧ L9.length < fk ∧ ks.length + L9.length ≤ 5001 ∧ L9.length ≤ aL.length)
  case atStart => exact ⟨_, _, [ta], aL, ae, E10, HF0, by omega, by simp; omega, Nat.le_refl _⟩
  case round =>
    obtain ⟨Aq, cq, ks, L9, e9, E, HF, hk1, hk2, hk3⟩ := hrel
    obtain ⟨fk, rfl⟩ : ∃ fk, gk = fk + 1 := ⟨gk - 1, by omega⟩
    clear E10 k10 l10
    by_cases hk : accB L9 e9 ⟨#[44]⟩
    · have h90 : e9 = 0 := by
        by_cases hx : e9 = 0
        · exact hx
        · exact absurd hk (err_acc hx _)
      have hag : argX f (nextL L9 e9) e9 = f (nextL L9 e9) e9 := by rw [h90]; exact argX_ok f _
      have HF2 := Lib.hid (show moreF f fk ⟨ks.map (xF d) ++ [(f (nextL L9 e9) e9).x], (f (nextL L9 e9) e9).L, (f (nextL L9 e9) e9).e⟩ = fin by rw [← hag, ← HF.out]; conv => (rhs; unfold moreF); rw [if_pos hk])
      have hnx := acc_next hk
      have C1 := Lib.hid (fun W h => CAY.out W L9 e9 h (by omega) hk)
      have HA2 := Lib.hid fun W k h => HARG.out (nextL L9 e9) e9 W (by omega) k h
      have hal2 := hf (nextL L9 e9) e9
      clear hk HF hag h90
      generalize nextL L9 e9 = Ln2 at *
      generalize f Ln2 e9 = a2 at *
      obtain ⟨ax2, aL2, ae2⟩ := a2
      dsimp only at hal2 HF2
      go_wp2_with fail
      refine (C1.out _ E.out.scan).mono ?_
      rintro r w17 ⟨rfl, s7, o7⟩
      have E7 := Lib.hid (E.out.step s7 o7)
      clear s7 o7 E
      go_upto_region 25 with fail
      have ED := Lib.hid (E7.out.below ((Below.refl _ _).drew))
      have kq : w17.drew.cell? ⟨q, 8, none⟩ = some (.slice Aq ks.length cq) := ED.out.box.cell 8
      have lq := ED.out.box.lt
      refine wp_region_held_drew (S := fun _ => True) (by kernel_rfl) ?_ (fun hHeld => ?_)
      · trivial
      refine wpAnyH_take (i := 0) (v := ?v0_3501) rfl (by kernel_rfl) (by kernel_rfl) (by kernel_rfl) (fun _ _ _ h => h) (Or.inl ⟨by rfl, ?h0_3501⟩) (by assumption) ?r0_3501
      case h0_3501 => intro w hSw; (try dsimp only at hSw); go_simp; try with_reducible rfl
      try simp only [Act.put, List.setIfInBounds_toArray, List.set_cons_zero, List.set_cons_succ]
      refine wpAnyH_take (i := 2) (v := ?v2_3502) rfl (by kernel_rfl) (by kernel_rfl) (by kernel_rfl) (fun _ _ _ h => h) (Or.inl ⟨by rfl, ?h2_3502⟩) (by assumption) ?r2_3502
      case h2_3502 => intro w hSw; (try dsimp only at hSw); go_simp; try with_reducible rfl
      try simp only [Act.put, List.setIfInBounds_toArray, List.set_cons_zero, List.set_cons_succ]
      refine wpAnyH_take (i := 3) (v := ?v3_3503) rfl (by kernel_rfl) (by kernel_rfl) (by kernel_rfl) (fun _ _ _ h => h) (Or.inl ⟨by rfl, ?h3_3503⟩) (by assumption) ?r3_3503
      case h3_3503 => intro w hSw; (try dsimp only at hSw); go_simp; try with_reducible rfl
      try simp only [Act.put, List.setIfInBounds_toArray, List.set_cons_zero, List.set_cons_succ]
      refine wpAnyH_ready (rs := [1, 4]) (by kernel_rfl) (by simp) ?_
      refine AllReadyH.cons (o := ?o1_3504) ?ho1_3504 (fun KK hKK => ?st1_3504) ?mo1_3504
      case ho1_3504 => (simp only [List.getElem?_toArray, List.getElem?_cons_succ, List.getElem?_cons_zero]; rfl)
      case st1_3504 =>
        go_simp
        refine hKK.out _ _ ?_ (fun hHeld2 => ?_)
        · (try dsimp only)
          try trivial
        clear hKK KK hHeld
        have hHeld := hHeld2
        clear hHeld2
        try simp only [Act.put, List.setIfInBounds_toArray, List.set_cons_zero, List.set_cons_succ]
        refine wpAnyH_ready (rs := [4]) (by kernel_rfl) (by simp) ?_
        refine AllReadyH.cons (o := ?o4_3505) ?ho4_3505 (fun KK hKK => ?st4_3505) ?mo4_3505
        case ho4_3505 => (simp only [List.getElem?_toArray, List.getElem?_cons_succ, List.getElem?_cons_zero]; rfl)
        case st4_3505 =>
          (go_simp; go_at_call 41; refine (HA2.out _ ED.out.only ED.out.scan).mono ?_; rintro r w9 ⟨ta, rfl, hx9, hi9, s9, o9⟩; have HX := Lib.hid hx9; have E9 := Lib.hid (ED.out.step s9 o9); have HI := Lib.hid hi9; clear s9 o9 hx9 hi9; have kq9 : w9.cell? ⟨q, 8, none⟩ = some (.slice Aq ks.length cq) := E9.out.box.cell 8; have lq9 := E9.out.box.lt; obtain ⟨op9, p9, v9, B9, cb9, ks9⟩ := ta; dsimp only [Tree.val, Tree.op, Tree.want, Tree.value, Tree.a, Tree.c, Tree.args])
          refine hKK.out _ _ ?_ (fun hHeld2 => ?_)
          · (try dsimp only)
            try trivial
          clear hKK KK hHeld
          have hHeld := hHeld2
          clear hHeld2
          try simp only [Act.put, List.setIfInBounds_toArray, List.set_cons_zero, List.set_cons_succ]
          refine wpAnyH_ready (rs := [5]) (by kernel_rfl) (by simp) ?_
          refine AllReadyH.cons (o := ?o5_3506) ?ho5_3506 (fun KK hKK => ?st5_3506) ?mo5_3506
          case ho5_3506 => (simp only [List.getElem?_toArray, List.getElem?_cons_succ, List.getElem?_cons_zero]; rfl)
          case st5_3506 =>
            go_simp
            refine hKK.out _ _ ?_ (fun hHeld2 => ?_)
            · (try dsimp only)
              try trivial
            clear hKK KK hHeld
            have hHeld := hHeld2
            clear hHeld2
            try simp only [Act.put, List.setIfInBounds_toArray, List.set_cons_zero, List.set_cons_succ]
            refine wpAnyH_ready (rs := [6]) (by kernel_rfl) (by simp) ?_
            refine AllReadyH.cons (o := ?o6_3507) ?ho6_3507 (fun KK hKK => ?st6_3507) ?mo6_3507
            case ho6_3507 => (simp only [List.getElem?_toArray, List.getElem?_cons_succ, List.getElem?_cons_zero]; rfl)
            case st6_3507 =>
              (have E11 := Lib.hid (E9.out.below (below_new w9 (.cells (Tree.mk op9 p9 v9 B9 cb9 ks9).cells.toArray 28))); refine step_append_lies _ rfl (.tmp 68) (.tmp 72) _ rfl (q + 1) 28 j0 _ 9 88 Tryz.underlying26 hj0 hj1 hj2 hj3 rfl (by decide) (.slice Aq ks.length cq) ks.length (ks.flatMap Tree.cells) rfl E11.out.own ⟨w9.heap.size, 0, none⟩ 1 1 (Tree.mk op9 p9 v9 B9 cb9 ks9).cells rfl rfl (tree_new w9 28 (Tree.mk op9 p9 v9 B9 cb9 ks9)) (tree_cell1 (Tree.mk op9 p9 v9 B9 cb9 ks9)) (by decide) (by unfold maxLen; omega) (by omega) (by simp; omega) _ rfl ?_; intro b2 c2 w10 hown hgrow hat hlt; have KG := E11.out.box.grown hgrow (E11.out.row_ne (Nat.le_refl _)).symm; have E12 : Hid (YMid 28 73 125 w (w10.setCell ⟨q, 8, none⟩ (.slice (some ⟨b2, 0, none⟩) (ks.length + 1) c2)) g q 3 0 zero6 (some ⟨b2, 0, none⟩) c2 d (ks ++ [(Tree.mk op9 p9 v9 B9 cb9 ks9)]) aL2 ae2) := (E11.out.grow (by decide) (by decide) (Tree.mk op9 p9 v9 B9 cb9 ks9) (ED.out.fit (HI.out.below (below_new w9 (.cells (Tree.mk op9 p9 v9 B9 cb9 ks9).cells.toArray 28)))) hgrow hown hat); have kq10 : w10.cell? ⟨q, 8, none⟩ = some (.slice Aq ks.length cq) := KG.cell 8; have lq10 := KG.lt; have kf10 := KG.free 8; clear hown hgrow hat)
              refine hKK.out _ _ ?_ (fun hHeld2 => ?_)
              · (try dsimp only)
                try trivial
              clear hKK KK hHeld
              have hHeld := hHeld2
              clear hHeld2
              try simp only [Act.put, List.setIfInBounds_toArray, List.set_cons_zero, List.set_cons_succ]
              refine wpAnyH_take (i := 7) (v := ?v7_3508) rfl (by kernel_rfl) (by kernel_rfl) (by kernel_rfl) (fun _ _ _ h => h) (Or.inl ⟨by rfl, ?h7_3508⟩) (by assumption) ?r7_3508
              case h7_3508 => intro w hSw; (try dsimp only at hSw); go_simp; try with_reducible rfl
              try simp only [Act.put, List.setIfInBounds_toArray, List.set_cons_zero, List.set_cons_succ]
              refine wpAnyH_ready (rs := [8]) (by kernel_rfl) (by simp) ?_
              refine AllReadyH.cons (o := ?o8_3509) ?ho8_3509 (fun KK hKK => ?st8_3509) ?mo8_3509
              case ho8_3509 => (simp only [List.getElem?_toArray, List.getElem?_cons_succ, List.getElem?_cons_zero]; rfl)
              case st8_3509 =>
                go_simp
                refine hKK.out _ _ ?_ (fun hHeld2 => ?_)
                · (try dsimp only)
                  try trivial
                clear hKK KK hHeld
                have hHeld := hHeld2
                clear hHeld2
                try simp only [Act.put, List.setIfInBounds_toArray, List.set_cons_zero, List.set_cons_succ]
                refine wpAnyH_done (by kernel_rfl) ?_ _
                go_wp2_with fail
                go_roundg fk
                case measure => omega
                case rel => exact ⟨_, _, ks ++ [.mk op9 p9 v9 B9 cb9 ks9], aL2, ae2, E12, by rw [List.map_append, List.map_cons, List.map_nil, HX.out]; exact HF2, by omega, by simp; omega, by omega⟩
              case mo8_3509 =>
                exact AllReadyH.nil
            case mo6_3507 =>
              exact AllReadyH.nil
          case mo5_3506 =>
            exact AllReadyH.nil
        case mo4_3505 =>
          exact AllReadyH.nil
      case mo1_3504 =>
        refine AllReadyH.cons (o := ?o4_3510) ?ho4_3510 (fun KK hKK => ?st4_3510) ?mo4_3510
        case ho4_3510 => (simp only [List.getElem?_toArray, List.getElem?_cons_succ, List.getElem?_cons_zero]; rfl)
        case st4_3510 =>
          (go_simp; go_at_call 41; refine (HA2.out _ ED.out.only ED.out.scan).mono ?_; rintro r w9 ⟨ta, rfl, hx9, hi9, s9, o9⟩; have HX := Lib.hid hx9; have E9 := Lib.hid (ED.out.step s9 o9); have HI := Lib.hid hi9; clear s9 o9 hx9 hi9; have kq9 : w9.cell? ⟨q, 8, none⟩ = some (.slice Aq ks.length cq) := E9.out.box.cell 8; have lq9 := E9.out.box.lt; obtain ⟨op9, p9, v9, B9, cb9, ks9⟩ := ta; dsimp only [Tree.val, Tree.op, Tree.want, Tree.value, Tree.a, Tree.c, Tree.args])
          refine hKK.out _ _ ?_ (fun hHeld2 => ?_)
          · (try dsimp only)
            try trivial
          clear hKK KK hHeld
          have hHeld := hHeld2
          clear hHeld2
          try simp only [Act.put, List.setIfInBounds_toArray, List.set_cons_zero, List.set_cons_succ]
          refine wpAnyH_ready (rs := [1, 5]) (by kernel_rfl) (by simp) ?_
          refine AllReadyH.cons (o := ?o1_3511) ?ho1_3511 (fun KK hKK => ?st1_3511) ?mo1_3511
          case ho1_3511 => (simp only [List.getElem?_toArray, List.getElem?_cons_succ, List.getElem?_cons_zero]; rfl)
          case st1_3511 =>
            go_simp
            refine hKK.out _ _ ?_ (fun hHeld2 => ?_)
            · (try dsimp only)
              try trivial
            clear hKK KK hHeld
            have hHeld := hHeld2
            clear hHeld2
            try simp only [Act.put, List.setIfInBounds_toArray, List.set_cons_zero, List.set_cons_succ]
            refine wpAnyH_ready (rs := [5]) (by kernel_rfl) (by simp) ?_
            refine AllReadyH.cons (o := ?o5_3512) ?ho5_3512 (fun KK hKK => ?st5_3512) ?mo5_3512
            case ho5_3512 => (simp only [List.getElem?_toArray, List.getElem?_cons_succ, List.getElem?_cons_zero]; rfl)
            case st5_3512 =>
              go_simp
              refine hKK.out _ _ ?_ (fun hHeld2 => ?_)
              · (try dsimp only)
                try trivial
              clear hKK KK hHeld
              have hHeld := hHeld2
              clear hHeld2
              try simp only [Act.put, List.setIfInBounds_toArray, List.set_cons_zero, List.set_cons_succ]
              refine wpAnyH_ready (rs := [6]) (by kernel_rfl) (by simp) ?_
              refine AllReadyH.cons (o := ?o6_3513) ?ho6_3513 (fun KK hKK => ?st6_3513) ?mo6_3513
              case ho6_3513 => (simp only [List.getElem?_toArray, List.getElem?_cons_succ, List.getElem?_cons_zero]; rfl)
              case st6_3513 =>
                (have E11 := Lib.hid (E9.out.below (below_new w9 (.cells (Tree.mk op9 p9 v9 B9 cb9 ks9).cells.toArray 28))); refine step_append_lies _ rfl (.tmp 68) (.tmp 72) _ rfl (q + 1) 28 j0 _ 9 88 Tryz.underlying26 hj0 hj1 hj2 hj3 rfl (by decide) (.slice Aq ks.length cq) ks.length (ks.flatMap Tree.cells) rfl E11.out.own ⟨w9.heap.size, 0, none⟩ 1 1 (Tree.mk op9 p9 v9 B9 cb9 ks9).cells rfl rfl (tree_new w9 28 (Tree.mk op9 p9 v9 B9 cb9 ks9)) (tree_cell1 (Tree.mk op9 p9 v9 B9 cb9 ks9)) (by decide) (by unfold maxLen; omega) (by omega) (by simp; omega) _ rfl ?_; intro b2 c2 w10 hown hgrow hat hlt; have KG := E11.out.box.grown hgrow (E11.out.row_ne (Nat.le_refl _)).symm; have E12 : Hid (YMid 28 73 125 w (w10.setCell ⟨q, 8, none⟩ (.slice (some ⟨b2, 0, none⟩) (ks.length + 1) c2)) g q 3 0 zero6 (some ⟨b2, 0, none⟩) c2 d (ks ++ [(Tree.mk op9 p9 v9 B9 cb9 ks9)]) aL2 ae2) := (E11.out.grow (by decide) (by decide) (Tree.mk op9 p9 v9 B9 cb9 ks9) (ED.out.fit (HI.out.below (below_new w9 (.cells (Tree.mk op9 p9 v9 B9 cb9 ks9).cells.toArray 28)))) hgrow hown hat); have kq10 : w10.cell? ⟨q, 8, none⟩ = some (.slice Aq ks.length cq) := KG.cell 8; have lq10 := KG.lt; have kf10 := KG.free 8; clear hown hgrow hat)
                refine hKK.out _ _ ?_ (fun hHeld2 => ?_)
                · (try dsimp only)
                  try trivial
                clear hKK KK hHeld
                have hHeld := hHeld2
                clear hHeld2
                try simp only [Act.put, List.setIfInBounds_toArray, List.set_cons_zero, List.set_cons_succ]
                refine wpAnyH_take (i := 7) (v := ?v7_3514) rfl (by kernel_rfl) (by kernel_rfl) (by kernel_rfl) (fun _ _ _ h => h) (Or.inl ⟨by rfl, ?h7_3514⟩) (by assumption) ?r7_3514
                case h7_3514 => intro w hSw; (try dsimp only at hSw); go_simp; try with_reducible rfl
                try simp only [Act.put, List.setIfInBounds_toArray, List.set_cons_zero, List.set_cons_succ]
                refine wpAnyH_ready (rs := [8]) (by kernel_rfl) (by simp) ?_
                refine AllReadyH.cons (o := ?o8_3515) ?ho8_3515 (fun KK hKK => ?st8_3515) ?mo8_3515
                case ho8_3515 => (simp only [List.getElem?_toArray, List.getElem?_cons_succ, List.getElem?_cons_zero]; rfl)
                case st8_3515 =>
                  go_simp
                  refine hKK.out _ _ ?_ (fun hHeld2 => ?_)
                  · (try dsimp only)
                    try trivial
                  clear hKK KK hHeld
                  have hHeld := hHeld2
                  clear hHeld2
                  try simp only [Act.put, List.setIfInBounds_toArray, List.set_cons_zero, List.set_cons_succ]
                  refine wpAnyH_done (by kernel_rfl) ?_ _
                  go_wp2_with fail
                  go_roundg fk
                  case measure => omega
                  case rel => exact ⟨_, _, ks ++ [.mk op9 p9 v9 B9 cb9 ks9], aL2, ae2, E12, by rw [List.map_append, List.map_cons, List.map_nil, HX.out]; exact HF2, by omega, by simp; omega, by omega⟩
                case mo8_3515 =>
                  exact AllReadyH.nil
              case mo6_3513 =>
                exact AllReadyH.nil
            case mo5_3512 =>
              exact AllReadyH.nil
          case mo1_3511 =>
            refine AllReadyH.cons (o := ?o5_3516) ?ho5_3516 (fun KK hKK => ?st5_3516) ?mo5_3516
            case ho5_3516 => (simp only [List.getElem?_toArray, List.getElem?_cons_succ, List.getElem?_cons_zero]; rfl)
            case st5_3516 =>
              go_simp
              refine hKK.out _ _ ?_ (fun hHeld2 => ?_)
              · (try dsimp only)
                try trivial
              clear hKK KK hHeld
              have hHeld := hHeld2
              clear hHeld2
              try simp only [Act.put, List.setIfInBounds_toArray, List.set_cons_zero, List.set_cons_succ]
              refine wpAnyH_ready (rs := [1]) (by kernel_rfl) (by simp) ?_
              refine AllReadyH.cons (o := ?o1_3517) ?ho1_3517 (fun KK hKK => ?st1_3517) ?mo1_3517
              case ho1_3517 => (simp only [List.getElem?_toArray, List.getElem?_cons_succ, List.getElem?_cons_zero]; rfl)
              case st1_3517 =>
                go_simp
                refine hKK.out _ _ ?_ (fun hHeld2 => ?_)
                · (try dsimp only)
                  try trivial
                clear hKK KK hHeld
                have hHeld := hHeld2
                clear hHeld2
                try simp only [Act.put, List.setIfInBounds_toArray, List.set_cons_zero, List.set_cons_succ]
                refine wpAnyH_ready (rs := [6]) (by kernel_rfl) (by simp) ?_
                refine AllReadyH.cons (o := ?o6_3518) ?ho6_3518 (fun KK hKK => ?st6_3518) ?mo6_3518
                case ho6_3518 => (simp only [List.getElem?_toArray, List.getElem?_cons_succ, List.getElem?_cons_zero]; rfl)
                case st6_3518 =>
                  (have E11 := Lib.hid (E9.out.below (below_new w9 (.cells (Tree.mk op9 p9 v9 B9 cb9 ks9).cells.toArray 28))); refine step_append_lies _ rfl (.tmp 68) (.tmp 72) _ rfl (q + 1) 28 j0 _ 9 88 Tryz.underlying26 hj0 hj1 hj2 hj3 rfl (by decide) (.slice Aq ks.length cq) ks.length (ks.flatMap Tree.cells) rfl E11.out.own ⟨w9.heap.size, 0, none⟩ 1 1 (Tree.mk op9 p9 v9 B9 cb9 ks9).cells rfl rfl (tree_new w9 28 (Tree.mk op9 p9 v9 B9 cb9 ks9)) (tree_cell1 (Tree.mk op9 p9 v9 B9 cb9 ks9)) (by decide) (by unfold maxLen; omega) (by omega) (by simp; omega) _ rfl ?_; intro b2 c2 w10 hown hgrow hat hlt; have KG := E11.out.box.grown hgrow (E11.out.row_ne (Nat.le_refl _)).symm; have E12 : Hid (YMid 28 73 125 w (w10.setCell ⟨q, 8, none⟩ (.slice (some ⟨b2, 0, none⟩) (ks.length + 1) c2)) g q 3 0 zero6 (some ⟨b2, 0, none⟩) c2 d (ks ++ [(Tree.mk op9 p9 v9 B9 cb9 ks9)]) aL2 ae2) := (E11.out.grow (by decide) (by decide) (Tree.mk op9 p9 v9 B9 cb9 ks9) (ED.out.fit (HI.out.below (below_new w9 (.cells (Tree.mk op9 p9 v9 B9 cb9 ks9).cells.toArray 28)))) hgrow hown hat); have kq10 : w10.cell? ⟨q, 8, none⟩ = some (.slice Aq ks.length cq) := KG.cell 8; have lq10 := KG.lt; have kf10 := KG.free 8; clear hown hgrow hat)
                  refine hKK.out _ _ ?_ (fun hHeld2 => ?_)
                  · (try dsimp only)
                    try trivial
                  clear hKK KK hHeld
                  have hHeld := hHeld2
                  clear hHeld2
                  try simp only [Act.put, List.setIfInBounds_toArray, List.set_cons_zero, List.set_cons_succ]
                  refine wpAnyH_take (i := 7) (v := ?v7_3519) rfl (by kernel_rfl) (by kernel_rfl) (by kernel_rfl) (fun _ _ _ h => h) (Or.inl ⟨by rfl, ?h7_3519⟩) (by assumption) ?r7_3519
                  case h7_3519 => intro w hSw; (try dsimp only at hSw); go_simp; try with_reducible rfl
                  try simp only [Act.put, List.setIfInBounds_toArray, List.set_cons_zero, List.set_cons_succ]
                  refine wpAnyH_ready (rs := [8]) (by kernel_rfl) (by simp) ?_
                  refine AllReadyH.cons (o := ?o8_3520) ?ho8_3520 (fun KK hKK => ?st8_3520) ?mo8_3520
                  case ho8_3520 => (simp only [List.getElem?_toArray, List.getElem?_cons_succ, List.getElem?_cons_zero]; rfl)
                  case st8_3520 =>
                    go_simp
                    refine hKK.out _ _ ?_ (fun hHeld2 => ?_)
                    · (try dsimp only)
                      try trivial
                    clear hKK KK hHeld
                    have hHeld := hHeld2
                    clear hHeld2
                    try simp only [Act.put, List.setIfInBounds_toArray, List.set_cons_zero, List.set_cons_succ]
                    refine wpAnyH_done (by kernel_rfl) ?_ _
                    go_wp2_with fail
                    go_roundg fk
                    case measure => omega
                    case rel => exact ⟨_, _, ks ++ [.mk op9 p9 v9 B9 cb9 ks9], aL2, ae2, E12, by rw [List.map_append, List.map_cons, List.map_nil, HX.out]; exact HF2, by omega, by simp; omega, by omega⟩
                  case mo8_3520 =>
                    exact AllReadyH.nil
                case mo6_3518 =>
                  exact AllReadyH.nil
              case mo1_3517 =>
                exact AllReadyH.nil
            case mo5_3516 =>
              exact AllReadyH.nil
        case mo4_3510 =>
          exact AllReadyH.nil
  
    · have HF2 := Lib.hid (show fin = ⟨ks.map (xF d), L9, e9⟩ by rw [← HF.out]; unfold moreF; rw [if_neg hk])
      have C1 := Lib.hid (fun W h => CAN.out W L9 e9 h (by omega) hk)
      clear hk HF
      rw [HF2.out] at HB2
      dsimp only at HB2
      go_wp2_with fail
      refine (C1.out _ E.out.scan).mono ?_
      rintro r w17 ⟨rfl, s7, o7⟩
      have E7 := Lib.hid (E.out.step s7 o7)
      clear s7 o7 E
      go_wp2_with fail
      refine (CE.out _ L9 e9 ⟨#[41]⟩ E7.out.scan (by omega)).mono ?_
      rintro r w30 ⟨rfl, s30, o30⟩
      have E30 := Lib.hid (E7.out.step s30 o30)
      clear s30 o30
      
      have C0 : w30.cell? ⟨q, 0, none⟩ = some (.int .i64 3) := E30.out.box.cell 0
      have C1 : w30.cell? ⟨q, 1, none⟩ = some (.int .i64 0) := E30.out.box.cell 1
      have C2 : w30.cell? ⟨q, 2, none⟩ = some (.int .i64 0) := E30.out.box.cell 2
      have C3 : w30.cell? ⟨q, 3, none⟩ = some (.int .i64 0) := E30.out.box.cell 3
      have C4 : w30.cell? ⟨q, 4, none⟩ = some (.int .i64 0) := E30.out.box.cell 4
      have C5 : w30.cell? ⟨q, 5, none⟩ = some (.int .i64 0) := E30.out.box.cell 5
      have C6 : w30.cell? ⟨q, 6, none⟩ = some (.int .i64 0) := E30.out.box.cell 6
      have C7 : w30.cell? ⟨q, 7, none⟩ = some (.int .i64 0) := E30.out.box.cell 7
      have C8 : w30.cell? ⟨q, 8, none⟩ = some (.slice Aq ks.length cq) := E30.out.box.cell 8
      have Cl := E30.out.box.lt
      have D0 : w30.cell? ⟨w.heap.size, 0, none⟩ = some (.int .i64 0) := E30.out.res.cell 0
      have Df0 := E30.out.res.free 0
      have D1 : w30.cell? ⟨w.heap.size, 1, none⟩ = some (.int .i64 0) := E30.out.res.cell 1
      have Df1 := E30.out.res.free 1
      have D2 : w30.cell? ⟨w.heap.size, 2, none⟩ = some (.int .i64 0) := E30.out.res.cell 2
      have Df2 := E30.out.res.free 2
      have D3 : w30.cell? ⟨w.heap.size, 3, none⟩ = some (.int .i64 0) := E30.out.res.cell 3
      have Df3 := E30.out.res.free 3
      have D4 : w30.cell? ⟨w.heap.size, 4, none⟩ = some (.int .i64 0) := E30.out.res.cell 4
      have Df4 := E30.out.res.free 4
      have D5 : w30.cell? ⟨w.heap.size, 5, none⟩ = some (.int .i64 0) := E30.out.res.cell 5
      have Df5 := E30.out.res.free 5
      have D6 : w30.cell? ⟨w.heap.size, 6, none⟩ = some (.int .i64 0) := E30.out.res.cell 6
      have Df6 := E30.out.res.free 6
      have D7 : w30.cell? ⟨w.heap.size, 7, none⟩ = some (.int .i64 0) := E30.out.res.cell 7
      have Df7 := E30.out.res.free 7
      have D8 : w30.cell? ⟨w.heap.size, 8, none⟩ = some (.slice none 0 0) := E30.out.res.cell 8
      have Df8 := E30.out.res.free 8
      have Dl := E30.out.res.lt
      have hxq30 := E30.out.far
      have hne1 : (q == w.heap.size) = false := by simp; omega
      have hne2 : (w.heap.size == q) = false := by simp; omega
      have hne3 : ¬ q = w.heap.size := by omega
      have hne4 : ¬ w.heap.size = q := by omega
      try dsimp only
      iterate 13 (first | go_values | go_skip | go_guarded | go_step | go_upon)
      have Z9 : InP (fun b => w.heap.size ≤ b) (d + 1) (((((((((w30.setCell ⟨w.heap.size, 0, none⟩ (.int .i64 3)).setCell ⟨w.heap.size, 1, none⟩ (.int .i64 0)).setCell ⟨w.heap.size, 2, none⟩ (.int .i64 0)).setCell ⟨w.heap.size, 3, none⟩ (.int .i64 0)).setCell ⟨w.heap.size, 4, none⟩ (.int .i64 0)).setCell ⟨w.heap.size, 5, none⟩ (.int .i64 0)).setCell ⟨w.heap.size, 6, none⟩ (.int .i64 0)).setCell ⟨w.heap.size, 7, none⟩ (.int .i64 0)).setCell ⟨w.heap.size, 8, none⟩ (.slice Aq ks.length cq)) (.mk 3 zero6 0 Aq cq ks) ∧ Scan 73 125 (((((((((w30.setCell ⟨w.heap.size, 0, none⟩ (.int .i64 3)).setCell ⟨w.heap.size, 1, none⟩ (.int .i64 0)).setCell ⟨w.heap.size, 2, none⟩ (.int .i64 0)).setCell ⟨w.heap.size, 3, none⟩ (.int .i64 0)).setCell ⟨w.heap.size, 4, none⟩ (.int .i64 0)).setCell ⟨w.heap.size, 5, none⟩ (.int .i64 0)).setCell ⟨w.heap.size, 6, none⟩ (.int .i64 0)).setCell ⟨w.heap.size, 7, none⟩ (.int .i64 0)).setCell ⟨w.heap.size, 8, none⟩ (.slice Aq ks.length cq)) g (expL L9 e9 ⟨#[41]⟩) (expE L9 e9 ⟨#[41]⟩) ∧ Only g w (((((((((w30.setCell ⟨w.heap.size, 0, none⟩ (.int .i64 3)).setCell ⟨w.heap.size, 1, none⟩ (.int .i64 0)).setCell ⟨w.heap.size, 2, none⟩ (.int .i64 0)).setCell ⟨w.heap.size, 3, none⟩ (.int .i64 0)).setCell ⟨w.heap.size, 4, none⟩ (.int .i64 0)).setCell ⟨w.heap.size, 5, none⟩ (.int .i64 0)).setCell ⟨w.heap.size, 6, none⟩ (.int .i64 0)).setCell ⟨w.heap.size, 7, none⟩ (.int .i64 0)).setCell ⟨w.heap.size, 8, none⟩ (.slice Aq ks.length cq)) := E30.out.done (by decide) (by decide)
      have R9 : Blk (((((((((w30.setCell ⟨w.heap.size, 0, none⟩ (.int .i64 3)).setCell ⟨w.heap.size, 1, none⟩ (.int .i64 0)).setCell ⟨w.heap.size, 2, none⟩ (.int .i64 0)).setCell ⟨w.heap.size, 3, none⟩ (.int .i64 0)).setCell ⟨w.heap.size, 4, none⟩ (.int .i64 0)).setCell ⟨w.heap.size, 5, none⟩ (.int .i64 0)).setCell ⟨w.heap.size, 6, none⟩ (.int .i64 0)).setCell ⟨w.heap.size, 7, none⟩ (.int .i64 0)).setCell ⟨w.heap.size, 8, none⟩ (.slice Aq ks.length cq)) w.heap.size 28 (cells9 3 0 zero6 Aq ks.length cq) := blk_put9 (op := 3) (v := 0) (p := zero6) (A := Aq) (n := ks.length) (c := cq) E30.out.res
      generalize ((((((((w30.setCell ⟨w.heap.size, 0, none⟩ (.int .i64 3)).setCell ⟨w.heap.size, 1, none⟩ (.int .i64 0)).setCell ⟨w.heap.size, 2, none⟩ (.int .i64 0)).setCell ⟨w.heap.size, 3, none⟩ (.int .i64 0)).setCell ⟨w.heap.size, 4, none⟩ (.int .i64 0)).setCell ⟨w.heap.size, 5, none⟩ (.int .i64 0)).setCell ⟨w.heap.size, 6, none⟩ (.int .i64 0)).setCell ⟨w.heap.size, 7, none⟩ (.int .i64 0)).setCell ⟨w.heap.size, 8, none⟩ (.slice Aq ks.length cq) = w31 at *
      have Z9 := Lib.hid Z9
      have R9 := Lib.hid R9
      clear C0 C1 C2 C3 C4 C5 C6 C7 C8 Cl
      clear D0 Df0 D1 Df1 D2 Df2 D3 Df3 D4 Df4 D5 Df5 D6 Df6 D7 Df7 D8 Df8 Dl
      clear E30 hne1 hne2 hne3 hne4
      repeat (first | go_values | go_skip | go_guarded | go_step | go_upon)
      exact bodyPost_ret (v := .agg (cells9 3 0 zero6 Aq ks.length cq)) (results_blk rfl rfl R9.out Tryz.underlying28 rfl (by kernel_rfl)) rfl (by
        rw [HB2.out]
        exact ⟨.mk 3 zero6 0 Aq cq ks, rfl, rfl, Z9.out.1, Z9.out.2.1, Z9.out.2.2⟩)
set_option maxHeartbeats 8000000 in
set_option maxRecDepth 100000 in
theorem rexpr_4 (l : List Prod) (d : Nat) (A : Option Addr) (c : Nat) (L : List Tok) (g : Nat) (w : World) (hz : checkE l = 0) (hp : PS w (.slice A l.length c) l) (hA : ∀ b o, A = some ⟨b, o, none⟩ → b ≠ g) (hs : Scan 73 125 w g L 0) (hm : L.length ≤ 5000) (h0 : 0 < L.length) (f : List Tok → Int → PX) (hf : ∀ L e, (f L e).L.length ≤ L.length) (hk : (peekT L 0).kind = 1) (hop : opW (peekT L 0).text = 4)
    (HARG : ∀ L' e' W, L'.length < L.length → Only g w W → Scan 73 125 W g L' e' → Calls Tryz.prog 41 #[.slice A l.length c, .pointer (some ⟨g, 0, none⟩)] W (RExprPost d (f L' e') g W)) : Calls Tryz.prog 41 #[.slice A l.length c, .pointer (some ⟨g, 0, none⟩)] w (RExprPost (d + 1) (rbodyX l f 4 (rfirstX f L 0)) g w) := by
  have hg := hs.lt
  have hT : nameT L 0 = (peekT L 0).text := by unfold nameT; rw [if_pos hk]
  have hE : nameE L 0 = 0 := by unfold nameE; rw [if_pos hk]
  have hL : nameL L 0 = nextL L 0 := by unfold nameL; rw [if_pos hk]
  have CP := Lib.hid fun W (h : Scan 73 125 W g L 0) => rpeek_any L 0 g W h (small_len hm)
  have CN := Lib.hid fun W (h : Scan 73 125 W g L 0) => rname_any L 0 g W h (small_len hm)
  rw [hT, hE, hL] at CN
  have CR := Lib.hid fun W (k : Only g w W) L' e' (h : Scan 73 125 W g L' e') (hm' : L'.length ≤ 5000) => rpriced_any l A c L' e' g W hz (ref_only hp hA k) hA h hm'
  have CE := Lib.hid fun W L' e' m (h : Scan 73 125 W g L' e') (hm' : L'.length ≤ 5000) => rexpect_any L' e' g m W h (small_len hm')
  have CM := Lib.hid fun W L' e' (h : Scan 73 125 W g L' e') (hm' : L'.length ≤ 5000) => ramount_any L' e' 1000000 g W h (small_len hm')
  have hN1 : (nextL L 0).length < L.length := by unfold nextL; rw [if_pos rfl, List.length_tail]; omega
  have hL1 := expL_len (nextL L 0) 0 ⟨#[40]⟩
  have HA1 := Lib.hid fun W k h => HARG (expL (nextL L 0) 0 ⟨#[40]⟩) (expE (nextL L 0) 0 ⟨#[40]⟩) W (by omega) k h
  have HARG := Lib.hid HARG
  have hal := hf (expL (nextL L 0) 0 ⟨#[40]⟩) (expE (nextL L 0) 0 ⟨#[40]⟩)
  unfold rfirstX
  rw [hE, hL]
  have hop2 := opW_lit.2.2.1 hop
  have CX := Lib.hid fun W (h : Scan 73 125 W g (nextL L 0) 0) => CE.out W (nextL L 0) 0 ⟨#[40]⟩ h (by omega)
  generalize expE (nextL L 0) 0 ⟨#[40]⟩ = ex at *
  generalize expL (nextL L 0) 0 ⟨#[40]⟩ = Lx at *
  generalize nextL L 0 = Ln at *
  generalize hfa : f Lx ex = a at *
  clear hfa
  obtain ⟨ax, aL, ae⟩ := a
  dsimp only at hal
  have haL : aL.length ≤ 5000 := by omega
  clear hop hT hE hL
  generalize peekT L 0 = t at *
  obtain ⟨tk, tt, tv, tp⟩ := t
  dsimp only at CP CN hk hop2
  subst hk hop2
  generalize hB : rbodyX l f 4 ⟨ax, aL, ae⟩ = qr
  have HB := Lib.hid hB
  clear hB
  
  have S2 := Lib.hid (hs.below (below_new w (.cells (cells9 0 0 zero6 none 0 0) 28)))
  have K2 := Lib.hid (Blk.new w 28 (cells9 0 0 zero6 none 0 0))
  have O2 := Lib.hid ((Only.refl g w).alloc (.cells (cells9 0 0 zero6 none 0 0) 28))
  clear hs hp hA
  go_enter Tryz.func41, Tryz.ntmps41
  go_wp2_with fail
  refine (CP.out _ S2.out).mono ?_
  rintro r w2 ⟨rfl, b2⟩
  have S3 := Lib.hid ((S2.out.below b2).below (below_new w2 (.cells #[.int .i64 1, .string ⟨#[98, 111, 110, 117, 115]⟩, .int .i64 tv, .int .i64 tp] 125)))
  have K3 := Lib.hid ((K2.out.below' b2).alloc (.cells #[.int .i64 1, .string ⟨#[98, 111, 110, 117, 115]⟩, .int .i64 tv, .int .i64 tp] 125))
  have O3 := Lib.hid ((O2.out.then_below b2).alloc (.cells #[.int .i64 1, .string ⟨#[98, 111, 110, 117, 115]⟩, .int .i64 tv, .int .i64 tp] 125))
  have KT := Lib.hid (Blk.new w2 125 #[.int .i64 1, .string ⟨#[98, 111, 110, 117, 115]⟩, .int .i64 tv, .int .i64 tp])
  have hkl : w.heap.size < w2.heap.size := (K2.out.below' b2).lt
  clear b2 S2 K2 O2
  go_upto_region 2 with fail
  generalize w2.alloc (.cells #[.int .i64 1, .string ⟨#[98, 111, 110, 117, 115]⟩, .int .i64 tv, .int .i64 tp] 125) = w3 at *
  have d4 := KT.out.c4
  go_wp2_with fail
  
  have E4 : Hid (YMid 28 73 125 w (w3.alloc (.cells #[.int .i64 0, .int .i64 0, .int .i64 0, .int .i64 0, .int .i64 0, .int .i64 0, .int .i64 0, .int .i64 0, .slice none 0 0] 28)) g w3.heap.size 0 0 zero6 none 0 d [] L 0) := ymid_new S3.out K3.out O3.out hg d
  clear S3 K3 O3 KT d4
  generalize w3.alloc (.cells #[.int .i64 0, .int .i64 0, .int .i64 0, .int .i64 0, .int .i64 0, .int .i64 0, .int .i64 0, .int .i64 0, .slice none 0 0] 28) = w4 at *
  generalize w3.heap.size = q at *
  refine (CN.out _ E4.out.scan).mono ?_
  rintro r w6 ⟨rfl, s6, o6⟩
  have E6 := Lib.hid (E4.out.step s6 o6)
  clear s6 o6 E4
  have C0 : w6.cell? ⟨q, 0, none⟩ = some (.int .i64 0) := E6.out.box.cell 0
  have Cf0 := E6.out.box.free 0
  have C1 : w6.cell? ⟨q, 1, none⟩ = some (.int .i64 0) := E6.out.box.cell 1
  have Cf1 := E6.out.box.free 1
  have C2 : w6.cell? ⟨q, 2, none⟩ = some (.int .i64 0) := E6.out.box.cell 2
  have Cf2 := E6.out.box.free 2
  have C3 : w6.cell? ⟨q, 3, none⟩ = some (.int .i64 0) := E6.out.box.cell 3
  have Cf3 := E6.out.box.free 3
  have C4 : w6.cell? ⟨q, 4, none⟩ = some (.int .i64 0) := E6.out.box.cell 4
  have Cf4 := E6.out.box.free 4
  have C5 : w6.cell? ⟨q, 5, none⟩ = some (.int .i64 0) := E6.out.box.cell 5
  have Cf5 := E6.out.box.free 5
  have C6 : w6.cell? ⟨q, 6, none⟩ = some (.int .i64 0) := E6.out.box.cell 6
  have Cf6 := E6.out.box.free 6
  have C7 : w6.cell? ⟨q, 7, none⟩ = some (.int .i64 0) := E6.out.box.cell 7
  have Cf7 := E6.out.box.free 7
  have C8 : w6.cell? ⟨q, 8, none⟩ = some (.slice none 0 0) := E6.out.box.cell 8
  have Cf8 := E6.out.box.free 8
  have Cl := E6.out.box.lt
  go_wp2_with fail
  have E7 : Hid (YMid 28 73 125 w (w6.setCell ⟨q, 0, none⟩ (.int .i64 4)) g q 4 0 zero6 none 0 d [] Ln 0) := E6.out.setOp (by decide) (by decide) 4
  generalize w6.setCell ⟨q, 0, none⟩ (.int .i64 4) = w7 at *
  clear C0 Cf0 C1 Cf1 C2 Cf2 C3 Cf3 C4 Cf4 C5 Cf5 C6 Cf6 C7 Cf7 C8 Cf8 Cl
  clear E6
  refine (CX.out _ E7.out.scan).mono ?_
  rintro r w8 ⟨rfl, s8, o8⟩
  have E8 := Lib.hid (E7.out.step s8 o8)
  clear s8 o8 E7
  go_wp2_with fail
  refine (HA1.out _ E8.out.only E8.out.scan).mono ?_
  rintro r w9 ⟨ta, rfl, hx9, hi9, s9, o9⟩
  have HXa : Hid (xF d ta = ax) := hx9
  have E9 := Lib.hid (E8.out.step s9 o9)
  have HI := Lib.hid (hi9.mono (ok' := fun b => q < b) (fun b _ ok => by have := E8.out.box.lt; omega))
  clear s9 o9 hx9 hi9
  have E10 := Lib.hid (E9.out.first (by decide) (by decide) ta HI.out)
  have kq9 : w9.cell? ⟨q, 8, none⟩ = some (.slice none 0 0) := E9.out.box.cell 8
  have kf9 := E9.out.box.free 8
  have lq9 := E9.out.box.lt
  have hT2 : xF d ta = ax := HXa.out
  obtain ⟨ta, hta⟩ : ∃ t, t = ta := ⟨ta, rfl⟩
  subst hta
  obtain ⟨op9, p9, v9, B9, cb9, ks9⟩ := ta
  dsimp only [Tree.val, Tree.op, Tree.want, Tree.value, Tree.a, Tree.c, Tree.args]
  go_upto_region 19 with fail
  have E10 : Hid (YMid 28 73 125 w ((w9.setCell ⟨q, 8, none⟩ (.slice (some ⟨w9.heap.size, 0, none⟩) 1 1)).alloc (.cells #[.int .i64 op9, .int .i64 (p9 0), .int .i64 (p9 1), .int .i64 (p9 2), .int .i64 (p9 3), .int .i64 (p9 4), .int .i64 (p9 5), .int .i64 v9, .slice B9 ks9.length cb9] 28)) g q 4 0 zero6 (some ⟨w9.heap.size, 0, none⟩) 1 d [.mk op9 p9 v9 B9 cb9 ks9] aL ae) := by
    show YMid _ _ _ _ _ _ _ _ _ _ _ _ _ _ _ _
    rw [← World.setCell_alloc_past _ q 8 _ lq9]
    exact E10.out
  generalize (w9.setCell ⟨q, 8, none⟩ (.slice (some ⟨w9.heap.size, 0, none⟩) 1 1)).alloc (.cells #[.int .i64 op9, .int .i64 (p9 0), .int .i64 (p9 1), .int .i64 (p9 2), .int .i64 (p9 3), .int .i64 (p9 4), .int .i64 (p9 5), .int .i64 v9, .slice B9 ks9.length cb9] 28) = w10 at *
  generalize w9.heap.size = b2 at *
  clear E8 E9 HI kq9 kf9 lq9 hT2
  generalize Tree.mk op9 p9 v9 B9 cb9 ks9 = ta at *
  have k10 : w10.cell? ⟨q, 0, none⟩ = some (.int .i64 4) := E10.out.box.cell 0
  have l10 := E10.out.box.lt
  
  have hbx : rbodyX l f 4 ⟨ax, aL, ae⟩ = closeX ⟨.mk 4 (n6 (rpricedF l (expL aL ae ⟨#[44]⟩) (expE aL ae ⟨#[44]⟩)).b) (rpricedF l (expL aL ae ⟨#[44]⟩) (expE aL ae ⟨#[44]⟩)).v [ax], (rpricedF l (expL aL ae ⟨#[44]⟩) (expE aL ae ⟨#[44]⟩)).L, (rpricedF l (expL aL ae ⟨#[44]⟩) (expE aL ae ⟨#[44]⟩)).e⟩ := by
    unfold rbodyX
    rw [if_neg (by decide), if_pos rfl]
  have HB2 := Lib.hid (HB.out.symm.trans hbx)
  clear hbx HB
  have hL22 := expL_len aL ae ⟨#[44]⟩
  go_wp2_with fail
  refine (CE.out _ aL ae ⟨#[44]⟩ E10.out.scan (by omega)).mono ?_
  rintro r w22 ⟨rfl, s22, o22⟩
  have E22 := Lib.hid (E10.out.step s22 o22)
  clear s22 o22
  clear E10
  generalize expL aL ae ⟨#[44]⟩ = L22 at *
  generalize expE aL ae ⟨#[44]⟩ = e22 at *
  have hpl := rpriced_len (l := l) (L := L22) (e := e22)
  have CRx := Lib.hid fun W (k : Only g w W) (h : Scan 73 125 W g L22 e22) => CR.out W k L22 e22 h (by omega)
  generalize rpricedF l L22 e22 = pq at *
  obtain ⟨qb, qv, qL, qe⟩ := pq
  dsimp only at hpl CRx HB2
  go_wp2_with fail
  refine (CRx.out _ E22.out.only E22.out.scan).mono ?_
  rintro r w23 ⟨rfl, s23, o23⟩
  have E23 := Lib.hid (E22.out.step s23 o23)
  have E24 := Lib.hid (E23.out.below (below_new w23 (.cells (arr qb) 25)))
  have Q24 := Lib.hid (Blk.new w23 25 (arr qb))
  have lq23 := E23.out.box.lt
  clear s23 o23 E22
  unfold arr at *
  go_upto_region 29 with fail
  generalize w23.alloc (.cells #[.int .i64 (qb 0), .int .i64 (qb 1), .int .i64 (qb 2), .int .i64 (qb 3), .int .i64 (qb 4), .int .i64 (qb 5)] 25) = w24 at *
  generalize w23.heap.size = y at *
  clear E23
  have Y0 : w24.cell? ⟨y, 0, none⟩ = some (.int .i64 (qb 0)) := Q24.out.cell 0
  have Y1 : w24.cell? ⟨y, 1, none⟩ = some (.int .i64 (qb 1)) := Q24.out.cell 1
  have Y2 : w24.cell? ⟨y, 2, none⟩ = some (.int .i64 (qb 2)) := Q24.out.cell 2
  have Y3 : w24.cell? ⟨y, 3, none⟩ = some (.int .i64 (qb 3)) := Q24.out.cell 3
  have Y4 : w24.cell? ⟨y, 4, none⟩ = some (.int .i64 (qb 4)) := Q24.out.cell 4
  have Y5 : w24.cell? ⟨y, 5, none⟩ = some (.int .i64 (qb 5)) := Q24.out.cell 5
  have Yl := Q24.out.lt
  have C0 : w24.cell? ⟨q, 0, none⟩ = some (.int .i64 4) := E24.out.box.cell 0
  have Cf0 := E24.out.box.free 0
  have C1 : w24.cell? ⟨q, 1, none⟩ = some (.int .i64 0) := E24.out.box.cell 1
  have Cf1 := E24.out.box.free 1
  have C2 : w24.cell? ⟨q, 2, none⟩ = some (.int .i64 0) := E24.out.box.cell 2
  have Cf2 := E24.out.box.free 2
  have C3 : w24.cell? ⟨q, 3, none⟩ = some (.int .i64 0) := E24.out.box.cell 3
  have Cf3 := E24.out.box.free 3
  have C4 : w24.cell? ⟨q, 4, none⟩ = some (.int .i64 0) := E24.out.box.cell 4
  have Cf4 := E24.out.box.free 4
  have C5 : w24.cell? ⟨q, 5, none⟩ = some (.int .i64 0) := E24.out.box.cell 5
  have Cf5 := E24.out.box.free 5
  have C6 : w24.cell? ⟨q, 6, none⟩ = some (.int .i64 0) := E24.out.box.cell 6
  have Cf6 := E24.out.box.free 6
  have C7 : w24.cell? ⟨q, 7, none⟩ = some (.int .i64 0) := E24.out.box.cell 7
  have Cf7 := E24.out.box.free 7
  have C8 : w24.cell? ⟨q, 8, none⟩ = some (.slice (some ⟨b2, 0, none⟩) 1 1) := E24.out.box.cell 8
  have Cf8 := E24.out.box.free 8
  have Cl := E24.out.box.lt
  have hqy : (y == q) = false := by simp; omega
  have hqy2 : (q == y) = false := by simp; omega
  go_upto_region 31 with fail
  have E25 : Hid (YMid 28 73 125 w (((((((w24.setCell ⟨q, 1, none⟩ (.int .i64 (qb 0))).setCell ⟨q, 2, none⟩ (.int .i64 (qb 1))).setCell ⟨q, 3, none⟩ (.int .i64 (qb 2))).setCell ⟨q, 4, none⟩ (.int .i64 (qb 3))).setCell ⟨q, 5, none⟩ (.int .i64 (qb 4))).setCell ⟨q, 6, none⟩ (.int .i64 (qb 5))).setCell ⟨q, 7, none⟩ (.int .i64 qv)) g q 4 qv qb (some ⟨b2, 0, none⟩) 1 d [ta] qL qe) := E24.out.put7 (by decide) (by decide) qv qb
  generalize ((((((w24.setCell ⟨q, 1, none⟩ (.int .i64 (qb 0))).setCell ⟨q, 2, none⟩ (.int .i64 (qb 1))).setCell ⟨q, 3, none⟩ (.int .i64 (qb 2))).setCell ⟨q, 4, none⟩ (.int .i64 (qb 3))).setCell ⟨q, 5, none⟩ (.int .i64 (qb 4))).setCell ⟨q, 6, none⟩ (.int .i64 (qb 5))).setCell ⟨q, 7, none⟩ (.int .i64 qv) = w25 at *
  clear C0 Cf0 C1 Cf1 C2 Cf2 C3 Cf3 C4 Cf4 C5 Cf5 C6 Cf6 C7 Cf7 C8 Cf8 Cl
  clear Y0 Y1 Y2 Y3 Y4 Y5 Yl
  clear E24 Q24 hqy hqy2
  go_wp2_with fail
  refine (CE.out _ qL qe ⟨#[41]⟩ E25.out.scan (by omega)).mono ?_
  rintro r w30 ⟨rfl, s30, o30⟩
  have E30 := Lib.hid (E25.out.step s30 o30)
  clear s30 o30
  
  have C0 : w30.cell? ⟨q, 0, none⟩ = some (.int .i64 4) := E30.out.box.cell 0
  have C1 : w30.cell? ⟨q, 1, none⟩ = some (.int .i64 (qb 0)) := E30.out.box.cell 1
  have C2 : w30.cell? ⟨q, 2, none⟩ = some (.int .i64 (qb 1)) := E30.out.box.cell 2
  have C3 : w30.cell? ⟨q, 3, none⟩ = some (.int .i64 (qb 2)) := E30.out.box.cell 3
  have C4 : w30.cell? ⟨q, 4, none⟩ = some (.int .i64 (qb 3)) := E30.out.box.cell 4
  have C5 : w30.cell? ⟨q, 5, none⟩ = some (.int .i64 (qb 4)) := E30.out.box.cell 5
  have C6 : w30.cell? ⟨q, 6, none⟩ = some (.int .i64 (qb 5)) := E30.out.box.cell 6
  have C7 : w30.cell? ⟨q, 7, none⟩ = some (.int .i64 qv) := E30.out.box.cell 7
  have C8 : w30.cell? ⟨q, 8, none⟩ = some (.slice (some ⟨b2, 0, none⟩) 1 1) := E30.out.box.cell 8
  have Cl := E30.out.box.lt
  have D0 : w30.cell? ⟨w.heap.size, 0, none⟩ = some (.int .i64 0) := E30.out.res.cell 0
  have Df0 := E30.out.res.free 0
  have D1 : w30.cell? ⟨w.heap.size, 1, none⟩ = some (.int .i64 0) := E30.out.res.cell 1
  have Df1 := E30.out.res.free 1
  have D2 : w30.cell? ⟨w.heap.size, 2, none⟩ = some (.int .i64 0) := E30.out.res.cell 2
  have Df2 := E30.out.res.free 2
  have D3 : w30.cell? ⟨w.heap.size, 3, none⟩ = some (.int .i64 0) := E30.out.res.cell 3
  have Df3 := E30.out.res.free 3
  have D4 : w30.cell? ⟨w.heap.size, 4, none⟩ = some (.int .i64 0) := E30.out.res.cell 4
  have Df4 := E30.out.res.free 4
  have D5 : w30.cell? ⟨w.heap.size, 5, none⟩ = some (.int .i64 0) := E30.out.res.cell 5
  have Df5 := E30.out.res.free 5
  have D6 : w30.cell? ⟨w.heap.size, 6, none⟩ = some (.int .i64 0) := E30.out.res.cell 6
  have Df6 := E30.out.res.free 6
  have D7 : w30.cell? ⟨w.heap.size, 7, none⟩ = some (.int .i64 0) := E30.out.res.cell 7
  have Df7 := E30.out.res.free 7
  have D8 : w30.cell? ⟨w.heap.size, 8, none⟩ = some (.slice none 0 0) := E30.out.res.cell 8
  have Df8 := E30.out.res.free 8
  have Dl := E30.out.res.lt
  have hxq30 := E30.out.far
  have hne1 : (q == w.heap.size) = false := by simp; omega
  have hne2 : (w.heap.size == q) = false := by simp; omega
  have hne3 : ¬ q = w.heap.size := by omega
  have hne4 : ¬ w.heap.size = q := by omega
  try dsimp only
  iterate 13 (first | go_values | go_skip | go_guarded | go_step | go_upon)
  have Z9 : InP (fun b => w.heap.size ≤ b) (d + 1) (((((((((w30.setCell ⟨w.heap.size, 0, none⟩ (.int .i64 4)).setCell ⟨w.heap.size, 1, none⟩ (.int .i64 (qb 0))).setCell ⟨w.heap.size, 2, none⟩ (.int .i64 (qb 1))).setCell ⟨w.heap.size, 3, none⟩ (.int .i64 (qb 2))).setCell ⟨w.heap.size, 4, none⟩ (.int .i64 (qb 3))).setCell ⟨w.heap.size, 5, none⟩ (.int .i64 (qb 4))).setCell ⟨w.heap.size, 6, none⟩ (.int .i64 (qb 5))).setCell ⟨w.heap.size, 7, none⟩ (.int .i64 qv)).setCell ⟨w.heap.size, 8, none⟩ (.slice (some ⟨b2, 0, none⟩) 1 1)) (.mk 4 qb qv (some ⟨b2, 0, none⟩) 1 [ta]) ∧ Scan 73 125 (((((((((w30.setCell ⟨w.heap.size, 0, none⟩ (.int .i64 4)).setCell ⟨w.heap.size, 1, none⟩ (.int .i64 (qb 0))).setCell ⟨w.heap.size, 2, none⟩ (.int .i64 (qb 1))).setCell ⟨w.heap.size, 3, none⟩ (.int .i64 (qb 2))).setCell ⟨w.heap.size, 4, none⟩ (.int .i64 (qb 3))).setCell ⟨w.heap.size, 5, none⟩ (.int .i64 (qb 4))).setCell ⟨w.heap.size, 6, none⟩ (.int .i64 (qb 5))).setCell ⟨w.heap.size, 7, none⟩ (.int .i64 qv)).setCell ⟨w.heap.size, 8, none⟩ (.slice (some ⟨b2, 0, none⟩) 1 1)) g (expL qL qe ⟨#[41]⟩) (expE qL qe ⟨#[41]⟩) ∧ Only g w (((((((((w30.setCell ⟨w.heap.size, 0, none⟩ (.int .i64 4)).setCell ⟨w.heap.size, 1, none⟩ (.int .i64 (qb 0))).setCell ⟨w.heap.size, 2, none⟩ (.int .i64 (qb 1))).setCell ⟨w.heap.size, 3, none⟩ (.int .i64 (qb 2))).setCell ⟨w.heap.size, 4, none⟩ (.int .i64 (qb 3))).setCell ⟨w.heap.size, 5, none⟩ (.int .i64 (qb 4))).setCell ⟨w.heap.size, 6, none⟩ (.int .i64 (qb 5))).setCell ⟨w.heap.size, 7, none⟩ (.int .i64 qv)).setCell ⟨w.heap.size, 8, none⟩ (.slice (some ⟨b2, 0, none⟩) 1 1)) := E30.out.done (by decide) (by decide)
  have R9 : Blk (((((((((w30.setCell ⟨w.heap.size, 0, none⟩ (.int .i64 4)).setCell ⟨w.heap.size, 1, none⟩ (.int .i64 (qb 0))).setCell ⟨w.heap.size, 2, none⟩ (.int .i64 (qb 1))).setCell ⟨w.heap.size, 3, none⟩ (.int .i64 (qb 2))).setCell ⟨w.heap.size, 4, none⟩ (.int .i64 (qb 3))).setCell ⟨w.heap.size, 5, none⟩ (.int .i64 (qb 4))).setCell ⟨w.heap.size, 6, none⟩ (.int .i64 (qb 5))).setCell ⟨w.heap.size, 7, none⟩ (.int .i64 qv)).setCell ⟨w.heap.size, 8, none⟩ (.slice (some ⟨b2, 0, none⟩) 1 1)) w.heap.size 28 (cells9 4 qv qb (some ⟨b2, 0, none⟩) 1 1) := blk_put9 (op := 4) (v := qv) (p := qb) (A := (some ⟨b2, 0, none⟩)) (n := 1) (c := 1) E30.out.res
  generalize ((((((((w30.setCell ⟨w.heap.size, 0, none⟩ (.int .i64 4)).setCell ⟨w.heap.size, 1, none⟩ (.int .i64 (qb 0))).setCell ⟨w.heap.size, 2, none⟩ (.int .i64 (qb 1))).setCell ⟨w.heap.size, 3, none⟩ (.int .i64 (qb 2))).setCell ⟨w.heap.size, 4, none⟩ (.int .i64 (qb 3))).setCell ⟨w.heap.size, 5, none⟩ (.int .i64 (qb 4))).setCell ⟨w.heap.size, 6, none⟩ (.int .i64 (qb 5))).setCell ⟨w.heap.size, 7, none⟩ (.int .i64 qv)).setCell ⟨w.heap.size, 8, none⟩ (.slice (some ⟨b2, 0, none⟩) 1 1) = w31 at *
  have Z9 := Lib.hid Z9
  have R9 := Lib.hid R9
  clear C0 C1 C2 C3 C4 C5 C6 C7 C8 Cl
  clear D0 Df0 D1 Df1 D2 Df2 D3 Df3 D4 Df4 D5 Df5 D6 Df6 D7 Df7 D8 Df8 Dl
  clear E30 hne1 hne2 hne3 hne4
  repeat (first | go_values | go_skip | go_guarded | go_step | go_upon)
  exact bodyPost_ret (v := .agg (cells9 4 qv qb (some ⟨b2, 0, none⟩) 1 1)) (results_blk rfl rfl R9.out Tryz.underlying28 rfl (by kernel_rfl)) rfl (by
    rw [HB2.out]
    exact ⟨.mk 4 qb qv (some ⟨b2, 0, none⟩) 1 [ta], rfl, by rw [← HXa.out]; rfl, Z9.out.1, Z9.out.2.1, Z9.out.2.2⟩)
set_option maxHeartbeats 8000000 in
set_option maxRecDepth 100000 in
theorem rexpr_5 (l : List Prod) (d : Nat) (A : Option Addr) (c : Nat) (L : List Tok) (g : Nat) (w : World) (hz : checkE l = 0) (hp : PS w (.slice A l.length c) l) (hA : ∀ b o, A = some ⟨b, o, none⟩ → b ≠ g) (hs : Scan 73 125 w g L 0) (hm : L.length ≤ 5000) (h0 : 0 < L.length) (f : List Tok → Int → PX) (hf : ∀ L e, (f L e).L.length ≤ L.length) (hk : (peekT L 0).kind = 1) (hop : opW (peekT L 0).text = 5)
    (HARG : ∀ L' e' W, L'.length < L.length → Only g w W → Scan 73 125 W g L' e' → Calls Tryz.prog 41 #[.slice A l.length c, .pointer (some ⟨g, 0, none⟩)] W (RExprPost d (f L' e') g W)) : Calls Tryz.prog 41 #[.slice A l.length c, .pointer (some ⟨g, 0, none⟩)] w (RExprPost (d + 1) (rbodyX l f 5 (rfirstX f L 0)) g w) := by
  have hg := hs.lt
  have hT : nameT L 0 = (peekT L 0).text := by unfold nameT; rw [if_pos hk]
  have hE : nameE L 0 = 0 := by unfold nameE; rw [if_pos hk]
  have hL : nameL L 0 = nextL L 0 := by unfold nameL; rw [if_pos hk]
  have CP := Lib.hid fun W (h : Scan 73 125 W g L 0) => rpeek_any L 0 g W h (small_len hm)
  have CN := Lib.hid fun W (h : Scan 73 125 W g L 0) => rname_any L 0 g W h (small_len hm)
  rw [hT, hE, hL] at CN
  have CR := Lib.hid fun W (k : Only g w W) L' e' (h : Scan 73 125 W g L' e') (hm' : L'.length ≤ 5000) => rpriced_any l A c L' e' g W hz (ref_only hp hA k) hA h hm'
  have CE := Lib.hid fun W L' e' m (h : Scan 73 125 W g L' e') (hm' : L'.length ≤ 5000) => rexpect_any L' e' g m W h (small_len hm')
  have CM := Lib.hid fun W L' e' (h : Scan 73 125 W g L' e') (hm' : L'.length ≤ 5000) => ramount_any L' e' 1000000 g W h (small_len hm')
  have hN1 : (nextL L 0).length < L.length := by unfold nextL; rw [if_pos rfl, List.length_tail]; omega
  have hL1 := expL_len (nextL L 0) 0 ⟨#[40]⟩
  have HA1 := Lib.hid fun W k h => HARG (expL (nextL L 0) 0 ⟨#[40]⟩) (expE (nextL L 0) 0 ⟨#[40]⟩) W (by omega) k h
  have HARG := Lib.hid HARG
  have hal := hf (expL (nextL L 0) 0 ⟨#[40]⟩) (expE (nextL L 0) 0 ⟨#[40]⟩)
  unfold rfirstX
  rw [hE, hL]
  have hop2 := opW_lit.2.2.2.1 hop
  have CX := Lib.hid fun W (h : Scan 73 125 W g (nextL L 0) 0) => CE.out W (nextL L 0) 0 ⟨#[40]⟩ h (by omega)
  generalize expE (nextL L 0) 0 ⟨#[40]⟩ = ex at *
  generalize expL (nextL L 0) 0 ⟨#[40]⟩ = Lx at *
  generalize nextL L 0 = Ln at *
  generalize hfa : f Lx ex = a at *
  clear hfa
  obtain ⟨ax, aL, ae⟩ := a
  dsimp only at hal
  have haL : aL.length ≤ 5000 := by omega
  clear hop hT hE hL
  generalize peekT L 0 = t at *
  obtain ⟨tk, tt, tv, tp⟩ := t
  dsimp only at CP CN hk hop2
  subst hk hop2
  generalize hB : rbodyX l f 5 ⟨ax, aL, ae⟩ = qr
  have HB := Lib.hid hB
  clear hB
  
  have S2 := Lib.hid (hs.below (below_new w (.cells (cells9 0 0 zero6 none 0 0) 28)))
  have K2 := Lib.hid (Blk.new w 28 (cells9 0 0 zero6 none 0 0))
  have O2 := Lib.hid ((Only.refl g w).alloc (.cells (cells9 0 0 zero6 none 0 0) 28))
  clear hs hp hA
  go_enter Tryz.func41, Tryz.ntmps41
  go_wp2_with fail
  refine (CP.out _ S2.out).mono ?_
  rintro r w2 ⟨rfl, b2⟩
  have S3 := Lib.hid ((S2.out.below b2).below (below_new w2 (.cells #[.int .i64 1, .string ⟨#[108, 105, 109, 105, 116]⟩, .int .i64 tv, .int .i64 tp] 125)))
  have K3 := Lib.hid ((K2.out.below' b2).alloc (.cells #[.int .i64 1, .string ⟨#[108, 105, 109, 105, 116]⟩, .int .i64 tv, .int .i64 tp] 125))
  have O3 := Lib.hid ((O2.out.then_below b2).alloc (.cells #[.int .i64 1, .string ⟨#[108, 105, 109, 105, 116]⟩, .int .i64 tv, .int .i64 tp] 125))
  have KT := Lib.hid (Blk.new w2 125 #[.int .i64 1, .string ⟨#[108, 105, 109, 105, 116]⟩, .int .i64 tv, .int .i64 tp])
  have hkl : w.heap.size < w2.heap.size := (K2.out.below' b2).lt
  clear b2 S2 K2 O2
  go_upto_region 2 with fail
  generalize w2.alloc (.cells #[.int .i64 1, .string ⟨#[108, 105, 109, 105, 116]⟩, .int .i64 tv, .int .i64 tp] 125) = w3 at *
  have d4 := KT.out.c4
  go_wp2_with fail
  
  have E4 : Hid (YMid 28 73 125 w (w3.alloc (.cells #[.int .i64 0, .int .i64 0, .int .i64 0, .int .i64 0, .int .i64 0, .int .i64 0, .int .i64 0, .int .i64 0, .slice none 0 0] 28)) g w3.heap.size 0 0 zero6 none 0 d [] L 0) := ymid_new S3.out K3.out O3.out hg d
  clear S3 K3 O3 KT d4
  generalize w3.alloc (.cells #[.int .i64 0, .int .i64 0, .int .i64 0, .int .i64 0, .int .i64 0, .int .i64 0, .int .i64 0, .int .i64 0, .slice none 0 0] 28) = w4 at *
  generalize w3.heap.size = q at *
  refine (CN.out _ E4.out.scan).mono ?_
  rintro r w6 ⟨rfl, s6, o6⟩
  have E6 := Lib.hid (E4.out.step s6 o6)
  clear s6 o6 E4
  have C0 : w6.cell? ⟨q, 0, none⟩ = some (.int .i64 0) := E6.out.box.cell 0
  have Cf0 := E6.out.box.free 0
  have C1 : w6.cell? ⟨q, 1, none⟩ = some (.int .i64 0) := E6.out.box.cell 1
  have Cf1 := E6.out.box.free 1
  have C2 : w6.cell? ⟨q, 2, none⟩ = some (.int .i64 0) := E6.out.box.cell 2
  have Cf2 := E6.out.box.free 2
  have C3 : w6.cell? ⟨q, 3, none⟩ = some (.int .i64 0) := E6.out.box.cell 3
  have Cf3 := E6.out.box.free 3
  have C4 : w6.cell? ⟨q, 4, none⟩ = some (.int .i64 0) := E6.out.box.cell 4
  have Cf4 := E6.out.box.free 4
  have C5 : w6.cell? ⟨q, 5, none⟩ = some (.int .i64 0) := E6.out.box.cell 5
  have Cf5 := E6.out.box.free 5
  have C6 : w6.cell? ⟨q, 6, none⟩ = some (.int .i64 0) := E6.out.box.cell 6
  have Cf6 := E6.out.box.free 6
  have C7 : w6.cell? ⟨q, 7, none⟩ = some (.int .i64 0) := E6.out.box.cell 7
  have Cf7 := E6.out.box.free 7
  have C8 : w6.cell? ⟨q, 8, none⟩ = some (.slice none 0 0) := E6.out.box.cell 8
  have Cf8 := E6.out.box.free 8
  have Cl := E6.out.box.lt
  go_wp2_with fail
  have E7 : Hid (YMid 28 73 125 w (w6.setCell ⟨q, 0, none⟩ (.int .i64 5)) g q 5 0 zero6 none 0 d [] Ln 0) := E6.out.setOp (by decide) (by decide) 5
  generalize w6.setCell ⟨q, 0, none⟩ (.int .i64 5) = w7 at *
  clear C0 Cf0 C1 Cf1 C2 Cf2 C3 Cf3 C4 Cf4 C5 Cf5 C6 Cf6 C7 Cf7 C8 Cf8 Cl
  clear E6
  refine (CX.out _ E7.out.scan).mono ?_
  rintro r w8 ⟨rfl, s8, o8⟩
  have E8 := Lib.hid (E7.out.step s8 o8)
  clear s8 o8 E7
  go_wp2_with fail
  refine (HA1.out _ E8.out.only E8.out.scan).mono ?_
  rintro r w9 ⟨ta, rfl, hx9, hi9, s9, o9⟩
  have HXa : Hid (xF d ta = ax) := hx9
  have E9 := Lib.hid (E8.out.step s9 o9)
  have HI := Lib.hid (hi9.mono (ok' := fun b => q < b) (fun b _ ok => by have := E8.out.box.lt; omega))
  clear s9 o9 hx9 hi9
  have E10 := Lib.hid (E9.out.first (by decide) (by decide) ta HI.out)
  have kq9 : w9.cell? ⟨q, 8, none⟩ = some (.slice none 0 0) := E9.out.box.cell 8
  have kf9 := E9.out.box.free 8
  have lq9 := E9.out.box.lt
  have hT2 : xF d ta = ax := HXa.out
  obtain ⟨ta, hta⟩ : ∃ t, t = ta := ⟨ta, rfl⟩
  subst hta
  obtain ⟨op9, p9, v9, B9, cb9, ks9⟩ := ta
  dsimp only [Tree.val, Tree.op, Tree.want, Tree.value, Tree.a, Tree.c, Tree.args]
  go_upto_region 19 with fail
  have E10 : Hid (YMid 28 73 125 w ((w9.setCell ⟨q, 8, none⟩ (.slice (some ⟨w9.heap.size, 0, none⟩) 1 1)).alloc (.cells #[.int .i64 op9, .int .i64 (p9 0), .int .i64 (p9 1), .int .i64 (p9 2), .int .i64 (p9 3), .int .i64 (p9 4), .int .i64 (p9 5), .int .i64 v9, .slice B9 ks9.length cb9] 28)) g q 5 0 zero6 (some ⟨w9.heap.size, 0, none⟩) 1 d [.mk op9 p9 v9 B9 cb9 ks9] aL ae) := by
    show YMid _ _ _ _ _ _ _ _ _ _ _ _ _ _ _ _
    rw [← World.setCell_alloc_past _ q 8 _ lq9]
    exact E10.out
  generalize (w9.setCell ⟨q, 8, none⟩ (.slice (some ⟨w9.heap.size, 0, none⟩) 1 1)).alloc (.cells #[.int .i64 op9, .int .i64 (p9 0), .int .i64 (p9 1), .int .i64 (p9 2), .int .i64 (p9 3), .int .i64 (p9 4), .int .i64 (p9 5), .int .i64 v9, .slice B9 ks9.length cb9] 28) = w10 at *
  generalize w9.heap.size = b2 at *
  clear E8 E9 HI kq9 kf9 lq9 hT2
  generalize Tree.mk op9 p9 v9 B9 cb9 ks9 = ta at *
  have k10 : w10.cell? ⟨q, 0, none⟩ = some (.int .i64 5) := E10.out.box.cell 0
  have l10 := E10.out.box.lt
  
  have hbx : rbodyX l f 5 ⟨ax, aL, ae⟩ = closeX ⟨.mk 5 (n6 zero6) (amtV (expL aL ae ⟨#[44]⟩) (expE aL ae ⟨#[44]⟩) 1000000) [ax], amtL (expL aL ae ⟨#[44]⟩) (expE aL ae ⟨#[44]⟩) 1000000, amtE (expL aL ae ⟨#[44]⟩) (expE aL ae ⟨#[44]⟩) 1000000⟩ := by
    unfold rbodyX
    rw [if_neg (by decide), if_neg (by decide)]
  have HB2 := Lib.hid (HB.out.symm.trans hbx)
  clear hbx HB
  have hL22 := expL_len aL ae ⟨#[44]⟩
  go_wp2_with fail
  refine (CE.out _ aL ae ⟨#[44]⟩ E10.out.scan (by omega)).mono ?_
  rintro r w22 ⟨rfl, s22, o22⟩
  have E22 := Lib.hid (E10.out.step s22 o22)
  clear s22 o22
  clear E10
  generalize expL aL ae ⟨#[44]⟩ = L22 at *
  generalize expE aL ae ⟨#[44]⟩ = e22 at *
  have hpl := amtL_len L22 e22 1000000
  have CMx := Lib.hid fun W (h : Scan 73 125 W g L22 e22) => CM.out W L22 e22 h (by omega)
  generalize amtV L22 e22 1000000 = v23 at *
  generalize amtL L22 e22 1000000 = qL at *
  generalize amtE L22 e22 1000000 = qe at *
  go_wp2_with fail
  refine (CMx.out _ E22.out.scan).mono ?_
  rintro r w23 ⟨rfl, s23, o23⟩
  have E23 := Lib.hid (E22.out.step s23 o23)
  clear s23 o23 E22
  have C0 : w23.cell? ⟨q, 0, none⟩ = some (.int .i64 5) := E23.out.box.cell 0
  have Cf0 := E23.out.box.free 0
  have C1 : w23.cell? ⟨q, 1, none⟩ = some (.int .i64 0) := E23.out.box.cell 1
  have Cf1 := E23.out.box.free 1
  have C2 : w23.cell? ⟨q, 2, none⟩ = some (.int .i64 0) := E23.out.box.cell 2
  have Cf2 := E23.out.box.free 2
  have C3 : w23.cell? ⟨q, 3, none⟩ = some (.int .i64 0) := E23.out.box.cell 3
  have Cf3 := E23.out.box.free 3
  have C4 : w23.cell? ⟨q, 4, none⟩ = some (.int .i64 0) := E23.out.box.cell 4
  have Cf4 := E23.out.box.free 4
  have C5 : w23.cell? ⟨q, 5, none⟩ = some (.int .i64 0) := E23.out.box.cell 5
  have Cf5 := E23.out.box.free 5
  have C6 : w23.cell? ⟨q, 6, none⟩ = some (.int .i64 0) := E23.out.box.cell 6
  have Cf6 := E23.out.box.free 6
  have C7 : w23.cell? ⟨q, 7, none⟩ = some (.int .i64 0) := E23.out.box.cell 7
  have Cf7 := E23.out.box.free 7
  have C8 : w23.cell? ⟨q, 8, none⟩ = some (.slice (some ⟨b2, 0, none⟩) 1 1) := E23.out.box.cell 8
  have Cf8 := E23.out.box.free 8
  have Cl := E23.out.box.lt
  try dsimp only
  go_upto_region 31 with fail
  have E24 : Hid (YMid 28 73 125 w (w23.setCell ⟨q, 7, none⟩ (.int .i64 v23)) g q 5 v23 zero6 (some ⟨b2, 0, none⟩) 1 d [ta] qL qe) := E23.out.put (by decide) (by decide) v23
  generalize w23.setCell ⟨q, 7, none⟩ (.int .i64 v23) = w24 at *
  clear C0 Cf0 C1 Cf1 C2 Cf2 C3 Cf3 C4 Cf4 C5 Cf5 C6 Cf6 C7 Cf7 C8 Cf8 Cl
  clear E23
  go_wp2_with fail
  refine (CE.out _ qL qe ⟨#[41]⟩ E24.out.scan (by omega)).mono ?_
  rintro r w30 ⟨rfl, s30, o30⟩
  have E30 := Lib.hid (E24.out.step s30 o30)
  clear s30 o30
  
  have C0 : w30.cell? ⟨q, 0, none⟩ = some (.int .i64 5) := E30.out.box.cell 0
  have C1 : w30.cell? ⟨q, 1, none⟩ = some (.int .i64 0) := E30.out.box.cell 1
  have C2 : w30.cell? ⟨q, 2, none⟩ = some (.int .i64 0) := E30.out.box.cell 2
  have C3 : w30.cell? ⟨q, 3, none⟩ = some (.int .i64 0) := E30.out.box.cell 3
  have C4 : w30.cell? ⟨q, 4, none⟩ = some (.int .i64 0) := E30.out.box.cell 4
  have C5 : w30.cell? ⟨q, 5, none⟩ = some (.int .i64 0) := E30.out.box.cell 5
  have C6 : w30.cell? ⟨q, 6, none⟩ = some (.int .i64 0) := E30.out.box.cell 6
  have C7 : w30.cell? ⟨q, 7, none⟩ = some (.int .i64 v23) := E30.out.box.cell 7
  have C8 : w30.cell? ⟨q, 8, none⟩ = some (.slice (some ⟨b2, 0, none⟩) 1 1) := E30.out.box.cell 8
  have Cl := E30.out.box.lt
  have D0 : w30.cell? ⟨w.heap.size, 0, none⟩ = some (.int .i64 0) := E30.out.res.cell 0
  have Df0 := E30.out.res.free 0
  have D1 : w30.cell? ⟨w.heap.size, 1, none⟩ = some (.int .i64 0) := E30.out.res.cell 1
  have Df1 := E30.out.res.free 1
  have D2 : w30.cell? ⟨w.heap.size, 2, none⟩ = some (.int .i64 0) := E30.out.res.cell 2
  have Df2 := E30.out.res.free 2
  have D3 : w30.cell? ⟨w.heap.size, 3, none⟩ = some (.int .i64 0) := E30.out.res.cell 3
  have Df3 := E30.out.res.free 3
  have D4 : w30.cell? ⟨w.heap.size, 4, none⟩ = some (.int .i64 0) := E30.out.res.cell 4
  have Df4 := E30.out.res.free 4
  have D5 : w30.cell? ⟨w.heap.size, 5, none⟩ = some (.int .i64 0) := E30.out.res.cell 5
  have Df5 := E30.out.res.free 5
  have D6 : w30.cell? ⟨w.heap.size, 6, none⟩ = some (.int .i64 0) := E30.out.res.cell 6
  have Df6 := E30.out.res.free 6
  have D7 : w30.cell? ⟨w.heap.size, 7, none⟩ = some (.int .i64 0) := E30.out.res.cell 7
  have Df7 := E30.out.res.free 7
  have D8 : w30.cell? ⟨w.heap.size, 8, none⟩ = some (.slice none 0 0) := E30.out.res.cell 8
  have Df8 := E30.out.res.free 8
  have Dl := E30.out.res.lt
  have hxq30 := E30.out.far
  have hne1 : (q == w.heap.size) = false := by simp; omega
  have hne2 : (w.heap.size == q) = false := by simp; omega
  have hne3 : ¬ q = w.heap.size := by omega
  have hne4 : ¬ w.heap.size = q := by omega
  try dsimp only
  iterate 13 (first | go_values | go_skip | go_guarded | go_step | go_upon)
  have Z9 : InP (fun b => w.heap.size ≤ b) (d + 1) (((((((((w30.setCell ⟨w.heap.size, 0, none⟩ (.int .i64 5)).setCell ⟨w.heap.size, 1, none⟩ (.int .i64 0)).setCell ⟨w.heap.size, 2, none⟩ (.int .i64 0)).setCell ⟨w.heap.size, 3, none⟩ (.int .i64 0)).setCell ⟨w.heap.size, 4, none⟩ (.int .i64 0)).setCell ⟨w.heap.size, 5, none⟩ (.int .i64 0)).setCell ⟨w.heap.size, 6, none⟩ (.int .i64 0)).setCell ⟨w.heap.size, 7, none⟩ (.int .i64 v23)).setCell ⟨w.heap.size, 8, none⟩ (.slice (some ⟨b2, 0, none⟩) 1 1)) (.mk 5 zero6 v23 (some ⟨b2, 0, none⟩) 1 [ta]) ∧ Scan 73 125 (((((((((w30.setCell ⟨w.heap.size, 0, none⟩ (.int .i64 5)).setCell ⟨w.heap.size, 1, none⟩ (.int .i64 0)).setCell ⟨w.heap.size, 2, none⟩ (.int .i64 0)).setCell ⟨w.heap.size, 3, none⟩ (.int .i64 0)).setCell ⟨w.heap.size, 4, none⟩ (.int .i64 0)).setCell ⟨w.heap.size, 5, none⟩ (.int .i64 0)).setCell ⟨w.heap.size, 6, none⟩ (.int .i64 0)).setCell ⟨w.heap.size, 7, none⟩ (.int .i64 v23)).setCell ⟨w.heap.size, 8, none⟩ (.slice (some ⟨b2, 0, none⟩) 1 1)) g (expL qL qe ⟨#[41]⟩) (expE qL qe ⟨#[41]⟩) ∧ Only g w (((((((((w30.setCell ⟨w.heap.size, 0, none⟩ (.int .i64 5)).setCell ⟨w.heap.size, 1, none⟩ (.int .i64 0)).setCell ⟨w.heap.size, 2, none⟩ (.int .i64 0)).setCell ⟨w.heap.size, 3, none⟩ (.int .i64 0)).setCell ⟨w.heap.size, 4, none⟩ (.int .i64 0)).setCell ⟨w.heap.size, 5, none⟩ (.int .i64 0)).setCell ⟨w.heap.size, 6, none⟩ (.int .i64 0)).setCell ⟨w.heap.size, 7, none⟩ (.int .i64 v23)).setCell ⟨w.heap.size, 8, none⟩ (.slice (some ⟨b2, 0, none⟩) 1 1)) := E30.out.done (by decide) (by decide)
  have R9 : Blk (((((((((w30.setCell ⟨w.heap.size, 0, none⟩ (.int .i64 5)).setCell ⟨w.heap.size, 1, none⟩ (.int .i64 0)).setCell ⟨w.heap.size, 2, none⟩ (.int .i64 0)).setCell ⟨w.heap.size, 3, none⟩ (.int .i64 0)).setCell ⟨w.heap.size, 4, none⟩ (.int .i64 0)).setCell ⟨w.heap.size, 5, none⟩ (.int .i64 0)).setCell ⟨w.heap.size, 6, none⟩ (.int .i64 0)).setCell ⟨w.heap.size, 7, none⟩ (.int .i64 v23)).setCell ⟨w.heap.size, 8, none⟩ (.slice (some ⟨b2, 0, none⟩) 1 1)) w.heap.size 28 (cells9 5 v23 zero6 (some ⟨b2, 0, none⟩) 1 1) := blk_put9 (op := 5) (v := v23) (p := zero6) (A := (some ⟨b2, 0, none⟩)) (n := 1) (c := 1) E30.out.res
  generalize ((((((((w30.setCell ⟨w.heap.size, 0, none⟩ (.int .i64 5)).setCell ⟨w.heap.size, 1, none⟩ (.int .i64 0)).setCell ⟨w.heap.size, 2, none⟩ (.int .i64 0)).setCell ⟨w.heap.size, 3, none⟩ (.int .i64 0)).setCell ⟨w.heap.size, 4, none⟩ (.int .i64 0)).setCell ⟨w.heap.size, 5, none⟩ (.int .i64 0)).setCell ⟨w.heap.size, 6, none⟩ (.int .i64 0)).setCell ⟨w.heap.size, 7, none⟩ (.int .i64 v23)).setCell ⟨w.heap.size, 8, none⟩ (.slice (some ⟨b2, 0, none⟩) 1 1) = w31 at *
  have Z9 := Lib.hid Z9
  have R9 := Lib.hid R9
  clear C0 C1 C2 C3 C4 C5 C6 C7 C8 Cl
  clear D0 Df0 D1 Df1 D2 Df2 D3 Df3 D4 Df4 D5 Df5 D6 Df6 D7 Df7 D8 Df8 Dl
  clear E30 hne1 hne2 hne3 hne4
  repeat (first | go_values | go_skip | go_guarded | go_step | go_upon)
  exact bodyPost_ret (v := .agg (cells9 5 v23 zero6 (some ⟨b2, 0, none⟩) 1 1)) (results_blk rfl rfl R9.out Tryz.underlying28 rfl (by kernel_rfl)) rfl (by
    rw [HB2.out]
    exact ⟨.mk 5 zero6 v23 (some ⟨b2, 0, none⟩) 1 [ta], rfl, by rw [← HXa.out]; rfl, Z9.out.1, Z9.out.2.1, Z9.out.2.2⟩)
end Go.Proofs.YtjjlhihocllgjaaGreatDoor.Ex
