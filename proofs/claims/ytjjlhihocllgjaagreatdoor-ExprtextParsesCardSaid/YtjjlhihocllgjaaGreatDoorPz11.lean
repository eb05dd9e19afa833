/- Contracts of the scanner's methods (reference). Printed by gen_lexM.py. Contracts of the Builder's writers, walked at this dump (its copy check's message is refused by the loader). Contracts of Join. Printed by gen_lexJ.py. -/
import Derived.Test.YtjjlhihocllgjaaGreatDoorPz03
import Derived.Test.YtjjlhihocllgjaaGreatDoorPz08
import Derived.Lib.Builder
import Derived.Lib.AppendStr
import Derived.Test.YtjjlhihocllgjaaGreatDoorShelf
namespace Go.Proofs.YtjjlhihocllgjaaGreatDoor
open Go.ChangeShapes Go.WideShapes Go.ChangeAt Go.RowKit
namespace Lex


theorem rpeek_any (L : List Tok) (e : Int) (g : Nat) (w : World) (h : Scan 73 125 w g L e) (_hm : L.length ≤ maxLen) :
    Calls Tryz.prog 90 #[.pointer (some ⟨g, 0, none⟩)] w fun r w' => r = .returned (.agg #[.int .i64 (peekT L e).kind, .string (peekT L e).text, .int .i64 (peekT L e).value, .int .i64 (peekT L e).pos]) ∧ Below w.heap.size w w' := by
  by_cases he : e = 0
  · subst he
    cases L with
    | nil =>
      obtain ⟨A, c, hb⟩ := h.nil_
      have hg := hb.lt
      have hc := hb.c2
      clear h hb
      go_enter Tryz.func90, Tryz.ntmps90
      go_wp2_with fail
      exact bodyPost_ret (v := .agg #[.int .i64 0, .string ⟨#[]⟩, .int .i64 0, .int .i64 0]) (results_blk rfl rfl (Blk.new _ _ _) Tryz.underlying125 rfl (by kernel_rfl)) rfl ⟨rfl, below_new _ _⟩
    | cons t L =>
      obtain ⟨b, o, c, cs, hb, k2, k3, hb2, hr⟩ := h.cons
      have hg := hb.lt
      have hg2 := hb2.lt
      have hc := hb.c2
      have ht := hr.at_ 0 (by simp)
      simp only [Nat.zero_mul, Nat.add_zero, List.getElem_cons_zero] at ht
      have h0 : ((L.length : Int) + 1 == 0) = false := by simp; omega
      have h1 : (0 : Int) < (L.length : Int) + 1 := by omega
      have hl : L.length + 1 ≤ 9223372036854775807 := by simpa [maxLen] using _hm
      have HP : Hid (peekT (t :: L) 0 = t) := rfl
      generalize peekT (t :: L) 0 = t2 at *
      clear h hb hb2 hr _hm
      generalize L.length = n at *
      go_enter Tryz.func90, Tryz.ntmps90
      go_wp2_with fail
      exact bodyPost_ret (v := .agg #[.int .i64 t.kind, .string t.text, .int .i64 t.value, .int .i64 t.pos]) (results_blk rfl rfl (Blk.new _ _ _) Tryz.underlying125 rfl (by kernel_rfl)) rfl ⟨by rw [HP.out], below_new _ _⟩
  · have HP : Hid (peekT L e = Tok.none) := by unfold peekT; exact if_neg he
    have hne : (e != 0) = true := by simpa using he
    have heq : (e == 0) = false := by simpa using he
    obtain ⟨A, c, hb, _, _, _⟩ := h
    have hg := hb.lt
    have hc := hb.c2
    generalize peekT L e = t2 at *
    generalize L.length = n at *
    clear hb he
    go_enter Tryz.func90, Tryz.ntmps90
    go_wp2_with fail
    exact bodyPost_ret (v := .agg #[.int .i64 0, .string ⟨#[]⟩, .int .i64 0, .int .i64 0]) (results_blk rfl rfl (Blk.new _ _ _) Tryz.underlying125 rfl (by kernel_rfl)) rfl ⟨by rw [HP.out]; rfl, below_new _ _⟩


set_option maxHeartbeats 400000 in
theorem rnext_nil (g : Nat) (w : World) (h : Scan 73 125 w g [] 0) (_hm : ([] : List Tok).length ≤ maxLen) :
    Calls Tryz.prog 133 #[.pointer (some ⟨g, 0, none⟩)] w fun r w' => r = .returned (.agg #[.int .i64 (peekT [] 0).kind, .string (peekT [] 0).text, .int .i64 (peekT [] 0).value, .int .i64 (peekT [] 0).pos]) ∧ Scan 73 125 w' g (nextL [] 0) 0 ∧ Only g w w' := by
  have H := Lib.hid h
  have CP := Lib.hid fun w (h : Scan 73 125 w g [] 0) => rpeek_any [] 0 g w h _hm
  generalize hp : peekT [] 0 = t at *
  clear hp
  obtain ⟨A, c, hb⟩ := h.nil_
  clear h
  go_enter Tryz.func133, Tryz.ntmps133
  go_wp2_with fail
  refine (CP.out _ (H.out.below (below_new _ _))).mono ?_
  rintro r w1 ⟨rfl, b1⟩
  have B1 := Lib.hid (chain1 (Below.refl _ _) b1)
  have k1 := (Blk.new w 125 #[.int .i64 0, .string ⟨#[]⟩, .int .i64 0, .int .i64 0]).below' b1
  have g1 := k1.lt
  have d1 := k1.c4
  clear b1
  have hb1 := hb.below' B1.out
  have hg := hb1.lt
  have hc := hb1.c2
  clear hb1
  have HB := Lib.hid hb
  have K1 := Lib.hid k1
  clear hb k1
  go_wp2_with fail
  have B2 := put4_below (a := .int .i64 t.kind) (b := .string t.text) (c := .int .i64 t.value) (d := .int .i64 t.pos) B1.out (Nat.le_refl _)
  have B3 := B2.alloc B2.size (.cells #[.int .i64 t.kind, .string t.text, .int .i64 t.value, .int .i64 t.pos] 125)
  exact bodyPost_ret (v := .agg #[.int .i64 t.kind, .string t.text, .int .i64 t.value, .int .i64 t.pos]) (results_blk rfl rfl ((put4_blk K1.out).alloc _) Tryz.underlying125 rfl (by kernel_rfl)) rfl ⟨rfl, H.out.below B3, Only.of_below g B3⟩
set_option maxHeartbeats 400000 in
theorem rnext_cons (t0 : Tok) (L : List Tok) (g : Nat) (w : World) (h : Scan 73 125 w g (t0 :: L) 0) (_hm : (t0 :: L).length ≤ maxLen)
    (b o c : Nat) (cs : Array Value) (hb : Blk w g 73 #[.slice (some ⟨b, o, none⟩) (L.length + 1) c, .int .i64 0]) (k2 : L.length + 1 ≤ c) (K3 : Hid (c ≤ maxLen)) (hb2 : Blk w b 125 cs) (HR : Hid (TokRow w b o (t0 :: L))) (hc1 : ¬ c = 1) :
    Calls Tryz.prog 133 #[.pointer (some ⟨g, 0, none⟩)] w fun r w' => r = .returned (.agg #[.int .i64 (peekT (t0 :: L) 0).kind, .string (peekT (t0 :: L) 0).text, .int .i64 (peekT (t0 :: L) 0).value, .int .i64 (peekT (t0 :: L) 0).pos]) ∧ Scan 73 125 w' g (nextL (t0 :: L) 0) 0 ∧ Only g w w' := by
  have H := Lib.hid h
  have CP := Lib.hid fun w (h : Scan 73 125 w g (t0 :: L) 0) => rpeek_any (t0 :: L) 0 g w h _hm
  generalize hp : peekT (t0 :: L) 0 = t at *
  clear hp
  have hg0 := hb.lt
  have hb0 := hb2.lt
  clear h
  have h0 : ((L.length : Int) + 1 == 0) = false := by simp; omega
  have h1 : (0 : Int) < (L.length : Int) + 1 := by omega
  have h1d : decide ((0 : Int) < (L.length : Int) + 1) = true := decide_eq_true h1
  have hl : L.length + 1 ≤ 9223372036854775807 := by simpa [maxLen] using _hm
  have HN : Hid (nextL (t0 :: L) 0 = L) := rfl
  clear _hm
  go_enter Tryz.func133, Tryz.ntmps133
  go_wp2_with fail
  refine (CP.out _ (H.out.below (below_new _ _))).mono ?_
  rintro r w1 ⟨rfl, b1⟩
  have B1 := Lib.hid (chain1 (Below.refl _ _) b1)
  have k1 := (Blk.new w 125 #[.int .i64 0, .string ⟨#[]⟩, .int .i64 0, .int .i64 0]).below' b1
  have g1 := k1.lt
  have d1 := k1.c4
  clear b1
  have hb1 := hb.below' B1.out
  have hg := hb1.lt
  have hc := hb1.c2
  have HB1 := Lib.hid hb1
  have HB2 := Lib.hid hb2
  have HB3 := Lib.hid (hb2.below' B1.out)
  have HNE := Lib.hid (hb2.apart hb (by decide))
  have K1 := Lib.hid k1
  clear hb hb1 hb2 k1
  dsimp only
  repeat (first | go_values | go_skip | go_guarded | go_step | go_upon)
  have B2 := put4_only (g' := g) (a := .int .i64 t.kind) (b := .string t.text) (c := .int .i64 t.value) (d := .int .i64 t.pos) ((Only.of_below g B1.out).put 0 (.slice (some ⟨b, o + 4, none⟩) L.length (c - 1))) (Nat.le_refl _)
  have B3 := B2.alloc (.cells #[.int .i64 t.kind, .string t.text, .int .i64 t.value, .int .i64 t.pos] 125)
  refine bodyPost_ret (v := .agg #[.int .i64 t.kind, .string t.text, .int .i64 t.value, .int .i64 t.pos]) (results_blk rfl rfl ((put4_blk (K1.out.far (p := ⟨g, 0, none⟩) (Nat.ne_of_gt hg0) _)).alloc _) Tryz.underlying125 rfl (by kernel_rfl)) rfl ⟨rfl, ?_, B3⟩
  rw [HN.out]
  exact Scan.mk2 ((put4_far (HB1.out.put 0 _) (Nat.ne_of_lt hg0)).alloc _) k2 K3.out HB2.out HR.out ((put4_far (HB3.out.far (p := ⟨g, 0, none⟩) HNE.out _) (Nat.ne_of_lt hb0)).alloc _) (fun _ => rfl)
set_option maxHeartbeats 400000 in
theorem rnext_one (t0 : Tok) (g : Nat) (w : World) (h : Scan 73 125 w g [t0] 0) (_hm : [t0].length ≤ maxLen)
    (b o : Nat) (cs : Array Value) (hb : Blk w g 73 #[.slice (some ⟨b, o, none⟩) 1 1, .int .i64 0]) (hb2 : Blk w b 125 cs) (HR : Hid (TokRow w b o [t0])) :
    Calls Tryz.prog 133 #[.pointer (some ⟨g, 0, none⟩)] w fun r w' => r = .returned (.agg #[.int .i64 (peekT [t0] 0).kind, .string (peekT [t0] 0).text, .int .i64 (peekT [t0] 0).value, .int .i64 (peekT [t0] 0).pos]) ∧ Scan 73 125 w' g (nextL [t0] 0) 0 ∧ Only g w w' := by
  have H := Lib.hid h
  have CP := Lib.hid fun w (h : Scan 73 125 w g [t0] 0) => rpeek_any [t0] 0 g w h _hm
  generalize hp : peekT [t0] 0 = t at *
  clear hp
  have hg0 := hb.lt
  have hb0 := hb2.lt
  clear h
  have HN : Hid (nextL [t0] 0 = []) := rfl
  clear _hm
  go_enter Tryz.func133, Tryz.ntmps133
  go_wp2_with fail
  refine (CP.out _ (H.out.below (below_new _ _))).mono ?_
  rintro r w1 ⟨rfl, b1⟩
  have B1 := Lib.hid (chain1 (Below.refl _ _) b1)
  have k1 := (Blk.new w 125 #[.int .i64 0, .string ⟨#[]⟩, .int .i64 0, .int .i64 0]).below' b1
  have g1 := k1.lt
  have d1 := k1.c4
  clear b1
  have hb1 := hb.below' B1.out
  have hg := hb1.lt
  have hc := hb1.c2
  have HB1 := Lib.hid hb1
  have HB2 := Lib.hid hb2
  have HB3 := Lib.hid (hb2.below' B1.out)
  have HNE := Lib.hid (hb2.apart hb (by decide))
  have K1 := Lib.hid k1
  clear hb hb1 hb2 k1
  dsimp only
  repeat (first | go_values | go_skip | go_guarded | go_step | go_upon)
  have B2 := put4_only (g' := g) (a := .int .i64 t.kind) (b := .string t.text) (c := .int .i64 t.value) (d := .int .i64 t.pos) ((Only.of_below g B1.out).put 0 (.slice (some ⟨b, o, none⟩) 0 0)) (Nat.le_refl _)
  have B3 := B2.alloc (.cells #[.int .i64 t.kind, .string t.text, .int .i64 t.value, .int .i64 t.pos] 125)
  refine bodyPost_ret (v := .agg #[.int .i64 t.kind, .string t.text, .int .i64 t.value, .int .i64 t.pos]) (results_blk rfl rfl ((put4_blk (K1.out.far (p := ⟨g, 0, none⟩) (Nat.ne_of_gt hg0) _)).alloc _) Tryz.underlying125 rfl (by kernel_rfl)) rfl ⟨rfl, ?_, B3⟩
  rw [HN.out]
  exact Scan.mk2 (c := 1) (L := []) ((put4_far (HB1.out.put 0 _) (Nat.ne_of_lt hg0)).alloc _) (by simp) (by unfold maxLen; omega) HB2.out HR.out ((put4_far (HB3.out.far (p := ⟨g, 0, none⟩) HNE.out _) (Nat.ne_of_lt hb0)).alloc _) (fun h => absurd rfl h)
set_option maxHeartbeats 400000 in
theorem rnext_err (L : List Tok) (e : Int) (g : Nat) (w : World) (he : ¬ e = 0) (h : Scan 73 125 w g L e) (_hm : L.length ≤ maxLen) :
    Calls Tryz.prog 133 #[.pointer (some ⟨g, 0, none⟩)] w fun r w' => r = .returned (.agg #[.int .i64 (peekT L e).kind, .string (peekT L e).text, .int .i64 (peekT L e).value, .int .i64 (peekT L e).pos]) ∧ Scan 73 125 w' g (nextL L e) e ∧ Only g w w' := by
  have H := Lib.hid h
  have CP := Lib.hid fun w (h : Scan 73 125 w g L e) => rpeek_any L e g w h _hm
  generalize hp : peekT L e = t at *
  clear hp
  have hne : (e != 0) = true := by simpa using he
  have heq : (e == 0) = false := by simpa using he
  have HN : Hid (nextL L e = L) := by unfold nextL; exact if_neg he
  obtain ⟨A, c, hb, _, _, _⟩ := h
  clear he
  go_enter Tryz.func133, Tryz.ntmps133
  go_wp2_with fail
  refine (CP.out _ (H.out.below (below_new _ _))).mono ?_
  rintro r w1 ⟨rfl, b1⟩
  have B1 := Lib.hid (chain1 (Below.refl _ _) b1)
  have k1 := (Blk.new w 125 #[.int .i64 0, .string ⟨#[]⟩, .int .i64 0, .int .i64 0]).below' b1
  have g1 := k1.lt
  have d1 := k1.c4
  clear b1
  have hb1 := hb.below' B1.out
  have hg := hb1.lt
  have hc := hb1.c2
  clear hb1
  have HB := Lib.hid hb
  have K1 := Lib.hid k1
  clear hb k1
  go_wp2_with fail
  have B2 := put4_below (a := .int .i64 t.kind) (b := .string t.text) (c := .int .i64 t.value) (d := .int .i64 t.pos) B1.out (Nat.le_refl _)
  have B3 := B2.alloc B2.size (.cells #[.int .i64 t.kind, .string t.text, .int .i64 t.value, .int .i64 t.pos] 125)
  exact bodyPost_ret (v := .agg #[.int .i64 t.kind, .string t.text, .int .i64 t.value, .int .i64 t.pos]) (results_blk rfl rfl ((put4_blk K1.out).alloc _) Tryz.underlying125 rfl (by kernel_rfl)) rfl ⟨rfl, by rw [HN.out]; exact H.out.below B3, Only.of_below g B3⟩
theorem rnext_any (L : List Tok) (e : Int) (g : Nat) (w : World) (h : Scan 73 125 w g L e) (_hm : L.length ≤ maxLen) :
    Calls Tryz.prog 133 #[.pointer (some ⟨g, 0, none⟩)] w fun r w' => r = .returned (.agg #[.int .i64 (peekT L e).kind, .string (peekT L e).text, .int .i64 (peekT L e).value, .int .i64 (peekT L e).pos]) ∧ Scan 73 125 w' g (nextL L e) e ∧ Only g w w' := by
  by_cases he : e = 0
  · subst he
    cases L with
    | nil => exact rnext_nil g w h _hm
    | cons t0 L =>
      obtain ⟨b, o, c, cs, hb, k2, k3, hb2, hr⟩ := h.cons
      by_cases hc1 : c = 1
      · subst hc1
        obtain rfl : L = [] := List.eq_nil_of_length_eq_zero (by omega)
        exact rnext_one t0 g w h _hm b o cs hb hb2 hr
      · exact rnext_cons t0 L g w h _hm b o c cs hb k2 k3 hb2 hr hc1
  · exact rnext_err L e g w he h _hm


theorem rfail_any (L : List Tok) (e x : Int) (g : Nat) (w : World) (h : Scan 73 125 w g L e) :
    Calls Tryz.prog 93 #[.pointer (some ⟨g, 0, none⟩), .int .i64 x] w fun r w' => r = .returned (.tuple #[]) ∧ Scan 73 125 w' g L (failE e x) ∧ Only g w w' := by
  obtain ⟨A, c, hb, h2, h3, h4⟩ := h
  have H := Lib.hid (show Scan 73 125 w g L e from ⟨A, c, hb, h2, h3, h4⟩)
  have hg := hb.lt
  have hc := hb.c2
  clear hb h2 h3 h4
  by_cases he : e = 0
  · subst he
    have HF : Hid (failE 0 x = x) := rfl
    generalize failE 0 x = y at *
    generalize L.length = m at *
    go_enter Tryz.func93, Tryz.ntmps93
    go_wp2_with fail
    go_end0
    rw [HF.out]
    exact ⟨rfl, H.out.fail (by decide) x, (Only.refl g w).put 1 _⟩
  · have hne : (e != 0) = true := by simpa using he
    have heq : (e == 0) = false := by simpa using he
    have HF : Hid (failE e x = e) := if_neg he
    generalize failE e x = y at *
    generalize L.length = m at *
    clear he
    go_enter Tryz.func93, Tryz.ntmps93
    go_wp2_with fail
    go_end0
    rw [HF.out]
    exact ⟨rfl, H.out, Only.refl g w⟩
theorem rwrong_any (L : List Tok) (e : Int) (g : Nat) (w : World) (h : Scan 73 125 w g L e) (_hm : L.length ≤ maxLen) :
    Calls Tryz.prog 132 #[.pointer (some ⟨g, 0, none⟩)] w fun r w' => r = .returned (.tuple #[]) ∧ Scan 73 125 w' g L (wrongE L e) ∧ Only g w w' := by
  have H := Lib.hid h
  have CF := Lib.hid rfail_any
  obtain ⟨A, c, hb, h2, h3, h4⟩ := h
  have hg := hb.lt
  have hc := hb.c2
  clear hb h2 h3 h4
  have hl : L.length ≤ 9223372036854775807 := by simpa [maxLen] using _hm
  clear _hm
  cases L with
  | nil =>
    go_enter Tryz.func132, Tryz.ntmps132
    go_wp2_with fail
    refine (CF.out _ _ _ _ _ H.out).mono ?_
    rintro r w1 ⟨rfl, s1, o1⟩
    have S1 := Lib.hid s1
    have O1 := Lib.hid o1
    clear s1 o1
    go_wp2_with fail
    refine (CF.out _ _ _ _ _ S1.out).mono ?_
    rintro r w2 ⟨rfl, s2, o2⟩
    have S2 := Lib.hid s2
    have O2 := Lib.hid o2
    clear s2 o2
    go_wp2_with fail
    go_end0
    exact ⟨rfl, S2.out, O1.out.trans O2.out⟩
  | cons t0 L =>
    have h0 : ((L.length : Int) + 1 == 0) = false := by simp; omega
    go_enter Tryz.func132, Tryz.ntmps132
    go_wp2_with fail
    refine (CF.out _ _ _ _ _ H.out).mono ?_
    rintro r w1 ⟨rfl, s1, o1⟩
    have S1 := Lib.hid s1
    have O1 := Lib.hid o1
    clear s1 o1
    go_wp2_with fail
    go_end0
    exact ⟨rfl, S1.out, O1.out⟩


theorem rend_any (L : List Tok) (e : Int) (g : Nat) (w : World) (h : Scan 73 125 w g L e) (_hm : L.length ≤ maxLen) :
    Calls Tryz.prog 42 #[.pointer (some ⟨g, 0, none⟩)] w fun r w' => r = .returned (.int .i64 (endE L e)) ∧ w = w' := by
  have H := Lib.hid h
  obtain ⟨A, c, hb, h2, h3, h4⟩ := h
  have hg := hb.lt
  have hc := hb.c2
  clear hb h2 h3 h4
  have hl : L.length ≤ 9223372036854775807 := by simpa [maxLen] using _hm
  clear _hm
  by_cases he : e = 0
  · subst he
    cases L with
    | nil =>
      have HF : Hid (endE [] 0 = 0) := rfl
      generalize endE [] 0 = y at *
      go_enter Tryz.func42, Tryz.ntmps42
      go_wp2_with fail
      go_ret
      exact ⟨by rw [HF.out]; rfl, rfl⟩
    | cons t0 L =>
      have h1 : (0 : Int) < (L.length : Int) + 1 := by omega
      have h1d : decide ((0 : Int) < (L.length : Int) + 1) = true := decide_eq_true h1
      have HF : Hid (endE (t0 :: L) 0 = 3) := by unfold endE; exact if_pos ⟨rfl, by simp⟩
      generalize endE (t0 :: L) 0 = y at *
      go_enter Tryz.func42, Tryz.ntmps42
      go_wp2_with fail
      go_ret
      exact ⟨by rw [HF.out]; rfl, rfl⟩
  · have hne : (e != 0) = true := by simpa using he
    have heq : (e == 0) = false := by simpa using he
    have HF : Hid (endE L e = e) := by unfold endE; exact if_neg (fun h => he h.1)
    generalize endE L e = y at *
    clear he
    go_enter Tryz.func42, Tryz.ntmps42
    go_wp2_with fail
    go_ret
    exact ⟨by rw [HF.out]; rfl, rfl⟩


theorem raccept_yes (L : List Tok) (e : Int) (g : Nat) (m : ByteArray) (w : World) (h : Scan 73 125 w g L e) (hm : L.length ≤ maxLen) (ha : accB L e m) :
    Calls Tryz.prog 95 #[.pointer (some ⟨g, 0, none⟩), .string m] w fun r w' => r = .returned (.bool true) ∧ Scan 73 125 w' g (nextL L e) e ∧ Only g w w' := by
  have H := Lib.hid h
  have CP := Lib.hid fun w (h : Scan 73 125 w g L e) => rpeek_any L e g w h hm
  have CN := Lib.hid fun w (h : Scan 73 125 w g L e) => rnext_any L e g w h hm
  clear h hm
  unfold accB at ha
  generalize peekT L e = t at *
  obtain ⟨tk, tt, tv, tp⟩ := t
  obtain ⟨rfl, rfl⟩ := ha
  dsimp only at CP CN
  go_enter Tryz.func95, Tryz.ntmps95
  go_wp2_with fail
  refine (CP.out _ H.out).mono ?_
  rintro r w1 ⟨rfl, b1⟩
  have B1 := Lib.hid b1
  have S1 := Lib.hid ((H.out.below b1).below (below_new w1 (.cells #[.int .i64 3, .string tt, .int .i64 tv, .int .i64 tp] 125)))
  clear b1
  go_wp2_with fail
  refine (CN.out _ S1.out).mono ?_
  rintro r w2 ⟨rfl, s2, o2⟩
  have S2 := Lib.hid s2
  have O2 := Lib.hid o2
  clear s2 o2
  go_wp2_with fail
  go_ret
  exact ⟨rfl, S2.out, ((Only.of_below g B1.out).alloc _).trans O2.out⟩
theorem raccept_no (L : List Tok) (e : Int) (g : Nat) (m : ByteArray) (w : World) (h : Scan 73 125 w g L e) (hm : L.length ≤ maxLen) (ha : ¬ accB L e m) :
    Calls Tryz.prog 95 #[.pointer (some ⟨g, 0, none⟩), .string m] w fun r w' => r = .returned (.bool false) ∧ Scan 73 125 w' g L e ∧ Only g w w' := by
  have H := Lib.hid h
  have CP := Lib.hid fun w (h : Scan 73 125 w g L e) => rpeek_any L e g w h hm
  clear h hm
  unfold accB at ha
  generalize peekT L e = t at *
  obtain ⟨tk, tt, tv, tp⟩ := t
  dsimp only at CP ha
  by_cases hk : tk = 3
  · subst hk
    have hne : (tt.toList == m.toList) = false := toList_of_ne (fun h => ha ⟨rfl, h⟩)
    have hne2 : (tt.toList != m.toList) = true := by unfold bne; rw [hne]; rfl
    clear ha
    go_enter Tryz.func95, Tryz.ntmps95
    go_wp2_with fail
    refine (CP.out _ H.out).mono ?_
    rintro r w1 ⟨rfl, b1⟩
    have B1 := Lib.hid b1
    have S1 := Lib.hid ((H.out.below b1).below (below_new w1 (.cells #[.int .i64 3, .string tt, .int .i64 tv, .int .i64 tp] 125)))
    clear b1
    go_wp2_with fail
    go_ret
    exact ⟨rfl, S1.out, (Only.of_below g B1.out).alloc _⟩
  · have hne : (tk != 3) = true := by simpa using hk
    have heq : (tk == 3) = false := by simpa using hk
    clear ha hk
    go_enter Tryz.func95, Tryz.ntmps95
    go_wp2_with fail
    refine (CP.out _ H.out).mono ?_
    rintro r w1 ⟨rfl, b1⟩
    have B1 := Lib.hid b1
    have S1 := Lib.hid ((H.out.below b1).below (below_new w1 (.cells #[.int .i64 tk, .string tt, .int .i64 tv, .int .i64 tp] 125)))
    clear b1
    go_wp2_with fail
    go_ret
    exact ⟨rfl, S1.out, (Only.of_below g B1.out).alloc _⟩


theorem rexpect_any (L : List Tok) (e : Int) (g : Nat) (m : ByteArray) (w : World) (h : Scan 73 125 w g L e) (hm : L.length ≤ maxLen) :
    Calls Tryz.prog 94 #[.pointer (some ⟨g, 0, none⟩), .string m] w fun r w' => r = .returned (.tuple #[]) ∧ Scan 73 125 w' g (expL L e m) (expE L e m) ∧ Only g w w' := by
  by_cases ha : accB L e m
  · have h1 : expL L e m = nextL L e := by unfold expL; rw [if_pos ha]
    have h2 : expE L e m = e := by unfold expE; rw [if_pos ha]
    rw [h1, h2]
    have C := raccept_yes L e g m w h hm ha
    clear h1 h2 h
    go_enter Tryz.func94, Tryz.ntmps94
    go_wp2_with fail
    refine C.mono ?_
    rintro r w1 ⟨rfl, s1, o1⟩
    have S1 := Lib.hid s1
    have O1 := Lib.hid o1
    clear s1 o1
    go_wp2_with fail
    go_end0
    exact ⟨rfl, S1.out, O1.out⟩
  · have h1 : expL L e m = L := by unfold expL; rw [if_neg ha]
    have h2 : expE L e m = wrongE L e := by unfold expE; rw [if_neg ha]
    rw [h1, h2]
    have C := raccept_no L e g m w h hm ha
    have CW := Lib.hid fun w (h : Scan 73 125 w g L e) => rwrong_any L e g w h hm
    clear h1 h2 h
    go_enter Tryz.func94, Tryz.ntmps94
    go_wp2_with fail
    refine C.mono ?_
    rintro r w1 ⟨rfl, s1, o1⟩
    have S1 := Lib.hid s1
    have O1 := Lib.hid o1
    clear s1 o1
    go_wp2_with fail
    refine (CW.out _ S1.out).mono ?_
    rintro r w2 ⟨rfl, s2, o2⟩
    have S2 := Lib.hid s2
    have O2 := Lib.hid o2
    clear s2 o2
    go_wp2_with fail
    go_end0
    exact ⟨rfl, S2.out, O1.out.trans O2.out⟩


theorem rname_any (L : List Tok) (e : Int) (g : Nat) (w : World) (h : Scan 73 125 w g L e) (hm : L.length ≤ maxLen) :
    Calls Tryz.prog 92 #[.pointer (some ⟨g, 0, none⟩)] w fun r w' => r = .returned (.string (nameT L e)) ∧ Scan 73 125 w' g (nameL L e) (nameE L e) ∧ Only g w w' := by
  have H := Lib.hid h
  have CP := Lib.hid fun w (h : Scan 73 125 w g L e) => rpeek_any L e g w h hm
  have CN := Lib.hid fun w (h : Scan 73 125 w g L e) => rnext_any L e g w h hm
  have CW := Lib.hid fun w (h : Scan 73 125 w g L e) => rwrong_any L e g w h hm
  have CF := Lib.hid fun x w (h : Scan 73 125 w g L e) => rfail_any L e x g w h
  clear h hm
  unfold nameT nameL nameE
  generalize peekT L e = t at *
  obtain ⟨tk, tt, tv, tp⟩ := t
  dsimp only at CP CN ⊢
  by_cases hk : tk = 1
  · subst hk
    simp only [if_true]
    go_enter Tryz.func92, Tryz.ntmps92
    go_wp2_with fail
    refine (CP.out _ H.out).mono ?_
    rintro r w1 ⟨rfl, b1⟩
    have B1 := Lib.hid b1
    have S1 := Lib.hid ((H.out.below b1).below (below_new w1 (.cells #[.int .i64 1, .string tt, .int .i64 tv, .int .i64 tp] 125)))
    clear b1
    have K1 := Lib.hid (Blk.new w1 125 #[.int .i64 1, .string tt, .int .i64 tv, .int .i64 tp])
    go_wp2_with fail
    refine (CN.out _ S1.out).mono ?_
    rintro r w2 ⟨rfl, s2, o2⟩
    have S2 := Lib.hid s2
    have O2 := Lib.hid o2
    have k2 := K1.out.only o2 (by have := S1.out.lt; have h3 := (H.out.below B1.out).lt; omega)
    have d2 := k2.c4
    clear s2 o2 k2
    go_wp2_with fail
    go_ret
    exact ⟨rfl, S2.out, ((Only.of_below g B1.out).alloc _).trans O2.out⟩
  · simp only [if_neg hk]
    have hne : (tk != 1) = true := by simpa using hk
    have heq : (tk == 1) = false := by simpa using hk
    clear hk
    go_enter Tryz.func92, Tryz.ntmps92
    go_wp2_with fail
    refine (CP.out _ H.out).mono ?_
    rintro r w1 ⟨rfl, b1⟩
    have B1 := Lib.hid b1
    have S1 := Lib.hid ((H.out.below b1).below (below_new w1 (.cells #[.int .i64 tk, .string tt, .int .i64 tv, .int .i64 tp] 125)))
    clear b1
    have K1 := Lib.hid (Blk.new w1 125 #[.int .i64 tk, .string tt, .int .i64 tv, .int .i64 tp])
    go_wp2_with fail
    refine (CW.out _ S1.out).mono ?_
    rintro r w2 ⟨rfl, s2, o2⟩
    have S2 := Lib.hid s2
    have O2 := Lib.hid o2
    have k2 := K1.out.only o2 (by have := S1.out.lt; have h3 := (H.out.below B1.out).lt; omega)
    have d2 := k2.c4
    clear s2 o2 k2
    go_wp2_with fail
    go_ret
    exact ⟨rfl, S2.out, ((Only.of_below g B1.out).alloc _).trans O2.out⟩

theorem ramount_any (L : List Tok) (e most : Int) (g : Nat) (w : World) (h : Scan 73 125 w g L e) (hm : L.length ≤ maxLen) :
    Calls Tryz.prog 96 #[.pointer (some ⟨g, 0, none⟩), .int .i64 most] w fun r w' => r = .returned (.int .i64 (amtV L e most)) ∧ Scan 73 125 w' g (amtL L e most) (amtE L e most) ∧ Only g w w' := by
  have H := Lib.hid h
  have CP := Lib.hid fun w (h : Scan 73 125 w g L e) => rpeek_any L e g w h hm
  have CN := Lib.hid fun w (h : Scan 73 125 w g L e) => rnext_any L e g w h hm
  have CW := Lib.hid fun w (h : Scan 73 125 w g L e) => rwrong_any L e g w h hm
  have CF := Lib.hid fun x w (h : Scan 73 125 w g L e) => rfail_any L e x g w h
  clear h hm
  unfold amtV amtL amtE
  generalize peekT L e = t at *
  obtain ⟨tk, tt, tv, tp⟩ := t
  dsimp only at CP CN ⊢
  by_cases hk : tk = 2
  · subst hk
    by_cases h0 : 0 ≤ tv
    · have c1 : decide (tv < 0) = false := by simp; omega
      by_cases h1 : tv ≤ most
      · have c2 : decide (most < tv) = false := by simp; omega
        rw [if_pos ⟨rfl, h0, h1⟩, if_pos ⟨rfl, h0, h1⟩, if_pos rfl, if_pos ⟨h0, h1⟩]
        go_enter Tryz.func96, Tryz.ntmps96
        go_wp2_with fail
        refine (CP.out _ H.out).mono ?_
        rintro r w1 ⟨rfl, b1⟩
        have B1 := Lib.hid b1
        have S1 := Lib.hid ((H.out.below b1).below (below_new w1 (.cells #[.int .i64 2, .string tt, .int .i64 tv, .int .i64 tp] 125)))
        clear b1
        have K1 := Lib.hid (Blk.new w1 125 #[.int .i64 2, .string tt, .int .i64 tv, .int .i64 tp])
        go_wp2_with fail
        refine (CN.out _ S1.out).mono ?_
        rintro r w2 ⟨rfl, s2, o2⟩
        have S2 := Lib.hid s2
        have O2 := Lib.hid o2
        have k2 := K1.out.only o2 (by have := S1.out.lt; have h3 := (H.out.below B1.out).lt; omega)
        have d2 := k2.c4
        clear s2 o2 k2
        go_wp2_with fail
        go_ret
        exact ⟨rfl, S2.out, ((Only.of_below g B1.out).alloc _).trans O2.out⟩
      · have c2 : decide (most < tv) = true := by simp; omega
        rw [if_neg (fun h => h1 h.2.2), if_neg (fun h => h1 h.2.2), if_pos rfl, if_neg (fun h => h1 h.2)]
        go_enter Tryz.func96, Tryz.ntmps96
        go_wp2_with fail
        refine (CP.out _ H.out).mono ?_
        rintro r w1 ⟨rfl, b1⟩
        have B1 := Lib.hid b1
        have S1 := Lib.hid ((H.out.below b1).below (below_new w1 (.cells #[.int .i64 2, .string tt, .int .i64 tv, .int .i64 tp] 125)))
        clear b1
        have K1 := Lib.hid (Blk.new w1 125 #[.int .i64 2, .string tt, .int .i64 tv, .int .i64 tp])
        go_wp2_with fail
        refine (CF.out _ _ S1.out).mono ?_
        rintro r w2 ⟨rfl, s2, o2⟩
        have S2 := Lib.hid s2
        have O2 := Lib.hid o2
        have k2 := K1.out.only o2 (by have := S1.out.lt; have h3 := (H.out.below B1.out).lt; omega)
        have d2 := k2.c4
        clear s2 o2 k2
        go_wp2_with fail
        go_ret
        exact ⟨rfl, S2.out, ((Only.of_below g B1.out).alloc _).trans O2.out⟩
    · have c1 : decide (tv < 0) = true := by simp; omega
      rw [if_neg (fun h => h0 h.2.1), if_neg (fun h => h0 h.2.1), if_pos rfl, if_neg (fun h => h0 h.1)]
      go_enter Tryz.func96, Tryz.ntmps96
      go_wp2_with fail
      refine (CP.out _ H.out).mono ?_
      rintro r w1 ⟨rfl, b1⟩
      have B1 := Lib.hid b1
      have S1 := Lib.hid ((H.out.below b1).below (below_new w1 (.cells #[.int .i64 2, .string tt, .int .i64 tv, .int .i64 tp] 125)))
      clear b1
      have K1 := Lib.hid (Blk.new w1 125 #[.int .i64 2, .string tt, .int .i64 tv, .int .i64 tp])
      go_wp2_with fail
      refine (CF.out _ _ S1.out).mono ?_
      rintro r w2 ⟨rfl, s2, o2⟩
      have S2 := Lib.hid s2
      have O2 := Lib.hid o2
      have k2 := K1.out.only o2 (by have := S1.out.lt; have h3 := (H.out.below B1.out).lt; omega)
      have d2 := k2.c4
      clear s2 o2 k2
      go_wp2_with fail
      go_ret
      exact ⟨rfl, S2.out, ((Only.of_below g B1.out).alloc _).trans O2.out⟩
  · rw [if_neg (fun h => hk h.1), if_neg (fun h => hk h.1), if_neg hk]
    have hne : (tk != 2) = true := by simpa using hk
    have heq : (tk == 2) = false := by simpa using hk
    clear hk
    go_enter Tryz.func96, Tryz.ntmps96
    go_wp2_with fail
    refine (CP.out _ H.out).mono ?_
    rintro r w1 ⟨rfl, b1⟩
    have B1 := Lib.hid b1
    have S1 := Lib.hid ((H.out.below b1).below (below_new w1 (.cells #[.int .i64 tk, .string tt, .int .i64 tv, .int .i64 tp] 125)))
    clear b1
    have K1 := Lib.hid (Blk.new w1 125 #[.int .i64 tk, .string tt, .int .i64 tv, .int .i64 tp])
    go_wp2_with fail
    refine (CW.out _ S1.out).mono ?_
    rintro r w2 ⟨rfl, s2, o2⟩
    have S2 := Lib.hid s2
    have O2 := Lib.hid o2
    have k2 := K1.out.only o2 (by have := S1.out.lt; have h3 := (H.out.below B1.out).lt; omega)
    have d2 := k2.c4
    clear s2 o2 k2
    go_wp2_with fail
    go_ret
    exact ⟨rfl, S2.out, ((Only.of_below g B1.out).alloc _).trans O2.out⟩


end Lex
end Go.Proofs.YtjjlhihocllgjaaGreatDoor
namespace Go.Proofs.YtjjlhihocllgjaaGreatDoor
open Go.ChangeShapes Go.WideShapes Go.ChangeAt Go.RowKit
namespace Bld
theorem size_builder : (Tryz.prog.info? 160).map (·.size) = some 2 := by kernel_rfl
theorem byte_info : (Tryz.prog.info? 5).map (fun i => (i.zero, i.size, i.bytes)) = some (some (.int .u8 0), 1, 1) := by kernel_rfl
theorem lies_builder : liesAt Tryz.prog Tryz.prog.depth 160 (2 / Tryz.prog.cellsOf 160) 0 160 1 = true := by kernel_rfl
attribute [local irreducible] World.shape?
section
variable (b : Nat) (w : World) (hsh : w.shape? b = some (160, 2))
include hsh
set_option maxRecDepth 100000 in
/-- the pointer to a builder turned into the other kind of pointer -/
theorem conv_to : (convert 157 196 (.pointer (some ⟨b, 0, none⟩))).run Tryz.prog w = .ok (.pointer (some ⟨b, 0, none⟩)) w := by
  obtain ⟨j, hj, hjs⟩ := Option.map_eq_some_iff.1 size_builder
  have hs := run_underlying (P := Tryz.prog) (w := w) Tryz.underlying157
  have hd := run_underlying (P := Tryz.prog) (w := w) Tryz.underlying196
  have h2 : ¬ j.size = 0 := by rw [hjs]; decide
  simp only [convert, Sem.run_bind, hs, hd, Result.andThen_ok]
  conv => lhs; whnf
  simp only [hsh]
  conv => lhs; whnf
  simp only [hsh]
  show Sem.run Tryz.prog ((pure (some 2) : Sem (Option Nat)) >>= _) w = _
  simp [sizeOf, typeInfo, hj, h2]
set_option maxRecDepth 100000 in
/-- .. and back -/
theorem conv_from : (convert 196 157 (.pointer (some ⟨b, 0, none⟩))).run Tryz.prog w = .ok (.pointer (some ⟨b, 0, none⟩)) w := by
  obtain ⟨j, hj, hjs⟩ := Option.map_eq_some_iff.1 size_builder
  have hs := run_underlying (P := Tryz.prog) (w := w) Tryz.underlying157
  have hd := run_underlying (P := Tryz.prog) (w := w) Tryz.underlying196
  have h2 : ¬ j.size = 0 := by rw [hjs]; decide
  simp only [convert, Sem.run_bind, hs, hd, Result.andThen_ok]
  conv => lhs; whnf
  simp only [hsh]
  show Sem.run Tryz.prog ((pure ⟨b, 0, none⟩ : Sem Addr) >>= _) w = _
  simp [sizeOf, typeInfo, hj, h2, variablesAt, hsh, lies_builder]
end
set_option maxRecDepth 100000 in
theorem copyCheck_used (b : Nat) (w : World) (h0 : w.cell? ⟨b, 0, none⟩ = some (.pointer (some ⟨b, 0, none⟩))) :
    Calls Tryz.prog 156 #[.pointer (some ⟨b, 0, none⟩)] w fun e w' => e = .returned (.tuple #[]) ∧ w = w' := by
  obtain ⟨j, hj, _⟩ := Option.map_eq_some_iff.1 size_builder
  go_enter Tryz.func156, Tryz.ntmps156
  go_wp2
  rw [Lib.run_neq_ptr_same w _ Tryz.underlying157 hj]
  go_wp2
  go_end0
  exact ⟨rfl, rfl⟩
set_option maxRecDepth 100000 in
theorem copyCheck_fresh (b : Nat) (w : World) (h0 : w.cell? ⟨b, 0, none⟩ = some (.pointer none)) (hsh : w.shape? b = some (160, 2)) (hfz : w.frozen? ⟨b, 0, none⟩ = false) :
    Calls Tryz.prog 156 #[.pointer (some ⟨b, 0, none⟩)] w fun e w' => e = .returned (.tuple #[]) ∧ w.setCell ⟨b, 0, none⟩ (.pointer (some ⟨b, 0, none⟩)) = w' := by
  go_enter Tryz.func156, Tryz.ntmps156
  go_wp2
  rw [conv_to b w hsh]
  simp only [Result.andThen]
  rw [Oper.upon_value]
  go_wp2
  rw [run_callFunc_extern Tryz.func174 (by kernel_rfl) (by kernel_rfl) (by kernel_rfl) (e := Extern.AbiNoEscape.same) (by kernel_rfl)]
  rw [Lib.run_noEscape]
  simp only [Result.andThen]
  rw [Oper.upon_value]
  go_wp2
  rw [conv_from b w hsh]
  simp only [Result.andThen]
  rw [Oper.upon_value]
  go_wp2
  go_end0
  exact ⟨rfl, rfl⟩
/-- the blocks of other types than e, but for block b, are as they were -/
def Keeps (e : TypeId) (b : Nat) (w w' : World) : Prop := ∀ g t cs, Blk w g t cs → t ≠ e → g ≠ b → Blk w' g t cs
section
variable {e : TypeId} {b : Nat} {w w1 w2 : World}
theorem Keeps.refl (e : TypeId) (b : Nat) (w : World) : Keeps e b w w := fun _ _ _ h _ _ => h
theorem Keeps.trans (h : Keeps e b w w1) (k : Keeps e b w1 w2) : Keeps e b w w2 := fun g t cs x ht hg => k g t cs (h g t cs x ht hg) ht hg
theorem Keeps.put (h : Keeps e b w w1) (o : Nat) (u : Value) : Keeps e b w (w1.setCell ⟨b, o, none⟩ u) := fun g t cs x ht hg => (h g t cs x ht hg).far hg u
theorem Keeps.alloc (h : Keeps e b w w1) (o : Obj) : Keeps e b w (w1.alloc o) := fun g t cs x ht hg => (h g t cs x ht hg).alloc o
theorem Keeps.grown (h : Keeps e b w w1) {base n size : Nat} {v : Value} {xs : List Value} (ho : w1.ownsRow base e size v n xs) (hg : w1.grownBy w2 v.ownBlock) : Keeps e b w w2 :=
  fun _ t cs x ht hb => (h _ t cs x ht hb).grown hg (fun e2 => own_apart ho (h _ t cs x ht hb) (Ne.symm ht) e2.symm)
end
theorem copyCheck_any (B b : Nat) (bs : List Value) (w : World) (h : Lib.IsBuilder 160 5 B b bs w) :
    Calls Tryz.prog 156 #[.pointer (some ⟨b, 0, none⟩)] w fun e w' => e = .returned (.tuple #[]) ∧ (Lib.BuilderAt 160 5 B b (.pointer (some ⟨b, 0, none⟩)) bs w' ∧ Below B w w' ∧ Keeps 5 b w w') := by
  rcases h with h | h
  · refine (copyCheck_fresh b w h.cell0 h.shape h.frozen0).mono ?_
    rintro e w' ⟨rfl, rfl⟩
    exact ⟨rfl, h.used _, (Below.refl B w).setCell (p := ⟨b, 0, none⟩) h.1 _, (Keeps.refl _ b w).put 0 _⟩
  · refine (copyCheck_used b w h.cell0).mono ?_
    rintro e w' ⟨rfl, rfl⟩
    exact ⟨rfl, h, Below.refl B _, Keeps.refl _ b _⟩
set_option maxHeartbeats 1000000 in
set_option maxRecDepth 100000 in
theorem writeString_any (B b : Nat) (bs : List Value) (s : ByteArray) (w : World) (h : Lib.IsBuilder 160 5 B b bs w) (hlen : bs.length + s.size ≤ 140737488355328) (hBw : B ≤ w.heap.size) :
    Calls Tryz.prog 137 #[.pointer (some ⟨b, 0, none⟩), .string s] w fun e w' => e = .returned (.tuple #[.int .i64 s.size, .nilIface]) ∧ (Lib.IsBuilder 160 5 B b (bs ++ Lib.strCells s) w' ∧ Below B w w' ∧ Keeps 5 b w w') := by
  obtain ⟨i0, hi, hz0, hz1, hz2⟩ := info_parts byte_info
  have HL := Lib.hid hlen
  have H := Lib.hid h
  clear hlen h
  go_enter Tryz.func137, Tryz.ntmps137
  go_wp2_with fail
  refine (copyCheck_any B b bs _ H.out).mono ?_
  rintro e w1 ⟨rfl, h1, hb1, q1⟩
  have Q1 := Lib.hid q1
  clear q1
  obtain ⟨hB, v, hbk, hown, hne⟩ := h1
  have K1 : Blk w1 b 160 #[.pointer (some ⟨b, 0, none⟩), v] := hbk
  have c1 := K1.c2
  have HB1 := Lib.hid hb1
  have hs1 := hb1.size
  have hlt := K1.lt
  clear hb1 hbk
  go_wp2_with (at_builtin; refine Lib.wpList_append_own_string _ rfl _ _ 158 9 rfl B 5 i0 Tryz.underlying158 Tryz.underlying9 hi hz0 hz1 hz2 _ _ _ rfl hown s rfl ?c3 ?c4 ?c5 ?_)
  case c3 => have := HL.out; unfold maxLen; omega
  case c4 => have := HL.out; omega
  case c5 => omega
  intro v' w2 hown' hgrow _
  have K2 := K1.grown hgrow (fun e => hne e.symm)
  have c2 := K2.c2
  obtain ⟨ao, n', cap, rfl⟩ : ∃ ao n' cap, v' = .slice ao n' cap := by
    rcases hown'.2 with ⟨hv, _⟩ | ⟨g, cap, cur, hv, _⟩
    · exact ⟨_, _, _, hv⟩
    · exact ⟨_, _, _, hv⟩
  have HO := Lib.hid hown'
  have HG := Lib.hid hgrow
  have HW := Lib.hid hown
  clear hown' hgrow hown c1
  go_wp2
  go_ret2
  refine ⟨rfl, .inr ?_, ?_, ?_⟩
  · exact Lib.BuilderAt.put (T := 160) (e := 5) hB K2 (bs' := bs ++ Lib.strCells s) (by simpa [Lib.strCells_length] using HO.out) (by decide)
  · exact (HB1.out.grown HG.out (by omega) (fun k hk => (HW.out.lt k hk).1)).setCell (p := ⟨b, 1, none⟩) hB _
  · exact (Q1.out.grown HW.out HG.out).put 1 _
end Bld
end Go.Proofs.YtjjlhihocllgjaaGreatDoor
namespace Go.Proofs.YtjjlhihocllgjaaGreatDoor
open Go.ChangeShapes Go.WideShapes Go.ChangeAt Go.RowKit
namespace Lex
def sep (L : List Tok) (k : Nat) : Bool := decide (0 < k) && (decide ((L.getD k Tok.none).kind ≠ 3) && decide ((L.getD (k - 1) Tok.none).kind ≠ 3))
/-- the bytes of the first k tokens joined -/
def joinTo (L : List Tok) : Nat → List UInt8
  | 0 => []
  | k + 1 => joinTo L k ++ ((if sep L k then [32] else []) ++ (L.getD k Tok.none).text.data.toList)
def joinBytes (L : List Tok) : List UInt8 := joinTo L L.length
theorem joinTo_mono (L : List Tok) : ∀ k n, k ≤ n → (joinTo L k).length ≤ (joinTo L n).length
  | k, n, h => by
    induction n with
    | zero => obtain rfl : k = 0 := by omega
              exact Nat.le_refl _
    | succ n ih =>
      by_cases e : k = n + 1
      · subst e; exact Nat.le_refl _
      · have := ih (by omega)
        rw [joinTo, List.length_append]
        omega
theorem join_sep {L : List Tok} {k : Nat} (h : sep L k = true) : joinTo L (k + 1) = joinTo L k ++ [32] ++ (L.getD k Tok.none).text.data.toList := by
  rw [joinTo, if_pos h]; simp
theorem join_nosep {L : List Tok} {k : Nat} (h : sep L k = false) : joinTo L (k + 1) = joinTo L k ++ (L.getD k Tok.none).text.data.toList := by
  rw [joinTo, if_neg (by rw [h]; exact Bool.false_ne_true)]; simp
theorem getD_eq (L : List Tok) (k : Nat) (h : k < L.length) : L.getD k Tok.none = L[k] := by simp [List.getD, h]
theorem bld_below {T e : TypeId} {B b : Nat} {bs : List Value} {w w' : World} (h : Lib.IsBuilder T e B b bs w) (hb : Below w.heap.size w w') : Lib.IsBuilder T e B b bs w' := by
  have key : ∀ p, Lib.BuilderAt T e B b p bs w → Lib.BuilderAt T e B b p bs w' := by
    rintro p ⟨hB, v, hk, ho, hn⟩
    exact ⟨hB, v, Blk.below' (t := T) hk hb, own_below ho hb, hn⟩
  rcases h with h | h
  · exact .inl (key _ h)
  · exact .inr (key _ h)
theorem byte_snoc (l : List UInt8) (c : UInt8) : Lib.byteCells l ++ [.int .u8 (c.toNat : Int)] = Lib.byteCells (l ++ [c]) := by simp [Lib.byteCells]
theorem byte_str (l : List UInt8) (s : ByteArray) : Lib.byteCells l ++ Lib.strCells s = Lib.byteCells (l ++ s.data.toList) := by
  rw [Lib.strCells_eq, Lib.byteCells_append]

end Lex
end Go.Proofs.YtjjlhihocllgjaaGreatDoor
