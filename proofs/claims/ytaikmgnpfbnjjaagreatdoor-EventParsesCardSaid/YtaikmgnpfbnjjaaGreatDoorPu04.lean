/- Contracts of the scanner's methods (program). Printed by gen_lexM.py. Contracts of IsName. -/
import Derived.Test.YtaikmgnpfbnjjaaGreatDoorPu03
namespace Go.Proofs.YtaikmgnpfbnjjaaGreatDoor
open Go.ChangeShapes Go.WideShapes Go.ChangeAt Go.RowKit
namespace Lex


theorem peek_any (L : List Tok) (e : Int) (g : Nat) (w : World) (h : Scan 161 157 w g L e) (_hm : L.length ≤ maxLen) :
    Calls Tryz.prog 152 #[.pointer (some ⟨g, 0, none⟩)] w fun r w' => r = .returned (.agg #[.int .i64 (peekT L e).kind, .string (peekT L e).text, .int .i64 (peekT L e).value, .int .i64 (peekT L e).pos]) ∧ Below w.heap.size w w' := by
  by_cases he : e = 0
  · subst he
    cases L with
    | nil =>
      obtain ⟨A, c, hb⟩ := h.nil_
      have hg := hb.lt
      have hc := hb.c2
      clear h hb
      go_enter Tryz.func152, Tryz.ntmps152
      go_wp2_with fail
      exact bodyPost_ret (v := .agg #[.int .i64 0, .string ⟨#[]⟩, .int .i64 0, .int .i64 0]) (results_blk rfl rfl (Blk.new _ _ _) Tryz.underlying157 rfl (by kernel_rfl)) rfl ⟨rfl, below_new _ _⟩
    | cons t L =>
      obtain ⟨b, o, c, cs, hb, k2, k3, hb2, hr⟩ := h.cons
      have hg := hb.lt
      have hg2 := hb2.lt
      have hc := hb.c2
      have ht := hr.at_ 0 (by simp)
      simp only [Nat.zero_mul, Nat.add_zero, List.getElem_cons_zero] at ht
      have h0 : ((L.length : Int) + 1 == 0) = false := by simp; omega
      have h1 : (0 : Int) < (L.length : Int) + 1 := by omega
      have hl : L.length + 1 ≤ 9223372036854775807 := by simpa [maxLen] using _hm
      have HP : Hid (peekT (t :: L) 0 = t) := rfl
      generalize peekT (t :: L) 0 = t2 at *
      clear h hb hb2 hr _hm
      generalize L.length = n at *
      go_enter Tryz.func152, Tryz.ntmps152
      go_wp2_with fail
      exact bodyPost_ret (v := .agg #[.int .i64 t.kind, .string t.text, .int .i64 t.value, .int .i64 t.pos]) (results_blk rfl rfl (Blk.new _ _ _) Tryz.underlying157 rfl (by kernel_rfl)) rfl ⟨by rw [HP.out], below_new _ _⟩
  · have HP : Hid (peekT L e = Tok.none) := by unfold peekT; exact if_neg he
    have hne : (e != 0) = true := by simpa using he
    have heq : (e == 0) = false := by simpa using he
    obtain ⟨A, c, hb, _, _, _⟩ := h
    have hg := hb.lt
    have hc := hb.c2
    generalize peekT L e = t2 at *
    generalize L.length = n at *
    clear hb he
    go_enter Tryz.func152, Tryz.ntmps152
    go_wp2_with fail
    exact bodyPost_ret (v := .agg #[.int .i64 0, .string ⟨#[]⟩, .int .i64 0, .int .i64 0]) (results_blk rfl rfl (Blk.new _ _ _) Tryz.underlying157 rfl (by kernel_rfl)) rfl ⟨by rw [HP.out]; rfl, below_new _ _⟩


set_option maxHeartbeats 400000 in
theorem next_nil (g : Nat) (w : World) (h : Scan 161 157 w g [] 0) (_hm : ([] : List Tok).length ≤ maxLen) :
    Calls Tryz.prog 153 #[.pointer (some ⟨g, 0, none⟩)] w fun r w' => r = .returned (.agg #[.int .i64 (peekT [] 0).kind, .string (peekT [] 0).text, .int .i64 (peekT [] 0).value, .int .i64 (peekT [] 0).pos]) ∧ Scan 161 157 w' g (nextL [] 0) 0 ∧ Only g w w' := by
  have H := Lib.hid h
  have CP := Lib.hid fun w (h : Scan 161 157 w g [] 0) => peek_any [] 0 g w h _hm
  generalize hp : peekT [] 0 = t at *
  clear hp
  obtain ⟨A, c, hb⟩ := h.nil_
  clear h
  go_enter Tryz.func153, Tryz.ntmps153
  go_wp2_with fail
  refine (CP.out _ (H.out.below (below_new _ _))).mono ?_
  rintro r w1 ⟨rfl, b1⟩
  have B1 := Lib.hid (chain1 (Below.refl _ _) b1)
  have k1 := (Blk.new w 157 #[.int .i64 0, .string ⟨#[]⟩, .int .i64 0, .int .i64 0]).below' b1
  have g1 := k1.lt
  have d1 := k1.c4
  clear b1
  have hb1 := hb.below' B1.out
  have hg := hb1.lt
  have hc := hb1.c2
  clear hb1
  have HB := Lib.hid hb
  have K1 := Lib.hid k1
  clear hb k1
  go_wp2_with fail
  have B2 := put4_below (a := .int .i64 t.kind) (b := .string t.text) (c := .int .i64 t.value) (d := .int .i64 t.pos) B1.out (Nat.le_refl _)
  have B3 := B2.alloc B2.size (.cells #[.int .i64 t.kind, .string t.text, .int .i64 t.value, .int .i64 t.pos] 157)
  exact bodyPost_ret (v := .agg #[.int .i64 t.kind, .string t.text, .int .i64 t.value, .int .i64 t.pos]) (results_blk rfl rfl ((put4_blk K1.out).alloc _) Tryz.underlying157 rfl (by kernel_rfl)) rfl ⟨rfl, H.out.below B3, Only.of_below g B3⟩
set_option maxHeartbeats 400000 in
theorem next_cons (t0 : Tok) (L : List Tok) (g : Nat) (w : World) (h : Scan 161 157 w g (t0 :: L) 0) (_hm : (t0 :: L).length ≤ maxLen)
    (b o c : Nat) (cs : Array Value) (hb : Blk w g 161 #[.slice (some ⟨b, o, none⟩) (L.length + 1) c, .int .i64 0]) (k2 : L.length + 1 ≤ c) (K3 : Hid (c ≤ maxLen)) (hb2 : Blk w b 157 cs) (HR : Hid (TokRow w b o (t0 :: L))) (hc1 : ¬ c = 1) :
    Calls Tryz.prog 153 #[.pointer (some ⟨g, 0, none⟩)] w fun r w' => r = .returned (.agg #[.int .i64 (peekT (t0 :: L) 0).kind, .string (peekT (t0 :: L) 0).text, .int .i64 (peekT (t0 :: L) 0).value, .int .i64 (peekT (t0 :: L) 0).pos]) ∧ Scan 161 157 w' g (nextL (t0 :: L) 0) 0 ∧ Only g w w' := by
  have H := Lib.hid h
  have CP := Lib.hid fun w (h : Scan 161 157 w g (t0 :: L) 0) => peek_any (t0 :: L) 0 g w h _hm
  generalize hp : peekT (t0 :: L) 0 = t at *
  clear hp
  have hg0 := hb.lt
  have hb0 := hb2.lt
  clear h
  have h0 : ((L.length : Int) + 1 == 0) = false := by simp; omega
  have h1 : (0 : Int) < (L.length : Int) + 1 := by omega
  have h1d : decide ((0 : Int) < (L.length : Int) + 1) = true := decide_eq_true h1
  have hl : L.length + 1 ≤ 9223372036854775807 := by simpa [maxLen] using _hm
  have HN : Hid (nextL (t0 :: L) 0 = L) := rfl
  clear _hm
  go_enter Tryz.func153, Tryz.ntmps153
  go_wp2_with fail
  refine (CP.out _ (H.out.below (below_new _ _))).mono ?_
  rintro r w1 ⟨rfl, b1⟩
  have B1 := Lib.hid (chain1 (Below.refl _ _) b1)
  have k1 := (Blk.new w 157 #[.int .i64 0, .string ⟨#[]⟩, .int .i64 0, .int .i64 0]).below' b1
  have g1 := k1.lt
  have d1 := k1.c4
  clear b1
  have hb1 := hb.below' B1.out
  have hg := hb1.lt
  have hc := hb1.c2
  have HB1 := Lib.hid hb1
  have HB2 := Lib.hid hb2
  have HB3 := Lib.hid (hb2.below' B1.out)
  have HNE := Lib.hid (hb2.apart hb (by decide))
  have K1 := Lib.hid k1
  clear hb hb1 hb2 k1
  dsimp only
  repeat (first | go_values | go_skip | go_guarded | go_step | go_upon)
  have B2 := put4_only (g' := g) (a := .int .i64 t.kind) (b := .string t.text) (c := .int .i64 t.value) (d := .int .i64 t.pos) ((Only.of_below g B1.out).put 0 (.slice (some ⟨b, o + 4, none⟩) L.length (c - 1))) (Nat.le_refl _)
  have B3 := B2.alloc (.cells #[.int .i64 t.kind, .string t.text, .int .i64 t.value, .int .i64 t.pos] 157)
  refine bodyPost_ret (v := .agg #[.int .i64 t.kind, .string t.text, .int .i64 t.value, .int .i64 t.pos]) (results_blk rfl rfl ((put4_blk (K1.out.far (p := ⟨g, 0, none⟩) (Nat.ne_of_gt hg0) _)).alloc _) Tryz.underlying157 rfl (by kernel_rfl)) rfl ⟨rfl, ?_, B3⟩
  rw [HN.out]
  exact Scan.mk2 ((put4_far (HB1.out.put 0 _) (Nat.ne_of_lt hg0)).alloc _) k2 K3.out HB2.out HR.out ((put4_far (HB3.out.far (p := ⟨g, 0, none⟩) HNE.out _) (Nat.ne_of_lt hb0)).alloc _) (fun _ => rfl)
set_option maxHeartbeats 400000 in
theorem next_one (t0 : Tok) (g : Nat) (w : World) (h : Scan 161 157 w g [t0] 0) (_hm : [t0].length ≤ maxLen)
    (b o : Nat) (cs : Array Value) (hb : Blk w g 161 #[.slice (some ⟨b, o, none⟩) 1 1, .int .i64 0]) (hb2 : Blk w b 157 cs) (HR : Hid (TokRow w b o [t0])) :
    Calls Tryz.prog 153 #[.pointer (some ⟨g, 0, none⟩)] w fun r w' => r = .returned (.agg #[.int .i64 (peekT [t0] 0).kind, .string (peekT [t0] 0).text, .int .i64 (peekT [t0] 0).value, .int .i64 (peekT [t0] 0).pos]) ∧ Scan 161 157 w' g (nextL [t0] 0) 0 ∧ Only g w w' := by
  have H := Lib.hid h
  have CP := Lib.hid fun w (h : Scan 161 157 w g [t0] 0) => peek_any [t0] 0 g w h _hm
  generalize hp : peekT [t0] 0 = t at *
  clear hp
  have hg0 := hb.lt
  have hb0 := hb2.lt
  clear h
  have HN : Hid (nextL [t0] 0 = []) := rfl
  clear _hm
  go_enter Tryz.func153, Tryz.ntmps153
  go_wp2_with fail
  refine (CP.out _ (H.out.below (below_new _ _))).mono ?_
  rintro r w1 ⟨rfl, b1⟩
  have B1 := Lib.hid (chain1 (Below.refl _ _) b1)
  have k1 := (Blk.new w 157 #[.int .i64 0, .string ⟨#[]⟩, .int .i64 0, .int .i64 0]).below' b1
  have g1 := k1.lt
  have d1 := k1.c4
  clear b1
  have hb1 := hb.below' B1.out
  have hg := hb1.lt
  have hc := hb1.c2
  have HB1 := Lib.hid hb1
  have HB2 := Lib.hid hb2
  have HB3 := Lib.hid (hb2.below' B1.out)
  have HNE := Lib.hid (hb2.apart hb (by decide))
  have K1 := Lib.hid k1
  clear hb hb1 hb2 k1
  dsimp only
  repeat (first | go_values | go_skip | go_guarded | go_step | go_upon)
  have B2 := put4_only (g' := g) (a := .int .i64 t.kind) (b := .string t.text) (c := .int .i64 t.value) (d := .int .i64 t.pos) ((Only.of_below g B1.out).put 0 (.slice (some ⟨b, o, none⟩) 0 0)) (Nat.le_refl _)
  have B3 := B2.alloc (.cells #[.int .i64 t.kind, .string t.text, .int .i64 t.value, .int .i64 t.pos] 157)
  refine bodyPost_ret (v := .agg #[.int .i64 t.kind, .string t.text, .int .i64 t.value, .int .i64 t.pos]) (results_blk rfl rfl ((put4_blk (K1.out.far (p := ⟨g, 0, none⟩) (Nat.ne_of_gt hg0) _)).alloc _) Tryz.underlying157 rfl (by kernel_rfl)) rfl ⟨rfl, ?_, B3⟩
  rw [HN.out]
  exact Scan.mk2 (c := 1) (L := []) ((put4_far (HB1.out.put 0 _) (Nat.ne_of_lt hg0)).alloc _) (by simp) (by unfold maxLen; omega) HB2.out HR.out ((put4_far (HB3.out.far (p := ⟨g, 0, none⟩) HNE.out _) (Nat.ne_of_lt hb0)).alloc _) (fun h => absurd rfl h)
set_option maxHeartbeats 400000 in
theorem next_err (L : List Tok) (e : Int) (g : Nat) (w : World) (he : ¬ e = 0) (h : Scan 161 157 w g L e) (_hm : L.length ≤ maxLen) :
    Calls Tryz.prog 153 #[.pointer (some ⟨g, 0, none⟩)] w fun r w' => r = .returned (.agg #[.int .i64 (peekT L e).kind, .string (peekT L e).text, .int .i64 (peekT L e).value, .int .i64 (peekT L e).pos]) ∧ Scan 161 157 w' g (nextL L e) e ∧ Only g w w' := by
  have H := Lib.hid h
  have CP := Lib.hid fun w (h : Scan 161 157 w g L e) => peek_any L e g w h _hm
  generalize hp : peekT L e = t at *
  clear hp
  have hne : (e != 0) = true := by simpa using he
  have heq : (e == 0) = false := by simpa using he
  have HN : Hid (nextL L e = L) := by unfold nextL; exact if_neg he
  obtain ⟨A, c, hb, _, _, _⟩ := h
  clear he
  go_enter Tryz.func153, Tryz.ntmps153
  go_wp2_with fail
  refine (CP.out _ (H.out.below (below_new _ _))).mono ?_
  rintro r w1 ⟨rfl, b1⟩
  have B1 := Lib.hid (chain1 (Below.refl _ _) b1)
  have k1 := (Blk.new w 157 #[.int .i64 0, .string ⟨#[]⟩, .int .i64 0, .int .i64 0]).below' b1
  have g1 := k1.lt
  have d1 := k1.c4
  clear b1
  have hb1 := hb.below' B1.out
  have hg := hb1.lt
  have hc := hb1.c2
  clear hb1
  have HB := Lib.hid hb
  have K1 := Lib.hid k1
  clear hb k1
  go_wp2_with fail
  have B2 := put4_below (a := .int .i64 t.kind) (b := .string t.text) (c := .int .i64 t.value) (d := .int .i64 t.pos) B1.out (Nat.le_refl _)
  have B3 := B2.alloc B2.size (.cells #[.int .i64 t.kind, .string t.text, .int .i64 t.value, .int .i64 t.pos] 157)
  exact bodyPost_ret (v := .agg #[.int .i64 t.kind, .string t.text, .int .i64 t.value, .int .i64 t.pos]) (results_blk rfl rfl ((put4_blk K1.out).alloc _) Tryz.underlying157 rfl (by kernel_rfl)) rfl ⟨rfl, by rw [HN.out]; exact H.out.below B3, Only.of_below g B3⟩
theorem next_any (L : List Tok) (e : Int) (g : Nat) (w : World) (h : Scan 161 157 w g L e) (_hm : L.length ≤ maxLen) :
    Calls Tryz.prog 153 #[.pointer (some ⟨g, 0, none⟩)] w fun r w' => r = .returned (.agg #[.int .i64 (peekT L e).kind, .string (peekT L e).text, .int .i64 (peekT L e).value, .int .i64 (peekT L e).pos]) ∧ Scan 161 157 w' g (nextL L e) e ∧ Only g w w' := by
  by_cases he : e = 0
  · subst he
    cases L with
    | nil => exact next_nil g w h _hm
    | cons t0 L =>
      obtain ⟨b, o, c, cs, hb, k2, k3, hb2, hr⟩ := h.cons
      by_cases hc1 : c = 1
      · subst hc1
        obtain rfl : L = [] := List.eq_nil_of_length_eq_zero (by omega)
        exact next_one t0 g w h _hm b o cs hb hb2 hr
      · exact next_cons t0 L g w h _hm b o c cs hb k2 k3 hb2 hr hc1
  · exact next_err L e g w he h _hm


theorem fail_any (L : List Tok) (e x : Int) (g : Nat) (w : World) (h : Scan 161 157 w g L e) :
    Calls Tryz.prog 135 #[.pointer (some ⟨g, 0, none⟩), .int .i64 x] w fun r w' => r = .returned (.tuple #[]) ∧ Scan 161 157 w' g L (failE e x) ∧ Only g w w' := by
  obtain ⟨A, c, hb, h2, h3, h4⟩ := h
  have H := Lib.hid (show Scan 161 157 w g L e from ⟨A, c, hb, h2, h3, h4⟩)
  have hg := hb.lt
  have hc := hb.c2
  clear hb h2 h3 h4
  by_cases he : e = 0
  · subst he
    have HF : Hid (failE 0 x = x) := rfl
    generalize failE 0 x = y at *
    generalize L.length = m at *
    go_enter Tryz.func135, Tryz.ntmps135
    go_wp2_with fail
    go_end0
    rw [HF.out]
    exact ⟨rfl, H.out.fail (by decide) x, (Only.refl g w).put 1 _⟩
  · have hne : (e != 0) = true := by simpa using he
    have heq : (e == 0) = false := by simpa using he
    have HF : Hid (failE e x = e) := if_neg he
    generalize failE e x = y at *
    generalize L.length = m at *
    clear he
    go_enter Tryz.func135, Tryz.ntmps135
    go_wp2_with fail
    go_end0
    rw [HF.out]
    exact ⟨rfl, H.out, Only.refl g w⟩
theorem wrong_any (L : List Tok) (e : Int) (g : Nat) (w : World) (h : Scan 161 157 w g L e) (_hm : L.length ≤ maxLen) :
    Calls Tryz.prog 151 #[.pointer (some ⟨g, 0, none⟩)] w fun r w' => r = .returned (.tuple #[]) ∧ Scan 161 157 w' g L (wrongE L e) ∧ Only g w w' := by
  have H := Lib.hid h
  have CF := Lib.hid fail_any
  obtain ⟨A, c, hb, h2, h3, h4⟩ := h
  have hg := hb.lt
  have hc := hb.c2
  clear hb h2 h3 h4
  have hl : L.length ≤ 9223372036854775807 := by simpa [maxLen] using _hm
  clear _hm
  cases L with
  | nil =>
    go_enter Tryz.func151, Tryz.ntmps151
    go_wp2_with fail
    refine (CF.out _ _ _ _ _ H.out).mono ?_
    rintro r w1 ⟨rfl, s1, o1⟩
    have S1 := Lib.hid s1
    have O1 := Lib.hid o1
    clear s1 o1
    go_wp2_with fail
    refine (CF.out _ _ _ _ _ S1.out).mono ?_
    rintro r w2 ⟨rfl, s2, o2⟩
    have S2 := Lib.hid s2
    have O2 := Lib.hid o2
    clear s2 o2
    go_wp2_with fail
    go_end0
    exact ⟨rfl, S2.out, O1.out.trans O2.out⟩
  | cons t0 L =>
    have h0 : ((L.length : Int) + 1 == 0) = false := by simp; omega
    go_enter Tryz.func151, Tryz.ntmps151
    go_wp2_with fail
    refine (CF.out _ _ _ _ _ H.out).mono ?_
    rintro r w1 ⟨rfl, s1, o1⟩
    have S1 := Lib.hid s1
    have O1 := Lib.hid o1
    clear s1 o1
    go_wp2_with fail
    go_end0
    exact ⟨rfl, S1.out, O1.out⟩


theorem err_any (L : List Tok) (e : Int) (g : Nat) (w : World) (h : Scan 161 157 w g L e) :
    Calls Tryz.prog 134 #[.pointer (some ⟨g, 0, none⟩)] w fun r w' => r = .returned (.int .i64 e) ∧ w = w' := by
  obtain ⟨A, c, hb, h2, h3, h4⟩ := h
  have hg := hb.lt
  have hc := hb.c2
  clear hb h2 h3 h4
  generalize L.length = m at *
  go_enter Tryz.func134, Tryz.ntmps134
  go_wp2_with fail
  go_ret
  exact ⟨rfl, rfl⟩
theorem end_any (L : List Tok) (e : Int) (g : Nat) (w : World) (h : Scan 161 157 w g L e) (_hm : L.length ≤ maxLen) :
    Calls Tryz.prog 114 #[.pointer (some ⟨g, 0, none⟩)] w fun r w' => r = .returned (.int .i64 (endE L e)) ∧ w = w' := by
  have H := Lib.hid h
  have CE := Lib.hid err_any
  obtain ⟨A, c, hb, h2, h3, h4⟩ := h
  have hg := hb.lt
  have hc := hb.c2
  clear hb h2 h3 h4
  have hl : L.length ≤ 9223372036854775807 := by simpa [maxLen] using _hm
  clear _hm
  by_cases he : e = 0
  · subst he
    cases L with
    | nil =>
      have HF : Hid (endE [] 0 = 0) := rfl
      generalize endE [] 0 = y at *
      go_enter Tryz.func114, Tryz.ntmps114
      go_wp2_with fail
      refine (CE.out _ _ _ _ H.out).mono ?_
      rintro r w' ⟨rfl, rfl⟩
      go_wp2_with fail
      go_ret
      exact ⟨by rw [HF.out]; rfl, rfl⟩
    | cons t0 L =>
      have h1 : (0 : Int) < (L.length : Int) + 1 := by omega
      have h1d : decide ((0 : Int) < (L.length : Int) + 1) = true := decide_eq_true h1
      have HF : Hid (endE (t0 :: L) 0 = 3) := by unfold endE; exact if_pos ⟨rfl, by simp⟩
      generalize endE (t0 :: L) 0 = y at *
      go_enter Tryz.func114, Tryz.ntmps114
      go_wp2_with fail
      go_ret
      exact ⟨by rw [HF.out]; rfl, rfl⟩
  · have hne : (e != 0) = true := by simpa using he
    have heq : (e == 0) = false := by simpa using he
    have HF : Hid (endE L e = e) := by unfold endE; exact if_neg (fun h => he h.1)
    generalize endE L e = y at *
    clear he
    go_enter Tryz.func114, Tryz.ntmps114
    go_wp2_with fail
    refine (CE.out _ _ _ _ H.out).mono ?_
    rintro r w' ⟨rfl, rfl⟩
    go_wp2_with fail
    go_ret
    exact ⟨by rw [HF.out]; rfl, rfl⟩


def accB (L : List Tok) (e : Int) (m : ByteArray) : Prop := (peekT L e).kind = 3 ∧ (peekT L e).text = m
theorem toList_of_ne {a b : ByteArray} (h : a ≠ b) : (a.toList == b.toList) = false := by
  refine beq_eq_false_iff_ne.2 fun e => h ?_
  rw [ByteArray.toList_eq, ByteArray.toList_eq] at e
  obtain ⟨⟨x⟩⟩ := a
  obtain ⟨⟨y⟩⟩ := b
  dsimp only at e
  rw [e]
theorem accept_yes (L : List Tok) (e : Int) (g : Nat) (m : ByteArray) (w : World) (h : Scan 161 157 w g L e) (hm : L.length ≤ maxLen) (ha : accB L e m) :
    Calls Tryz.prog 137 #[.pointer (some ⟨g, 0, none⟩), .string m] w fun r w' => r = .returned (.bool true) ∧ Scan 161 157 w' g (nextL L e) e ∧ Only g w w' := by
  have H := Lib.hid h
  have CP := Lib.hid fun w (h : Scan 161 157 w g L e) => peek_any L e g w h hm
  have CN := Lib.hid fun w (h : Scan 161 157 w g L e) => next_any L e g w h hm
  clear h hm
  unfold accB at ha
  generalize peekT L e = t at *
  obtain ⟨tk, tt, tv, tp⟩ := t
  obtain ⟨rfl, rfl⟩ := ha
  dsimp only at CP CN
  go_enter Tryz.func137, Tryz.ntmps137
  go_wp2_with fail
  refine (CP.out _ H.out).mono ?_
  rintro r w1 ⟨rfl, b1⟩
  have B1 := Lib.hid b1
  have S1 := Lib.hid ((H.out.below b1).below (below_new w1 (.cells #[.int .i64 3, .string tt, .int .i64 tv, .int .i64 tp] 157)))
  clear b1
  go_wp2_with fail
  refine (CN.out _ S1.out).mono ?_
  rintro r w2 ⟨rfl, s2, o2⟩
  have S2 := Lib.hid s2
  have O2 := Lib.hid o2
  clear s2 o2
  go_wp2_with fail
  go_ret
  exact ⟨rfl, S2.out, ((Only.of_below g B1.out).alloc _).trans O2.out⟩
theorem accept_no (L : List Tok) (e : Int) (g : Nat) (m : ByteArray) (w : World) (h : Scan 161 157 w g L e) (hm : L.length ≤ maxLen) (ha : ¬ accB L e m) :
    Calls Tryz.prog 137 #[.pointer (some ⟨g, 0, none⟩), .string m] w fun r w' => r = .returned (.bool false) ∧ Scan 161 157 w' g L e ∧ Only g w w' := by
  have H := Lib.hid h
  have CP := Lib.hid fun w (h : Scan 161 157 w g L e) => peek_any L e g w h hm
  clear h hm
  unfold accB at ha
  generalize peekT L e = t at *
  obtain ⟨tk, tt, tv, tp⟩ := t
  dsimp only at CP ha
  by_cases hk : tk = 3
  · subst hk
    have hne : (tt.toList == m.toList) = false := toList_of_ne (fun h => ha ⟨rfl, h⟩)
    have hne2 : (tt.toList != m.toList) = true := by unfold bne; rw [hne]; rfl
    clear ha
    go_enter Tryz.func137, Tryz.ntmps137
    go_wp2_with fail
    refine (CP.out _ H.out).mono ?_
    rintro r w1 ⟨rfl, b1⟩
    have B1 := Lib.hid b1
    have S1 := Lib.hid ((H.out.below b1).below (below_new w1 (.cells #[.int .i64 3, .string tt, .int .i64 tv, .int .i64 tp] 157)))
    clear b1
    go_wp2_with fail
    go_ret
    exact ⟨rfl, S1.out, (Only.of_below g B1.out).alloc _⟩
  · have hne : (tk != 3) = true := by simpa using hk
    have heq : (tk == 3) = false := by simpa using hk
    clear ha hk
    go_enter Tryz.func137, Tryz.ntmps137
    go_wp2_with fail
    refine (CP.out _ H.out).mono ?_
    rintro r w1 ⟨rfl, b1⟩
    have B1 := Lib.hid b1
    have S1 := Lib.hid ((H.out.below b1).below (below_new w1 (.cells #[.int .i64 tk, .string tt, .int .i64 tv, .int .i64 tp] 157)))
    clear b1
    go_wp2_with fail
    go_ret
    exact ⟨rfl, S1.out, (Only.of_below g B1.out).alloc _⟩


noncomputable def expL (L : List Tok) (e : Int) (m : ByteArray) : List Tok := @ite _ (accB L e m) (Classical.propDecidable _) (nextL L e) L
noncomputable def expE (L : List Tok) (e : Int) (m : ByteArray) : Int := @ite _ (accB L e m) (Classical.propDecidable _) e (wrongE L e)
theorem expect_any (L : List Tok) (e : Int) (g : Nat) (m : ByteArray) (w : World) (h : Scan 161 157 w g L e) (hm : L.length ≤ maxLen) :
    Calls Tryz.prog 136 #[.pointer (some ⟨g, 0, none⟩), .string m] w fun r w' => r = .returned (.tuple #[]) ∧ Scan 161 157 w' g (expL L e m) (expE L e m) ∧ Only g w w' := by
  by_cases ha : accB L e m
  · have h1 : expL L e m = nextL L e := by unfold expL; rw [if_pos ha]
    have h2 : expE L e m = e := by unfold expE; rw [if_pos ha]
    rw [h1, h2]
    have C := accept_yes L e g m w h hm ha
    clear h1 h2 h
    go_enter Tryz.func136, Tryz.ntmps136
    go_wp2_with fail
    refine C.mono ?_
    rintro r w1 ⟨rfl, s1, o1⟩
    have S1 := Lib.hid s1
    have O1 := Lib.hid o1
    clear s1 o1
    go_wp2_with fail
    go_end0
    exact ⟨rfl, S1.out, O1.out⟩
  · have h1 : expL L e m = L := by unfold expL; rw [if_neg ha]
    have h2 : expE L e m = wrongE L e := by unfold expE; rw [if_neg ha]
    rw [h1, h2]
    have C := accept_no L e g m w h hm ha
    have CW := Lib.hid fun w (h : Scan 161 157 w g L e) => wrong_any L e g w h hm
    clear h1 h2 h
    go_enter Tryz.func136, Tryz.ntmps136
    go_wp2_with fail
    refine C.mono ?_
    rintro r w1 ⟨rfl, s1, o1⟩
    have S1 := Lib.hid s1
    have O1 := Lib.hid o1
    clear s1 o1
    go_wp2_with fail
    refine (CW.out _ S1.out).mono ?_
    rintro r w2 ⟨rfl, s2, o2⟩
    have S2 := Lib.hid s2
    have O2 := Lib.hid o2
    clear s2 o2
    go_wp2_with fail
    go_end0
    exact ⟨rfl, S2.out, O1.out.trans O2.out⟩
def nameT (L : List Tok) (e : Int) : ByteArray := if (peekT L e).kind = 1 then (peekT L e).text else ⟨#[]⟩
def nameL (L : List Tok) (e : Int) : List Tok := if (peekT L e).kind = 1 then nextL L e else L
def nameE (L : List Tok) (e : Int) : Int := if (peekT L e).kind = 1 then e else wrongE L e
def amtV (L : List Tok) (e most : Int) : Int := if (peekT L e).kind = 2 ∧ 0 ≤ (peekT L e).value ∧ (peekT L e).value ≤ most then (peekT L e).value else 0
def amtL (L : List Tok) (e most : Int) : List Tok := if (peekT L e).kind = 2 ∧ 0 ≤ (peekT L e).value ∧ (peekT L e).value ≤ most then nextL L e else L
def amtE (L : List Tok) (e most : Int) : Int := if (peekT L e).kind = 2 then (if 0 ≤ (peekT L e).value ∧ (peekT L e).value ≤ most then e else failE e 4) else wrongE L e


theorem name_any (L : List Tok) (e : Int) (g : Nat) (w : World) (h : Scan 161 157 w g L e) (hm : L.length ≤ maxLen) :
    Calls Tryz.prog 154 #[.pointer (some ⟨g, 0, none⟩)] w fun r w' => r = .returned (.string (nameT L e)) ∧ Scan 161 157 w' g (nameL L e) (nameE L e) ∧ Only g w w' := by
  have H := Lib.hid h
  have CP := Lib.hid fun w (h : Scan 161 157 w g L e) => peek_any L e g w h hm
  have CN := Lib.hid fun w (h : Scan 161 157 w g L e) => next_any L e g w h hm
  have CW := Lib.hid fun w (h : Scan 161 157 w g L e) => wrong_any L e g w h hm
  have CF := Lib.hid fun x w (h : Scan 161 157 w g L e) => fail_any L e x g w h
  clear h hm
  unfold nameT nameL nameE
  generalize peekT L e = t at *
  obtain ⟨tk, tt, tv, tp⟩ := t
  dsimp only at CP CN ⊢
  by_cases hk : tk = 1
  · subst hk
    simp only [if_true]
    go_enter Tryz.func154, Tryz.ntmps154
    go_wp2_with fail
    refine (CP.out _ H.out).mono ?_
    rintro r w1 ⟨rfl, b1⟩
    have B1 := Lib.hid b1
    have S1 := Lib.hid ((H.out.below b1).below (below_new w1 (.cells #[.int .i64 1, .string tt, .int .i64 tv, .int .i64 tp] 157)))
    clear b1
    have K1 := Lib.hid (Blk.new w1 157 #[.int .i64 1, .string tt, .int .i64 tv, .int .i64 tp])
    go_wp2_with fail
    refine (CN.out _ S1.out).mono ?_
    rintro r w2 ⟨rfl, s2, o2⟩
    have S2 := Lib.hid s2
    have O2 := Lib.hid o2
    have k2 := K1.out.only o2 (by have := S1.out.lt; have h3 := (H.out.below B1.out).lt; omega)
    have d2 := k2.c4
    clear s2 o2 k2
    go_wp2_with fail
    go_ret
    exact ⟨rfl, S2.out, ((Only.of_below g B1.out).alloc _).trans O2.out⟩
  · simp only [if_neg hk]
    have hne : (tk != 1) = true := by simpa using hk
    have heq : (tk == 1) = false := by simpa using hk
    clear hk
    go_enter Tryz.func154, Tryz.ntmps154
    go_wp2_with fail
    refine (CP.out _ H.out).mono ?_
    rintro r w1 ⟨rfl, b1⟩
    have B1 := Lib.hid b1
    have S1 := Lib.hid ((H.out.below b1).below (below_new w1 (.cells #[.int .i64 tk, .string tt, .int .i64 tv, .int .i64 tp] 157)))
    clear b1
    have K1 := Lib.hid (Blk.new w1 157 #[.int .i64 tk, .string tt, .int .i64 tv, .int .i64 tp])
    go_wp2_with fail
    refine (CW.out _ S1.out).mono ?_
    rintro r w2 ⟨rfl, s2, o2⟩
    have S2 := Lib.hid s2
    have O2 := Lib.hid o2
    have k2 := K1.out.only o2 (by have := S1.out.lt; have h3 := (H.out.below B1.out).lt; omega)
    have d2 := k2.c4
    clear s2 o2 k2
    go_wp2_with fail
    go_ret
    exact ⟨rfl, S2.out, ((Only.of_below g B1.out).alloc _).trans O2.out⟩

theorem amount_any (L : List Tok) (e most : Int) (g : Nat) (w : World) (h : Scan 161 157 w g L e) (hm : L.length ≤ maxLen) :
    Calls Tryz.prog 155 #[.pointer (some ⟨g, 0, none⟩), .int .i64 most] w fun r w' => r = .returned (.int .i64 (amtV L e most)) ∧ Scan 161 157 w' g (amtL L e most) (amtE L e most) ∧ Only g w w' := by
  have H := Lib.hid h
  have CP := Lib.hid fun w (h : Scan 161 157 w g L e) => peek_any L e g w h hm
  have CN := Lib.hid fun w (h : Scan 161 157 w g L e) => next_any L e g w h hm
  have CW := Lib.hid fun w (h : Scan 161 157 w g L e) => wrong_any L e g w h hm
  have CF := Lib.hid fun x w (h : Scan 161 157 w g L e) => fail_any L e x g w h
  clear h hm
  unfold amtV amtL amtE
  generalize peekT L e = t at *
  obtain ⟨tk, tt, tv, tp⟩ := t
  dsimp only at CP CN ⊢
  by_cases hk : tk = 2
  · subst hk
    by_cases h0 : 0 ≤ tv
    · have c1 : decide (tv < 0) = false := by simp; omega
      by_cases h1 : tv ≤ most
      · have c2 : decide (most < tv) = false := by simp; omega
        rw [if_pos ⟨rfl, h0, h1⟩, if_pos ⟨rfl, h0, h1⟩, if_pos rfl, if_pos ⟨h0, h1⟩]
        go_enter Tryz.func155, Tryz.ntmps155
        go_wp2_with fail
        refine (CP.out _ H.out).mono ?_
        rintro r w1 ⟨rfl, b1⟩
        have B1 := Lib.hid b1
        have S1 := Lib.hid ((H.out.below b1).below (below_new w1 (.cells #[.int .i64 2, .string tt, .int .i64 tv, .int .i64 tp] 157)))
        clear b1
        have K1 := Lib.hid (Blk.new w1 157 #[.int .i64 2, .string tt, .int .i64 tv, .int .i64 tp])
        go_wp2_with fail
        refine (CN.out _ S1.out).mono ?_
        rintro r w2 ⟨rfl, s2, o2⟩
        have S2 := Lib.hid s2
        have O2 := Lib.hid o2
        have k2 := K1.out.only o2 (by have := S1.out.lt; have h3 := (H.out.below B1.out).lt; omega)
        have d2 := k2.c4
        clear s2 o2 k2
        go_wp2_with fail
        go_ret
        exact ⟨rfl, S2.out, ((Only.of_below g B1.out).alloc _).trans O2.out⟩
      · have c2 : decide (most < tv) = true := by simp; omega
        rw [if_neg (fun h => h1 h.2.2), if_neg (fun h => h1 h.2.2), if_pos rfl, if_neg (fun h => h1 h.2)]
        go_enter Tryz.func155, Tryz.ntmps155
        go_wp2_with fail
        refine (CP.out _ H.out).mono ?_
        rintro r w1 ⟨rfl, b1⟩
        have B1 := Lib.hid b1
        have S1 := Lib.hid ((H.out.below b1).below (below_new w1 (.cells #[.int .i64 2, .string tt, .int .i64 tv, .int .i64 tp] 157)))
        clear b1
        have K1 := Lib.hid (Blk.new w1 157 #[.int .i64 2, .string tt, .int .i64 tv, .int .i64 tp])
        go_wp2_with fail
        refine (CF.out _ _ S1.out).mono ?_
        rintro r w2 ⟨rfl, s2, o2⟩
        have S2 := Lib.hid s2
        have O2 := Lib.hid o2
        have k2 := K1.out.only o2 (by have := S1.out.lt; have h3 := (H.out.below B1.out).lt; omega)
        have d2 := k2.c4
        clear s2 o2 k2
        go_wp2_with fail
        go_ret
        exact ⟨rfl, S2.out, ((Only.of_below g B1.out).alloc _).trans O2.out⟩
    · have c1 : decide (tv < 0) = true := by simp; omega
      rw [if_neg (fun h => h0 h.2.1), if_neg (fun h => h0 h.2.1), if_pos rfl, if_neg (fun h => h0 h.1)]
      go_enter Tryz.func155, Tryz.ntmps155
      go_wp2_with fail
      refine (CP.out _ H.out).mono ?_
      rintro r w1 ⟨rfl, b1⟩
      have B1 := Lib.hid b1
      have S1 := Lib.hid ((H.out.below b1).below (below_new w1 (.cells #[.int .i64 2, .string tt, .int .i64 tv, .int .i64 tp] 157)))
      clear b1
      have K1 := Lib.hid (Blk.new w1 157 #[.int .i64 2, .string tt, .int .i64 tv, .int .i64 tp])
      go_wp2_with fail
      refine (CF.out _ _ S1.out).mono ?_
      rintro r w2 ⟨rfl, s2, o2⟩
      have S2 := Lib.hid s2
      have O2 := Lib.hid o2
      have k2 := K1.out.only o2 (by have := S1.out.lt; have h3 := (H.out.below B1.out).lt; omega)
      have d2 := k2.c4
      clear s2 o2 k2
      go_wp2_with fail
      go_ret
      exact ⟨rfl, S2.out, ((Only.of_below g B1.out).alloc _).trans O2.out⟩
  · rw [if_neg (fun h => hk h.1), if_neg (fun h => hk h.1), if_neg hk]
    have hne : (tk != 2) = true := by simpa using hk
    have heq : (tk == 2) = false := by simpa using hk
    clear hk
    go_enter Tryz.func155, Tryz.ntmps155
    go_wp2_with fail
    refine (CP.out _ H.out).mono ?_
    rintro r w1 ⟨rfl, b1⟩
    have B1 := Lib.hid b1
    have S1 := Lib.hid ((H.out.below b1).below (below_new w1 (.cells #[.int .i64 tk, .string tt, .int .i64 tv, .int .i64 tp] 157)))
    clear b1
    have K1 := Lib.hid (Blk.new w1 157 #[.int .i64 tk, .string tt, .int .i64 tv, .int .i64 tp])
    go_wp2_with fail
    refine (CW.out _ S1.out).mono ?_
    rintro r w2 ⟨rfl, s2, o2⟩
    have S2 := Lib.hid s2
    have O2 := Lib.hid o2
    have k2 := K1.out.only o2 (by have := S1.out.lt; have h3 := (H.out.below B1.out).lt; omega)
    have d2 := k2.c4
    clear s2 o2 k2
    go_wp2_with fail
    go_ret
    exact ⟨rfl, S2.out, ((Only.of_below g B1.out).alloc _).trans O2.out⟩


end Lex
end Go.Proofs.YtaikmgnpfbnjjaaGreatDoor
namespace Go.Proofs.YtaikmgnpfbnjjaaGreatDoor
open Go.ChangeShapes Go.WideShapes Go.ChangeAt Go.RowKit
namespace Lex
/-- a word and nothing else, of 1 to 12 bytes -/
def nameOk (s : ByteArray) : Bool := decide (0 < s.size) && (decide (s.size ≤ 12) && ((s.data.toList.head?.any isLet) && decide (runLen isInn s 0 = s.size)))
theorem empty_of (s : ByteArray) (h : s.size = 0) : s = ⟨#[]⟩ := by
  obtain ⟨⟨l⟩⟩ := s
  cases l with
  | nil => rfl
  | cons a l => simp [ByteArray.size] at h
theorem bytes_ne_nil {s : ByteArray} (h : 0 < s.size) : (s.toList == ([] : List UInt8)) = false := by
  rw [ByteArray.toList_eq]
  obtain ⟨⟨l⟩⟩ := s
  cases l with
  | nil => simp [ByteArray.size] at h
  | cons a l => rfl
theorem bytes_isEmpty {s : ByteArray} (h : 0 < s.size) : s.toList.isEmpty = false := by
  rw [ByteArray.toList_eq]
  obtain ⟨⟨l⟩⟩ := s
  cases l with
  | nil => simp [ByteArray.size] at h
  | cons a l => rfl
theorem head_any (s : ByteArray) (h : 0 < s.size) : s.data.toList.head?.any isLet = isLet s[0] := by
  rw [toList_cons s h]
  rfl
theorem extract_all (s : ByteArray) : s.extract 0 s.size = s := by
  obtain ⟨⟨l⟩⟩ := s
  apply ByteArray.ext
  simp [ByteArray.size]
theorem extract_run_ne (s : ByteArray) (h : runLen isInn s 0 ≠ s.size) (hl : 0 + runLen isInn s 0 ≤ s.size) : s.extract 0 (0 + runLen isInn s 0) ≠ s := by
  intro e
  have := congrArg ByteArray.size e
  simp at this
  omega
theorem isName_any (s : ByteArray) (w : World) (hs : s.size ≤ maxLen) : Calls Tryz.prog 96 #[.string s] w fun e w' => e = .returned (.bool (nameOk s)) ∧ w = w' := by
  unfold maxLen at hs
  by_cases h0 : s.size = 0
  · obtain rfl := empty_of s h0
    have HN : Hid (nameOk ⟨#[]⟩ = false) := rfl
    generalize nameOk ⟨#[]⟩ = r at *
    go_enter Tryz.func96, Tryz.ntmps96
    go_wp2_with fail
    go_ret
    exact ⟨by rw [HN.out]; rfl, rfl⟩
  · have hp : 0 < s.size := by omega
    have hn : nameOk s = (decide (s.size ≤ 12) && (isLet s[0] && decide (runLen isInn s 0 = s.size))) := by
      unfold nameOk
      rw [decide_eq_true hp, head_any s hp, Bool.true_and]
    have HN := Lib.hid hn
    have h1 := bytes_ne_nil hp
    have h2 := bytes_isEmpty hp
    have hle := runLen_le isInn s 0 (by omega)
    have CL := Lib.hid (letter_any s[0])
    have WB := Lib.hid (wrap32_byte s[0])
    have CR := Lib.hid (fun w => run_inner s 0 w (by unfold maxLen; omega) (by omega))
    clear hn
    by_cases h12 : s.size ≤ 12
    · have d12 : decide ((s.size : Int) ≤ 12) = true := by simp; omega
      cases hl : isLet s[0] with
      | false =>
        go_enter Tryz.func96, Tryz.ntmps96
        go_wp2_with (go_at_call 121; (try rw [WB.out]); refine (CL.out _).mono ?_; rintro e w' ⟨rfl, rfl⟩; rw [hl])
        go_ret
        exact ⟨by rw [HN.out, hl]; simp, rfl⟩
      | true =>
        by_cases hr : runLen isInn s 0 = s.size
        · have HR := Lib.hid hr
          have he : (s.extract 0 (0 + runLen isInn s 0)) = s := by rw [Nat.zero_add, hr]; exact extract_all s
          rw [he] at CR
          clear hr he hle
          go_enter Tryz.func96, Tryz.ntmps96
          go_wp2_with (first | (go_at_call 121; (try rw [WB.out]); refine (CL.out _).mono ?_; rintro e w' ⟨rfl, rfl⟩; rw [hl]) | (go_at_call 122; refine (CR.out _).mono ?_; rintro e w' ⟨rfl, rfl⟩))
          go_ret
          exact ⟨by rw [HN.out, hl]; simp [HR.out, h12], rfl⟩
        · have hne := toList_of_ne (extract_run_ne s hr hle)
          have HR := Lib.hid hr
          generalize s.extract 0 (0 + runLen isInn s 0) = t at *
          clear hr hle
          go_enter Tryz.func96, Tryz.ntmps96
          go_wp2_with (first | (go_at_call 121; (try rw [WB.out]); refine (CL.out _).mono ?_; rintro e w' ⟨rfl, rfl⟩; rw [hl]) | (go_at_call 122; refine (CR.out _).mono ?_; rintro e w' ⟨rfl, rfl⟩))
          go_ret
          exact ⟨by rw [HN.out, hl]; simp [HR.out], rfl⟩
    · have d12 : decide ((s.size : Int) ≤ 12) = false := by simp; omega
      go_enter Tryz.func96, Tryz.ntmps96
      go_wp2_with fail
      go_ret
      exact ⟨by rw [HN.out]; simp [h12], rfl⟩
theorem one_name (s : ByteArray) (hp : 0 < s.size) (hl : isLet s[0] = true) : one s.data.toList = if 12 < runLen isInn s 0 then .error 3 else .ok ⟨1, runLen isInn s 0, 0⟩ := by
  have h1 : runLen isInn s 0 = span isInn (s.data.toList.drop 1) + 1 := by
    unfold runLen
    rw [drop_cons s 0 hp, span_cons (inn_of_let hl)]
  rw [h1]
  have h2 := toList_cons s hp
  generalize s.data.toList.drop 1 = l at *
  rw [h2]
  simp only [one, if_pos hl]
theorem refIsName_any (s : ByteArray) (w : World) (hs : s.size ≤ maxLen) : Calls Tryz.prog 95 #[.string s] w fun e w' => e = .returned (.bool (nameOk s)) ∧ Below w.heap.size w w' := by
  unfold maxLen at hs
  by_cases h0 : s.size = 0
  · obtain rfl := empty_of s h0
    have HN : Hid (nameOk ⟨#[]⟩ = false) := rfl
    generalize nameOk ⟨#[]⟩ = r at *
    go_enter Tryz.func95, Tryz.ntmps95
    go_wp2_with fail
    go_ret
    exact ⟨by rw [HN.out]; rfl, Below.refl _ _⟩
  · have hp : 0 < s.size := by omega
    have hn : nameOk s = (decide (s.size ≤ 12) && (isLet s[0] && decide (runLen isInn s 0 = s.size))) := by
      unfold nameOk
      rw [decide_eq_true hp, head_any s hp, Bool.true_and]
    have HN := Lib.hid hn
    have h1 := bytes_ne_nil hp
    have h2 := bytes_isEmpty hp
    have hle := runLen_le isInn s 0 (by omega)
    have CL := Lib.hid (rletter_any s[0])
    clear hn
    by_cases h12 : s.size ≤ 12
    · have d12 : decide ((12 : Int) < (s.size : Int)) = false := by simp; omega
      cases hl : isLet s[0] with
      | false =>
        go_enter Tryz.func95, Tryz.ntmps95
        go_wp2_with (go_at_call 120; refine (CL.out _).mono ?_; rintro e w' ⟨rfl, rfl⟩; rw [hl])
        go_ret
        exact ⟨by rw [HN.out, hl]; simp, Below.refl _ _⟩
      | true =>
        have ho := one_name s hp hl
        rw [if_neg (by omega)] at ho
        have CO : Hid (∀ w, Calls Tryz.prog 116 #[.string s] w fun e w' => e = .returned (.tuple #[.agg #[.int .i64 1, .string (s.extract 0 (runLen isInn s 0)), .int .i64 0, .int .i64 0], .int .i64 0]) ∧ Below w.heap.size w w') := by
          intro w
          refine (refOne_any s w (by unfold maxLen; omega) hp).mono fun e w' he => ?_
          unfold OneR at he
          rw [ho] at he
          exact he
        clear ho
        by_cases hr : runLen isInn s 0 = s.size
        · have HR := Lib.hid hr
          have he : (s.extract 0 (runLen isInn s 0)) = s := by rw [hr]; exact extract_all s
          rw [he] at CO
          clear hr he hle
          go_enter Tryz.func95, Tryz.ntmps95
          go_wp2_with (first | (go_at_call 120; refine (CL.out _).mono ?_; rintro e w' ⟨rfl, rfl⟩; rw [hl]) | (go_at_call 116; refine (CO.out _).mono ?_; rintro e w' ⟨rfl, b1⟩))
          go_ret
          exact ⟨by rw [HN.out, hl]; simp [HR.out, h12], by first | exact b1 | exact b1.alloc b1.size _⟩
        · have hne := toList_of_ne (extract_run_ne s hr hle)
          have HR := Lib.hid hr
          rw [Nat.zero_add] at hne
          generalize s.extract 0 (runLen isInn s 0) = t at *
          clear hr hle
          go_enter Tryz.func95, Tryz.ntmps95
          go_wp2_with (first | (go_at_call 120; refine (CL.out _).mono ?_; rintro e w' ⟨rfl, rfl⟩; rw [hl]) | (go_at_call 116; refine (CO.out _).mono ?_; rintro e w' ⟨rfl, b1⟩))
          go_ret
          exact ⟨by rw [HN.out, hl]; simp [HR.out], by first | exact b1 | exact b1.alloc b1.size _⟩
    · have d12 : decide ((12 : Int) < (s.size : Int)) = true := by simp; omega
      go_enter Tryz.func95, Tryz.ntmps95
      go_wp2_with fail
      go_ret
      exact ⟨by rw [HN.out]; simp [h12], Below.refl _ _⟩
end Lex
end Go.Proofs.YtaikmgnpfbnjjaaGreatDoor
