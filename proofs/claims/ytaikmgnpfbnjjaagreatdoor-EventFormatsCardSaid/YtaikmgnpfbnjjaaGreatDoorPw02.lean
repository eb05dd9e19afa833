/- Contracts of the program's reader of bytes. Contracts of the program's reader: Uint, Text, NewReader; wire.Text. Contract of event.bytes. Printed by gen_ev5.py. -/
import Derived.Test.YtaikmgnpfbnjjaaGreatDoorPw01
import Derived.Test.YtaikmgnpfbnjjaaGreatDoorPv02
import Derived.Test.YtaikmgnpfbnjjaaGreatDoorPw00
namespace Go.Proofs.YtaikmgnpfbnjjaaGreatDoor.Ev
open Go.ChangeShapes Go.WideShapes Go.ChangeAt Go.RowKit Gn Cat Lex
set_option linter.unusedVariables false
set_option linter.unusedSimpArgs false
/-- a reader in memory -/
abbrev RB (w : World) (g : Nat) (s : ByteArray) (e : Int) : Prop := Blk w g 101 #[.string s, .int .i64 e]
abbrev rd (s : ByteArray) (e : Int) : Rd := ⟨s.data.toList, e⟩
theorem rok_any (s : ByteArray) (e : Int) (g : Nat) (w : World) (h : RB w g s e) : Calls Tryz.prog 71 #[.pointer (some ⟨g, 0, none⟩)] w fun r w' => r = .returned (.bool (e == 0)) ∧ w' = w := by
  have hg := h.lt
  have hc := h.c2
  clear h
  go_enter Tryz.func71, Tryz.ntmps71
  go_wp2_with fail
  go_ret
  exact ⟨rfl, rfl⟩
theorem rerr_any (s : ByteArray) (e : Int) (g : Nat) (w : World) (h : RB w g s e) : Calls Tryz.prog 72 #[.pointer (some ⟨g, 0, none⟩)] w fun r w' => r = .returned (.int .i64 e) ∧ w' = w := by
  have hg := h.lt
  have hc := h.c2
  clear h
  go_enter Tryz.func72, Tryz.ntmps72
  go_wp2_with fail
  go_ret
  exact ⟨rfl, rfl⟩
theorem rfail_any (s : ByteArray) (e x : Int) (g : Nat) (w : World) (h : RB w g s e) : Calls Tryz.prog 34 #[.pointer (some ⟨g, 0, none⟩), .int .i64 x] w fun r w' => r = .returned (.tuple #[]) ∧ RB w' g s (failE e x) ∧ Only g w w' := by
  have H := Lib.hid h
  have hg := h.lt
  have hc := h.c2
  clear h
  by_cases he : e = 0
  · subst he
    have HF : Hid (failE 0 x = x) := rfl
    generalize failE 0 x = y at *
    go_enter Tryz.func34, Tryz.ntmps34
    go_wp2_with fail
    go_end0
    rw [HF.out]
    exact ⟨rfl, H.out.put 1 (.int .i64 x), (Only.refl g w).put 1 _⟩
  · have hne : (e != 0) = true := by simpa using he
    have heq : (e == 0) = false := by simpa using he
    have HF : Hid (failE e x = e) := if_neg he
    generalize failE e x = y at *
    clear he
    go_enter Tryz.func34, Tryz.ntmps34
    go_wp2_with fail
    go_end0
    rw [HF.out]
    exact ⟨rfl, H.out, Only.refl g w⟩
theorem fail_rd (s : ByteArray) (e x : Int) : rd s (failE e x) = rdFail (rd s e) x := by
  unfold failE rdFail rd
  by_cases h : e = 0
  · rw [if_pos h, if_neg (by simpa using h)]
  · rw [if_neg h, if_pos (by simpa using h)]
theorem ne_empty {s : ByteArray} (h : s ≠ ⟨#[]⟩) : s.toList.isEmpty = false := by
  rw [ByteArray.toList_eq]
  obtain ⟨⟨x⟩⟩ := s
  cases x with
  | nil => exact absurd rfl h
  | cons a b => rfl
theorem rend_any (s : ByteArray) (e : Int) (g : Nat) (w : World) (h : RB w g s e) : Calls Tryz.prog 37 #[.pointer (some ⟨g, 0, none⟩)] w fun r w' => r = .returned (.int .i64 (rdEnd (rd s e))) ∧ Only g w w' := by
  have H := Lib.hid h
  have CO := Lib.hid (rok_any s e g)
  have CF := Lib.hid (fun W => rfail_any s e 3 g W)
  have CE := Lib.hid (fun W x => rerr_any s x g W)
  have hg := h.lt
  have hc := h.c2
  clear h
  by_cases he : e = 0
  · subst he
    by_cases hs : s = ⟨#[]⟩
    · subst hs
      have HV : Hid (rdEnd (rd ⟨#[]⟩ 0) = 0) := rfl
      have hz : (⟨#[]⟩ : ByteArray).toList.isEmpty = true := by decide +kernel
      go_enter Tryz.func37, Tryz.ntmps37
      go_wp2_with fail
      refine (CO.out _ H.out).mono ?_
      rintro e1 w1 ⟨rfl, rfl⟩
      have ht : ((0 : Int) == 0) = true := rfl
      go_wp2_with fail
      refine (CE.out _ _ H.out).mono ?_
      rintro e1 w2 ⟨rfl, rfl⟩
      go_wp2_with fail
      go_ret
      exact ⟨by rw [HV.out]; rfl, Only.refl _ _⟩
    · have HV : Hid (rdEnd (rd s 0) = 3) := by
        show _ = _
        unfold rdEnd
        rw [if_pos ⟨rfl, fun x => hs (ByteArray.ext (Array.toList_inj.1 x))⟩]
      have hz : s.toList.isEmpty = false := ne_empty hs
      clear hs
      go_enter Tryz.func37, Tryz.ntmps37
      go_wp2_with fail
      refine (CO.out _ H.out).mono ?_
      rintro e1 w1 ⟨rfl, rfl⟩
      have ht : ((0 : Int) == 0) = true := rfl
      go_wp2_with fail
      refine (CF.out _ H.out).mono ?_
      rintro e1 w2 ⟨rfl, h2, o2⟩
      have O2 := Lib.hid o2
      have H2 := Lib.hid h2
      clear h2 o2 hc hg
      go_wp2_with fail
      refine (CE.out _ _ H2.out).mono ?_
      rintro e1 w3 ⟨rfl, rfl⟩
      go_wp2_with fail
      go_ret
      exact ⟨by rw [HV.out]; rfl, O2.out⟩
  · have HV : Hid (rdEnd (rd s e) = e) := by
      show _ = _
      unfold rdEnd
      rw [if_neg (fun x => he x.1)]
    have heq : (e == 0) = false := by simpa using he
    clear he
    go_enter Tryz.func37, Tryz.ntmps37
    go_wp2_with fail
    refine (CO.out _ H.out).mono ?_
    rintro e1 w1 ⟨rfl, rfl⟩
    go_wp2_with fail
    refine (CE.out _ _ H.out).mono ?_
    rintro e1 w2 ⟨rfl, rfl⟩
    go_wp2_with fail
    go_ret
    exact ⟨by rw [HV.out]; rfl, Only.refl _ _⟩
/-- what a read of a number answers -/
abbrev UPost (most : Nat) (s : ByteArray) (e : Int) (g : Nat) (w : World) (r : Ending) (w' : World) : Prop := ∃ s' e', r = .returned (.int .u64 ((rdU most (rd s e)).1 : Int)) ∧ RB w' g s' e' ∧ rd s' e' = (rdU most (rd s e)).2 ∧ Only g w w'
theorem drop_byte {s : ByteArray} {k : Nat} (h : k < s.size) : s.data.toList.drop k = s[k] :: s.data.toList.drop (k + 1) := by
  have h2 : k < s.data.toList.length := h
  rw [List.drop_eq_getElem_cons h2]
  rfl
theorem drop_ext {s : ByteArray} (k : Nat) : (s.extract k s.size).data.toList = s.data.toList.drop k := by
  simp
  rw [List.take_of_length_le (by simp)]
set_option maxHeartbeats 8000000 in
set_option maxRecDepth 100000 in
theorem ruint0_any (most : Nat) (s : ByteArray) (g : Nat) (w : World) (h : RB w g s 0) (hm : most < 18446744073709551616) (hs : s.size ≤ 5000) : Calls Tryz.prog 33 #[.pointer (some ⟨g, 0, none⟩), .int .u64 (most : Int)] w (UPost most s 0 g w) := by
  have H := Lib.hid h
  have CO := Lib.hid (rok_any s 0 g)
  have CF := Lib.hid (fun x W => rfail_any s 0 x g W)
  have hg := h.lt
  have hc := h.c2
  have hl : (s.size : Int) ≤ 5000 := by omega
  obtain ⟨R, hR⟩ : ∃ R, R = rdU most (rd s 0) := ⟨_, rfl⟩
  have HR : Hid (R = rdGo most s.data.toList (s.data.toList.drop 0) 0 0) := hR
  unfold UPost
  rw [← hR]
  have HMO := Lib.hid hm
  clear h hR hm
  go_enter Tryz.func33, Tryz.ntmps33
  go_wp2_with fail
  refine (CO.out _ H.out).mono ?_
  rintro e1 w1 ⟨rfl, rfl⟩
  have ht : ((0 : Int) == 0) = true := rfl
  go_wp2_with fail
  go_loop [5, 6] (fun xv iv => ∃ (y k : Nat), k ≤ 9 ∧ k ≤ s.size ∧ xv = .int .u64 (y : Int) ∧ iv = .int .i64 (k : Int) ∧ Hid (y < 128 ^ k) ∧ Hid (R = rdGo most s.data.toList (s.data.toList.drop k) k y)) (fun _ iv => 10 - (intOf iv).toNat)
  case atStart => exact ⟨0, 0, by omega, by omega, rfl, rfl, by show _ < _; decide, HR.out⟩
  case round =>
    obtain ⟨y, k, hk9, hks, rfl, rfl, HY, HX⟩ := hrel
    by_cases hk : k = s.size
    · have hd : ((k : Int) == (s.size : Int)) = true := by rw [hk]; simp
      have HR1 : Hid (R = (0, ⟨s.data.toList, 1⟩)) := by
        show _ = _
        rw [HX.out, List.drop_of_length_le (by rw [hk]; exact Nat.le_refl _), rdGo_nil]
      clear hk
      go_wp2_with fail
      refine (CF.out 1 _ H.out).mono ?_
      rintro e2 w2 ⟨rfl, h2, o2⟩
      have O2 := Lib.hid o2
      have H2 := Lib.hid h2
      clear h2 o2 hc hg
      go_wp2_with fail
      go_ret
      rw [HR1.out]
      exact ⟨s, 1, rfl, H2.out, rfl, O2.out⟩
    · have hd : ((k : Int) == (s.size : Int)) = false := by simp; omega
      have hks' : k < s.size := by omega
      have HX1 := Lib.hid (HX.out.trans (by rw [drop_byte hks', rdGo_cons]))
      have hb8 : s[k].toNat < 256 := s[k].toNat_lt
      clear hk
      by_cases h91 : k = 9 ∧ 1 < s[k].toNat
      · have HR1 := Lib.hid (HX1.out.trans (if_pos h91))
        have d9 : ((k : Int) == 9) = true := by rw [h91.1]; rfl
        have d1 : decide ((1 : Int) < (s[k].toNat : Int)) = true := decide_eq_true (by omega)
        clear h91
        go_wp2_with fail
        refine (CF.out 2 _ H.out).mono ?_
        rintro e2 w2 ⟨rfl, h2, o2⟩
        have O2 := Lib.hid o2
        have H2 := Lib.hid h2
        clear h2 o2 hc hg
        go_wp2_with fail
        go_ret
        rw [HR1.out]
        exact ⟨s, 2, rfl, H2.out, rfl, O2.out⟩
      · have HX2 := Lib.hid (HX1.out.trans (if_neg h91))
        have hb1 : k = 9 → s[k].toNat ≤ 1 := fun e => Nat.le_of_not_lt fun h => h91 ⟨e, h⟩
        have HVL := Lib.hid (group_val (b := s[k].toNat) hb8 HY.out hk9 hb1)
        have HYL := Lib.hid (group_lt (d := s[k].toNat % 128) k HY.out (Nat.mod_lt _ (by decide)))
        have HYS := Lib.hid (group_small (b := s[k].toNat) hk9 hb1)
        have hg9 : ((k : Int) == 9) = false ∨ ((k : Int) == 9) = true ∧ decide ((1 : Int) < (s[k].toNat : Int)) = false := by
          by_cases e : k = 9
          · exact .inr ⟨by rw [e]; rfl, decide_eq_false (by have := hb1 e; omega)⟩
          · exact .inl (by simp; omega)
        have hk8 : 128 ≤ s[k].toNat → k ≤ 8 := fun h => by
          have : k ≠ 9 := fun e => by have := hb1 e; omega
          omega
        obtain ⟨V, hV⟩ : ∃ V, V = y + s[k].toNat % 128 * 128 ^ k := ⟨_, rfl⟩
        rw [← hV] at HVL HYL HX2
        have HG := Lib.hid hg9
        have HK8 := Lib.hid hk8
        clear hV h91 hb1 hg9 hk8 hb8 HX1
        rcases HG.out with d9 | ⟨d9, d1⟩
        all_goals
          go_upto_region 14 with fail
          rw [HVL.out]
          by_cases h128 : 128 ≤ s[k].toNat
          · have HX3 := Lib.hid (HX2.out.trans (if_pos h128))
            have hk8 := HK8.out h128
            have d128 : decide ((128 : Int) ≤ (s[k].toNat : Int)) = true := decide_eq_true (by omega)
            clear h128
            go_wp2_with fail
            refine ⟨⟨V, k + 1, by omega, by omega, rfl, by simp, HYL.out, HX3.out⟩, ?_⟩
            simp [intOf]
            omega
          · have HX3 := Lib.hid (HX2.out.trans (if_neg h128))
            have d128 : decide ((128 : Int) ≤ (s[k].toNat : Int)) = false := decide_eq_false (by omega)
            clear h128
            by_cases hz : s[k].toNat = 0 ∧ 0 < k
            · have HR1 := Lib.hid (HX3.out.trans (if_pos hz))
              have d0 : ((s[k].toNat : Int) == 0) = true := by rw [hz.1]; rfl
              have dk : decide ((0 : Int) < (k : Int)) = true := decide_eq_true (by omega)
              have dk2 : 0 < k := hz.2
              have d0n : s[k].toNat = 0 := hz.1
              clear hz
              go_wp2_with fail
              refine (CF.out 2 _ H.out).mono ?_
              rintro e2 w2 ⟨rfl, h2, o2⟩
              have O2 := Lib.hid o2
              have H2 := Lib.hid h2
              clear h2 o2 hc hg
              go_wp2_with fail
              go_ret
              rw [HR1.out]
              exact ⟨s, 2, rfl, H2.out, rfl, O2.out⟩
            · have HX4 := Lib.hid (HX3.out.trans (if_neg hz))
              have hd0 : (((s[k].toNat : Int) == 0) = false ∧ ¬ s[k].toNat = 0) ∨ (((s[k].toNat : Int) == 0) = true ∧ s[k].toNat = 0) ∧ decide ((0 : Int) < (k : Int)) = false ∧ ¬ 0 < k := by
                by_cases e : s[k].toNat = 0
                · exact .inr ⟨⟨by rw [e]; rfl, e⟩, decide_eq_false (fun h => hz ⟨e, by omega⟩), fun h => hz ⟨e, h⟩⟩
                · exact .inl ⟨by simp; omega, e⟩
              clear hz
              by_cases hm : most < V
              · have HR1 := Lib.hid (HX4.out.trans (if_pos hm))
                have dm : decide ((most : Int) < (V : Int)) = true := decide_eq_true (by omega)
                rcases hd0 with ⟨d0, d0n⟩ | ⟨⟨d0, d0n⟩, dk, dk2⟩
                all_goals
                  go_wp2_with fail
                  refine (CF.out 4 _ H.out).mono ?_
                  rintro e2 w2 ⟨rfl, h2, o2⟩
                  have O2 := Lib.hid o2
                  have H2 := Lib.hid h2
                  clear h2 o2 hc hg
                  go_wp2_with fail
                  go_ret
                  rw [HR1.out]
                  exact ⟨s, 4, rfl, H2.out, rfl, O2.out⟩
              · have HR1 := Lib.hid (HX4.out.trans (if_neg hm))
                have dm : decide ((most : Int) < (V : Int)) = false := decide_eq_false (by omega)
                have HVm : Hid (V < 18446744073709551616) := by
                  show V < _
                  have := HMO.out
                  omega
                rcases hd0 with ⟨d0, d0n⟩ | ⟨⟨d0, d0n⟩, dk, dk2⟩
                all_goals
                  go_wp2_with fail
                  go_ret
                  rw [HR1.out]
                  refine ⟨rfl, s.extract (k + 1) s.size, 0, H.out.put 0 _, ?_, (Only.refl g _).put 0 _⟩
                  unfold rd
                  rw [drop_ext]
end Go.Proofs.YtaikmgnpfbnjjaaGreatDoor.Ev
namespace Go.Proofs.YtaikmgnpfbnjjaaGreatDoor.Ev
open Go.ChangeShapes Go.WideShapes Go.ChangeAt Go.RowKit Gn Cat Lex
set_option linter.unusedVariables false
set_option linter.unusedSimpArgs false
theorem rdGo_len {most : Nat} {l0 : List UInt8} : ∀ (l : List UInt8) (i x : Nat), l.length ≤ l0.length → (rdGo most l0 l i x).2.l.length ≤ l0.length
  | [], _, _, _ => Nat.le_refl _
  | b :: l, i, x, h => by
    rw [List.length_cons] at h
    rw [rdGo_cons]
    split
    · exact Nat.le_refl _
    · split
      · exact rdGo_len l _ _ (by omega)
      · split
        · exact Nat.le_refl _
        · split
          · exact Nat.le_refl _
          · show l.length ≤ _
            omega
theorem rdU_len (most : Nat) (r : Rd) : (rdU most r).2.l.length ≤ r.l.length := by
  unfold rdU
  split
  · exact Nat.le_refl _
  · exact rdGo_len _ _ _ (Nat.le_refl _)
theorem rd_size {s s' : ByteArray} {e e' : Int} {most : Nat} (h : rd s' e' = (rdU most (rd s e)).2) : s'.size ≤ s.size := by
  have h1 := rdU_len most (rd s e)
  rw [← h] at h1
  exact h1
theorem rdU_err {most : Nat} {r : Rd} (h : r.e ≠ 0) : rdU most r = (0, r) := by unfold rdU; rw [if_pos h]
theorem ruint_any (most : Nat) (s : ByteArray) (e : Int) (g : Nat) (w : World) (h : RB w g s e) (hm : most < 18446744073709551616) (hs : s.size ≤ 5000) : Calls Tryz.prog 33 #[.pointer (some ⟨g, 0, none⟩), .int .u64 (most : Int)] w (UPost most s e g w) := by
  by_cases he : e = 0
  · subst he
    exact ruint0_any most s g w h hm hs
  · have H := Lib.hid h
    have CO := Lib.hid (rok_any s e g)
    have heq : (e == 0) = false := by simpa using he
    unfold UPost
    rw [rdU_err (show (rd s e).e ≠ 0 from he)]
    have hg := h.lt
    have hc := h.c2
    clear h hm he
    go_enter Tryz.func33, Tryz.ntmps33
    go_wp2_with fail
    refine (CO.out _ H.out).mono ?_
    rintro e1 w1 ⟨rfl, rfl⟩
    go_wp2_with fail
    go_ret
    exact ⟨s, e, rfl, H.out, rfl, Only.refl _ _⟩
abbrev TPost (most : Nat) (s : ByteArray) (e : Int) (g : Nat) (w : World) (r : Ending) (w' : World) : Prop := ∃ s' e', r = .returned (.string (rdT most (rd s e)).1) ∧ RB w' g s' e' ∧ rd s' e' = (rdT most (rd s e)).2 ∧ Only g w w'
theorem rdT_err {most : Nat} {r : Rd} (h : (rdU most r).2.e ≠ 0) : rdT most r = (⟨#[]⟩, (rdU most r).2) := by unfold rdT; rw [if_pos h]
theorem rdT_short {most : Nat} {r : Rd} (h : (rdU most r).2.e = 0) (h2 : (rdU most r).2.l.length < (rdU most r).1) : rdT most r = (⟨#[]⟩, ⟨(rdU most r).2.l, 1⟩) := by unfold rdT; rw [if_neg (fun x => x h), if_pos h2]
theorem rdT_fine {most : Nat} {r : Rd} (h : (rdU most r).2.e = 0) (h2 : ¬ (rdU most r).2.l.length < (rdU most r).1) : rdT most r = (⟨((rdU most r).2.l.take (rdU most r).1).toArray⟩, ⟨(rdU most r).2.l.drop (rdU most r).1, 0⟩) := by unfold rdT; rw [if_neg (fun x => x h), if_neg h2]
theorem take_ext {s : ByteArray} (n : Nat) : s.extract 0 n = ⟨(s.data.toList.take n).toArray⟩ := by
  apply ByteArray.ext
  apply Array.toList_inj.1
  simp
theorem rtext_any (most : Nat) (s : ByteArray) (e : Int) (g : Nat) (w : World) (h : RB w g s e) (h0 : 0 < most) (hm : most ≤ 5000) (hs : s.size ≤ 5000) : Calls Tryz.prog 36 #[.pointer (some ⟨g, 0, none⟩), .int .i64 (most : Int)] w (TPost most s e g w) := by
  have H := Lib.hid h
  have CO := Lib.hid (rok_any s e g)
  have hg := h.lt
  have hc := h.c2
  clear h
  by_cases he : e = 0
  · subst he
    have CU := Lib.hid fun W (k : RB W g s 0) => ruint_any most s 0 g W k (by omega) hs
    have CF := Lib.hid (fun t W k => rfail_any t 0 1 g W k)
    have dm : decide ((0 : Int) < (most : Int)) = true := decide_eq_true (by omega)
    have dl : decide ((most : Int) < 0) = false := decide_eq_false (by omega)
    have HN := Lib.hid (rdU_le most (rd s 0))
    have HRS := Lib.hid (fun s1 e1 => rd_size (s := s) (s' := s1) (e := 0) (e' := e1) (most := most))
    have HER := Lib.hid (rdT_err (most := most) (r := rd s 0))
    have HSH := Lib.hid (rdT_short (most := most) (r := rd s 0))
    have HFI := Lib.hid (rdT_fine (most := most) (r := rd s 0))
    unfold UPost at CU
    unfold TPost
    generalize rdT most (rd s 0) = T at *
    generalize hq : rdU most (rd s 0) = q at *
    obtain ⟨n, R⟩ := q
    dsimp only at *
    clear hq
    go_enter Tryz.func36, Tryz.ntmps36
    go_wp2_with fail
    refine (CO.out _ H.out).mono ?_
    rintro e1 w1 ⟨rfl, rfl⟩
    have ht : ((0 : Int) == 0) = true := rfl
    go_wp2_with fail
    refine (CU.out _ H.out).mono ?_
    rintro e1 w2 ⟨s1, e1, rfl, h1, r1, o1⟩
    have O1 := Lib.hid o1
    have H1 := Lib.hid h1
    have hs1 : s1.size ≤ 5000 := Nat.le_trans (HRS.out s1 e1 r1) hs
    have hg := h1.lt
    have hc := h1.c2
    have HR := Lib.hid r1
    have HN2 : n ≤ 5000 := Nat.le_trans HN.out hm
    clear h1 o1 r1
    by_cases h1 : e1 = 0
    · subst h1
      have HRe : Hid (R.e = 0) := by show R.e = 0; rw [← HR.out]
      have HRl : Hid (R.l = s1.data.toList) := by show R.l = _; rw [← HR.out]
      by_cases hn : s1.size < n
      · have HT := Lib.hid (HSH.out HRe.out (by rw [HRl.out]; exact hn))
        have dn : decide ((s1.size : Int) < (n : Int)) = true := decide_eq_true (by omega)
        go_wp2_with fail
        refine (CF.out s1 _ H1.out).mono ?_
        rintro e1 w3 ⟨rfl, h3, o3⟩
        have O3 := Lib.hid (O1.out.trans o3)
        have H3 := Lib.hid h3
        have hg := h3.lt
        have hc : (w3.cell? ⟨g, 0, none⟩ = some (.string s1) ∧ w3.frozen? ⟨g, 0, none⟩ = false) ∧ w3.cell? ⟨g, 1, none⟩ = some (.int .i64 1) ∧ w3.frozen? ⟨g, 1, none⟩ = false := h3.c2
        clear h3 o3
        go_wp2_with fail
        go_ret
        rw [HT.out]
        exact ⟨s1, 1, rfl, H3.out, by rw [HRl.out], O3.out⟩
      · have HT := Lib.hid (HFI.out HRe.out (by rw [HRl.out]; exact hn))
        have dn : decide ((s1.size : Int) < (n : Int)) = false := decide_eq_false (by omega)
        go_wp2_with fail
        go_ret
        rw [HT.out]
        refine ⟨s1.extract n s1.size, 0, ?_, H1.out.put 0 _, ?_, O1.out.put 0 _⟩
        · show Ending.returned (Value.string _) = _
          rw [HRl.out, ← take_ext]
        · unfold rd
          rw [drop_ext, HRl.out]
    · have HRe : Hid (R.e ≠ 0) := by show R.e ≠ 0; rw [← HR.out]; exact h1
      have HT := Lib.hid (HER.out HRe.out)
      have d1 : (e1 == 0) = false := by simpa using h1
      have d2 : (e1 != 0) = true := by simpa using h1
      clear h1
      go_wp2_with fail
      go_ret
      rw [HT.out]
      exact ⟨s1, e1, rfl, H1.out, HR.out, O1.out⟩
  · have heq : (e == 0) = false := by simpa using he
    unfold TPost
    have hU := rdU_err (most := most) (show (rd s e).e ≠ 0 from he)
    rw [rdT_err (by rw [hU]; exact he), hU]
    clear he hU
    go_enter Tryz.func36, Tryz.ntmps36
    go_wp2_with fail
    refine (CO.out _ H.out).mono ?_
    rintro e1 w1 ⟨rfl, rfl⟩
    go_wp2_with fail
    go_ret
    exact ⟨s, e, rfl, H.out, rfl, Only.refl _ _⟩
theorem newR_any (s : ByteArray) (w : World) : Calls Tryz.prog 32 #[.string s] w fun r w' => r = .returned (.pointer (some ⟨w.heap.size, 0, none⟩)) ∧ RB w' w.heap.size s 0 ∧ Below w.heap.size w w' := by
  go_enter Tryz.func32, Tryz.ntmps32
  go_wp2_with fail
  go_ret
  exact ⟨rfl, Blk.new w _ _, below_new _ _⟩
def textB (s : ByteArray) : ByteArray := ⟨(textL s).toArray⟩
theorem text_cat (s : ByteArray) : uintB s.size ++ s = textB s := by
  unfold textB
  apply ByteArray.ext
  apply Array.toList_inj.1
  simp [textL, uintB]
theorem wtext_any (s : ByteArray) (w : World) (hs : s.size ≤ 5000) : Calls Tryz.prog 67 #[.string s] w (StrPost (textB s) w) := by
  have CU := Lib.hid (fun W => uint_any s.size W (by omega))
  have HA := fun W => add_s (uintB s.size) s (by have := uintB_size s.size; omega) W
  rw [← text_cat]
  go_enter Tryz.func67, Tryz.ntmps67
  go_wp2_with fail
  refine (CU.out _).mono ?_
  rintro e w1 ⟨rfl, b1⟩
  go_wp2_with fail
  go_ret
  exact ⟨rfl, b1⟩
end Go.Proofs.YtaikmgnpfbnjjaaGreatDoor.Ev
namespace Go.Proofs.YtaikmgnpfbnjjaaGreatDoor.Ev
open Go.ChangeShapes Go.WideShapes Go.ChangeAt Go.RowKit Gn Cat Lex
set_option linter.unusedVariables false
set_option linter.unusedSimpArgs false
/-- an event as its encoding wants it -/
structure Okay (e : Evt) : Prop where
  kind : 1 ≤ e.kind ∧ e.kind ≤ 10
  bidder : 0 ≤ e.bidder ∧ e.bidder < 8
  round : 0 ≤ e.round ∧ e.round < 30
  want : ∀ i, i < 6 → 0 ≤ e.want i ∧ e.want i ≤ 4
  text : e.text.size ≤ 5000
  digest : e.digest < 18446744073709551616
theorem uint_int (x : Int) (h : 0 ≤ x ∧ x < 1000) (v : Int) (hv : v = x) (W : World) : Calls Tryz.prog 66 #[.int .u64 v] W (StrPost (uintB x.toNat) W) := by
  have k := uint_any x.toNat W (by omega)
  rw [show ((x.toNat : Nat) : Int) = v by omega] at k
  exact k
theorem u64_pos (x : Int) (h : 0 ≤ x ∧ x < 1000) : IntKind.u64.wrap x = x := IntWalk.u64_in x ⟨h.1, by omega⟩
theorem code_cat (a b : List UInt8) : (⟨(a ++ b).toArray⟩ : ByteArray) = ⟨a.toArray⟩ ++ ⟨b.toArray⟩ := by
  apply ByteArray.ext
  apply Array.toList_inj.1
  simp
theorem cat_assoc (a b c : ByteArray) : a ++ (b ++ c) = a ++ b ++ c := by
  apply ByteArray.ext
  apply Array.toList_inj.1
  simp
theorem textB_size {s : ByteArray} (h : s.size ≤ 5000) : (textB s).size ≤ 5010 := by
  have := (textL_len s).2
  show (textL s).toArray.size ≤ _
  rw [List.size_toArray]
  omega
theorem cat_size (a b : ByteArray) {n m : Nat} (h : a.size ≤ n) (k : b.size ≤ m) : (a ++ b).size ≤ n + m := by rw [ByteArray.size_append]; omega
set_option maxHeartbeats 4000000 in
set_option maxRecDepth 100000 in
theorem bytes_at_0 (e : Evt) (w : World) (h : ¬ e.kind = 1 ∧ ¬ e.kind = 2 ∧ ¬ e.kind = 5 ∧ ¬ e.kind = 6 ∧ ¬ e.kind = 7 ∧ ¬ e.kind = 8 ∧ ¬ e.kind = 10) (ho : Okay e) : Calls Tryz.prog 26 #[e.val] w (StrPost (codeB e) w) := by
  have C0 := Lib.hid (fun W => uint_int (e.kind) ⟨by have := ho.kind; omega, by have := ho.kind; omega⟩ (e.kind) rfl W)
  have W0 := Lib.hid (u64_pos (e.kind) ⟨by have := ho.kind; omega, by have := ho.kind; omega⟩)
  have Z0 := (uintB_size e.kind.toNat)
  have HE : codeB e = uintB e.kind.toNat := by
    unfold codeB
    rw [code_0 h]
    simp only [List.append_nil, code_cat, cat_assoc]
    rfl
  rw [HE]
  generalize uintB e.kind.toNat = s0 at *
  have HF := Lib.hid (fields_0 h)
  have CF := Lib.hid (fields_any e.kind)
  rw [HF.out] at CF
  clear h ho HE HF Z0 
  obtain ⟨k, b, r, p, t, d⟩ := e
  unfold Evt.val
  dsimp only at *
  have t1 : (bits BinOp.and IntKind.i64 0 1 != 0) = false := by decide +kernel
  have t2 : (bits BinOp.and IntKind.i64 0 2 != 0) = false := by decide +kernel
  have t4 : (bits BinOp.and IntKind.i64 0 4 != 0) = false := by decide +kernel
  have t8 : (bits BinOp.and IntKind.i64 0 8 != 0) = false := by decide +kernel
  have t16 : (bits BinOp.and IntKind.i64 0 16 != 0) = false := by decide +kernel
  go_enter Tryz.func26, Tryz.ntmps26
  go_wp2_with fail
  refine (CF.out _).mono ?_
  rintro e w1 ⟨rfl, rfl⟩
  go_wp2_with fail
  try rw [W0.out]
  refine (C0.out _).mono ?_
  rintro e x0 ⟨rfl, d0⟩
  have B0 := Lib.hid (chain1 (Below.refl _ _) d0)
  have K0 := Lib.hid ((Blk.new w 26 (cells11 k b r p t d)).below' d0)
  clear d0
  have q0 := Blk11 K0.out
  have l0 := K0.out.lt
  go_wp2_with fail
  go_ret
  exact ⟨rfl, B0.out⟩
set_option maxHeartbeats 4000000 in
set_option maxRecDepth 100000 in
theorem bytes_at_4 (e : Evt) (w : World) (h : e.kind = 1) (ho : Okay e) : Calls Tryz.prog 26 #[e.val] w (StrPost (codeB e) w) := by
  have C0 := Lib.hid (fun W => uint_int (e.kind) ⟨by have := ho.kind; omega, by have := ho.kind; omega⟩ (e.kind) rfl W)
  have W0 := Lib.hid (u64_pos (e.kind) ⟨by have := ho.kind; omega, by have := ho.kind; omega⟩)
  have Z0 := (uintB_size e.kind.toNat)
  have C1 := Lib.hid (fun W => wtext_any e.text W ho.text)
  have Z1 := (textB_size ho.text)
  have HE : codeB e = uintB e.kind.toNat ++ textB e.text := by
    unfold codeB
    rw [code_4 h]
    simp only [List.append_nil, code_cat, cat_assoc]
    rfl
  rw [HE]
  generalize uintB e.kind.toNat = s0 at *
  generalize textB e.text = s1 at *
  have A1 := fun W => add_s (s0) s1 (by have := Z0; have := Z1; omega) W
  have Y1 := cat_size (s0) s1 Z0 Z1
  have HF := Lib.hid (fields_4 h)
  have CF := Lib.hid (fields_any e.kind)
  rw [HF.out] at CF
  clear h ho HE HF Z0 Z1 Y1
  obtain ⟨k, b, r, p, t, d⟩ := e
  unfold Evt.val
  dsimp only at *
  have t1 : (bits BinOp.and IntKind.i64 4 1 != 0) = false := by decide +kernel
  have t2 : (bits BinOp.and IntKind.i64 4 2 != 0) = false := by decide +kernel
  have t4 : (bits BinOp.and IntKind.i64 4 4 != 0) = true := by decide +kernel
  have t8 : (bits BinOp.and IntKind.i64 4 8 != 0) = false := by decide +kernel
  have t16 : (bits BinOp.and IntKind.i64 4 16 != 0) = false := by decide +kernel
  go_enter Tryz.func26, Tryz.ntmps26
  go_wp2_with fail
  refine (CF.out _).mono ?_
  rintro e w1 ⟨rfl, rfl⟩
  go_wp2_with fail
  try rw [W0.out]
  refine (C0.out _).mono ?_
  rintro e x0 ⟨rfl, d0⟩
  have B0 := Lib.hid (chain1 (Below.refl _ _) d0)
  have K0 := Lib.hid ((Blk.new w 26 (cells11 k b r p t d)).below' d0)
  clear d0
  have q0 := Blk11 K0.out
  have l0 := K0.out.lt
  go_wp2_with fail
  refine (C1.out _).mono ?_
  rintro e x1 ⟨rfl, d1⟩
  have B1 := Lib.hid (chain0 B0.out d1)
  have K1 := Lib.hid (K0.out.below' d1)
  clear d1 B0 K0 q0 l0
  have q1 := Blk11 K1.out
  have l1 := K1.out.lt
  go_wp2_with fail
  go_ret
  exact ⟨rfl, B1.out⟩
set_option maxHeartbeats 4000000 in
set_option maxRecDepth 100000 in
theorem bytes_at_3 (e : Evt) (w : World) (h : e.kind = 2) (ho : Okay e) : Calls Tryz.prog 26 #[e.val] w (StrPost (codeB e) w) := by
  have C0 := Lib.hid (fun W => uint_int (e.kind) ⟨by have := ho.kind; omega, by have := ho.kind; omega⟩ (e.kind) rfl W)
  have W0 := Lib.hid (u64_pos (e.kind) ⟨by have := ho.kind; omega, by have := ho.kind; omega⟩)
  have Z0 := (uintB_size e.kind.toNat)
  have C1 := Lib.hid (fun W => uint_int (e.bidder) ⟨ho.bidder.1, by have := ho.bidder; omega⟩ (e.bidder) rfl W)
  have W1 := Lib.hid (u64_pos (e.bidder) ⟨ho.bidder.1, by have := ho.bidder; omega⟩)
  have Z1 := (uintB_size e.bidder.toNat)
  have C2 := Lib.hid (fun W => uint_int (e.want 0) ⟨(ho.want 0 (by decide)).1, by have := ho.want 0 (by decide); omega⟩ (e.want 0) rfl W)
  have W2 := Lib.hid (u64_pos (e.want 0) ⟨(ho.want 0 (by decide)).1, by have := ho.want 0 (by decide); omega⟩)
  have Z2 := (uintB_size (e.want 0).toNat)
  have C3 := Lib.hid (fun W => uint_int (e.want 1) ⟨(ho.want 1 (by decide)).1, by have := ho.want 1 (by decide); omega⟩ (e.want 1) rfl W)
  have W3 := Lib.hid (u64_pos (e.want 1) ⟨(ho.want 1 (by decide)).1, by have := ho.want 1 (by decide); omega⟩)
  have Z3 := (uintB_size (e.want 1).toNat)
  have C4 := Lib.hid (fun W => uint_int (e.want 2) ⟨(ho.want 2 (by decide)).1, by have := ho.want 2 (by decide); omega⟩ (e.want 2) rfl W)
  have W4 := Lib.hid (u64_pos (e.want 2) ⟨(ho.want 2 (by decide)).1, by have := ho.want 2 (by decide); omega⟩)
  have Z4 := (uintB_size (e.want 2).toNat)
  have C5 := Lib.hid (fun W => uint_int (e.want 3) ⟨(ho.want 3 (by decide)).1, by have := ho.want 3 (by decide); omega⟩ (e.want 3) rfl W)
  have W5 := Lib.hid (u64_pos (e.want 3) ⟨(ho.want 3 (by decide)).1, by have := ho.want 3 (by decide); omega⟩)
  have Z5 := (uintB_size (e.want 3).toNat)
  have C6 := Lib.hid (fun W => uint_int (e.want 4) ⟨(ho.want 4 (by decide)).1, by have := ho.want 4 (by decide); omega⟩ (e.want 4) rfl W)
  have W6 := Lib.hid (u64_pos (e.want 4) ⟨(ho.want 4 (by decide)).1, by have := ho.want 4 (by decide); omega⟩)
  have Z6 := (uintB_size (e.want 4).toNat)
  have C7 := Lib.hid (fun W => uint_int (e.want 5) ⟨(ho.want 5 (by decide)).1, by have := ho.want 5 (by decide); omega⟩ (e.want 5) rfl W)
  have W7 := Lib.hid (u64_pos (e.want 5) ⟨(ho.want 5 (by decide)).1, by have := ho.want 5 (by decide); omega⟩)
  have Z7 := (uintB_size (e.want 5).toNat)
  have HE : codeB e = uintB e.kind.toNat ++ uintB e.bidder.toNat ++ uintB (e.want 0).toNat ++ uintB (e.want 1).toNat ++ uintB (e.want 2).toNat ++ uintB (e.want 3).toNat ++ uintB (e.want 4).toNat ++ uintB (e.want 5).toNat := by
    unfold codeB
    rw [code_3 h]
    simp only [List.append_nil, code_cat, cat_assoc]
    rfl
  rw [HE]
  generalize uintB e.kind.toNat = s0 at *
  generalize uintB e.bidder.toNat = s1 at *
  generalize uintB (e.want 0).toNat = s2 at *
  generalize uintB (e.want 1).toNat = s3 at *
  generalize uintB (e.want 2).toNat = s4 at *
  generalize uintB (e.want 3).toNat = s5 at *
  generalize uintB (e.want 4).toNat = s6 at *
  generalize uintB (e.want 5).toNat = s7 at *
  have A1 := fun W => add_s (s0) s1 (by have := Z0; have := Z1; omega) W
  have Y1 := cat_size (s0) s1 Z0 Z1
  have A2 := fun W => add_s (s0 ++ s1) s2 (by have := Y1; have := Z2; omega) W
  have Y2 := cat_size (s0 ++ s1) s2 Y1 Z2
  have A3 := fun W => add_s (s0 ++ s1 ++ s2) s3 (by have := Y2; have := Z3; omega) W
  have Y3 := cat_size (s0 ++ s1 ++ s2) s3 Y2 Z3
  have A4 := fun W => add_s (s0 ++ s1 ++ s2 ++ s3) s4 (by have := Y3; have := Z4; omega) W
  have Y4 := cat_size (s0 ++ s1 ++ s2 ++ s3) s4 Y3 Z4
  have A5 := fun W => add_s (s0 ++ s1 ++ s2 ++ s3 ++ s4) s5 (by have := Y4; have := Z5; omega) W
  have Y5 := cat_size (s0 ++ s1 ++ s2 ++ s3 ++ s4) s5 Y4 Z5
  have A6 := fun W => add_s (s0 ++ s1 ++ s2 ++ s3 ++ s4 ++ s5) s6 (by have := Y5; have := Z6; omega) W
  have Y6 := cat_size (s0 ++ s1 ++ s2 ++ s3 ++ s4 ++ s5) s6 Y5 Z6
  have A7 := fun W => add_s (s0 ++ s1 ++ s2 ++ s3 ++ s4 ++ s5 ++ s6) s7 (by have := Y6; have := Z7; omega) W
  have Y7 := cat_size (s0 ++ s1 ++ s2 ++ s3 ++ s4 ++ s5 ++ s6) s7 Y6 Z7
  have HF := Lib.hid (fields_3 h)
  have CF := Lib.hid (fields_any e.kind)
  rw [HF.out] at CF
  clear h ho HE HF Z0 Z1 Z2 Z3 Z4 Z5 Z6 Z7 Y1 Y2 Y3 Y4 Y5 Y6 Y7
  obtain ⟨k, b, r, p, t, d⟩ := e
  unfold Evt.val
  dsimp only at *
  have t1 : (bits BinOp.and IntKind.i64 3 1 != 0) = true := by decide +kernel
  have t2 : (bits BinOp.and IntKind.i64 3 2 != 0) = true := by decide +kernel
  have t4 : (bits BinOp.and IntKind.i64 3 4 != 0) = false := by decide +kernel
  have t8 : (bits BinOp.and IntKind.i64 3 8 != 0) = false := by decide +kernel
  have t16 : (bits BinOp.and IntKind.i64 3 16 != 0) = false := by decide +kernel
  have i0 : ∀ W, (Instr.index 23 (.agg #[.int .i64 (p 0), .int .i64 (p 1), .int .i64 (p 2), .int .i64 (p 3), .int .i64 (p 4), .int .i64 (p 5)]) (.int .i64 0)).run Tryz.prog W = .ok (.int .i64 (p 0)) W := fun W => idx27 p 0 (by decide) W
  have i1 : ∀ W, (Instr.index 23 (.agg #[.int .i64 (p 0), .int .i64 (p 1), .int .i64 (p 2), .int .i64 (p 3), .int .i64 (p 4), .int .i64 (p 5)]) (.int .i64 1)).run Tryz.prog W = .ok (.int .i64 (p 1)) W := fun W => idx27 p 1 (by decide) W
  have i2 : ∀ W, (Instr.index 23 (.agg #[.int .i64 (p 0), .int .i64 (p 1), .int .i64 (p 2), .int .i64 (p 3), .int .i64 (p 4), .int .i64 (p 5)]) (.int .i64 2)).run Tryz.prog W = .ok (.int .i64 (p 2)) W := fun W => idx27 p 2 (by decide) W
  have i3 : ∀ W, (Instr.index 23 (.agg #[.int .i64 (p 0), .int .i64 (p 1), .int .i64 (p 2), .int .i64 (p 3), .int .i64 (p 4), .int .i64 (p 5)]) (.int .i64 3)).run Tryz.prog W = .ok (.int .i64 (p 3)) W := fun W => idx27 p 3 (by decide) W
  have i4 : ∀ W, (Instr.index 23 (.agg #[.int .i64 (p 0), .int .i64 (p 1), .int .i64 (p 2), .int .i64 (p 3), .int .i64 (p 4), .int .i64 (p 5)]) (.int .i64 4)).run Tryz.prog W = .ok (.int .i64 (p 4)) W := fun W => idx27 p 4 (by decide) W
  have i5 : ∀ W, (Instr.index 23 (.agg #[.int .i64 (p 0), .int .i64 (p 1), .int .i64 (p 2), .int .i64 (p 3), .int .i64 (p 4), .int .i64 (p 5)]) (.int .i64 5)).run Tryz.prog W = .ok (.int .i64 (p 5)) W := fun W => idx27 p 5 (by decide) W
  go_enter Tryz.func26, Tryz.ntmps26
  go_wp2_with fail
  refine (CF.out _).mono ?_
  rintro e w1 ⟨rfl, rfl⟩
  go_wp2_with fail
  try rw [W0.out]
  refine (C0.out _).mono ?_
  rintro e x0 ⟨rfl, d0⟩
  have B0 := Lib.hid (chain1 (Below.refl _ _) d0)
  have K0 := Lib.hid ((Blk.new w 26 (cells11 k b r p t d)).below' d0)
  clear d0
  have q0 := Blk11 K0.out
  have l0 := K0.out.lt
  go_wp2_with fail
  try rw [W1.out]
  refine (C1.out _).mono ?_
  rintro e x1 ⟨rfl, d1⟩
  have B1 := Lib.hid (chain0 B0.out d1)
  have K1 := Lib.hid (K0.out.below' d1)
  clear d1 B0 K0 q0 l0
  have q1 := Blk11 K1.out
  have l1 := K1.out.lt
  go_upto_region 9 with fail
  refine wp_loop_rounds 7 ?_
  rw [rounds_succ]
  go_wp2_with fail
  try rw [W2.out]
  refine (C2.out _).mono ?_
  rintro e x2 ⟨rfl, d2⟩
  have B2 := Lib.hid (chain0 B1.out d2)
  have K2 := Lib.hid (K1.out.below' d2)
  clear d2 B1 K1 q1 l1
  have q2 := Blk11 K2.out
  have l2 := K2.out.lt
  go_wp2_with fail
  rw [rounds_succ]
  go_wp2_with fail
  try rw [W3.out]
  refine (C3.out _).mono ?_
  rintro e x3 ⟨rfl, d3⟩
  have B3 := Lib.hid (chain0 B2.out d3)
  have K3 := Lib.hid (K2.out.below' d3)
  clear d3 B2 K2 q2 l2
  have q3 := Blk11 K3.out
  have l3 := K3.out.lt
  go_wp2_with fail
  rw [rounds_succ]
  go_wp2_with fail
  try rw [W4.out]
  refine (C4.out _).mono ?_
  rintro e x4 ⟨rfl, d4⟩
  have B4 := Lib.hid (chain0 B3.out d4)
  have K4 := Lib.hid (K3.out.below' d4)
  clear d4 B3 K3 q3 l3
  have q4 := Blk11 K4.out
  have l4 := K4.out.lt
  go_wp2_with fail
  rw [rounds_succ]
  go_wp2_with fail
  try rw [W5.out]
  refine (C5.out _).mono ?_
  rintro e x5 ⟨rfl, d5⟩
  have B5 := Lib.hid (chain0 B4.out d5)
  have K5 := Lib.hid (K4.out.below' d5)
  clear d5 B4 K4 q4 l4
  have q5 := Blk11 K5.out
  have l5 := K5.out.lt
  go_wp2_with fail
  rw [rounds_succ]
  go_wp2_with fail
  try rw [W6.out]
  refine (C6.out _).mono ?_
  rintro e x6 ⟨rfl, d6⟩
  have B6 := Lib.hid (chain0 B5.out d6)
  have K6 := Lib.hid (K5.out.below' d6)
  clear d6 B5 K5 q5 l5
  have q6 := Blk11 K6.out
  have l6 := K6.out.lt
  go_wp2_with fail
  rw [rounds_succ]
  go_wp2_with fail
  try rw [W7.out]
  refine (C7.out _).mono ?_
  rintro e x7 ⟨rfl, d7⟩
  have B7 := Lib.hid (chain0 B6.out d7)
  have K7 := Lib.hid (K6.out.below' d7)
  clear d7 B6 K6 q6 l6
  have q7 := Blk11 K7.out
  have l7 := K7.out.lt
  go_wp2_with fail
  rw [rounds_succ]
  go_wp2_with fail
  go_ret
  exact ⟨rfl, B7.out⟩
set_option maxHeartbeats 4000000 in
set_option maxRecDepth 100000 in
theorem bytes_at_5 (e : Evt) (w : World) (h : e.kind = 5) (ho : Okay e) : Calls Tryz.prog 26 #[e.val] w (StrPost (codeB e) w) := by
  have C0 := Lib.hid (fun W => uint_int (e.kind) ⟨by have := ho.kind; omega, by have := ho.kind; omega⟩ (e.kind) rfl W)
  have W0 := Lib.hid (u64_pos (e.kind) ⟨by have := ho.kind; omega, by have := ho.kind; omega⟩)
  have Z0 := (uintB_size e.kind.toNat)
  have C1 := Lib.hid (fun W => uint_int (e.bidder) ⟨ho.bidder.1, by have := ho.bidder; omega⟩ (e.bidder) rfl W)
  have W1 := Lib.hid (u64_pos (e.bidder) ⟨ho.bidder.1, by have := ho.bidder; omega⟩)
  have Z1 := (uintB_size e.bidder.toNat)
  have C2 := Lib.hid (fun W => wtext_any e.text W ho.text)
  have Z2 := (textB_size ho.text)
  have HE : codeB e = uintB e.kind.toNat ++ uintB e.bidder.toNat ++ textB e.text := by
    unfold codeB
    rw [code_5 h]
    simp only [List.append_nil, code_cat, cat_assoc]
    rfl
  rw [HE]
  generalize uintB e.kind.toNat = s0 at *
  generalize uintB e.bidder.toNat = s1 at *
  generalize textB e.text = s2 at *
  have A1 := fun W => add_s (s0) s1 (by have := Z0; have := Z1; omega) W
  have Y1 := cat_size (s0) s1 Z0 Z1
  have A2 := fun W => add_s (s0 ++ s1) s2 (by have := Y1; have := Z2; omega) W
  have Y2 := cat_size (s0 ++ s1) s2 Y1 Z2
  have HF := Lib.hid (fields_5 h)
  have CF := Lib.hid (fields_any e.kind)
  rw [HF.out] at CF
  clear h ho HE HF Z0 Z1 Z2 Y1 Y2
  obtain ⟨k, b, r, p, t, d⟩ := e
  unfold Evt.val
  dsimp only at *
  have t1 : (bits BinOp.and IntKind.i64 5 1 != 0) = true := by decide +kernel
  have t2 : (bits BinOp.and IntKind.i64 5 2 != 0) = false := by decide +kernel
  have t4 : (bits BinOp.and IntKind.i64 5 4 != 0) = true := by decide +kernel
  have t8 : (bits BinOp.and IntKind.i64 5 8 != 0) = false := by decide +kernel
  have t16 : (bits BinOp.and IntKind.i64 5 16 != 0) = false := by decide +kernel
  go_enter Tryz.func26, Tryz.ntmps26
  go_wp2_with fail
  refine (CF.out _).mono ?_
  rintro e w1 ⟨rfl, rfl⟩
  go_wp2_with fail
  try rw [W0.out]
  refine (C0.out _).mono ?_
  rintro e x0 ⟨rfl, d0⟩
  have B0 := Lib.hid (chain1 (Below.refl _ _) d0)
  have K0 := Lib.hid ((Blk.new w 26 (cells11 k b r p t d)).below' d0)
  clear d0
  have q0 := Blk11 K0.out
  have l0 := K0.out.lt
  go_wp2_with fail
  try rw [W1.out]
  refine (C1.out _).mono ?_
  rintro e x1 ⟨rfl, d1⟩
  have B1 := Lib.hid (chain0 B0.out d1)
  have K1 := Lib.hid (K0.out.below' d1)
  clear d1 B0 K0 q0 l0
  have q1 := Blk11 K1.out
  have l1 := K1.out.lt
  go_wp2_with fail
  refine (C2.out _).mono ?_
  rintro e x2 ⟨rfl, d2⟩
  have B2 := Lib.hid (chain0 B1.out d2)
  have K2 := Lib.hid (K1.out.below' d2)
  clear d2 B1 K1 q1 l1
  have q2 := Blk11 K2.out
  have l2 := K2.out.lt
  go_wp2_with fail
  go_ret
  exact ⟨rfl, B2.out⟩
set_option maxHeartbeats 4000000 in
set_option maxRecDepth 100000 in
theorem bytes_at_1 (e : Evt) (w : World) (h : e.kind = 6 ∨ e.kind = 7) (ho : Okay e) : Calls Tryz.prog 26 #[e.val] w (StrPost (codeB e) w) := by
  have C0 := Lib.hid (fun W => uint_int (e.kind) ⟨by have := ho.kind; omega, by have := ho.kind; omega⟩ (e.kind) rfl W)
  have W0 := Lib.hid (u64_pos (e.kind) ⟨by have := ho.kind; omega, by have := ho.kind; omega⟩)
  have Z0 := (uintB_size e.kind.toNat)
  have C1 := Lib.hid (fun W => uint_int (e.bidder) ⟨ho.bidder.1, by have := ho.bidder; omega⟩ (e.bidder) rfl W)
  have W1 := Lib.hid (u64_pos (e.bidder) ⟨ho.bidder.1, by have := ho.bidder; omega⟩)
  have Z1 := (uintB_size e.bidder.toNat)
  have HE : codeB e = uintB e.kind.toNat ++ uintB e.bidder.toNat := by
    unfold codeB
    rw [code_1 h]
    simp only [List.append_nil, code_cat, cat_assoc]
    rfl
  rw [HE]
  generalize uintB e.kind.toNat = s0 at *
  generalize uintB e.bidder.toNat = s1 at *
  have A1 := fun W => add_s (s0) s1 (by have := Z0; have := Z1; omega) W
  have Y1 := cat_size (s0) s1 Z0 Z1
  have HF := Lib.hid (fields_1 h)
  have CF := Lib.hid (fields_any e.kind)
  rw [HF.out] at CF
  clear h ho HE HF Z0 Z1 Y1
  obtain ⟨k, b, r, p, t, d⟩ := e
  unfold Evt.val
  dsimp only at *
  have t1 : (bits BinOp.and IntKind.i64 1 1 != 0) = true := by decide +kernel
  have t2 : (bits BinOp.and IntKind.i64 1 2 != 0) = false := by decide +kernel
  have t4 : (bits BinOp.and IntKind.i64 1 4 != 0) = false := by decide +kernel
  have t8 : (bits BinOp.and IntKind.i64 1 8 != 0) = false := by decide +kernel
  have t16 : (bits BinOp.and IntKind.i64 1 16 != 0) = false := by decide +kernel
  go_enter Tryz.func26, Tryz.ntmps26
  go_wp2_with fail
  refine (CF.out _).mono ?_
  rintro e w1 ⟨rfl, rfl⟩
  go_wp2_with fail
  try rw [W0.out]
  refine (C0.out _).mono ?_
  rintro e x0 ⟨rfl, d0⟩
  have B0 := Lib.hid (chain1 (Below.refl _ _) d0)
  have K0 := Lib.hid ((Blk.new w 26 (cells11 k b r p t d)).below' d0)
  clear d0
  have q0 := Blk11 K0.out
  have l0 := K0.out.lt
  go_wp2_with fail
  try rw [W1.out]
  refine (C1.out _).mono ?_
  rintro e x1 ⟨rfl, d1⟩
  have B1 := Lib.hid (chain0 B0.out d1)
  have K1 := Lib.hid (K0.out.below' d1)
  clear d1 B0 K0 q0 l0
  have q1 := Blk11 K1.out
  have l1 := K1.out.lt
  go_wp2_with fail
  go_ret
  exact ⟨rfl, B1.out⟩
set_option maxHeartbeats 4000000 in
set_option maxRecDepth 100000 in
theorem bytes_at_8 (e : Evt) (w : World) (h : e.kind = 8) (ho : Okay e) : Calls Tryz.prog 26 #[e.val] w (StrPost (codeB e) w) := by
  have C0 := Lib.hid (fun W => uint_int (e.kind) ⟨by have := ho.kind; omega, by have := ho.kind; omega⟩ (e.kind) rfl W)
  have W0 := Lib.hid (u64_pos (e.kind) ⟨by have := ho.kind; omega, by have := ho.kind; omega⟩)
  have Z0 := (uintB_size e.kind.toNat)
  have C1 := Lib.hid (fun W => uint_int (e.round) ⟨ho.round.1, by have := ho.round; omega⟩ (e.round) rfl W)
  have W1 := Lib.hid (u64_pos (e.round) ⟨ho.round.1, by have := ho.round; omega⟩)
  have Z1 := (uintB_size e.round.toNat)
  have HE : codeB e = uintB e.kind.toNat ++ uintB e.round.toNat := by
    unfold codeB
    rw [code_8 h]
    simp only [List.append_nil, code_cat, cat_assoc]
    rfl
  rw [HE]
  generalize uintB e.kind.toNat = s0 at *
  generalize uintB e.round.toNat = s1 at *
  have A1 := fun W => add_s (s0) s1 (by have := Z0; have := Z1; omega) W
  have Y1 := cat_size (s0) s1 Z0 Z1
  have HF := Lib.hid (fields_8 h)
  have CF := Lib.hid (fields_any e.kind)
  rw [HF.out] at CF
  clear h ho HE HF Z0 Z1 Y1
  obtain ⟨k, b, r, p, t, d⟩ := e
  unfold Evt.val
  dsimp only at *
  have t1 : (bits BinOp.and IntKind.i64 8 1 != 0) = false := by decide +kernel
  have t2 : (bits BinOp.and IntKind.i64 8 2 != 0) = false := by decide +kernel
  have t4 : (bits BinOp.and IntKind.i64 8 4 != 0) = false := by decide +kernel
  have t8 : (bits BinOp.and IntKind.i64 8 8 != 0) = true := by decide +kernel
  have t16 : (bits BinOp.and IntKind.i64 8 16 != 0) = false := by decide +kernel
  go_enter Tryz.func26, Tryz.ntmps26
  go_wp2_with fail
  refine (CF.out _).mono ?_
  rintro e w1 ⟨rfl, rfl⟩
  go_wp2_with fail
  try rw [W0.out]
  refine (C0.out _).mono ?_
  rintro e x0 ⟨rfl, d0⟩
  have B0 := Lib.hid (chain1 (Below.refl _ _) d0)
  have K0 := Lib.hid ((Blk.new w 26 (cells11 k b r p t d)).below' d0)
  clear d0
  have q0 := Blk11 K0.out
  have l0 := K0.out.lt
  go_wp2_with fail
  try rw [W1.out]
  refine (C1.out _).mono ?_
  rintro e x1 ⟨rfl, d1⟩
  have B1 := Lib.hid (chain0 B0.out d1)
  have K1 := Lib.hid (K0.out.below' d1)
  clear d1 B0 K0 q0 l0
  have q1 := Blk11 K1.out
  have l1 := K1.out.lt
  go_wp2_with fail
  go_ret
  exact ⟨rfl, B1.out⟩
set_option maxHeartbeats 4000000 in
set_option maxRecDepth 100000 in
theorem bytes_at_16 (e : Evt) (w : World) (h : e.kind = 10) (ho : Okay e) : Calls Tryz.prog 26 #[e.val] w (StrPost (codeB e) w) := by
  have C0 := Lib.hid (fun W => uint_int (e.kind) ⟨by have := ho.kind; omega, by have := ho.kind; omega⟩ (e.kind) rfl W)
  have W0 := Lib.hid (u64_pos (e.kind) ⟨by have := ho.kind; omega, by have := ho.kind; omega⟩)
  have Z0 := (uintB_size e.kind.toNat)
  have C1 := Lib.hid (fun W => uint_any e.digest W ho.digest)
  have Z1 := (uintB_size e.digest)
  have HE : codeB e = uintB e.kind.toNat ++ uintB e.digest := by
    unfold codeB
    rw [code_16 h]
    simp only [List.append_nil, code_cat, cat_assoc]
    rfl
  rw [HE]
  generalize uintB e.kind.toNat = s0 at *
  generalize uintB e.digest = s1 at *
  have A1 := fun W => add_s (s0) s1 (by have := Z0; have := Z1; omega) W
  have Y1 := cat_size (s0) s1 Z0 Z1
  have HF := Lib.hid (fields_16 h)
  have CF := Lib.hid (fields_any e.kind)
  rw [HF.out] at CF
  clear h ho HE HF Z0 Z1 Y1
  obtain ⟨k, b, r, p, t, d⟩ := e
  unfold Evt.val
  dsimp only at *
  have t1 : (bits BinOp.and IntKind.i64 16 1 != 0) = false := by decide +kernel
  have t2 : (bits BinOp.and IntKind.i64 16 2 != 0) = false := by decide +kernel
  have t4 : (bits BinOp.and IntKind.i64 16 4 != 0) = false := by decide +kernel
  have t8 : (bits BinOp.and IntKind.i64 16 8 != 0) = false := by decide +kernel
  have t16 : (bits BinOp.and IntKind.i64 16 16 != 0) = true := by decide +kernel
  go_enter Tryz.func26, Tryz.ntmps26
  go_wp2_with fail
  refine (CF.out _).mono ?_
  rintro e w1 ⟨rfl, rfl⟩
  go_wp2_with fail
  try rw [W0.out]
  refine (C0.out _).mono ?_
  rintro e x0 ⟨rfl, d0⟩
  have B0 := Lib.hid (chain1 (Below.refl _ _) d0)
  have K0 := Lib.hid ((Blk.new w 26 (cells11 k b r p t d)).below' d0)
  clear d0
  have q0 := Blk11 K0.out
  have l0 := K0.out.lt
  go_wp2_with fail
  refine (C1.out _).mono ?_
  rintro e x1 ⟨rfl, d1⟩
  have B1 := Lib.hid (chain0 B0.out d1)
  have K1 := Lib.hid (K0.out.below' d1)
  clear d1 B0 K0 q0 l0
  have q1 := Blk11 K1.out
  have l1 := K1.out.lt
  go_wp2_with fail
  go_ret
  exact ⟨rfl, B1.out⟩
theorem bytes_any (e : Evt) (w : World) (ho : Okay e) : Calls Tryz.prog 26 #[e.val] w (StrPost (codeB e) w) := by
  rcases kind_cases e.kind with h | h | h | h | h | h | h
  · exact bytes_at_4 e w h ho
  · exact bytes_at_3 e w h ho
  · exact bytes_at_5 e w h ho
  · exact bytes_at_1 e w h ho
  · exact bytes_at_8 e w h ho
  · exact bytes_at_16 e w h ho
  · exact bytes_at_0 e w h ho
end Go.Proofs.YtaikmgnpfbnjjaaGreatDoor.Ev
