/- Plain: decimal words; the size of an encoding; kinds by name. Plain: readers: bounds, the reference's order of checks. Contracts of the program's reader of bytes. -/
import Derived.Test.YtaikmgnpfbnjjaaGreatDoorPu21
import Derived.Test.YtaikmgnpfbnjjaaGreatDoorPu19
import Derived.Test.YtaikmgnpfbnjjaaGreatDoorPu03
namespace Go.Proofs.YtaikmgnpfbnjjaaGreatDoor.Ev
open Go.ChangeShapes Go.WideShapes Go.ChangeAt Go.RowKit Gn Cat Lex Ros Se
set_option linter.unusedVariables false
set_option linter.unusedSimpArgs false
/-- a number, cut at m -/
def minV (m : Nat) (l : List UInt8) : Nat := min (val l) m
theorem minV_snoc (m : Nat) (l : List UInt8) (b : UInt8) : minV m (l ++ [b]) = min (10 * minV m l + (b.toNat - 48)) m := by
  unfold minV
  rw [val_snoc]
  omega
theorem minV_le (m : Nat) (l : List UInt8) : minV m l ≤ m := Nat.min_le_right _ _
theorem minV_big {m n : Nat} {l : List UInt8} (h : n < m) : (n < minV m l ↔ n < val l) ∧ (val l ≤ n → minV m l = val l) := by
  unfold minV
  omega
theorem digB_snoc {l : List UInt8} {b : UInt8} (h : digB l = true) : digB (l ++ [b]) = isDig b := by
  unfold digB at h ⊢
  rw [List.all_append, h, Bool.true_and]
  simp
theorem digB_fail {l : List UInt8} {k : Nat} (hk : k < l.length) (h : isDig l[k] = false) : digB l = false := by
  unfold digB
  rw [List.all_eq_false]
  exact ⟨l[k], List.getElem_mem hk, by simpa using h⟩
theorem decR_nil : decR [] = (0, 2) := rfl
theorem decR_head {l : List UInt8} (h1 : 1 < l.length) (h2 : l.head? = some 48) : decR l = (0, 2) := by
  unfold decR
  rw [if_pos (.inr (.inl ⟨h1, h2⟩))]
theorem decR_bad {l : List UInt8} (h : digB l = false) : decR l = (0, 2) := by
  unfold decR
  rw [if_pos (.inr (.inr h))]
theorem decR_good {l : List UInt8} (h0 : l ≠ []) (h1 : ¬ (1 < l.length ∧ l.head? = some 48)) (h2 : digB l = true) : decR l = if 29 < val l then (0, 4) else ((val l : Int), 0) := by
  unfold decR
  rw [if_neg]
  rintro (h | h | h)
  · exact h0 h
  · exact h1 h
  · rw [h2] at h; cases h
/-- numbers below a hundred -/
theorem dec_small {n : Nat} (h : n < 10) : Lib.decDigits n = [UInt8.ofNat (48 + n)] := by
  rw [Lib.decDigits, dif_pos h]
theorem dec_big {n : Nat} (h : ¬ n < 10) : Lib.decDigits n = Lib.decDigits (n / 10) ++ [UInt8.ofNat (48 + n % 10)] := by
  rw [Lib.decDigits, dif_neg h]
theorem textL_len (s : ByteArray) : s.size ≤ (textL s).length ∧ (textL s).length ≤ 10 + s.size := by
  have := uintL_len s.size
  unfold textL
  rw [List.length_append, show s.data.toList.length = s.size from rfl]
  omega
/-- a long text makes a long encoding -/
theorem code_text {e : Evt} (h : evEq e (bareE e) = true) (ht : 4000 < e.text.size) : 4000 < (codeL e).length := by
  have hT : hasT e.kind := by
    by_cases hT : hasT e.kind
    · exact hT
    · exfalso
      unfold evEq bareE at h
      simp only [Bool.and_eq_true] at h
      obtain ⟨_, _, _, _, h5, _⟩ := h
      rw [if_neg hT, eqB_iff] at h5
      rw [h5] at ht
      exact absurd ht (by decide)
  have := (textL_len e.text).1
  unfold codeL
  rw [if_pos hT]
  simp only [List.length_append]
  omega
/-- kinds by name, as the loops find them -/
theorem kindOf_name {k : Int} (h : 1 ≤ k ∧ k ≤ 10) : kindOf (nameK k).data.toList = k := by
  have key : ∀ i : Fin 10, kindOf (nameK ((i.val : Int) + 1)).data.toList = (i.val : Int) + 1 := by decide +kernel
  obtain ⟨i, hi⟩ : ∃ i : Fin 10, k = (i.val : Int) + 1 := ⟨⟨(k - 1).toNat, by omega⟩, by show k = (((k - 1).toNat : Nat) : Int) + 1; omega⟩
  subst hi
  exact key i
theorem kindOf_none {n : ByteArray} (h : ∀ k : Int, 1 ≤ k → k ≤ 10 → nameK k ≠ n) : kindOf n.data.toList = 0 := by
  have q : ∀ k : Int, 1 ≤ k → k ≤ 10 → ¬ n.data.toList = (nameK k).data.toList := fun k h1 h2 e => h k h1 h2 (ByteArray.ext (Array.toList_inj.1 e.symm))
  unfold kindOf
  rw [if_neg (q 1 (by decide) (by decide)), if_neg (q 2 (by decide) (by decide)), if_neg (q 3 (by decide) (by decide)), if_neg (q 4 (by decide) (by decide)), if_neg (q 5 (by decide) (by decide)), if_neg (q 6 (by decide) (by decide)), if_neg (q 7 (by decide) (by decide)), if_neg (q 8 (by decide) (by decide)), if_neg (q 9 (by decide) (by decide)), if_neg (q 10 (by decide) (by decide))]
end Go.Proofs.YtaikmgnpfbnjjaaGreatDoor.Ev
namespace Go.Proofs.YtaikmgnpfbnjjaaGreatDoor.Ev
open Go.ChangeShapes Go.WideShapes Go.ChangeAt Go.RowKit Gn Cat Lex
set_option linter.unusedVariables false
set_option linter.unusedSimpArgs false
theorem rdGo_le {most : Nat} {l0 : List UInt8} : ∀ (l : List UInt8) (i x : Nat), (rdGo most l0 l i x).1 ≤ most
  | [], i, x => Nat.zero_le _
  | b :: l, i, x => by
    rw [rdGo_cons]
    split
    · exact Nat.zero_le _
    · split
      · exact rdGo_le l _ _
      · split
        · exact Nat.zero_le _
        · split
          · exact Nat.zero_le _
          · rename_i h; exact Nat.le_of_not_lt h
theorem rdU_le (most : Nat) (r : Rd) : (rdU most r).1 ≤ most := by
  unfold rdU
  split
  · exact Nat.zero_le _
  · exact rdGo_le _ _ _
/-- readers that are the same in all that is seen -/
structure Req (a b : Rd) : Prop where
  e : a.e = b.e
  l : b.e = 0 → a.l = b.l
theorem Req.zero {a b : Rd} (h : Req a b) (h0 : b.e = 0) : a = b := by
  obtain ⟨l, e⟩ := a
  obtain ⟨k, f⟩ := b
  obtain ⟨h1, h2⟩ := h
  dsimp only at h1 h2 h0
  rw [h2 h0, h1]
end Go.Proofs.YtaikmgnpfbnjjaaGreatDoor.Ev
namespace Go.Proofs.YtaikmgnpfbnjjaaGreatDoor.Ev
open Go.ChangeShapes Go.WideShapes Go.ChangeAt Go.RowKit Gn Cat Lex
set_option linter.unusedVariables false
set_option linter.unusedSimpArgs false
/-- a reader in memory -/
abbrev RB (w : World) (g : Nat) (s : ByteArray) (e : Int) : Prop := Blk w g 101 #[.string s, .int .i64 e]
abbrev rd (s : ByteArray) (e : Int) : Rd := ⟨s.data.toList, e⟩
theorem rok_any (s : ByteArray) (e : Int) (g : Nat) (w : World) (h : RB w g s e) : Calls Tryz.prog 71 #[.pointer (some ⟨g, 0, none⟩)] w fun r w' => r = .returned (.bool (e == 0)) ∧ w' = w := by
  have hg := h.lt
  have hc := h.c2
  clear h
  go_enter Tryz.func71, Tryz.ntmps71
  go_wp2_with fail
  go_ret
  exact ⟨rfl, rfl⟩
theorem rerr_any (s : ByteArray) (e : Int) (g : Nat) (w : World) (h : RB w g s e) : Calls Tryz.prog 72 #[.pointer (some ⟨g, 0, none⟩)] w fun r w' => r = .returned (.int .i64 e) ∧ w' = w := by
  have hg := h.lt
  have hc := h.c2
  clear h
  go_enter Tryz.func72, Tryz.ntmps72
  go_wp2_with fail
  go_ret
  exact ⟨rfl, rfl⟩
theorem rfail_any (s : ByteArray) (e x : Int) (g : Nat) (w : World) (h : RB w g s e) : Calls Tryz.prog 34 #[.pointer (some ⟨g, 0, none⟩), .int .i64 x] w fun r w' => r = .returned (.tuple #[]) ∧ RB w' g s (failE e x) ∧ Only g w w' := by
  have H := Lib.hid h
  have hg := h.lt
  have hc := h.c2
  clear h
  by_cases he : e = 0
  · subst he
    have HF : Hid (failE 0 x = x) := rfl
    generalize failE 0 x = y at *
    go_enter Tryz.func34, Tryz.ntmps34
    go_wp2_with fail
    go_end0
    rw [HF.out]
    exact ⟨rfl, H.out.put 1 (.int .i64 x), (Only.refl g w).put 1 _⟩
  · have hne : (e != 0) = true := by simpa using he
    have heq : (e == 0) = false := by simpa using he
    have HF : Hid (failE e x = e) := if_neg he
    generalize failE e x = y at *
    clear he
    go_enter Tryz.func34, Tryz.ntmps34
    go_wp2_with fail
    go_end0
    rw [HF.out]
    exact ⟨rfl, H.out, Only.refl g w⟩
theorem fail_rd (s : ByteArray) (e x : Int) : rd s (failE e x) = rdFail (rd s e) x := by
  unfold failE rdFail rd
  by_cases h : e = 0
  · rw [if_pos h, if_neg (by simpa using h)]
  · rw [if_neg h, if_pos (by simpa using h)]
theorem ne_empty {s : ByteArray} (h : s ≠ ⟨#[]⟩) : s.toList.isEmpty = false := by
  rw [ByteArray.toList_eq]
  obtain ⟨⟨x⟩⟩ := s
  cases x with
  | nil => exact absurd rfl h
  | cons a b => rfl
theorem rend_any (s : ByteArray) (e : Int) (g : Nat) (w : World) (h : RB w g s e) : Calls Tryz.prog 37 #[.pointer (some ⟨g, 0, none⟩)] w fun r w' => r = .returned (.int .i64 (rdEnd (rd s e))) ∧ Only g w w' := by
  have H := Lib.hid h
  have CO := Lib.hid (rok_any s e g)
  have CF := Lib.hid (fun W => rfail_any s e 3 g W)
  have CE := Lib.hid (fun W x => rerr_any s x g W)
  have hg := h.lt
  have hc := h.c2
  clear h
  by_cases he : e = 0
  · subst he
    by_cases hs : s = ⟨#[]⟩
    · subst hs
      have HV : Hid (rdEnd (rd ⟨#[]⟩ 0) = 0) := rfl
      have hz : (⟨#[]⟩ : ByteArray).toList.isEmpty = true := by decide +kernel
      go_enter Tryz.func37, Tryz.ntmps37
      go_wp2_with fail
      refine (CO.out _ H.out).mono ?_
      rintro e1 w1 ⟨rfl, rfl⟩
      have ht : ((0 : Int) == 0) = true := rfl
      go_wp2_with fail
      refine (CE.out _ _ H.out).mono ?_
      rintro e1 w2 ⟨rfl, rfl⟩
      go_wp2_with fail
      go_ret
      exact ⟨by rw [HV.out]; rfl, Only.refl _ _⟩
    · have HV : Hid (rdEnd (rd s 0) = 3) := by
        show _ = _
        unfold rdEnd
        rw [if_pos ⟨rfl, fun x => hs (ByteArray.ext (Array.toList_inj.1 x))⟩]
      have hz : s.toList.isEmpty = false := ne_empty hs
      clear hs
      go_enter Tryz.func37, Tryz.ntmps37
      go_wp2_with fail
      refine (CO.out _ H.out).mono ?_
      rintro e1 w1 ⟨rfl, rfl⟩
      have ht : ((0 : Int) == 0) = true := rfl
      go_wp2_with fail
      refine (CF.out _ H.out).mono ?_
      rintro e1 w2 ⟨rfl, h2, o2⟩
      have O2 := Lib.hid o2
      have H2 := Lib.hid h2
      clear h2 o2 hc hg
      go_wp2_with fail
      refine (CE.out _ _ H2.out).mono ?_
      rintro e1 w3 ⟨rfl, rfl⟩
      go_wp2_with fail
      go_ret
      exact ⟨by rw [HV.out]; rfl, O2.out⟩
  · have HV : Hid (rdEnd (rd s e) = e) := by
      show _ = _
      unfold rdEnd
      rw [if_neg (fun x => he x.1)]
    have heq : (e == 0) = false := by simpa using he
    clear he
    go_enter Tryz.func37, Tryz.ntmps37
    go_wp2_with fail
    refine (CO.out _ H.out).mono ?_
    rintro e1 w1 ⟨rfl, rfl⟩
    go_wp2_with fail
    refine (CE.out _ _ H.out).mono ?_
    rintro e1 w2 ⟨rfl, rfl⟩
    go_wp2_with fail
    go_ret
    exact ⟨by rw [HV.out]; rfl, Only.refl _ _⟩
/-- what a read of a number answers -/
abbrev UPost (most : Nat) (s : ByteArray) (e : Int) (g : Nat) (w : World) (r : Ending) (w' : World) : Prop := ∃ s' e', r = .returned (.int .u64 ((rdU most (rd s e)).1 : Int)) ∧ RB w' g s' e' ∧ rd s' e' = (rdU most (rd s e)).2 ∧ Only g w w'
theorem drop_byte {s : ByteArray} {k : Nat} (h : k < s.size) : s.data.toList.drop k = s[k] :: s.data.toList.drop (k + 1) := by
  have h2 : k < s.data.toList.length := h
  rw [List.drop_eq_getElem_cons h2]
  rfl
theorem drop_ext {s : ByteArray} (k : Nat) : (s.extract k s.size).data.toList = s.data.toList.drop k := by
  simp
  rw [List.take_of_length_le (by simp)]
set_option maxHeartbeats 8000000 in
set_option maxRecDepth 100000 in
theorem ruint0_any (most : Nat) (s : ByteArray) (g : Nat) (w : World) (h : RB w g s 0) (hm : most < 18446744073709551616) (hs : s.size ≤ 5000) : Calls Tryz.prog 33 #[.pointer (some ⟨g, 0, none⟩), .int .u64 (most : Int)] w (UPost most s 0 g w) := by
  have H := Lib.hid h
  have CO := Lib.hid (rok_any s 0 g)
  have CF := Lib.hid (fun x W => rfail_any s 0 x g W)
  have hg := h.lt
  have hc := h.c2
  have hl : (s.size : Int) ≤ 5000 := by omega
  obtain ⟨R, hR⟩ : ∃ R, R = rdU most (rd s 0) := ⟨_, rfl⟩
  have HR : Hid (R = rdGo most s.data.toList (s.data.toList.drop 0) 0 0) := hR
  unfold UPost
  rw [← hR]
  have HMO := Lib.hid hm
  clear h hR hm
  go_enter Tryz.func33, Tryz.ntmps33
  go_wp2_with fail
  refine (CO.out _ H.out).mono ?_
  rintro e1 w1 ⟨rfl, rfl⟩
  have ht : ((0 : Int) == 0) = true := rfl
  go_wp2_with fail
  go_loop [5, 6] (fun xv iv => ∃ (y k : Nat), k ≤ 9 ∧ k ≤ s.size ∧ xv = .int .u64 (y : Int) ∧ iv = .int .i64 (k : Int) ∧ Hid (y < 128 ^ k) ∧ Hid (R = rdGo most s.data.toList (s.data.toList.drop k) k y)) (fun _ iv => 10 - (intOf iv).toNat)
  case atStart => exact ⟨0, 0, by omega, by omega, rfl, rfl, by show _ < _; decide, HR.out⟩
  case round =>
    obtain ⟨y, k, hk9, hks, rfl, rfl, HY, HX⟩ := hrel
    by_cases hk : k = s.size
    · have hd : ((k : Int) == (s.size : Int)) = true := by rw [hk]; simp
      have HR1 : Hid (R = (0, ⟨s.data.toList, 1⟩)) := by
        show _ = _
        rw [HX.out, List.drop_of_length_le (by rw [hk]; exact Nat.le_refl _), rdGo_nil]
      clear hk
      go_wp2_with fail
      refine (CF.out 1 _ H.out).mono ?_
      rintro e2 w2 ⟨rfl, h2, o2⟩
      have O2 := Lib.hid o2
      have H2 := Lib.hid h2
      clear h2 o2 hc hg
      go_wp2_with fail
      go_ret
      rw [HR1.out]
      exact ⟨s, 1, rfl, H2.out, rfl, O2.out⟩
    · have hd : ((k : Int) == (s.size : Int)) = false := by simp; omega
      have hks' : k < s.size := by omega
      have HX1 := Lib.hid (HX.out.trans (by rw [drop_byte hks', rdGo_cons]))
      have hb8 : s[k].toNat < 256 := s[k].toNat_lt
      clear hk
      by_cases h91 : k = 9 ∧ 1 < s[k].toNat
      · have HR1 := Lib.hid (HX1.out.trans (if_pos h91))
        have d9 : ((k : Int) == 9) = true := by rw [h91.1]; rfl
        have d1 : decide ((1 : Int) < (s[k].toNat : Int)) = true := decide_eq_true (by omega)
        clear h91
        go_wp2_with fail
        refine (CF.out 2 _ H.out).mono ?_
        rintro e2 w2 ⟨rfl, h2, o2⟩
        have O2 := Lib.hid o2
        have H2 := Lib.hid h2
        clear h2 o2 hc hg
        go_wp2_with fail
        go_ret
        rw [HR1.out]
        exact ⟨s, 2, rfl, H2.out, rfl, O2.out⟩
      · have HX2 := Lib.hid (HX1.out.trans (if_neg h91))
        have hb1 : k = 9 → s[k].toNat ≤ 1 := fun e => Nat.le_of_not_lt fun h => h91 ⟨e, h⟩
        have HVL := Lib.hid (group_val (b := s[k].toNat) hb8 HY.out hk9 hb1)
        have HYL := Lib.hid (group_lt (d := s[k].toNat % 128) k HY.out (Nat.mod_lt _ (by decide)))
        have HYS := Lib.hid (group_small (b := s[k].toNat) hk9 hb1)
        have hg9 : ((k : Int) == 9) = false ∨ ((k : Int) == 9) = true ∧ decide ((1 : Int) < (s[k].toNat : Int)) = false := by
          by_cases e : k = 9
          · exact .inr ⟨by rw [e]; rfl, decide_eq_false (by have := hb1 e; omega)⟩
          · exact .inl (by simp; omega)
        have hk8 : 128 ≤ s[k].toNat → k ≤ 8 := fun h => by
          have : k ≠ 9 := fun e => by have := hb1 e; omega
          omega
        obtain ⟨V, hV⟩ : ∃ V, V = y + s[k].toNat % 128 * 128 ^ k := ⟨_, rfl⟩
        rw [← hV] at HVL HYL HX2
        have HG := Lib.hid hg9
        have HK8 := Lib.hid hk8
        clear hV h91 hb1 hg9 hk8 hb8 HX1
        rcases HG.out with d9 | ⟨d9, d1⟩
        all_goals
          go_upto_region 14 with fail
          rw [HVL.out]
          by_cases h128 : 128 ≤ s[k].toNat
          · have HX3 := Lib.hid (HX2.out.trans (if_pos h128))
            have hk8 := HK8.out h128
            have d128 : decide ((128 : Int) ≤ (s[k].toNat : Int)) = true := decide_eq_true (by omega)
            clear h128
            go_wp2_with fail
            refine ⟨⟨V, k + 1, by omega, by omega, rfl, by simp, HYL.out, HX3.out⟩, ?_⟩
            simp [intOf]
            omega
          · have HX3 := Lib.hid (HX2.out.trans (if_neg h128))
            have d128 : decide ((128 : Int) ≤ (s[k].toNat : Int)) = false := decide_eq_false (by omega)
            clear h128
            by_cases hz : s[k].toNat = 0 ∧ 0 < k
            · have HR1 := Lib.hid (HX3.out.trans (if_pos hz))
              have d0 : ((s[k].toNat : Int) == 0) = true := by rw [hz.1]; rfl
              have dk : decide ((0 : Int) < (k : Int)) = true := decide_eq_true (by omega)
              have dk2 : 0 < k := hz.2
              have d0n : s[k].toNat = 0 := hz.1
              clear hz
              go_wp2_with fail
              refine (CF.out 2 _ H.out).mono ?_
              rintro e2 w2 ⟨rfl, h2, o2⟩
              have O2 := Lib.hid o2
              have H2 := Lib.hid h2
              clear h2 o2 hc hg
              go_wp2_with fail
              go_ret
              rw [HR1.out]
              exact ⟨s, 2, rfl, H2.out, rfl, O2.out⟩
            · have HX4 := Lib.hid (HX3.out.trans (if_neg hz))
              have hd0 : (((s[k].toNat : Int) == 0) = false ∧ ¬ s[k].toNat = 0) ∨ (((s[k].toNat : Int) == 0) = true ∧ s[k].toNat = 0) ∧ decide ((0 : Int) < (k : Int)) = false ∧ ¬ 0 < k := by
                by_cases e : s[k].toNat = 0
                · exact .inr ⟨⟨by rw [e]; rfl, e⟩, decide_eq_false (fun h => hz ⟨e, by omega⟩), fun h => hz ⟨e, h⟩⟩
                · exact .inl ⟨by simp; omega, e⟩
              clear hz
              by_cases hm : most < V
              · have HR1 := Lib.hid (HX4.out.trans (if_pos hm))
                have dm : decide ((most : Int) < (V : Int)) = true := decide_eq_true (by omega)
                rcases hd0 with ⟨d0, d0n⟩ | ⟨⟨d0, d0n⟩, dk, dk2⟩
                all_goals
                  go_wp2_with fail
                  refine (CF.out 4 _ H.out).mono ?_
                  rintro e2 w2 ⟨rfl, h2, o2⟩
                  have O2 := Lib.hid o2
                  have H2 := Lib.hid h2
                  clear h2 o2 hc hg
                  go_wp2_with fail
                  go_ret
                  rw [HR1.out]
                  exact ⟨s, 4, rfl, H2.out, rfl, O2.out⟩
              · have HR1 := Lib.hid (HX4.out.trans (if_neg hm))
                have dm : decide ((most : Int) < (V : Int)) = false := decide_eq_false (by omega)
                have HVm : Hid (V < 18446744073709551616) := by
                  show V < _
                  have := HMO.out
                  omega
                rcases hd0 with ⟨d0, d0n⟩ | ⟨⟨d0, d0n⟩, dk, dk2⟩
                all_goals
                  go_wp2_with fail
                  go_ret
                  rw [HR1.out]
                  refine ⟨rfl, s.extract (k + 1) s.size, 0, H.out.put 0 _, ?_, (Only.refl g _).put 0 _⟩
                  unfold rd
                  rw [drop_ext]
end Go.Proofs.YtaikmgnpfbnjjaaGreatDoor.Ev
