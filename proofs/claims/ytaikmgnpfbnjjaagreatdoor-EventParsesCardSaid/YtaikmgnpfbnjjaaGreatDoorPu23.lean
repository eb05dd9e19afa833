/- Contracts of the program's reader: Uint, Text, NewReader; wire.Text. Contracts of event.kindOf, number and decimal. -/
import Derived.Test.YtaikmgnpfbnjjaaGreatDoorPu22
import Derived.Test.YtaikmgnpfbnjjaaGreatDoorPu20
namespace Go.Proofs.YtaikmgnpfbnjjaaGreatDoor.Ev
open Go.ChangeShapes Go.WideShapes Go.ChangeAt Go.RowKit Gn Cat Lex
set_option linter.unusedVariables false
set_option linter.unusedSimpArgs false
theorem rdGo_len {most : Nat} {l0 : List UInt8} : ∀ (l : List UInt8) (i x : Nat), l.length ≤ l0.length → (rdGo most l0 l i x).2.l.length ≤ l0.length
  | [], _, _, _ => Nat.le_refl _
  | b :: l, i, x, h => by
    rw [List.length_cons] at h
    rw [rdGo_cons]
    split
    · exact Nat.le_refl _
    · split
      · exact rdGo_len l _ _ (by omega)
      · split
        · exact Nat.le_refl _
        · split
          · exact Nat.le_refl _
          · show l.length ≤ _
            omega
theorem rdU_len (most : Nat) (r : Rd) : (rdU most r).2.l.length ≤ r.l.length := by
  unfold rdU
  split
  · exact Nat.le_refl _
  · exact rdGo_len _ _ _ (Nat.le_refl _)
theorem rd_size {s s' : ByteArray} {e e' : Int} {most : Nat} (h : rd s' e' = (rdU most (rd s e)).2) : s'.size ≤ s.size := by
  have h1 := rdU_len most (rd s e)
  rw [← h] at h1
  exact h1
theorem rdU_err {most : Nat} {r : Rd} (h : r.e ≠ 0) : rdU most r = (0, r) := by unfold rdU; rw [if_pos h]
theorem ruint_any (most : Nat) (s : ByteArray) (e : Int) (g : Nat) (w : World) (h : RB w g s e) (hm : most < 18446744073709551616) (hs : s.size ≤ 5000) : Calls Tryz.prog 33 #[.pointer (some ⟨g, 0, none⟩), .int .u64 (most : Int)] w (UPost most s e g w) := by
  by_cases he : e = 0
  · subst he
    exact ruint0_any most s g w h hm hs
  · have H := Lib.hid h
    have CO := Lib.hid (rok_any s e g)
    have heq : (e == 0) = false := by simpa using he
    unfold UPost
    rw [rdU_err (show (rd s e).e ≠ 0 from he)]
    have hg := h.lt
    have hc := h.c2
    clear h hm he
    go_enter Tryz.func33, Tryz.ntmps33
    go_wp2_with fail
    refine (CO.out _ H.out).mono ?_
    rintro e1 w1 ⟨rfl, rfl⟩
    go_wp2_with fail
    go_ret
    exact ⟨s, e, rfl, H.out, rfl, Only.refl _ _⟩
abbrev TPost (most : Nat) (s : ByteArray) (e : Int) (g : Nat) (w : World) (r : Ending) (w' : World) : Prop := ∃ s' e', r = .returned (.string (rdT most (rd s e)).1) ∧ RB w' g s' e' ∧ rd s' e' = (rdT most (rd s e)).2 ∧ Only g w w'
theorem rdT_err {most : Nat} {r : Rd} (h : (rdU most r).2.e ≠ 0) : rdT most r = (⟨#[]⟩, (rdU most r).2) := by unfold rdT; rw [if_pos h]
theorem rdT_short {most : Nat} {r : Rd} (h : (rdU most r).2.e = 0) (h2 : (rdU most r).2.l.length < (rdU most r).1) : rdT most r = (⟨#[]⟩, ⟨(rdU most r).2.l, 1⟩) := by unfold rdT; rw [if_neg (fun x => x h), if_pos h2]
theorem rdT_fine {most : Nat} {r : Rd} (h : (rdU most r).2.e = 0) (h2 : ¬ (rdU most r).2.l.length < (rdU most r).1) : rdT most r = (⟨((rdU most r).2.l.take (rdU most r).1).toArray⟩, ⟨(rdU most r).2.l.drop (rdU most r).1, 0⟩) := by unfold rdT; rw [if_neg (fun x => x h), if_neg h2]
theorem take_ext {s : ByteArray} (n : Nat) : s.extract 0 n = ⟨(s.data.toList.take n).toArray⟩ := by
  apply ByteArray.ext
  apply Array.toList_inj.1
  simp
theorem rtext_any (most : Nat) (s : ByteArray) (e : Int) (g : Nat) (w : World) (h : RB w g s e) (h0 : 0 < most) (hm : most ≤ 5000) (hs : s.size ≤ 5000) : Calls Tryz.prog 36 #[.pointer (some ⟨g, 0, none⟩), .int .i64 (most : Int)] w (TPost most s e g w) := by
  have H := Lib.hid h
  have CO := Lib.hid (rok_any s e g)
  have hg := h.lt
  have hc := h.c2
  clear h
  by_cases he : e = 0
  · subst he
    have CU := Lib.hid fun W (k : RB W g s 0) => ruint_any most s 0 g W k (by omega) hs
    have CF := Lib.hid (fun t W k => rfail_any t 0 1 g W k)
    have dm : decide ((0 : Int) < (most : Int)) = true := decide_eq_true (by omega)
    have dl : decide ((most : Int) < 0) = false := decide_eq_false (by omega)
    have HN := Lib.hid (rdU_le most (rd s 0))
    have HRS := Lib.hid (fun s1 e1 => rd_size (s := s) (s' := s1) (e := 0) (e' := e1) (most := most))
    have HER := Lib.hid (rdT_err (most := most) (r := rd s 0))
    have HSH := Lib.hid (rdT_short (most := most) (r := rd s 0))
    have HFI := Lib.hid (rdT_fine (most := most) (r := rd s 0))
    unfold UPost at CU
    unfold TPost
    generalize rdT most (rd s 0) = T at *
    generalize hq : rdU most (rd s 0) = q at *
    obtain ⟨n, R⟩ := q
    dsimp only at *
    clear hq
    go_enter Tryz.func36, Tryz.ntmps36
    go_wp2_with fail
    refine (CO.out _ H.out).mono ?_
    rintro e1 w1 ⟨rfl, rfl⟩
    have ht : ((0 : Int) == 0) = true := rfl
    go_wp2_with fail
    refine (CU.out _ H.out).mono ?_
    rintro e1 w2 ⟨s1, e1, rfl, h1, r1, o1⟩
    have O1 := Lib.hid o1
    have H1 := Lib.hid h1
    have hs1 : s1.size ≤ 5000 := Nat.le_trans (HRS.out s1 e1 r1) hs
    have hg := h1.lt
    have hc := h1.c2
    have HR := Lib.hid r1
    have HN2 : n ≤ 5000 := Nat.le_trans HN.out hm
    clear h1 o1 r1
    by_cases h1 : e1 = 0
    · subst h1
      have HRe : Hid (R.e = 0) := by show R.e = 0; rw [← HR.out]
      have HRl : Hid (R.l = s1.data.toList) := by show R.l = _; rw [← HR.out]
      by_cases hn : s1.size < n
      · have HT := Lib.hid (HSH.out HRe.out (by rw [HRl.out]; exact hn))
        have dn : decide ((s1.size : Int) < (n : Int)) = true := decide_eq_true (by omega)
        go_wp2_with fail
        refine (CF.out s1 _ H1.out).mono ?_
        rintro e1 w3 ⟨rfl, h3, o3⟩
        have O3 := Lib.hid (O1.out.trans o3)
        have H3 := Lib.hid h3
        have hg := h3.lt
        have hc : (w3.cell? ⟨g, 0, none⟩ = some (.string s1) ∧ w3.frozen? ⟨g, 0, none⟩ = false) ∧ w3.cell? ⟨g, 1, none⟩ = some (.int .i64 1) ∧ w3.frozen? ⟨g, 1, none⟩ = false := h3.c2
        clear h3 o3
        go_wp2_with fail
        go_ret
        rw [HT.out]
        exact ⟨s1, 1, rfl, H3.out, by rw [HRl.out], O3.out⟩
      · have HT := Lib.hid (HFI.out HRe.out (by rw [HRl.out]; exact hn))
        have dn : decide ((s1.size : Int) < (n : Int)) = false := decide_eq_false (by omega)
        go_wp2_with fail
        go_ret
        rw [HT.out]
        refine ⟨s1.extract n s1.size, 0, ?_, H1.out.put 0 _, ?_, O1.out.put 0 _⟩
        · show Ending.returned (Value.string _) = _
          rw [HRl.out, ← take_ext]
        · unfold rd
          rw [drop_ext, HRl.out]
    · have HRe : Hid (R.e ≠ 0) := by show R.e ≠ 0; rw [← HR.out]; exact h1
      have HT := Lib.hid (HER.out HRe.out)
      have d1 : (e1 == 0) = false := by simpa using h1
      have d2 : (e1 != 0) = true := by simpa using h1
      clear h1
      go_wp2_with fail
      go_ret
      rw [HT.out]
      exact ⟨s1, e1, rfl, H1.out, HR.out, O1.out⟩
  · have heq : (e == 0) = false := by simpa using he
    unfold TPost
    have hU := rdU_err (most := most) (show (rd s e).e ≠ 0 from he)
    rw [rdT_err (by rw [hU]; exact he), hU]
    clear he hU
    go_enter Tryz.func36, Tryz.ntmps36
    go_wp2_with fail
    refine (CO.out _ H.out).mono ?_
    rintro e1 w1 ⟨rfl, rfl⟩
    go_wp2_with fail
    go_ret
    exact ⟨s, e, rfl, H.out, rfl, Only.refl _ _⟩
theorem newR_any (s : ByteArray) (w : World) : Calls Tryz.prog 32 #[.string s] w fun r w' => r = .returned (.pointer (some ⟨w.heap.size, 0, none⟩)) ∧ RB w' w.heap.size s 0 ∧ Below w.heap.size w w' := by
  go_enter Tryz.func32, Tryz.ntmps32
  go_wp2_with fail
  go_ret
  exact ⟨rfl, Blk.new w _ _, below_new _ _⟩
def textB (s : ByteArray) : ByteArray := ⟨(textL s).toArray⟩
theorem text_cat (s : ByteArray) : uintB s.size ++ s = textB s := by
  unfold textB
  apply ByteArray.ext
  apply Array.toList_inj.1
  simp [textL, uintB]
theorem wtext_any (s : ByteArray) (w : World) (hs : s.size ≤ 5000) : Calls Tryz.prog 67 #[.string s] w (StrPost (textB s) w) := by
  have CU := Lib.hid (fun W => uint_any s.size W (by omega))
  have HA := fun W => add_s (uintB s.size) s (by have := uintB_size s.size; omega) W
  rw [← text_cat]
  go_enter Tryz.func67, Tryz.ntmps67
  go_wp2_with fail
  refine (CU.out _).mono ?_
  rintro e w1 ⟨rfl, b1⟩
  go_wp2_with fail
  go_ret
  exact ⟨rfl, b1⟩
end Go.Proofs.YtaikmgnpfbnjjaaGreatDoor.Ev
namespace Go.Proofs.YtaikmgnpfbnjjaaGreatDoor.Ev
open Go.ChangeShapes Go.WideShapes Go.ChangeAt Go.RowKit Gn Cat Lex Ros Se
set_option linter.unusedVariables false
set_option linter.unusedSimpArgs false
theorem eqS_yes {a b : ByteArray} (h : a = b) : (a.toList == b.toList) = true := by subst h; simp
theorem eqS_no {a b : ByteArray} (h : a ≠ b) : (a.toList == b.toList) = false := by
  cases hx : (a.toList == b.toList) with
  | false => rfl
  | true => exact absurd (eqB_iff.1 (show eqB a b = true from hx)) h
set_option maxHeartbeats 1000000 in
theorem kindOf_any (s : ByteArray) (w : World) : Calls Tryz.prog 55 #[.string s] w fun e w' => e = .returned (.int .i64 (kindOf s.data.toList)) ∧ Below w.heap.size w w' := by
  have CN := Lib.hid (fun k W => name_any k W)
  obtain ⟨r, hr⟩ : ∃ r, r = kindOf s.data.toList := ⟨_, rfl⟩
  have HR := Lib.hid hr
  rw [← hr]
  clear hr
  go_enter Tryz.func55, Tryz.ntmps55
  go_wp2_with fail
  go_loopw [3] (fun kv wr => ∃ k : Nat, 1 ≤ k ∧ k ≤ 11 ∧ kv = .int .i64 (k : Int) ∧ Hid (∀ j : Int, 1 ≤ j → j < (k : Int) → nameK j ≠ s) ∧ Hid (Below w.heap.size w wr)) (fun kv _ => 11 - (intOf kv).toNat)
  case atStart => exact ⟨1, by omega, by omega, rfl, fun j h1 h2 => by omega, Below.refl _ _⟩
  case round =>
    obtain ⟨k, hk1, hk2, rfl, HN, HB⟩ := hrel
    by_cases hk : k ≤ 10
    · have hd : decide ((k : Int) ≤ 10) = true := decide_eq_true (by omega)
      go_wp2_with fail
      refine (CN.out _ _).mono ?_
      rintro e w1 ⟨rfl, b1⟩
      have B1 := Lib.hid (chain0 HB.out b1)
      clear b1 HB
      by_cases he : nameK (k : Int) = s
      · have hb := eqS_yes he
        have HK : Hid (r = (k : Int)) := by
          show _ = _
          rw [HR.out, ← he]
          exact kindOf_name (by omega)
        clear he
        go_wp2_with fail
        go_ret
        exact ⟨by rw [HK.out]; rfl, B1.out⟩
      · have hb := eqS_no he
        have HE := Lib.hid he
        clear he
        go_wp2_with fail
        go_roundw
        case rel => exact ⟨k + 1, by omega, by omega, by simp, fun j h1 h2 => by
          rcases Int.lt_or_eq_of_le (show j ≤ (k : Int) by omega) with h3 | h3
          · exact HN.out j h1 h3
          · rw [h3]; exact HE.out, B1.out⟩
        case measure => simp [intOf]; omega
    · have hd : decide ((k : Int) ≤ 10) = false := decide_eq_false (by omega)
      have HK : Hid (r = 0) := by
        show _ = _
        rw [HR.out]
        exact kindOf_none fun j h1 h2 => HN.out j h1 (by omega)
      go_wp2_with fail
      go_ret
      exact ⟨by rw [HK.out]; rfl, HB.out⟩
theorem num_byte (n : Nat) (h : n < 10) : ((48 : Int) + (n : Int)) = ((UInt8.ofNat (48 + n)).toNat : Int) := by
  show _ = (((48 + n) % 256 : Nat) : Int)
  omega
set_option maxRecDepth 100000 in
theorem number_small (n : Nat) (h : n < 10) (w : World) : Calls Tryz.prog 47 #[.int .i64 (n : Int)] w (StrPost (ofL [UInt8.ofNat (48 + n)]) w) := by
  have hd : decide ((n : Int) < 10) = true := decide_eq_true (by omega)
  have HB := ruint_one ((48 : Int) + (n : Int)) (UInt8.ofNat (48 + n)) w (num_byte n h)
  generalize UInt8.ofNat (48 + n) = c at *
  go_enter Tryz.func47, Tryz.ntmps47
  go_wp2_with fail
  go_ret
  exact ⟨rfl, below_new _ _⟩
set_option maxRecDepth 100000 in
theorem number_any (n : Nat) (h : n < 100) (w : World) : Calls Tryz.prog 47 #[.int .i64 (n : Int)] w (StrPost (ofL (Lib.decDigits n)) w) := by
  by_cases hn : n < 10
  · rw [dec_small hn]
    exact number_small n hn w
  · have hd : decide ((n : Int) < 10) = false := decide_eq_false (by omega)
    have CA := Lib.hid fun W (q : Int) (hq : q = ((n / 10 : Nat) : Int)) => by
      have k := number_small (n / 10) (by omega) W
      rw [← hq] at k
      exact k
    have CB := Lib.hid fun W (q : Int) (hq : q = ((n % 10 : Nat) : Int)) => by
      have k := number_small (n % 10) (by omega) W
      rw [← hq] at k
      exact k
    have HD : Hid (ofL (Lib.decDigits n) = ofL [UInt8.ofNat (48 + n / 10)] ++ ofL [UInt8.ofNat (48 + n % 10)]) := by
      show _ = _
      rw [dec_big hn, dec_small (by omega)]
      rfl
    have HQ : Hid ((n : Int) / 10 = ((n / 10 : Nat) : Int)) := by show _ = _; omega
    have HM : Hid ((n : Int) % 10 = ((n % 10 : Nat) : Int)) := by show _ = _; omega
    have HA := fun W => add_s (ofL [UInt8.ofNat (48 + n / 10)]) (ofL [UInt8.ofNat (48 + n % 10)]) (by show 1 + 1 ≤ _; omega) W
    generalize ofL (Lib.decDigits n) = r at *
    generalize ofL [UInt8.ofNat (48 + n / 10)] = r1 at *
    generalize ofL [UInt8.ofNat (48 + n % 10)] = r2 at *
    go_enter Tryz.func47, Tryz.ntmps47
    go_wp2_with fail
    refine (CA.out _ _ HQ.out).mono ?_
    rintro e w1 ⟨rfl, b1⟩
    have B1 := Lib.hid b1
    clear b1
    go_wp2_with fail
    refine (CB.out _ _ HM.out).mono ?_
    rintro e w2 ⟨rfl, b2⟩
    have B2 := Lib.hid (chain0 B1.out b2)
    clear b2
    go_wp2_with fail
    go_ret
    exact ⟨by rw [HD.out]; rfl, B2.out⟩
theorem dig_lt {b : UInt8} : isDig b = true ↔ 48 ≤ b.toNat ∧ b.toNat ≤ 57 := by
  unfold isDig
  simp
set_option maxHeartbeats 2000000 in
set_option maxRecDepth 100000 in
theorem decimal_any (s : ByteArray) (w : World) (hs : s.size ≤ 5000) : Calls Tryz.prog 90 #[.string s, .int .i64 29] w fun e w' => e = .returned (.tuple #[.int .i64 (decR s.data.toList).1, .int .i64 (decR s.data.toList).2]) ∧ w' = w := by
  by_cases h0 : s = ⟨#[]⟩
  · subst h0
    have hz : (⟨#[]⟩ : ByteArray).toList.isEmpty = true := by decide +kernel
    have HD : Hid (decR (⟨#[]⟩ : ByteArray).data.toList = (0, 2)) := decR_nil
    generalize decR (⟨#[]⟩ : ByteArray).data.toList = r at *
    go_enter Tryz.func90, Tryz.ntmps90
    go_wp2_with fail
    go_ret2
    rw [HD.out]
    exact ⟨rfl, rfl⟩
  · have hz := ne_empty h0
    have hs0 : 0 < s.size := by
      rcases Nat.eq_zero_or_pos s.size with h | h
      · exact absurd (ByteArray.ext (Array.toList_inj.1 (List.eq_nil_of_length_eq_zero h))) h0
      · exact h
    have hl0 : s.data.toList ≠ [] := fun e => by
      have : s.data.toList.length = 0 := by rw [e]; rfl
      have : s.size = 0 := this
      omega
    have hhd : s.data.toList.head? = some s[0] := by
      rw [List.head?_eq_getElem?, List.getElem?_eq_getElem (show 0 < s.data.toList.length from hs0)]
      rfl
    by_cases h1 : 1 < s.size ∧ s[0].toNat = 48
    · have HD : Hid (decR s.data.toList = (0, 2)) := decR_head h1.1 (by rw [hhd]; congr 1; exact UInt8.toNat_inj.1 h1.2)
      generalize decR s.data.toList = r at *
      have d1 : decide ((1 : Int) < (s.size : Int)) = true := decide_eq_true (by omega)
      have d2 : ((s[0].toNat : Int) == 48) = true := by rw [h1.2]; rfl
      clear h1 hhd
      go_enter Tryz.func90, Tryz.ntmps90
      go_wp2_with fail
      go_ret2
      rw [HD.out]
      exact ⟨rfl, rfl⟩
    · have hx : ¬ (1 < s.data.toList.length ∧ s.data.toList.head? = some 48) := fun h => h1 ⟨h.1, by
        have h2 := h.2
        rw [hhd] at h2
        rw [Option.some.inj h2]; rfl⟩
      have HG := Lib.hid (decR_good hl0 hx)
      have HB := Lib.hid (decR_bad (l := s.data.toList))
      have HF := Lib.hid (fun k (h : k < s.data.toList.length) => digB_fail (l := s.data.toList) h)
      have hd01 : decide ((1 : Int) < (s.size : Int)) = false ∨ decide ((1 : Int) < (s.size : Int)) = true ∧ ((s[0].toNat : Int) == 48) = false := by
        by_cases e : 1 < s.size
        · exact .inr ⟨decide_eq_true (by omega), by simp; intro h; exact h1 ⟨e, by omega⟩⟩
        · exact .inl (decide_eq_false (by omega))
      obtain ⟨r, hr⟩ : ∃ r, r = decR s.data.toList := ⟨_, rfl⟩
      rw [← hr] at HG HB ⊢
      clear hx h1 hhd hl0 h0 hr
      rcases hd01 with d1 | ⟨d1, d2⟩
      all_goals
        go_enter Tryz.func90, Tryz.ntmps90
        go_wp2_with fail
        go_loop [6, 22] (fun nv iv => ∃ k : Nat, k ≤ s.size ∧ iv = .int .i64 (k : Int) ∧ Hid (digB (s.data.toList.take k) = true) ∧ nv = .int .i64 ((minV 30 (s.data.toList.take k) : Nat) : Int)) (fun _ iv => s.size - (intOf iv).toNat)
        case atStart => exact ⟨0, by omega, rfl, rfl, rfl⟩
        case round =>
          obtain ⟨k, hk, rfl, HK, rfl⟩ := hrel
          by_cases hks : k < s.size
          · have hd : decide ((k : Int) < (s.size : Int)) = true := decide_eq_true (by omega)
            have htk : s.data.toList.take (k + 1) = s.data.toList.take k ++ [s[k]] := by
              rw [List.take_succ_eq_append_getElem (show k < s.data.toList.length from hks)]
              rfl
            by_cases hdg : isDig s[k] = true
            · obtain ⟨q1, q2⟩ := dig_lt.1 hdg
              have c1 : decide ((s[k].toNat : Int) < 48) = false := decide_eq_false (by omega)
              have c2 : decide ((57 : Int) < (s[k].toNat : Int)) = false := decide_eq_false (by omega)
              have HK2 : Hid (digB (s.data.toList.take (k + 1)) = true) := by
                show _ = _
                rw [htk, digB_snoc HK.out]
                exact hdg
              have HM2 : Hid (minV 30 (s.data.toList.take (k + 1)) = min (10 * minV 30 (s.data.toList.take k) + (s[k].toNat - 48)) 30) := by
                show _ = _
                rw [htk, minV_snoc]
              have HML := minV_le 30 (s.data.toList.take k)
              generalize minV 30 (s.data.toList.take k) = m at *
              clear hdg htk
              go_wp2_with fail
              refine ⟨⟨k + 1, by omega, by simp, HK2.out, ?_⟩, by simp [intOf]; omega⟩
              rw [HM2.out]
              congr 1
              omega
            · have hdf : isDig s[k] = false := by simpa using hdg
              have HR := Lib.hid (HB.out (HF.out k hks hdf))
              have hc12 : decide ((s[k].toNat : Int) < 48) = true ∨ decide ((s[k].toNat : Int) < 48) = false ∧ decide ((57 : Int) < (s[k].toNat : Int)) = true := by
                by_cases e : s[k].toNat < 48
                · exact .inl (decide_eq_true (by omega))
                · refine .inr ⟨decide_eq_false (by omega), decide_eq_true ?_⟩
                  have : ¬ s[k].toNat ≤ 57 := fun h => hdg (dig_lt.2 ⟨by omega, h⟩)
                  omega
              clear hdg hdf htk
              rcases hc12 with c1 | ⟨c1, c2⟩
              all_goals
                go_wp2_with fail
                go_ret2
                rw [HR.out]
                exact ⟨rfl, rfl⟩
          · have hd : decide ((k : Int) < (s.size : Int)) = false := decide_eq_false (by omega)
            have htk : s.data.toList.take k = s.data.toList := List.take_of_length_le (by show s.size ≤ k; omega)
            rw [htk] at HK ⊢
            have HR := Lib.hid (HG.out HK.out)
            obtain ⟨hb1, hb2⟩ := minV_big (m := 30) (n := 29) (l := s.data.toList) (by decide)
            by_cases hv : 29 < val s.data.toList
            · have HR2 := Lib.hid (HR.out.trans (if_pos hv))
              have dv : decide ((29 : Int) < (minV 30 s.data.toList : Int)) = true := decide_eq_true (by have := hb1.2 hv; omega)
              clear hv hb1 hb2 htk
              go_wp2_with fail
              go_ret2
              rw [HR2.out]
              exact ⟨rfl, rfl⟩
            · have HR2 := Lib.hid (HR.out.trans (if_neg hv))
              have HE := Lib.hid (hb2 (by omega))
              have dv : decide ((29 : Int) < (minV 30 s.data.toList : Int)) = false := decide_eq_false (by rw [HE.out]; omega)
              clear hv hb1 hb2 htk
              go_wp2_with fail
              go_ret2
              rw [HR2.out, ← HE.out]
              exact ⟨rfl, rfl⟩
end Go.Proofs.YtaikmgnpfbnjjaaGreatDoor.Ev
