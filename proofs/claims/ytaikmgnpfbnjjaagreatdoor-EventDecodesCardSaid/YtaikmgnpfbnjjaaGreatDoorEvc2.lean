/- Contracts of the reference's reader of bytes. -/
import Derived.Test.YtaikmgnpfbnjjaaGreatDoorPw02
import Derived.Test.YtaikmgnpfbnjjaaGreatDoorPw01
namespace Go.Proofs.YtaikmgnpfbnjjaaGreatDoor.Ev
open Go.ChangeShapes Go.WideShapes Go.ChangeAt Go.RowKit Gn Cat Lex
set_option linter.unusedVariables false
set_option linter.unusedSimpArgs false
/-- a reader of the reference in memory -/
abbrev QB (w : World) (g : Nat) (s : ByteArray) (e : Int) : Prop := Blk w g 104 #[.string s, .int .i64 e]
abbrev QPost (most : Nat) (s : ByteArray) (e : Int) (g : Nat) (w : World) (r : Ending) (w' : World) : Prop := ∃ s' e', r = .returned (.int .u64 ((rdU most (rd s e)).1 : Int)) ∧ QB w' g s' e' ∧ Req (rd s' e') (rdU most (rd s e)).2 ∧ Only g w w' ∧ s'.size ≤ s.size
theorem ext_le (s : ByteArray) (k : Nat) : (s.extract k s.size).size ≤ s.size := by
  have h := congrArg List.length (drop_ext (s := s) k)
  rw [List.length_drop] at h
  have h1 : (s.extract k s.size).data.toList.length = (s.extract k s.size).size := rfl
  have h2 : s.data.toList.length = s.size := rfl
  omega
theorem req_err (l k : List UInt8) (x : Int) (h : x ≠ 0) : Req ⟨l, x⟩ ⟨k, x⟩ := ⟨rfl, fun e => absurd e h⟩
theorem group_sum {y b k : Nat} (hy : y < 128 ^ k) (hk : k ≤ 9) (h9 : k = 9 → b ≤ 1) : y + b % 128 * 128 ^ k < 18446744073709551616 := by
  rcases Nat.lt_or_eq_of_le hk with h | h
  · have h1 := group_lt (d := b % 128) k hy (Nat.mod_lt _ (by decide))
    have h2 : (128 : Nat) ^ (k + 1) ≤ 128 ^ 9 := Nat.pow_le_pow_right (by decide) (by omega)
    have h3 : (128 : Nat) ^ 9 = 9223372036854775808 := by decide
    omega
  · have h1 := h9 h
    subst h
    have h2 : b % 128 * 128 ^ 9 ≤ 1 * 128 ^ 9 := Nat.mul_le_mul (by omega) (Nat.le_refl _)
    have h3 : (128 : Nat) ^ 9 = 9223372036854775808 := by decide
    omega
theorem group_val2 {y b k : Nat} (hy : y < 128 ^ k) (hk : k ≤ 9) (h9 : k = 9 → b ≤ 1) :
    IntKind.u64.wrap ((y : Int) + IntKind.u64.wrap ((b : Int) % 128 * 2 ^ (7 * k))) = ((y + b % 128 * 128 ^ k : Nat) : Int) := by
  have h1 := group_small (b := b) hk h9
  have h2 := group_sum hy hk h9
  rw [pow_int, show (b : Int) % 128 = ((b % 128 : Nat) : Int) by omega, ← Int.natCast_mul]
  rw [IntWalk.u64_in ((b % 128 * 128 ^ k : Nat) : Int) ⟨by omega, by omega⟩, ← Int.natCast_add, IntWalk.u64_in _ ⟨by omega, by omega⟩]
set_option maxHeartbeats 8000000 in
set_option maxRecDepth 100000 in
theorem quint0_any (most : Nat) (s : ByteArray) (g : Nat) (w : World) (h : QB w g s 0) (hm : most < 18446744073709551616) (hs : s.size ≤ 5000) : Calls Tryz.prog 39 #[.pointer (some ⟨g, 0, none⟩), .int .u64 (most : Int)] w (QPost most s 0 g w) := by
  have H := Lib.hid h
  have hg := h.lt
  have hc := h.c2
  have hl : (s.size : Int) ≤ 5000 := by omega
  obtain ⟨R, hR⟩ : ∃ R, R = rdU most (rd s 0) := ⟨_, rfl⟩
  have HR : Hid (R = rdGo most s.data.toList (s.data.toList.drop 0) 0 0) := hR
  unfold QPost
  rw [← hR]
  have HMO := Lib.hid hm
  clear h hR hm
  have ht : ((0 : Int) != 0) = false := rfl
  go_enter Tryz.func39, Tryz.ntmps39
  go_wp2_with fail
  go_loop [5, 6] (fun xv iv => ∃ (y k : Nat), k ≤ 9 ∧ k ≤ s.size ∧ xv = .int .u64 (y : Int) ∧ iv = .int .i64 (k : Int) ∧ Hid (y < 128 ^ k) ∧ Hid (R = rdGo most s.data.toList (s.data.toList.drop k) k y)) (fun _ iv => 10 - (intOf iv).toNat)
  case atStart => exact ⟨0, 0, by omega, by omega, rfl, rfl, by show _ < _; decide, HR.out⟩
  case round =>
    obtain ⟨y, k, hk9, hks, rfl, rfl, HY, HX⟩ := hrel
    have d10 : decide ((k : Int) < 10) = true := decide_eq_true (by omega)
    have n10 : k < 10 := by omega
    by_cases hk : k = s.size
    · have hd : decide ((s.size : Int) ≤ (k : Int)) = true := decide_eq_true (by omega)
      have hdn : s.size ≤ k := by omega
      have HR1 : Hid (R = (0, ⟨s.data.toList, 1⟩)) := by
        show _ = _
        rw [HX.out, List.drop_of_length_le (by rw [hk]; exact Nat.le_refl _), rdGo_nil]
      clear hk
      go_wp2_with fail
      go_ret
      rw [HR1.out]
      exact ⟨rfl, s, 1, H.out.put 1 _, Req.refl _, (Only.refl g _).put 1 _, Nat.le_refl _⟩
    · have hks' : k < s.size := by omega
      have hd : decide ((s.size : Int) ≤ (k : Int)) = false := decide_eq_false (by omega)
      have hdn : ¬ s.size ≤ k := by omega
      have hki : (k : Int) < (s.size : Int) := by omega
      have HX1 := Lib.hid (HX.out.trans (by rw [drop_byte hks', rdGo_cons]))
      have hb8 : s[k].toNat < 256 := s[k].toNat_lt
      clear hk
      by_cases hbad : (k = 9 ∧ 1 < s[k].toNat) ∨ (0 < k ∧ s[k].toNat = 0)
      · have HR1 : Hid (R = (0, ⟨s.data.toList, 2⟩)) := by
          show _ = _
          rw [HX1.out]
          rcases hbad with h1 | h1
          · rw [if_pos h1]
          · rw [if_neg (by omega), if_neg (by omega), if_pos ⟨h1.2, h1.1⟩]
        rcases hbad with ⟨h1, h2⟩ | ⟨h1, h2⟩
        · have d9 : ((k : Int) == 9) = true := by rw [h1]; rfl
          have d1 : decide ((1 : Int) < (s[k].toNat : Int)) = true := decide_eq_true (by omega)
          have d1n : 1 < s[k].toNat := h2
          clear h1
          go_wp2_with fail
          go_ret
          rw [HR1.out]
          exact ⟨rfl, s, 2, H.out.put 1 _, Req.refl _, (Only.refl g _).put 1 _, Nat.le_refl _⟩
        · have d1 : decide ((1 : Int) < (s[k].toNat : Int)) = false := decide_eq_false (by omega)
          have d1n : ¬ 1 < s[k].toNat := by omega
          have d0 : ((s[k].toNat : Int) == 0) = true := by rw [h2]; rfl
          have dk : decide ((0 : Int) < (k : Int)) = true := decide_eq_true (by omega)
          by_cases h9 : k = 9
          · have d9 : ((k : Int) == 9) = true := by rw [h9]; rfl
            clear h9
            go_wp2_with fail
            go_ret
            rw [HR1.out]
            exact ⟨rfl, s, 2, H.out.put 1 _, Req.refl _, (Only.refl g _).put 1 _, Nat.le_refl _⟩
          · have d9 : ((k : Int) == 9) = false := by simp; omega
            go_wp2_with fail
            go_ret
            rw [HR1.out]
            exact ⟨rfl, s, 2, H.out.put 1 _, Req.refl _, (Only.refl g _).put 1 _, Nat.le_refl _⟩
      · have hb1 : k = 9 → s[k].toNat ≤ 1 := fun e => Nat.le_of_not_lt fun h => hbad (.inl ⟨e, h⟩)
        have h00 : ¬ (0 < k ∧ s[k].toNat = 0) := fun h => hbad (.inr h)
        have HX2 := Lib.hid (HX1.out.trans (if_neg (fun h => hbad (.inl h))))
        have hg9 : ((k : Int) == 9) = false ∨ ((k : Int) == 9) = true ∧ (decide ((1 : Int) < (s[k].toNat : Int)) = false ∧ ¬ 1 < s[k].toNat) := by
          by_cases e : k = 9
          · exact .inr ⟨by rw [e]; rfl, decide_eq_false (by have := hb1 e; omega), by have := hb1 e; omega⟩
          · exact .inl (by simp; omega)
        have hgk : (decide ((0 : Int) < (k : Int)) = false ∧ ¬ 0 < k) ∨ (decide ((0 : Int) < (k : Int)) = true ∧ 0 < k) ∧ ((s[k].toNat : Int) == 0) = false ∧ ¬ s[k].toNat = 0 := by
          by_cases e : 0 < k
          · exact .inr ⟨⟨decide_eq_true (by omega), e⟩, by simp; omega, fun h => h00 ⟨e, h⟩⟩
          · exact .inl ⟨decide_eq_false (by omega), e⟩
        have HVL := Lib.hid (group_val2 (b := s[k].toNat) HY.out hk9 hb1)
        have HYL := Lib.hid (group_lt (d := s[k].toNat % 128) k HY.out (Nat.mod_lt _ (by decide)))
        have hk8 : 128 ≤ s[k].toNat → k ≤ 8 := fun h => by
          have : k ≠ 9 := fun e => by have := hb1 e; omega
          omega
        have HK8 := Lib.hid hk8
        obtain ⟨V, hV⟩ : ∃ V, V = y + s[k].toNat % 128 * 128 ^ k := ⟨_, rfl⟩
        rw [← hV] at HVL HYL HX2
        clear hV hk8
        have HG9 := Lib.hid hg9
        have HGK := Lib.hid hgk
        have HB1 := Lib.hid hb1
        have H00 := Lib.hid h00
        clear hbad hb1 h00 hg9 hgk HX1
        rcases HG9.out with d9 | ⟨d9, d1, d1n⟩ <;> rcases HGK.out with ⟨dk, dkn⟩ | ⟨⟨dk, dkn⟩, d0, d0n⟩
        all_goals
          go_upto_region 15 with fail
          rw [HVL.out]
          by_cases h128 : 128 ≤ s[k].toNat
          · have HX3 := Lib.hid (HX2.out.trans (if_pos h128))
            have hk8 := HK8.out h128
            have d128 : decide ((s[k].toNat : Int) < 128) = false := decide_eq_false (by omega)
            have n128 : ¬ s[k].toNat < 128 := by omega
            clear h128
            go_wp2_with fail
            refine ⟨⟨V, k + 1, by omega, by omega, rfl, by simp, HYL.out, HX3.out⟩, ?_⟩
            simp [intOf]
            omega
          · have HX3 := Lib.hid ((HX2.out.trans (if_neg h128)).trans (if_neg (fun h => H00.out ⟨h.2, h.1⟩)))
            have d128 : decide ((s[k].toNat : Int) < 128) = true := decide_eq_true (by omega)
            have n128 : s[k].toNat < 128 := by omega
            clear h128
            by_cases hm : most < V
            · have HR1 := Lib.hid (HX3.out.trans (if_pos hm))
              have dm : decide ((most : Int) < (V : Int)) = true := decide_eq_true (by omega)
              go_wp2_with fail
              go_ret
              rw [HR1.out]
              exact ⟨rfl, s.extract (k + 1) s.size, 4, (H.out.put 0 _).put 1 _, req_err _ _ 4 (by decide), ((Only.refl g _).put 0 _).put 1 _, ext_le _ _⟩
            · have HR1 := Lib.hid (HX3.out.trans (if_neg hm))
              have dm : decide ((most : Int) < (V : Int)) = false := decide_eq_false (by omega)
              go_wp2_with fail
              go_ret
              rw [HR1.out]
              refine ⟨rfl, s.extract (k + 1) s.size, 0, H.out.put 0 _, ?_, (Only.refl g _).put 0 _, ext_le _ _⟩
              unfold rd
              rw [drop_ext]
              exact Req.refl _
theorem Req.trans {a b c : Rd} (h : Req a b) (k : Req b c) : Req a c := ⟨h.e.trans k.e, fun e => (h.l (k.e.trans e)).trans (k.l e)⟩
theorem quint_any (most : Nat) (s : ByteArray) (e : Int) (g : Nat) (w : World) (h : QB w g s e) (hm : most < 18446744073709551616) (hs : s.size ≤ 5000) : Calls Tryz.prog 39 #[.pointer (some ⟨g, 0, none⟩), .int .u64 (most : Int)] w (QPost most s e g w) := by
  by_cases he : e = 0
  · subst he
    exact quint0_any most s g w h hm hs
  · have H := Lib.hid h
    have heq : (e != 0) = true := by simpa using he
    unfold QPost
    rw [rdU_err (show (rd s e).e ≠ 0 from he)]
    have hg := h.lt
    have hc := h.c2
    clear h hm he
    go_enter Tryz.func39, Tryz.ntmps39
    go_wp2_with fail
    go_ret
    exact ⟨s, e, rfl, H.out, Req.refl _, Only.refl _ _, Nat.le_refl _⟩
/-- a read, beside a reader that is alike -/
theorem readQ_any (most : Nat) (s : ByteArray) (e : Int) (a : Rd) (g : Nat) (W : World) (h : QB W g s e) (hq : Req (rd s e) a) (hm : most < 18446744073709551616) (hs : s.size ≤ 5000) : Calls Tryz.prog 39 #[.pointer (some ⟨g, 0, none⟩), .int .u64 (most : Int)] W fun r w' => ∃ (n : Nat) (s' : ByteArray) (e' : Int) (a' : Rd), r = .returned (.int .u64 (n : Int)) ∧ (n, a') = rdU most a ∧ Req (rd s' e') a' ∧ n ≤ most ∧ s'.size ≤ 5000 ∧ QB w' g s' e' ∧ Only g W w' := by
  refine (quint_any most s e g W h hm hs).mono ?_
  rintro r w' ⟨s', e', rfl, h1, h2, h3, h4⟩
  obtain ⟨q1, q2⟩ := req_rdU (most := most) hq
  exact ⟨_, s', e', _, rfl, by rw [q1], h2.trans q2, rdU_le most (rd s e), Nat.le_trans h4 hs, h1, h3⟩
abbrev TQPost (most : Nat) (s : ByteArray) (e : Int) (g : Nat) (w : World) (r : Ending) (w' : World) : Prop := ∃ s' e', r = .returned (.string (rdT most (rd s e)).1) ∧ QB w' g s' e' ∧ Req (rd s' e') (rdT most (rd s e)).2 ∧ Only g w w' ∧ s'.size ≤ 5000
set_option maxHeartbeats 4000000 in
set_option maxRecDepth 100000 in
theorem qtext_any (s : ByteArray) (e : Int) (g : Nat) (w : World) (h : QB w g s e) (hs : s.size ≤ 5000) : Calls Tryz.prog 42 #[.pointer (some ⟨g, 0, none⟩), .int .i64 4000] w (TQPost 4000 s e g w) := by
  have H := Lib.hid h
  have CU := Lib.hid fun W (k : QB W g s e) => quint_any 18446744073709551615 s e g W k (by decide) hs
  have HRT := Lib.hid (fun n R x => rdT_ref (most := 4000) (big := 18446744073709551615) (by decide) (rd s e) n R x)
  have HS := Lib.hid hs
  unfold TQPost
  unfold QPost at CU
  generalize rdT 4000 (rd s e) = T at *
  generalize rdU 18446744073709551615 (rd s e) = q at *
  obtain ⟨n, Q⟩ := q
  dsimp only at *
  clear h
  go_enter Tryz.func42, Tryz.ntmps42
  go_wp2_with fail
  refine (CU.out _ H.out).mono ?_
  rintro r w1 ⟨s1, e1, rfl, h1, r1, o1, z1⟩
  have O1 := Lib.hid o1
  have H1 := Lib.hid h1
  obtain ⟨t1, t2, t3, t4⟩ := HRT.out n (rd s1 e1) ⟨rfl, r1⟩
  have T1 := Lib.hid t1
  have T2 := Lib.hid t2
  have T3 := Lib.hid t3
  have T4 := Lib.hid t4
  have hs1 : s1.size ≤ 5000 := Nat.le_trans z1 HS.out
  have hg := h1.lt
  have hc := h1.c2
  clear h1 o1 r1 t1 t2 t3 t4 z1 HRT CU
  by_cases he : e1 = 0
  · subst he
    have d0 : ((0 : Int) != 0) = false := rfl
    by_cases hm : 4000 < n
    · obtain ⟨a1, a2⟩ := T2.out rfl hm
      have A1 := Lib.hid a1
      have A2 := Lib.hid a2
      have dm : decide ((4000 : Int) < (n : Int)) = true := decide_eq_true (by omega)
      clear a1 a2 T1 T2 T3 T4
      go_wp2_with fail
      go_ret
      rw [A1.out]
      exact ⟨s1, 4, rfl, H1.out.put 1 _, A2.out, O1.out.put 1 _, hs1⟩
    · have dm : decide ((4000 : Int) < (n : Int)) = false := decide_eq_false (by omega)
      by_cases hn : s1.size < n
      · obtain ⟨a1, a2⟩ := T3.out rfl hm hn
        have A1 := Lib.hid a1
        have A2 := Lib.hid a2
        have dn : decide ((s1.size : Int) < (n : Int)) = true := decide_eq_true (by omega)
        clear a1 a2 T1 T2 T3 T4
        go_wp2_with fail
        go_ret
        rw [A1.out]
        exact ⟨s1, 1, rfl, H1.out.put 1 _, A2.out, O1.out.put 1 _, hs1⟩
      · obtain ⟨a1, a2⟩ := T4.out rfl hm hn
        have A1 := Lib.hid a1
        have A2 := Lib.hid a2
        have dn : decide ((s1.size : Int) < (n : Int)) = false := decide_eq_false (by omega)
        have wn := IntWalk.i64_in (n : Int) ⟨by omega, by omega⟩
        clear a1 a2 T1 T2 T3 T4
        go_wp2_with fail
        go_ret
        rw [A1.out]
        refine ⟨s1.extract n s1.size, 0, ?_, H1.out.put 0 _, ?_, O1.out.put 0 _, Nat.le_trans (ext_le _ _) hs1⟩
        · show Ending.returned (Value.string _) = _
          rw [← take_ext]
        · unfold rd
          rw [drop_ext]
          exact A2.out
  · obtain ⟨a1, a2⟩ := T1.out he
    have A1 := Lib.hid a1
    have A2 := Lib.hid a2
    have d0 : (e1 != 0) = true := by simpa using he
    clear a1 a2 T1 T2 T3 T4 he
    go_wp2_with fail
    go_ret
    rw [A1.out]
    exact ⟨s1, e1, rfl, H1.out, A2.out, O1.out, hs1⟩
theorem readTQ_any (s : ByteArray) (e : Int) (a : Rd) (g : Nat) (W : World) (h : QB W g s e) (hq : Req (rd s e) a) (hs : s.size ≤ 5000) : Calls Tryz.prog 42 #[.pointer (some ⟨g, 0, none⟩), .int .i64 4000] W fun r w' => ∃ (t : ByteArray) (s' : ByteArray) (e' : Int) (a' : Rd), r = .returned (.string t) ∧ (t, a') = rdT 4000 a ∧ Req (rd s' e') a' ∧ QB w' g s' e' ∧ Only g W w' := by
  refine (qtext_any s e g W h hs).mono ?_
  rintro r w' ⟨s', e', rfl, h1, h2, h3, h4⟩
  obtain ⟨q1, q2⟩ := req_rdT (most := 4000) hq
  exact ⟨_, s', e', _, rfl, by rw [q1], h2.trans q2, h1, h3⟩
theorem qnew_any (s : ByteArray) (w : World) : Calls Tryz.prog 38 #[.string s] w fun r w' => r = .returned (.pointer (some ⟨w.heap.size, 0, none⟩)) ∧ QB w' w.heap.size s 0 ∧ Below w.heap.size w w' := by
  go_enter Tryz.func38, Tryz.ntmps38
  go_wp2_with fail
  go_ret
  exact ⟨rfl, Blk.new w _ _, below_new _ _⟩
theorem qfail_any (s : ByteArray) (e x : Int) (g : Nat) (w : World) (h : QB w g s e) : Calls Tryz.prog 40 #[.pointer (some ⟨g, 0, none⟩), .int .i64 x] w fun r w' => r = .returned (.tuple #[]) ∧ QB w' g s (failE e x) ∧ Only g w w' := by
  have H := Lib.hid h
  have hg := h.lt
  have hc := h.c2
  clear h
  by_cases he : e = 0
  · subst he
    have HF : Hid (failE 0 x = x) := rfl
    generalize failE 0 x = y at *
    go_enter Tryz.func40, Tryz.ntmps40
    go_wp2_with fail
    go_end0
    rw [HF.out]
    exact ⟨rfl, H.out.put 1 (.int .i64 x), (Only.refl g w).put 1 _⟩
  · have heq : (e == 0) = false := by simpa using he
    have HF : Hid (failE e x = e) := if_neg he
    generalize failE e x = y at *
    clear he
    go_enter Tryz.func40, Tryz.ntmps40
    go_wp2_with fail
    go_end0
    rw [HF.out]
    exact ⟨rfl, H.out, Only.refl g w⟩
theorem qend_any (s : ByteArray) (e : Int) (g : Nat) (w : World) (h : QB w g s e) : Calls Tryz.prog 43 #[.pointer (some ⟨g, 0, none⟩)] w fun r w' => r = .returned (.int .i64 (rdEnd (rd s e))) ∧ Only g w w' := by
  have H := Lib.hid h
  have hg := h.lt
  have hc := h.c2
  clear h
  by_cases he : e = 0
  · subst he
    have h0 : ((0 : Int) == 0) = true := rfl
    by_cases hs : 0 < s.size
    · have HV : Hid (rdEnd (rd s 0) = 3) := by
        show _ = _
        unfold rdEnd
        rw [if_pos ⟨rfl, fun x => by have h1 : s.data.toList.length = s.size := rfl; have h2 : s.data.toList = [] := x; rw [h2] at h1; simp at h1; omega⟩]
      have hd : decide ((0 : Int) < (s.size : Int)) = true := decide_eq_true (by omega)
      go_enter Tryz.func43, Tryz.ntmps43
      go_wp2_with fail
      go_ret
      exact ⟨by rw [HV.out]; rfl, (Only.refl _ _).put 1 _⟩
    · have HV : Hid (rdEnd (rd s 0) = 0) := by
        show _ = _
        unfold rdEnd
        rw [if_neg (fun x => x.2 (List.eq_nil_of_length_eq_zero (by show s.size = 0; omega)))]
      have hd : decide ((0 : Int) < (s.size : Int)) = false := decide_eq_false (by omega)
      go_enter Tryz.func43, Tryz.ntmps43
      go_wp2_with fail
      go_ret
      exact ⟨by rw [HV.out]; rfl, Only.refl _ _⟩
  · have HV : Hid (rdEnd (rd s e) = e) := by
      show _ = _
      unfold rdEnd
      rw [if_neg (fun x => he x.1)]
    have heq : (e == 0) = false := by simpa using he
    clear he
    go_enter Tryz.func43, Tryz.ntmps43
    go_wp2_with fail
    go_ret
    exact ⟨by rw [HV.out]; rfl, Only.refl _ _⟩
end Go.Proofs.YtaikmgnpfbnjjaaGreatDoor.Ev
