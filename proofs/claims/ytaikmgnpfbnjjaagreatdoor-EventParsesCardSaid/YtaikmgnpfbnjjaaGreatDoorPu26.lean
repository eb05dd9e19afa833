/- Contracts of the reference's cut, words and round. Printed by gen_eve3.py. -/
import Derived.Test.YtaikmgnpfbnjjaaGreatDoorPu25
import Derived.OwnWalk
import Derived.Deep.Quiet
import Derived.Deep.QuietTactic
namespace Go.Proofs.YtaikmgnpfbnjjaaGreatDoor.Ev
open Go.ChangeShapes Go.WideShapes Go.ChangeAt Go.RowKit Gn Cat Lex Ros Se
set_option linter.unusedVariables false
set_option linter.unusedSimpArgs false
theorem cut_cons (c : UInt8) (r : List UInt8) : cutL (c :: r) = if c = 32 then ([], r, true) else (c :: (cutL r).1, (cutL r).2.1, (cutL r).2.2) := rfl
theorem cut_none : ∀ l : List UInt8, (∀ j (h : j < l.length), l[j] ≠ 32) → cutL l = (l, [], false)
  | [], _ => rfl
  | c :: r, h => by
    rw [cut_cons, if_neg (show ¬ c = 32 from h 0 (by simp)), cut_none r (fun j hj => by have := h (j + 1) (by simp; omega); simpa using this)]
theorem cut_hit : ∀ (l : List UInt8) (k : Nat) (hk : k < l.length), l[k] = 32 → (∀ j (h : j < l.length), j < k → l[j] ≠ 32) → cutL l = (l.take k, l.drop (k + 1), true)
  | [], k, hk, _, _ => by simp at hk
  | c :: r, 0, _, h, _ => by
    rw [cut_cons, if_pos (by simpa using h)]
    simp
  | c :: r, k + 1, hk, h, hp => by
    rw [cut_cons, if_neg (by have := hp 0 (by simp) (by omega); simpa using this), cut_hit r k (by simpa using hk) (by simpa using h) (fun j hj hjk => by have := hp (j + 1) (by simp; omega) (by omega); simpa using this)]
    simp
theorem cut_has : ∀ l : List UInt8, (cutL l).2.2 = l.contains 32
  | [] => rfl
  | c :: r => by
    rw [cut_cons, List.contains_cons]
    by_cases h : c = 32
    · rw [if_pos h, h]; simp
    · rw [if_neg h]
      have : ((32 : UInt8) == c) = false := by simp; exact fun e => h e.symm
      rw [this, Bool.false_or]
      exact cut_has r
theorem cut_yes_len : ∀ l : List UInt8, (cutL l).2.2 = true → (cutL l).1.length < l.length
  | [], h => by simp [cutL] at h
  | c :: r, h => by
    rw [cut_cons] at h ⊢
    by_cases hc : c = 32
    · rw [if_pos hc]; simp
    · rw [if_neg hc] at h ⊢
      have := cut_yes_len r h
      simp
      exact this
theorem cut_first_eq (l : List UInt8) : (ofL (cutL l).1 = ofL l) ↔ (cutL l).2.2 = false := by
  constructor
  · intro h
    have h2 : (cutL l).1 = l := congrArg (fun z : ByteArray => z.data.toList) h
    cases hx : (cutL l).2.2 with
    | false => rfl
    | true =>
      exfalso
      have := cut_yes_len l hx
      rw [h2] at this
      omega
  · intro h
    rw [(cut_no h).2.1]
set_option maxHeartbeats 2000000 in
set_option maxRecDepth 100000 in
theorem rcut_any (s : ByteArray) (w : World) (hs : s.size ≤ 5000) : Calls Tryz.prog 58 #[.string s] w fun x w' => x = .returned (.tuple #[.string (ofL (cutL s.data.toList).1), .string (ofL (cutL s.data.toList).2.1), .bool (cutL s.data.toList).2.2]) ∧ Below w.heap.size w w' := by
  have HN := Lib.hid (cut_none s.data.toList)
  have HH := Lib.hid (cut_hit s.data.toList)
  have HNIL : Hid (ofL ([] : List UInt8) = ⟨#[]⟩) := rfl
  have HALL : Hid (ofL s.data.toList = s) := rfl
  have HTK : Hid (∀ k, ofL (s.data.toList.take k) = s.extract 0 k) := fun k => (take_ext k).symm
  have HDR : Hid (∀ k, ofL (s.data.toList.drop k) = s.extract k s.size) := fun k => by
    have := drop_ext (s := s) k
    apply ByteArray.ext
    apply Array.toList_inj.1
    exact this.symm
  generalize hq : cutL s.data.toList = q at *
  have HQ := Lib.hid hq
  clear hq
  obtain ⟨q1, q2, q3⟩ := q
  dsimp only
  go_enter Tryz.func58, Tryz.ntmps58
  go_wp2_with fail
  go_loop [5] (fun iv => ∃ k : Nat, k ≤ s.size ∧ iv = .int .i64 (k : Int) ∧ Hid (∀ j (h : j < s.data.toList.length), j < k → s.data.toList[j] ≠ 32)) (fun iv => s.size - (intOf iv).toNat)
  case atStart => exact ⟨0, by omega, rfl, fun j h1 h2 => absurd h2 (by omega)⟩
  case round =>
    obtain ⟨k, hk, rfl, HP⟩ := hrel
    by_cases hks : k < s.size
    · have hd : decide ((k : Int) < (s.size : Int)) = true := decide_eq_true (by omega)
      have hi0 : (0 : Int) ≤ (k : Int) := by omega
      have hki : (k : Int) < (s.size : Int) := by omega
      have hg : s.data.toList[k]'hks = s[k] := rfl
      by_cases hx : s[k] = 32
      · have HR := Lib.hid (HH.out k hks (hg.trans hx) HP.out)
        have dx : ((s[k].toNat : Int) == 32) = true := by rw [hx]; rfl
        obtain ⟨e1, e2⟩ := Prod.mk.inj HR.out
        obtain ⟨e3, e4⟩ := Prod.mk.inj e2
        have E1 := Lib.hid ((congrArg ofL e1).trans (HTK.out k))
        have E2 := Lib.hid ((congrArg ofL e3).trans (HDR.out (k + 1)))
        have E3 := Lib.hid e4
        have hk1 : k + 1 ≤ s.size := by omega
        have hk1i : ((k : Int) + 1) ≤ (s.size : Int) := by omega
        clear e1 e2 e3 e4 hg hx HR
        go_wp2_with fail
        refine wp_region_later (by kernel_rfl) (by kernel_rfl) ?_
        repeat (first | go_big_quiet_step (fail) | quiet_step (fail))
        refine wpQuiet_nil ?_
        rintro _ ⟨y, rfl⟩
        go_wp2_with fail
        go_ret3
        rw [E1.out, E2.out, E3.out]
        exact ⟨rfl, later_below _ _⟩
      · have dx : ((s[k].toNat : Int) == 32) = false := u8_ne (c := 32) rfl hx
        have HP2 : Hid (∀ j (h : j < s.data.toList.length), j < k + 1 → s.data.toList[j] ≠ 32) := fun j h hj => by
          rcases Nat.lt_or_eq_of_le (Nat.le_of_lt_succ hj) with h2 | h2
          · exact HP.out j h h2
          · subst h2; exact hx
        clear hx hg
        go_wp2_with fail
        go_round
        case rel => exact ⟨k + 1, by omega, by simp, HP2.out⟩
        case measure => simp [intOf]; omega
    · have hd : decide ((k : Int) < (s.size : Int)) = false := decide_eq_false (by omega)
      have HR := Lib.hid (HN.out (fun j h => HP.out j h (by have : j < s.size := h; omega)))
      obtain ⟨e1, e2⟩ := Prod.mk.inj HR.out
      obtain ⟨e3, e4⟩ := Prod.mk.inj e2
      have E1 := Lib.hid ((congrArg ofL e1).trans HALL.out)
      have E2 := Lib.hid ((congrArg ofL e3).trans HNIL.out)
      have E3 := Lib.hid e4
      clear e1 e2 e3 e4 HR
      go_wp2_with fail
      go_ret3
      rw [E1.out, E2.out, E3.out]
      exact ⟨rfl, Below.refl _ _⟩
set_option maxHeartbeats 2000000 in
set_option maxRecDepth 100000 in
theorem rwords_sale (k : Int) (t : ByteArray) (m : Bool) (w : World) (hs : t.size ≤ 5000) (hk : k = 1) : Calls Tryz.prog 59 #[.int .i64 k, .string t, .bool m] w fun x w' => x = .returned (.bool (wordsL k t.data.toList m)) ∧ Below w.heap.size w w' := by
  subst hk
  cases m with
  | false =>
    have HV : Hid (wordsL 1 t.data.toList false = false) := rfl
    generalize wordsL 1 t.data.toList false = V at *
    go_enter Tryz.func59, Tryz.ntmps59
    go_wp2_with fail
    go_ret
    exact ⟨by rw [HV.out]; rfl, Below.refl _ _⟩
  | true =>
    have hv : wordsL 1 t.data.toList true = !t.data.toList.isEmpty := rfl
    by_cases h0 : t = ⟨#[]⟩
    · have HV : Hid (wordsL 1 t.data.toList true = false) := by show _ = _; rw [hv, h0]; rfl
      have hz : t.toList.isEmpty = true := by rw [h0]; decide +kernel
      generalize wordsL 1 t.data.toList true = V at *
      clear hv h0
      go_enter Tryz.func59, Tryz.ntmps59
      go_wp2_with fail
      go_ret
      exact ⟨by rw [HV.out]; rfl, Below.refl _ _⟩
    · have HV : Hid (wordsL 1 t.data.toList true = true) := by show _ = _; rw [hv, isE_of h0]; rfl
      have hz := ne_empty h0
      generalize wordsL 1 t.data.toList true = V at *
      clear hv h0
      go_enter Tryz.func59, Tryz.ntmps59
      go_wp2_with fail
      go_ret
      exact ⟨by rw [HV.out]; rfl, Below.refl _ _⟩
set_option maxHeartbeats 2000000 in
set_option maxRecDepth 100000 in
theorem rwords_bare (k : Int) (t : ByteArray) (m : Bool) (w : World) (hs : t.size ≤ 5000) (hk : k = 3 ∨ k = 4 ∨ k = 9) : Calls Tryz.prog 59 #[.int .i64 k, .string t, .bool m] w fun x w' => x = .returned (.bool (wordsL k t.data.toList m)) ∧ Below w.heap.size w w' := by
  have k1 : (k == 1) = false := by simp; omega
  have CU := Lib.hid (fun W => rcut_any t W hs)
  have HV : Hid (wordsL k t.data.toList m = !m) := by
    show _ = _
    unfold wordsL
    rw [if_neg (by omega), if_pos hk]
  generalize wordsL k t.data.toList m = V at *
  generalize (cutL t.data.toList) = q at *
  obtain ⟨q1, q2, q3⟩ := q
  dsimp only at CU
  rcases hk with rfl | rfl | rfl
  all_goals
    go_enter Tryz.func59, Tryz.ntmps59
    go_wp2_with fail
    refine (CU.out _).mono ?_
    rintro x w1 ⟨rfl, d1⟩
    go_wp2_with fail
    go_ret
    exact ⟨by rw [HV.out]; rfl, d1⟩
set_option maxHeartbeats 2000000 in
set_option maxRecDepth 100000 in
theorem rwords_dem (k : Int) (t : ByteArray) (m : Bool) (w : World) (hs : t.size ≤ 5000) (hk : k = 2) : Calls Tryz.prog 59 #[.int .i64 k, .string t, .bool m] w fun x w' => x = .returned (.bool (wordsL k t.data.toList m)) ∧ Below w.heap.size w w' := by
  subst hk
  have CU := Lib.hid (fun W => rcut_any t W hs)
  have hv : wordsL 2 t.data.toList m = (m && ((cutL t.data.toList).2.2 && !(cutL (cutL t.data.toList).2.1).2.2)) := rfl
  have hq2 : (ofL (cutL t.data.toList).2.1).size ≤ 5000 := by rw [ofL_size]; have := (cut_size t.data.toList).2; have h2 : t.data.toList.length = t.size := rfl; omega
  have CC := Lib.hid (fun W => rcontains_32 (ofL (cutL t.data.toList).2.1) W hq2)
  rw [ofL_list, ← cut_has] at CC
  generalize wordsL 2 t.data.toList m = V at *
  generalize (cutL (cutL t.data.toList).2.1).2.2 = c at *
  generalize (cutL t.data.toList) = q at *
  obtain ⟨q1, q2, q3⟩ := q
  dsimp only at CU CC hv
  have HV := Lib.hid hv
  clear hv hq2 hs
  cases m with
  | false =>
    go_enter Tryz.func59, Tryz.ntmps59
    go_wp2_with fail
    refine (CU.out _).mono ?_
    rintro x w1 ⟨rfl, d1⟩
    go_wp2_with fail
    go_ret
    exact ⟨by rw [HV.out]; rfl, d1⟩
  | true =>
    cases q3 with
    | false =>
      go_enter Tryz.func59, Tryz.ntmps59
      go_wp2_with fail
      refine (CU.out _).mono ?_
      rintro x w1 ⟨rfl, d1⟩
      go_wp2_with fail
      go_ret
      exact ⟨by rw [HV.out]; rfl, d1⟩
    | true =>
      go_enter Tryz.func59, Tryz.ntmps59
      go_wp2_with fail
      refine (CU.out _).mono ?_
      rintro x w1 ⟨rfl, d1⟩
      go_wp2_with fail
      refine (CC.out _).mono ?_
      rintro x w2 ⟨rfl, d2⟩
      go_wp2_with fail
      go_ret
      exact ⟨by rw [HV.out]; rfl, chain0 d1 d2⟩
set_option maxHeartbeats 2000000 in
set_option maxRecDepth 100000 in
theorem rwords_oth (k : Int) (t : ByteArray) (m : Bool) (w : World) (hs : t.size ≤ 5000) (hk : k = 6 ∨ k = 7 ∨ k = 8 ∨ k = 10) : Calls Tryz.prog 59 #[.int .i64 k, .string t, .bool m] w fun x w' => x = .returned (.bool (wordsL k t.data.toList m)) ∧ Below w.heap.size w w' := by
  have k1 : (k == 1) = false := by simp; omega
  have k3 : (k == 3) = false := by simp; omega
  have k4 : (k == 4) = false := by simp; omega
  have k9 : (k == 9) = false := by simp; omega
  have k5 : (k == 5) = false := by simp; omega
  have k2 : (k == 2) = false := by simp; omega
  have CU := Lib.hid (fun W => rcut_any t W hs)
  have hv : wordsL k t.data.toList m = (m && !(cutL t.data.toList).2.2) := by
    unfold wordsL
    rw [if_neg (by omega), if_neg (by omega), if_neg (by omega), if_neg (by omega)]
  have he : ((ofL (cutL t.data.toList).1).toList == t.toList) = !(cutL t.data.toList).2.2 := by
    cases hx : (cutL t.data.toList).2.2 with
    | false => exact eqS_yes ((cut_first_eq t.data.toList).2 hx)
    | true => exact eqS_no (fun e => by have := (cut_first_eq t.data.toList).1 e; rw [hx] at this; cases this)
  generalize wordsL k t.data.toList m = V at *
  generalize ofL (cutL t.data.toList).1 = q1 at *
  generalize ofL (cutL t.data.toList).2.1 = q2 at *
  generalize (cutL t.data.toList).2.2 = q3 at *
  have HV := Lib.hid hv
  clear hv hs hk
  cases m with
  | false =>
    go_enter Tryz.func59, Tryz.ntmps59
    go_wp2_with fail
    refine (CU.out _).mono ?_
    rintro x w1 ⟨rfl, d1⟩
    go_wp2_with fail
    go_ret
    exact ⟨by rw [HV.out]; rfl, d1⟩
  | true =>
    go_enter Tryz.func59, Tryz.ntmps59
    go_wp2_with fail
    refine (CU.out _).mono ?_
    rintro x w1 ⟨rfl, d1⟩
    go_wp2_with fail
    go_ret
    exact ⟨by rw [HV.out]; rfl, d1⟩
set_option maxHeartbeats 2000000 in
set_option maxRecDepth 100000 in
theorem rwords_bid (k : Int) (t : ByteArray) (m : Bool) (w : World) (hs : t.size ≤ 5000) (hk : k = 5) : Calls Tryz.prog 59 #[.int .i64 k, .string t, .bool m] w fun x w' => x = .returned (.bool (wordsL k t.data.toList m)) ∧ Below w.heap.size w w' := by
  subst hk
  have CU := Lib.hid (fun W => rcut_any t W hs)
  have hv : wordsL 5 t.data.toList m = (m && ((cutL t.data.toList).2.2 && (!(cutL t.data.toList).2.1.isEmpty && (!((cutL t.data.toList).2.1.head? == some 32) && !(cutL t.data.toList).2.1.contains 10)))) := rfl
  have hq2 : (ofL (cutL t.data.toList).2.1).size ≤ 5000 := by rw [ofL_size]; have := (cut_size t.data.toList).2; have h2 : t.data.toList.length = t.size := rfl; omega
  have CC := Lib.hid (fun W => rcontains_10 (ofL (cutL t.data.toList).2.1) W hq2)
  have hl : (cutL t.data.toList).2.1 = (ofL (cutL t.data.toList).2.1).data.toList := rfl
  rw [hl] at hv
  clear hl
  generalize wordsL 5 t.data.toList m = V at *
  generalize ofL (cutL t.data.toList).1 = q1 at *
  generalize ofL (cutL t.data.toList).2.1 = q2 at *
  generalize (cutL t.data.toList).2.2 = q3 at *
  clear hq2 hs
  cases m with
  | false =>
    have HV : Hid (V = false) := hv
    clear hv
    go_enter Tryz.func59, Tryz.ntmps59
    go_wp2_with fail
    refine (CU.out _).mono ?_
    rintro x w1 ⟨rfl, d1⟩
    go_wp2_with fail
    go_ret
    exact ⟨by rw [HV.out]; rfl, d1⟩
  | true =>
    cases q3 with
    | false =>
      have HV : Hid (V = false) := hv
      clear hv
      go_enter Tryz.func59, Tryz.ntmps59
      go_wp2_with fail
      refine (CU.out _).mono ?_
      rintro x w1 ⟨rfl, d1⟩
      go_wp2_with fail
      go_ret
      exact ⟨by rw [HV.out]; rfl, d1⟩
    | true =>
      by_cases h0 : q2 = ⟨#[]⟩
      · have HV : Hid (V = false) := by show _ = _; rw [hv, h0]; rfl
        have hz : q2.toList.isEmpty = true := by rw [h0]; decide +kernel
        clear hv h0
        go_enter Tryz.func59, Tryz.ntmps59
        go_wp2_with fail
        refine (CU.out _).mono ?_
        rintro x w1 ⟨rfl, d1⟩
        go_wp2_with fail
        go_ret
        exact ⟨by rw [HV.out]; rfl, d1⟩
      have hz := ne_empty h0
      have hp := pos_of h0
      have hpi : (0 : Int) < (q2.size : Int) := by omega
      rw [isE_of h0, head_of hp] at hv
      clear h0
      by_cases hx : q2[0] = 32
      · have HV : Hid (V = false) := by show _ = _; rw [hv, hx]; simp
        have dx : ((q2[0].toNat : Int) != 32) = false := by rw [hx]; rfl
        clear hv hx
        go_enter Tryz.func59, Tryz.ntmps59
        go_wp2_with fail
        refine (CU.out _).mono ?_
        rintro x w1 ⟨rfl, d1⟩
        go_wp2_with fail
        go_ret
        exact ⟨by rw [HV.out]; rfl, d1⟩
      · have dx : ((q2[0].toNat : Int) != 32) = true := u8_bne (c := 32) rfl hx
        have hy : (some q2[0] == some (32 : UInt8)) = false := by simpa using hx
        rw [hy] at hv
        have HV : Hid (V = !q2.data.toList.contains 10) := by show _ = _; rw [hv]; simp
        clear hv hx hy
        generalize q2.data.toList.contains 10 = c at *
        go_enter Tryz.func59, Tryz.ntmps59
        go_wp2_with fail
        refine (CU.out _).mono ?_
        rintro x w1 ⟨rfl, d1⟩
        go_wp2_with fail
        refine (CC.out _).mono ?_
        rintro x w2 ⟨rfl, d2⟩
        go_wp2_with fail
        go_ret
        exact ⟨by rw [HV.out]; rfl, chain0 d1 d2⟩
set_option maxHeartbeats 4000000 in
set_option maxRecDepth 100000 in
theorem rround_any (s : ByteArray) (w : World) (hs : s.size ≤ 5000) : Calls Tryz.prog 62 #[.string s] w fun e w' => e = .returned (.tuple #[.int .i64 (decR s.data.toList).1, .int .i64 (decR s.data.toList).2]) ∧ w' = w := by
  have HB := Lib.hid (decR_bad (l := s.data.toList))
  have HG := Lib.hid (fun a b => decR_good (l := s.data.toList) a b)
  have HH := Lib.hid (fun a b => decR_head (l := s.data.toList) a b)
  have HF := Lib.hid (fun k (h : k < s.data.toList.length) => digB_fail (l := s.data.toList) h)
  have HNIL : Hid (s = ⟨#[]⟩ → decR s.data.toList = (0, 2)) := fun h => by rw [h]; exact decR_nil
  generalize decR s.data.toList = r at *
  go_enter Tryz.func62, Tryz.ntmps62
  go_wp2_with fail
  go_loop [4, 5] (fun nv iv => ∃ k : Nat, k ≤ s.size ∧ iv = .int .i64 (k : Int) ∧ Hid (digB (s.data.toList.take k) = true) ∧ nv = .int .i64 ((minV 1000 (s.data.toList.take k) : Nat) : Int)) (fun _ iv => s.size - (intOf iv).toNat)
  case atStart => exact ⟨0, by omega, rfl, rfl, rfl⟩
  case round =>
    obtain ⟨k, hk, rfl, HK, rfl⟩ := hrel
    by_cases hks : k < s.size
    · have hd : decide ((k : Int) < (s.size : Int)) = true := decide_eq_true (by omega)
      have htk : s.data.toList.take (k + 1) = s.data.toList.take k ++ [s[k]] := by
        rw [List.take_succ_eq_append_getElem (show k < s.data.toList.length from hks)]
        rfl
      by_cases hdg : isDig s[k] = true
      · obtain ⟨q1, q2⟩ := dig_lt.1 hdg
        have c1 : decide ((s[k].toNat : Int) < 48) = false := decide_eq_false (by omega)
        have c2 : decide ((57 : Int) < (s[k].toNat : Int)) = false := decide_eq_false (by omega)
        have HK2 : Hid (digB (s.data.toList.take (k + 1)) = true) := by
          show _ = _
          rw [htk, digB_snoc HK.out]
          exact hdg
        have HM2 : Hid (minV 1000 (s.data.toList.take (k + 1)) = min (10 * minV 1000 (s.data.toList.take k) + (s[k].toNat - 48)) 1000) := by
          show _ = _
          rw [htk, minV_snoc]
        have HML := minV_le 1000 (s.data.toList.take k)
        generalize minV 1000 (s.data.toList.take k) = m at *
        clear hdg htk
        go_wp2_with fail
        refine ⟨⟨k + 1, by omega, by simp, HK2.out, ?_⟩, by simp [intOf]; omega⟩
        rw [HM2.out]
        congr 1
        omega
      · have hdf : isDig s[k] = false := by simpa using hdg
        have HR := Lib.hid (HB.out (HF.out k hks hdf))
        have hc12 : decide ((s[k].toNat : Int) < 48) = true ∨ decide ((s[k].toNat : Int) < 48) = false ∧ decide ((57 : Int) < (s[k].toNat : Int)) = true := by
          by_cases e : s[k].toNat < 48
          · exact .inl (decide_eq_true (by omega))
          · refine .inr ⟨decide_eq_false (by omega), decide_eq_true ?_⟩
            have : ¬ s[k].toNat ≤ 57 := fun h => hdg (dig_lt.2 ⟨by omega, h⟩)
            omega
        clear hdg hdf htk
        rcases hc12 with c1 | ⟨c1, c2⟩
        all_goals
          go_wp2_with fail
          go_ret2
          rw [HR.out]
          exact ⟨rfl, rfl⟩
    · have hd : decide ((k : Int) < (s.size : Int)) = false := decide_eq_false (by omega)
      have htk : s.data.toList.take k = s.data.toList := List.take_of_length_le (by show s.size ≤ k; omega)
      rw [htk] at HK ⊢
      clear htk
      by_cases h0 : s = ⟨#[]⟩
      · have HR := Lib.hid (HNIL.out h0)
        have hz : s.toList.isEmpty = true := by rw [h0]; decide +kernel
        clear h0
        go_wp2_with fail
        go_ret2
        rw [HR.out]
        exact ⟨rfl, rfl⟩
      have hz := ne_empty h0
      have hs0 := pos_of h0
      have hl0 : s.data.toList ≠ [] := fun e => by
        have : s.data.toList.length = 0 := by rw [e]; rfl
        have : s.size = 0 := this
        omega
      have hhd := head_of hs0
      have hpi : (0 : Int) < (s.size : Int) := by omega
      clear h0
      by_cases h1 : 1 < s.size ∧ s[0].toNat = 48
      · have HR := Lib.hid (HH.out h1.1 (by rw [hhd]; congr 1; exact UInt8.toNat_inj.1 h1.2))
        have d1 : decide ((1 : Int) < (s.size : Int)) = true := decide_eq_true (by omega)
        have d2 : ((s[0].toNat : Int) == 48) = true := by rw [h1.2]; rfl
        clear h1 hhd hl0
        go_wp2_with fail
        go_ret2
        rw [HR.out]
        exact ⟨rfl, rfl⟩
      have hx : ¬ (1 < s.data.toList.length ∧ s.data.toList.head? = some 48) := fun h => h1 ⟨h.1, by
        have h2 := h.2
        rw [hhd] at h2
        rw [Option.some.inj h2]; rfl⟩
      have HR := Lib.hid (HG.out hl0 hx HK.out)
      have hd01 : decide ((1 : Int) < (s.size : Int)) = false ∨ decide ((1 : Int) < (s.size : Int)) = true ∧ ((s[0].toNat : Int) == 48) = false := by
        by_cases e : 1 < s.size
        · exact .inr ⟨decide_eq_true (by omega), beq_eq_false_iff_ne.2 (fun h => h1 ⟨e, by omega⟩)⟩
        · exact .inl (decide_eq_false (by omega))
      obtain ⟨hb1, hb2⟩ := minV_big (m := 1000) (n := 29) (l := s.data.toList) (by decide)
      have HML := minV_le 1000 s.data.toList
      have HB1 := Lib.hid hb1
      have HB2 := Lib.hid hb2
      generalize minV 1000 s.data.toList = mv at *
      generalize val s.data.toList = va at *
      clear hx h1 hhd hl0 hb1 hb2
      by_cases hv : 29 < va
      · have HR2 := Lib.hid (HR.out.trans (if_pos hv))
        have dv : decide ((29 : Int) < (mv : Int)) = true := decide_eq_true (by have := HB1.out.2 hv; omega)
        clear hv HB1 HB2 HR HML
        rcases hd01 with d1 | ⟨d1, d2⟩
        all_goals
          go_wp2_with fail
          go_ret2
          rw [HR2.out]
          exact ⟨rfl, rfl⟩
      · have HR2 := Lib.hid (HR.out.trans (if_neg hv))
        have HE := Lib.hid (HB2.out (by omega))
        have dv : decide ((29 : Int) < (mv : Int)) = false := decide_eq_false (by rw [HE.out]; omega)
        clear hv HB1 HB2 HR HML
        rcases hd01 with d1 | ⟨d1, d2⟩
        all_goals
          go_wp2_with fail
          go_ret2
          rw [HR2.out, ← HE.out]
          exact ⟨rfl, rfl⟩
end Go.Proofs.YtaikmgnpfbnjjaaGreatDoor.Ev
