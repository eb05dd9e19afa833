/- Law 12, Spaces: a text with a space before and after every mark; the walk. Printed by gen_exX.py. -/
import Derived.Test.YtjjlhihocllgjaaDoorExW
namespace Go.Proofs.YtjjlhihocllgjaaDoor.Ex
open Go.ChangeShapes Go.WideShapes Go.ChangeAt Go.RowKit Gn Cat Lex
set_option linter.unusedVariables false
set_option linter.unusedSimpArgs false
def spG (c : UInt8) : List UInt8 := if isInn c = true then [c] else [32, c, 32]
def spB (l : List UInt8) : ByteArray := ⟨(l.flatMap spG).toArray⟩
theorem spG_len (c : UInt8) : (spG c).length ≤ 3 := by unfold spG; split <;> simp
theorem sp_size : ∀ l : List UInt8, (spB l).size ≤ 3 * l.length
  | [] => Nat.zero_le _
  | c :: l => by
    have h1 := sp_size l
    have h2 := spG_len c
    unfold spB at *
    show ((c :: l).flatMap spG).toArray.size ≤ _
    have h3 : (l.flatMap spG).toArray.size ≤ 3 * l.length := h1
    rw [List.flatMap_cons]
    simp only [List.size_toArray, List.length_append, List.length_cons] at *
    omega
theorem sp_inn {l : List UInt8} {c : UInt8} (h : isInn c = true) : spB (l ++ [c]) = spB l ++ ⟨#[c]⟩ := by
  unfold spB
  apply ByteArray.ext
  rw [ByteArray.data_append, List.flatMap_append]
  simp [spG, h]
theorem sp_out {l : List UInt8} {c : UInt8} (h : isInn c = false) : spB (l ++ [c]) = spB l ++ (⟨#[32]⟩ ++ ⟨#[c]⟩ ++ ⟨#[32]⟩) := by
  unfold spB
  apply ByteArray.ext
  rw [ByteArray.data_append, ByteArray.data_append, ByteArray.data_append, List.flatMap_append]
  simp [spG, h]
theorem lay_space : ∀ {T : List LItem} {bs : List UInt8}, Lay T bs → Lay T (32 :: bs)
  | [], bs, h => fun c hc => by
    rcases List.mem_cons.1 hc with rfl | hc
    · rfl
    · exact h c hc
  | x :: T, bs, h => by
    obtain ⟨k, r, e, h2⟩ := h
    exact ⟨k + 1, r, by rw [e]; rfl, h2⟩
theorem span_full {p : UInt8 → Bool} : ∀ {l : List UInt8}, span p l = l.length → ∀ b ∈ l, p b = true
  | [], _, b, hb => by cases hb
  | a :: l, h, b, hb => by
    cases ha : p a with
    | false => rw [span_stop ha] at h; simp at h
    | true =>
      rw [span_cons ha] at h
      rcases List.mem_cons.1 hb with rfl | hb
      · exact ha
      · exact span_full (by simpa using h) b hb
theorem flat_inn : ∀ {l : List UInt8}, (∀ b ∈ l, isInn b = true) → l.flatMap spG = l
  | [], _ => rfl
  | a :: l, h => by
    rw [List.flatMap_cons, flat_inn fun b hb => h b (by simp [hb])]
    unfold spG
    rw [if_pos (h a (by simp))]
    rfl
theorem lay_spaced : ∀ {T : List LItem}, Alt T → Lay T (spB (bytesOf T)).data.toList
  | [], _ => fun c hc => by simp [spB, bytesOf] at hc
  | x :: T, h => by
    have hr := lay_spaced h.2.2
    have e0 : (spB (bytesOf T)).data.toList = (bytesOf T).flatMap spG := by unfold spB; simp
    have e1 : (spB (bytesOf (x :: T))).data.toList = x.bytes.flatMap spG ++ (bytesOf T).flatMap spG := by unfold spB; simp [bytesOf]
    rw [e0] at hr
    rw [e1]
    rcases h.1 with ⟨s, hs, rfl⟩ | ⟨n, hn, rfl⟩ | ⟨c, hc, rfl⟩
    · have hall : ∀ b ∈ s.data.toList, isInn b = true := by
        unfold nameOk at hs
        simp only [Bool.and_eq_true, decide_eq_true_eq] at hs
        have h4 := hs.2.2.2
        unfold runLen at h4
        rw [List.drop_zero] at h4
        exact span_full h4
      exact ⟨0, _, by rw [flat_inn hall]; rfl, hr⟩
    · have hall : ∀ b ∈ Lib.decDigits n, isInn b = true := fun b hb => by
        unfold isInn
        rw [dec_all n b hb]
        simp
      exact ⟨0, _, by rw [flat_inn hall]; rfl, hr⟩
    · refine ⟨1, 32 :: (bytesOf T).flatMap spG, ?_, lay_space hr⟩
      show [c].flatMap spG ++ _ = _
      have : spG c = [32, c, 32] := by unfold spG; rw [if_neg (by rw [(mark_stop hc).2.2.2]; simp)]
      simp [this]
theorem cut1 {s : ByteArray} {k : Nat} (h : k < s.size) : s.extract k (k + 1) = ⟨#[s[k]]⟩ := by
  have := extract_of s k [s[k]] (s.data.toList.drop (k + 1)) (by rw [drop_cons s k h]; rfl)
  simpa using this
theorem take1 {s : ByteArray} {k : Nat} (h : k < s.size) : s.data.toList.take (k + 1) = s.data.toList.take k ++ [s[k]] := by
  rw [List.take_succ_eq_append_getElem (show k < s.data.toList.length from h)]
  rfl
theorem inn_of {c : UInt8} {y : Nat} (h : c.toNat = y) : isInn c = (decide (97 ≤ y) && decide (y ≤ 122) || (decide (48 ≤ y) && decide (y ≤ 57) || decide (y = 95))) := by
  subst h
  unfold isInn isLet isDig
  rfl
theorem add_sum (a b : ByteArray) (h : a.size + b.size ≤ 100000) (W : World) : (Op.stringOp .add a b).run Tryd.prog W = .ok (.string (a ++ b)) W := run_string_add_sum W _ _ (by omega)
set_option maxHeartbeats 4000000 in
set_option maxRecDepth 100000 in
theorem spaced_any (s : ByteArray) (w : World) (hs : s.size ≤ 1000) : Calls Tryd.prog 14 #[.string s] w fun r w' => r = .returned (.string (spB s.data.toList)) ∧ Below w.heap.size w w' := by
  go_enter Tryd.func14, Tryd.ntmps14
  go_wp2_with fail
  go_loop [3, 4, 5] (fun ov iv _ => ∃ (k : Nat) (o : ByteArray), k ≤ s.size ∧ ov = .string o ∧ iv = .int .i64 (k : Int) ∧ Hid (o = spB (s.data.toList.take k))) (fun _ iv _ => s.size - (intOf iv).toNat)
  case atStart => exact ⟨0, ⟨#[]⟩, Nat.zero_le _, rfl, rfl, rfl⟩
  case round =>
    obtain ⟨k, o, hk, rfl, rfl, HO⟩ := hrel
    have hk0 : (0 : Int) ≤ (k : Int) := by omega
    have hos : o.size ≤ 3000 := by
      rw [HO.out]
      have h1 := sp_size (s.data.toList.take k)
      have h2 : (s.data.toList.take k).length ≤ k := by rw [List.length_take]; exact Nat.min_le_left _ _
      omega
    by_cases hlt : k < s.size
    · have hd2 : decide ((k : Int) < (s.size : Int)) = true := by simp; omega
      have hkl : (k : Int) < (s.size : Int) := by omega
      have hcut := cut1 hlt
      have HTK := Lib.hid (take1 hlt)
      obtain ⟨x, hxx⟩ : ∃ x, x = s[k] := ⟨_, rfl⟩
      rw [← hxx] at hcut HTK
      have hsk : s[k] = x := hxx.symm
      have hw2 : IntKind.i64.wrap ((k : Int) + 1) = (k : Int) + 1 := IntWalk.i64_in _ (by omega)
      have hsl : ∀ W, (Instr.slice 9 (.string s) (some (.int .i64 (k : Int))) (some (.int .i64 ((k : Int) + 1))) none).run Tryd.prog W = .ok (.string ⟨#[x]⟩) W := fun W => by
        have h := run_slice_string (P := Tryd.prog) W 9 s .i64 .i64 (k : Int) ((k : Int) + 1) (by kernel_rfl) (by omega) (by omega) (by omega)
        rw [show (k : Int).toNat = k by omega, show ((k : Int) + 1).toNat = k + 1 by omega, hcut] at h
        exact h
      have ha1 := fun W => add_sum o ⟨#[x]⟩ (by show _ + 1 ≤ _; omega) W
      have ha2 := fun W => add_sum ⟨#[32]⟩ ⟨#[x]⟩ (by show 1 + 1 ≤ _; omega) W
      have ha3 := fun W => add_sum (⟨#[32]⟩ ++ ⟨#[x]⟩) ⟨#[32]⟩ (by rw [ByteArray.size_append]; show 1 + 1 + 1 ≤ _; omega) W
      have ha4 := fun W => add_sum o (⟨#[32]⟩ ++ ⟨#[x]⟩ ++ ⟨#[32]⟩) (by rw [ByteArray.size_append, ByteArray.size_append]; show _ + (1 + 1 + 1) ≤ _; omega) W
      obtain ⟨y, hy⟩ : ∃ y, y = x.toNat := ⟨_, rfl⟩
      have hyx : x.toNat = y := hy.symm
      have HIN := Lib.hid (inn_of hyx)
      have hcls : (y < 48) ∨ (48 ≤ y ∧ y ≤ 57) ∨ (58 ≤ y ∧ y ≤ 94) ∨ (y = 95) ∨ (y = 96) ∨ (97 ≤ y ∧ y ≤ 122) ∨ (122 < y) := by omega
      clear hxx hcut hy
      rcases hcls with hc | hc | hc | hc | hc | hc | hc
      · have t97 : decide ((97 : Int) ≤ (y : Int)) = false := decide_eq_false (by omega)
        have t48 : decide ((48 : Int) ≤ (y : Int)) = false := decide_eq_false (by omega)
        have t95 : ((y : Int) == 95) = false := by simp; omega
        have HIV : Hid (isInn x = false) := by
          show _ = _
          rw [HIN.out]
          simp
          omega
        have HO2 : Hid (o ++ (⟨#[32]⟩ ++ ⟨#[x]⟩ ++ ⟨#[32]⟩) = spB (s.data.toList.take (k + 1))) := by
          show _ = _
          rw [HTK.out, sp_out HIV.out, ← HO.out]
        clear HIN HTK HO hc HIV
        go_wp2_with fail
        go_round
        case rel => exact ⟨k + 1, _, hlt, rfl, by go_num, HO2.out⟩
        case measure => simp [intOf]; omega
      · have t97 : decide ((97 : Int) ≤ (y : Int)) = false := decide_eq_false (by omega)
        have t48 : decide ((48 : Int) ≤ (y : Int)) = true := decide_eq_true (by omega)
        have t57 : decide ((y : Int) ≤ 57) = true := decide_eq_true (by omega)
        have HIV : Hid (isInn x = true) := by
          show _ = _
          rw [HIN.out]
          simp
          omega
        have HO2 : Hid (o ++ ⟨#[x]⟩ = spB (s.data.toList.take (k + 1))) := by
          show _ = _
          rw [HTK.out, sp_inn HIV.out, ← HO.out]
        clear HIN HTK HO hc HIV
        go_wp2_with fail
        go_round
        case rel => exact ⟨k + 1, _, hlt, rfl, by go_num, HO2.out⟩
        case measure => simp [intOf]; omega
      · have t97 : decide ((97 : Int) ≤ (y : Int)) = false := decide_eq_false (by omega)
        have t48 : decide ((48 : Int) ≤ (y : Int)) = true := decide_eq_true (by omega)
        have t57 : decide ((y : Int) ≤ 57) = false := decide_eq_false (by omega)
        have t95 : ((y : Int) == 95) = false := by simp; omega
        have HIV : Hid (isInn x = false) := by
          show _ = _
          rw [HIN.out]
          simp
          omega
        have HO2 : Hid (o ++ (⟨#[32]⟩ ++ ⟨#[x]⟩ ++ ⟨#[32]⟩) = spB (s.data.toList.take (k + 1))) := by
          show _ = _
          rw [HTK.out, sp_out HIV.out, ← HO.out]
        clear HIN HTK HO hc HIV
        go_wp2_with fail
        go_round
        case rel => exact ⟨k + 1, _, hlt, rfl, by go_num, HO2.out⟩
        case measure => simp [intOf]; omega
      · have t97 : decide ((97 : Int) ≤ (y : Int)) = false := decide_eq_false (by omega)
        have t48 : decide ((48 : Int) ≤ (y : Int)) = true := decide_eq_true (by omega)
        have t57 : decide ((y : Int) ≤ 57) = false := decide_eq_false (by omega)
        have t95 : ((y : Int) == 95) = true := by simp; omega
        have HIV : Hid (isInn x = true) := by
          show _ = _
          rw [HIN.out]
          simp
          omega
        have HO2 : Hid (o ++ ⟨#[x]⟩ = spB (s.data.toList.take (k + 1))) := by
          show _ = _
          rw [HTK.out, sp_inn HIV.out, ← HO.out]
        clear HIN HTK HO hc HIV
        go_wp2_with fail
        go_round
        case rel => exact ⟨k + 1, _, hlt, rfl, by go_num, HO2.out⟩
        case measure => simp [intOf]; omega
      · have t97 : decide ((97 : Int) ≤ (y : Int)) = false := decide_eq_false (by omega)
        have t48 : decide ((48 : Int) ≤ (y : Int)) = true := decide_eq_true (by omega)
        have t57 : decide ((y : Int) ≤ 57) = false := decide_eq_false (by omega)
        have t95 : ((y : Int) == 95) = false := by simp; omega
        have HIV : Hid (isInn x = false) := by
          show _ = _
          rw [HIN.out]
          simp
          omega
        have HO2 : Hid (o ++ (⟨#[32]⟩ ++ ⟨#[x]⟩ ++ ⟨#[32]⟩) = spB (s.data.toList.take (k + 1))) := by
          show _ = _
          rw [HTK.out, sp_out HIV.out, ← HO.out]
        clear HIN HTK HO hc HIV
        go_wp2_with fail
        go_round
        case rel => exact ⟨k + 1, _, hlt, rfl, by go_num, HO2.out⟩
        case measure => simp [intOf]; omega
      · have t97 : decide ((97 : Int) ≤ (y : Int)) = true := decide_eq_true (by omega)
        have t122 : decide ((y : Int) ≤ 122) = true := decide_eq_true (by omega)
        have HIV : Hid (isInn x = true) := by
          show _ = _
          rw [HIN.out]
          simp
          omega
        have HO2 : Hid (o ++ ⟨#[x]⟩ = spB (s.data.toList.take (k + 1))) := by
          show _ = _
          rw [HTK.out, sp_inn HIV.out, ← HO.out]
        clear HIN HTK HO hc HIV
        go_wp2_with fail
        go_round
        case rel => exact ⟨k + 1, _, hlt, rfl, by go_num, HO2.out⟩
        case measure => simp [intOf]; omega
      · have t97 : decide ((97 : Int) ≤ (y : Int)) = true := decide_eq_true (by omega)
        have t122 : decide ((y : Int) ≤ 122) = false := decide_eq_false (by omega)
        have t48 : decide ((48 : Int) ≤ (y : Int)) = true := decide_eq_true (by omega)
        have t57 : decide ((y : Int) ≤ 57) = false := decide_eq_false (by omega)
        have t95 : ((y : Int) == 95) = false := by simp; omega
        have HIV : Hid (isInn x = false) := by
          show _ = _
          rw [HIN.out]
          simp
          omega
        have HO2 : Hid (o ++ (⟨#[32]⟩ ++ ⟨#[x]⟩ ++ ⟨#[32]⟩) = spB (s.data.toList.take (k + 1))) := by
          show _ = _
          rw [HTK.out, sp_out HIV.out, ← HO.out]
        clear HIN HTK HO hc HIV
        go_wp2_with fail
        go_round
        case rel => exact ⟨k + 1, _, hlt, rfl, by go_num, HO2.out⟩
        case measure => simp [intOf]; omega
    · obtain rfl : k = s.size := by omega
      have hd2 : decide ((s.size : Int) < (s.size : Int)) = false := by simp
      have HO2 : Hid (o = spB s.data.toList) := by
        show _ = _
        rw [HO.out]
        exact congrArg spB (List.take_of_length_le (Nat.le_refl _))
      go_wp2_with fail
      go_ret
      exact ⟨by rw [HO2.out]; rfl, Below.refl _ _⟩
set_option maxHeartbeats 4000000 in
set_option maxRecDepth 100000 in
theorem law_spaces (l : List Prod) (v : Value) (d : Nat) (e : Tree) (w : World) (h : ArgX w v l d e) : Calls Tryd.prog 5 #[v, e.val] w (TrueP w) := by
  obtain ⟨A0, c0, rfl, hc0, hc1, _⟩ := ps_cases h.sl
  obtain ⟨op, p, vv, A, cb, ks⟩ := e
  dsimp only [Tree.val, Tree.op, Tree.want, Tree.value, Tree.a, Tree.c, Tree.args]
  have KE := Lib.hid (Blk.new w 27 #[.int .i64 op, .int .i64 (p 0), .int .i64 (p 1), .int .i64 (p 2), .int .i64 (p 3), .int .i64 (p 4), .int .i64 (p 5), .int .i64 vv, .slice A ks.length cb])
  have BE := Lib.hid (below_new w (.cells #[.int .i64 op, .int .i64 (p 0), .int .i64 (p 1), .int .i64 (p 2), .int .i64 (p 3), .int .i64 (p 4), .int .i64 (p 5), .int .i64 vv, .slice A ks.length cb] 27))
  have HT := Lib.hid (fun W (b : Below w.heap.size w W) => h.tab.keep b)
  have HI := Lib.hid (fun W (b : Below w.heap.size w W) => h.tree.keep b)
  have HS := Lib.hid (fun W (b : Below w.heap.size w W) => Sl.keep h.sl b)
  have HN := Lib.hid h.nm
  clear h
  
  have CW := Lib.hid (fun W (b : Below w.heap.size w W) => weigh_any d (.mk op p vv A cb ks) 61 w.heap.size W (HI.out W b) b.size (by decide) (by decide))
  dsimp only [Tree.val, Tree.op, Tree.want, Tree.value, Tree.a, Tree.c, Tree.args] at CW
  
  by_cases h10 : 10 < l.length
  · have q1 : decide ((10 : Int) < (l.length : Int)) = true := by simp; omega
    clear h10
    go_enter Tryd.func5, Tryd.ntmps5
    go_wp2_with fail
    refine (lives_any _ (HT.out _ BE.out)).mono ?_
    rintro r w2 ⟨rfl, dd⟩
    have B2 := Lib.hid (chain0 BE.out dd)
    go_wp2_with fail
    go_ret
    exact ⟨rfl, B2.out⟩
  · have q1 : decide ((10 : Int) < (l.length : Int)) = false := by simp; omega
    have C0 : (w.alloc (.cells #[.int .i64 op, .int .i64 (p 0), .int .i64 (p 1), .int .i64 (p 2), .int .i64 (p 3), .int .i64 (p 4), .int .i64 (p 5), .int .i64 vv, .slice A ks.length cb] 27)).cell? ⟨w.heap.size, 0, none⟩ = some (.int .i64 op) := KE.out.cell 0
    have C1 : (w.alloc (.cells #[.int .i64 op, .int .i64 (p 0), .int .i64 (p 1), .int .i64 (p 2), .int .i64 (p 3), .int .i64 (p 4), .int .i64 (p 5), .int .i64 vv, .slice A ks.length cb] 27)).cell? ⟨w.heap.size, 1, none⟩ = some (.int .i64 (p 0)) := KE.out.cell 1
    have C2 : (w.alloc (.cells #[.int .i64 op, .int .i64 (p 0), .int .i64 (p 1), .int .i64 (p 2), .int .i64 (p 3), .int .i64 (p 4), .int .i64 (p 5), .int .i64 vv, .slice A ks.length cb] 27)).cell? ⟨w.heap.size, 2, none⟩ = some (.int .i64 (p 1)) := KE.out.cell 2
    have C3 : (w.alloc (.cells #[.int .i64 op, .int .i64 (p 0), .int .i64 (p 1), .int .i64 (p 2), .int .i64 (p 3), .int .i64 (p 4), .int .i64 (p 5), .int .i64 vv, .slice A ks.length cb] 27)).cell? ⟨w.heap.size, 3, none⟩ = some (.int .i64 (p 2)) := KE.out.cell 3
    have C4 : (w.alloc (.cells #[.int .i64 op, .int .i64 (p 0), .int .i64 (p 1), .int .i64 (p 2), .int .i64 (p 3), .int .i64 (p 4), .int .i64 (p 5), .int .i64 vv, .slice A ks.length cb] 27)).cell? ⟨w.heap.size, 4, none⟩ = some (.int .i64 (p 3)) := KE.out.cell 4
    have C5 : (w.alloc (.cells #[.int .i64 op, .int .i64 (p 0), .int .i64 (p 1), .int .i64 (p 2), .int .i64 (p 3), .int .i64 (p 4), .int .i64 (p 5), .int .i64 vv, .slice A ks.length cb] 27)).cell? ⟨w.heap.size, 5, none⟩ = some (.int .i64 (p 4)) := KE.out.cell 5
    have C6 : (w.alloc (.cells #[.int .i64 op, .int .i64 (p 0), .int .i64 (p 1), .int .i64 (p 2), .int .i64 (p 3), .int .i64 (p 4), .int .i64 (p 5), .int .i64 vv, .slice A ks.length cb] 27)).cell? ⟨w.heap.size, 6, none⟩ = some (.int .i64 (p 5)) := KE.out.cell 6
    have C7 : (w.alloc (.cells #[.int .i64 op, .int .i64 (p 0), .int .i64 (p 1), .int .i64 (p 2), .int .i64 (p 3), .int .i64 (p 4), .int .i64 (p 5), .int .i64 vv, .slice A ks.length cb] 27)).cell? ⟨w.heap.size, 7, none⟩ = some (.int .i64 vv) := KE.out.cell 7
    have C8 : (w.alloc (.cells #[.int .i64 op, .int .i64 (p 0), .int .i64 (p 1), .int .i64 (p 2), .int .i64 (p 3), .int .i64 (p 4), .int .i64 (p 5), .int .i64 vv, .slice A ks.length cb] 27)).cell? ⟨w.heap.size, 8, none⟩ = some (.slice A ks.length cb) := KE.out.cell 8
    have Cl := KE.out.lt
    go_enter Tryd.func5, Tryd.ntmps5
    go_wp2_with fail
    refine (CW.out _ BE.out).mono ?_
    rintro r w2 ⟨rfl, d2⟩
    have K2 := Lib.hid (KE.out.below' d2)
    have B2 := Lib.hid (chain0 BE.out d2)
    clear d2 KE
    clear C0 C1 C2 C3 C4 C5 C6 C7 C8 Cl
    generalize hmn : min (preF d (.mk op p vv A cb ks)).length 61 = mn
    by_cases h60 : 60 < mn
    · have q2 : decide ((60 : Int) < (mn : Int)) = true := by simp; omega
      clear h60 hmn
      go_wp2_with fail
      refine (lives_any _ (HT.out _ B2.out)).mono ?_
      rintro r w3 ⟨rfl, dd⟩
      have B3 := Lib.hid (chain0 B2.out dd)
      go_wp2_with fail
      go_ret
      exact ⟨rfl, B3.out⟩
    · have q2 : decide ((60 : Int) < (mn : Int)) = false := by simp; omega
      have hsz : (preF d (.mk op p vv A cb ks)).length ≤ 60 := by omega
      clear h60 hmn
      have CF := Lib.hid (fun W (b : Below w.heap.size w W) => rfmt_any l (.slice A0 l.length c0) d (.mk op p vv A cb ks) w.heap.size W ⟨HS.out W b, by omega, HN.out⟩ (HT.out W b) (HI.out W b) b.size (by omega))
      dsimp only [Tree.val, Tree.op, Tree.want, Tree.value, Tree.a, Tree.c, Tree.args] at CF
      have HDE := Lib.hid (HI.out w (Below.refl _ _)).deep
      have HFB := Lib.hid (fmt_bytes (l := l) (d := d) (e := .mk op p vv A cb ks))
      have HAL := Lib.hid (fun hf => parse_lay (l := l) (d := d) (e := .mk op p vv A cb ks) hf (s := spB (fmtX l d (.mk op p vv A cb ks)).1.data.toList))
      have HIA := Lib.hid (fun (hc : checkX d (.mk op p vv A cb ks) = 0) (ht : (textF l d (.mk op p vv A cb ks)).2 = true) => items_alt l d (.mk op p vv A cb ks) (checkX_zero hc).2.2.2 ht [] trivial trivial)
      have HTX : Hid ((fmtX l d (.mk op p vv A cb ks)).2 = 0 → (textF l d (.mk op p vv A cb ks)).2 = true) := fun hf => by
        by_cases h1 : checkE l = 0
        · by_cases h2 : checkX d (.mk op p vv A cb ks) = 0
          · cases h3 : (textF l d (.mk op p vv A cb ks)).2 with
            | true => rfl
            | false => rw [fx_3 h1 h2 h3] at hf; exact absurd hf (by decide)
          · rw [fx_2 h1 h2] at hf; exact absurd hf h2
        · rw [fx_1 h1] at hf; exact absurd hf h1
      generalize hpr : fmtX l d (.mk op p vv A cb ks) = pr at *
      clear hpr
      obtain ⟨ps, pe⟩ := pr
      have q3 := beq_self (x := (0 : Int))
      have C0 : w2.cell? ⟨w.heap.size, 0, none⟩ = some (.int .i64 op) := K2.out.cell 0
      have C1 : w2.cell? ⟨w.heap.size, 1, none⟩ = some (.int .i64 (p 0)) := K2.out.cell 1
      have C2 : w2.cell? ⟨w.heap.size, 2, none⟩ = some (.int .i64 (p 1)) := K2.out.cell 2
      have C3 : w2.cell? ⟨w.heap.size, 3, none⟩ = some (.int .i64 (p 2)) := K2.out.cell 3
      have C4 : w2.cell? ⟨w.heap.size, 4, none⟩ = some (.int .i64 (p 3)) := K2.out.cell 4
      have C5 : w2.cell? ⟨w.heap.size, 5, none⟩ = some (.int .i64 (p 4)) := K2.out.cell 5
      have C6 : w2.cell? ⟨w.heap.size, 6, none⟩ = some (.int .i64 (p 5)) := K2.out.cell 6
      have C7 : w2.cell? ⟨w.heap.size, 7, none⟩ = some (.int .i64 vv) := K2.out.cell 7
      have C8 : w2.cell? ⟨w.heap.size, 8, none⟩ = some (.slice A ks.length cb) := K2.out.cell 8
      have Cl := K2.out.lt
      go_wp2_with fail
      refine (CF.out _ B2.out).mono ?_
      rintro r w3 ⟨rfl, d3⟩
      try dsimp only
      have K3 := Lib.hid (K2.out.below' d3)
      have B3 := Lib.hid (chain0 B2.out d3)
      clear d3 K2
      clear C0 C1 C2 C3 C4 C5 C6 C7 C8 Cl
      by_cases hpe : pe = 0
      · subst hpe
        by_cases h9 : 900 < ps.size
        · have q9 : decide ((900 : Int) < (ps.size : Int)) = true := by simp; omega
          clear h9
          go_wp2_with fail
          refine (lives_any _ (HT.out _ B3.out)).mono ?_
          rintro r w8 ⟨rfl, dd⟩
          have B8 := Lib.hid (chain0 B3.out dd)
          go_wp2_with fail
          go_ret
          exact ⟨rfl, B8.out⟩
        · have q9 : decide ((900 : Int) < (ps.size : Int)) = false := by simp; omega
          have HB4 := HFB.out rfl
          have hsz3 : (spB ps.data.toList).size ≤ 4000 := by
            have h1 := sp_size ps.data.toList
            have h2 : ps.data.toList.length = ps.size := rfl
            omega
          have hal := HIA.out HB4.2.2 (HTX.out rfl)
          rw [List.append_nil] at hal
          have hlay := lay_spaced hal
          rw [HB4.1] at hlay
          have CP := Lib.hid (fun W (b : Below w.heap.size w W) => parse_of l (.slice A0 l.length c0) (spB ps.data.toList) W ⟨HS.out W b, by omega, HN.out⟩ (by omega) HDE.out HB4.2.2 (HAL.out rfl hlay hsz3))
          have CSP := Lib.hid (fun W => spaced_any ps W (by omega))
          generalize spB ps.data.toList = sp at *
          clear HB4 HFB HAL HIA HTX hal hlay h9
          go_wp2_with fail
          refine (CSP.out _).mono ?_
          rintro r w31 ⟨rfl, d31⟩
          have K31 := Lib.hid (K3.out.below' d31)
          have B31 := Lib.hid (chain0 B3.out d31)
          clear d31 K3 B3
          go_wp2_with fail
          refine (CP.out _ B31.out).mono ?_
          rintro r w4 ⟨t, dX, rfl, d4, hi, hx, hpn⟩
          have HX := Lib.hid hx
          have HPN := Lib.hid hpn
          clear hx hpn CP
          obtain ⟨xop, xp, xv, xB, xcb, xks⟩ := t
          dsimp only [Tree.val, Tree.op, Tree.want, Tree.value, Tree.a, Tree.c, Tree.args]
          have K6 := Lib.hid ((K31.out.below' d4).alloc (.cells #[.int .i64 xop, .int .i64 (xp 0), .int .i64 (xp 1), .int .i64 (xp 2), .int .i64 (xp 3), .int .i64 (xp 4), .int .i64 (xp 5), .int .i64 xv, .slice xB xks.length xcb] 27))
          have KT6 := Lib.hid (Blk.new w4 27 #[.int .i64 xop, .int .i64 (xp 0), .int .i64 (xp 1), .int .i64 (xp 2), .int .i64 (xp 3), .int .i64 (xp 4), .int .i64 (xp 5), .int .i64 xv, .slice xB xks.length xcb])
          have IT6 := Lib.hid ((hi.keep (below_new w4 (.cells #[.int .i64 xop, .int .i64 (xp 0), .int .i64 (xp 1), .int .i64 (xp 2), .int .i64 (xp 3), .int .i64 (xp 4), .int .i64 (xp 5), .int .i64 xv, .slice xB xks.length xcb] 27))).mono (below_new w4 (.cells #[.int .i64 xop, .int .i64 (xp 0), .int .i64 (xp 1), .int .i64 (xp 2), .int .i64 (xp 3), .int .i64 (xp 4), .int .i64 (xp 5), .int .i64 xv, .slice xB xks.length xcb] 27)).size)
          have B6 := Lib.hid ((chain0 B31.out d4).alloc (chain0 B31.out d4).size (.cells #[.int .i64 xop, .int .i64 (xp 0), .int .i64 (xp 1), .int .i64 (xp 2), .int .i64 (xp 3), .int .i64 (xp 4), .int .i64 (xp 5), .int .i64 xv, .slice xB xks.length xcb] 27))
          clear hi d4 K31 B31
          go_upto_region 7 with fail
          generalize w4.alloc (.cells #[.int .i64 xop, .int .i64 (xp 0), .int .i64 (xp 1), .int .i64 (xp 2), .int .i64 (xp 3), .int .i64 (xp 4), .int .i64 (xp 5), .int .i64 xv, .slice xB xks.length xcb] 27) = w6 at *
          generalize w4.heap.size = xb at *
          have CQ := Lib.hid (Ex.same_yes d dX (.mk op p vv A cb ks) (.mk xop xp xv xB xcb xks) w6.heap.size w6 ((HI.out w6 B6.out).mono B6.out.size) IT6.out (Nat.le_refl _) (by omega) HX.out.symm)
          dsimp only [Tree.val, Tree.op, Tree.want, Tree.value, Tree.a, Tree.c, Tree.args] at CQ
          have C0 : w6.cell? ⟨w.heap.size, 0, none⟩ = some (.int .i64 op) := K6.out.cell 0
          have C1 : w6.cell? ⟨w.heap.size, 1, none⟩ = some (.int .i64 (p 0)) := K6.out.cell 1
          have C2 : w6.cell? ⟨w.heap.size, 2, none⟩ = some (.int .i64 (p 1)) := K6.out.cell 2
          have C3 : w6.cell? ⟨w.heap.size, 3, none⟩ = some (.int .i64 (p 2)) := K6.out.cell 3
          have C4 : w6.cell? ⟨w.heap.size, 4, none⟩ = some (.int .i64 (p 3)) := K6.out.cell 4
          have C5 : w6.cell? ⟨w.heap.size, 5, none⟩ = some (.int .i64 (p 4)) := K6.out.cell 5
          have C6 : w6.cell? ⟨w.heap.size, 6, none⟩ = some (.int .i64 (p 5)) := K6.out.cell 6
          have C7 : w6.cell? ⟨w.heap.size, 7, none⟩ = some (.int .i64 vv) := K6.out.cell 7
          have C8 : w6.cell? ⟨w.heap.size, 8, none⟩ = some (.slice A ks.length cb) := K6.out.cell 8
          have Cl := K6.out.lt
          have X0 : w6.cell? ⟨xb, 0, none⟩ = some (.int .i64 xop) := KT6.out.cell 0
          have X1 : w6.cell? ⟨xb, 1, none⟩ = some (.int .i64 (xp 0)) := KT6.out.cell 1
          have X2 : w6.cell? ⟨xb, 2, none⟩ = some (.int .i64 (xp 1)) := KT6.out.cell 2
          have X3 : w6.cell? ⟨xb, 3, none⟩ = some (.int .i64 (xp 2)) := KT6.out.cell 3
          have X4 : w6.cell? ⟨xb, 4, none⟩ = some (.int .i64 (xp 3)) := KT6.out.cell 4
          have X5 : w6.cell? ⟨xb, 5, none⟩ = some (.int .i64 (xp 4)) := KT6.out.cell 5
          have X6 : w6.cell? ⟨xb, 6, none⟩ = some (.int .i64 (xp 5)) := KT6.out.cell 6
          have X7 : w6.cell? ⟨xb, 7, none⟩ = some (.int .i64 xv) := KT6.out.cell 7
          have X8 : w6.cell? ⟨xb, 8, none⟩ = some (.slice xB xks.length xcb) := KT6.out.cell 8
          have Xl := KT6.out.lt
          go_wp2_with fail
          refine (CQ.out).mono ?_
          rintro r w7 ⟨rfl, d7⟩
          have B7 := Lib.hid (chain0 B6.out d7)
          clear d7
          clear C0 C1 C2 C3 C4 C5 C6 C7 C8 Cl
          clear X0 X1 X2 X3 X4 X5 X6 X7 X8 Xl
          go_wp2_with fail
          refine (lives_any _ (HT.out _ B7.out)).mono ?_
          rintro r w8 ⟨rfl, dd⟩
          have B8 := Lib.hid (chain0 B7.out dd)
          go_wp2_with fail
          go_ret
          exact ⟨rfl, B8.out⟩
      · have q5 : (pe != 0) = true := by simpa using hpe
        clear HFB HAL HIA HTX hpe
        go_wp2_with fail
        refine (lives_any _ (HT.out _ B3.out)).mono ?_
        rintro r w8 ⟨rfl, dd⟩
        have B8 := Lib.hid (chain0 B3.out dd)
        go_wp2_with fail
        go_ret
        exact ⟨rfl, B8.out⟩
end Go.Proofs.YtjjlhihocllgjaaDoor.Ex
