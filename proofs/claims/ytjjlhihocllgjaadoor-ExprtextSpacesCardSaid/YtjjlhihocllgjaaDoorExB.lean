/- The reference's number, fits, text, Format. Printed by gen_exB.py. -/
import Derived.Test.YtjjlhihocllgjaaDoorExA
import Derived.Test.YtjjlhihocllgjaaDoorEx6
namespace Go.Proofs.YtjjlhihocllgjaaDoor.Ex
open Go.ChangeShapes Go.WideShapes Go.ChangeAt Go.RowKit Gn Cat Lex
set_option linter.unusedVariables false
set_option linter.unusedSimpArgs false
attribute [local go_sem] later_cell
theorem conv_digit (W : World) (g : Nat) (x : Int) (h0 : 0 ≤ x) (h1 : x ≤ 255) (hc : W.cell? ⟨g, 0, none⟩ = some (.int .u8 x)) : (convert 105 9 (.slice (some ⟨g, 0, none⟩) 1 1)).run Tryd.prog W = .ok (.string ⟨#[UInt8.ofNat x.toNat]⟩) W := by
  have := run_convert_bytes_back (P := Tryd.prog) W 105 9 5 ⟨g, 0, none⟩ 1 [UInt8.ofNat x.toNat] (by kernel_rfl) (by kernel_rfl) (by kernel_rfl) ?_
  · exact this
  · intro j hj
    obtain rfl : j = 0 := by simpa using hj
    show W.cell? ⟨g, 0, none⟩ = _
    have e : ((UInt8.ofNat x.toNat).toNat : Int) = x := by simp; omega
    rw [show [UInt8.ofNat x.toNat][0] = UInt8.ofNat x.toNat from rfl, e]
    exact hc
theorem add_small (a b : ByteArray) (h : a.size ≤ 2000) (h2 : b.size ≤ 2000) (W : World) : (Op.stringOp .add a b).run Tryd.prog W = .ok (.string (a ++ b)) W := run_string_add_sum W _ _ (by omega)
theorem dec_small {u : Nat} (h : u < 10) : Lib.decDigits u = [UInt8.ofNat (48 + u)] := by rw [Lib.decDigits, dif_pos h]
theorem dec_big {u : Nat} (h : ¬ u < 10) : Lib.decDigits u = Lib.decDigits (u / 10) ++ [UInt8.ofNat (48 + u % 10)] := by
  conv => lhs; rw [Lib.decDigits]
  rw [dif_neg h]
theorem dec_len : ∀ (k u : Nat), u < 10 ^ (k + 1) → (Lib.decDigits u).length ≤ k + 1
  | 0, u, h => by
    rw [Nat.zero_add, Nat.pow_one] at h
    rw [dec_small h]
    exact Nat.le_refl _
  | k + 1, u, h => by
    by_cases h9 : u < 10
    · rw [dec_small h9]; simp
    · rw [dec_big h9, List.length_append]
      have := dec_len k (u / 10) (Nat.div_lt_of_lt_mul (by rw [Nat.pow_succ, Nat.mul_comm] at h; exact h))
      simp only [List.length_cons, List.length_nil]
      omega
def U64 : Nat := 18446744073709551616
theorem dec_len20 {n : Nat} (h : n < U64) : (Lib.decDigits n).length ≤ 20 := dec_len 19 n (Nat.lt_of_lt_of_le h (by decide))
theorem ba_cons (x : UInt8) (s : ByteArray) : (⟨#[x]⟩ ++ s : ByteArray).data.toList = x :: s.data.toList := by simp [ByteArray.data_append]
theorem ba_size (s : ByteArray) : s.size = s.data.toList.length := rfl
theorem ba_of {s : ByteArray} {l : List UInt8} (h : s.data.toList = l) : s = ⟨l.toArray⟩ := by
  apply ByteArray.ext
  rw [← h]
/-- one digit -/
theorem digit_facts (m : Nat) : ∃ d : Nat, (d = m % 10 ∧ d ≤ 9) ∧ (m : Int) % 10 = (d : Int) ∧ (48 + (d : Int)).toNat = 48 + d := ⟨m % 10, ⟨rfl, by omega⟩, by omega, by omega⟩
theorem decS_pos (n : Nat) : decS (n : Int) = ⟨(Lib.decDigits n).toArray⟩ := by
  unfold decS Lib.itoa
  rw [if_neg (by omega), Int.toNat_natCast]
abbrev boolN (v : Value) : Nat := match v with | .bool true => 1 | _ => 0
set_option maxHeartbeats 1000000 in
set_option maxRecDepth 100000 in
theorem rnum_any (n : Nat) (w : World) (hn : n < 1000000000000) : Calls Tryd.prog 64 #[.int .i64 (n : Int)] w fun e w' => e = .returned (.string (decS (n : Int))) ∧ Below w.heap.size w w' := by
  rw [decS_pos]
  have HN := Lib.hid (dec_len20 (show n < U64 by unfold U64; omega))
  have HU := Lib.hid hn
  clear hn
  go_enter Tryd.func64, Tryd.ntmps64
  go_wp2_with fail
  go_loopw [0, 3, 4] (fun nv sv av wr => ∃ (m : Nat) (s : ByteArray) (b : Bool), nv = .int .i64 (m : Int) ∧ sv = .string s ∧ av = .bool b ∧ Hid (b = true → Lib.decDigits m ++ s.data.toList = Lib.decDigits n) ∧ Hid (b = false → s.data.toList = Lib.decDigits n) ∧ Hid (m < 1000000000000) ∧ Hid (Below w.heap.size w wr)) (fun nv _ av _ => (intOf nv).toNat + boolN av)
  case atStart => exact ⟨n, ⟨#[]⟩, true, rfl, rfl, rfl, fun _ => by show _ ++ [] = _; rw [List.append_nil], (fun h => by cases h), HU.out, Below.refl _ _⟩
  case round =>
    obtain ⟨m, s, b, rfl, rfl, rfl, HI, HO, HMU, HB⟩ := hrel
    have hm0 : (0 : Int) ≤ (m : Int) := by omega
    cases b with
    | false =>
      have HE : Hid (s = ⟨(Lib.decDigits n).toArray⟩) := ba_of (HO.out rfl)
      go_wp2_with fail
      go_ret
      exact ⟨by rw [← HE.out]; rfl, HB.out⟩
    | true =>
      replace HI := Lib.hid (HI.out rfl)
      clear HO
      obtain ⟨d, hd, e1, e2⟩ := digit_facts m
      have hd0 : (0 : Int) ≤ (d : Int) := by omega
      have hd9 : (d : Int) ≤ 9 := by omega
      have e3 : (m : Int).tmod 10 = (d : Int) := by rw [Int.tmod_eq_emod_of_nonneg hm0]; exact e1
      have hsz : s.size ≤ 20 := by
        have := HN.out
        rw [← HI.out, List.length_append, ← ba_size] at this
        omega
      have hcv := conv_digit (wr.alloc (.cells #[.int .u8 (48 + (d : Int))] 5)) wr.heap.size (48 + (d : Int)) (by omega) (by omega) ((Blk.new wr 5 _).cell 0)
      rw [e2] at hcv
      have had := add_small ⟨#[UInt8.ofNat (48 + d)]⟩ s (by show 1 ≤ _; omega) (by omega)
      obtain ⟨x, hx⟩ : ∃ x, x = UInt8.ofNat (48 + d) := ⟨_, rfl⟩
      rw [← hx] at hcv had
      have HX := Lib.hid hx
      clear hx
      have HB2 : Hid (Below w.heap.size w (wr.alloc (.cells #[.int .u8 (48 + (d : Int))] 5))) := HB.out.alloc HB.out.size _
      have w1 : IntKind.i64.wrap (48 + (d : Int)) = 48 + (d : Int) := IntWalk.i64_in _ (by omega)
      have w2 : IntKind.i64.wrap (d : Int) = (d : Int) := IntWalk.i64_in _ (by omega)
      have w3 : IntKind.u8.wrap (48 + (d : Int)) = 48 + (d : Int) := IntWalk.u8_in _ (by omega)
      clear hsz e2
      have hq : (m : Int) / 10 = ((m / 10 : Nat) : Int) := by omega
      have hq2 : (m : Int).tdiv 10 = ((m / 10 : Nat) : Int) := by rw [Int.tdiv_eq_ediv_of_nonneg hm0]; exact hq
      have hmU := HMU.out
      have wq : IntKind.i64.wrap ((m / 10 : Nat) : Int) = ((m / 10 : Nat) : Int) := IntWalk.i64_in _ (by omega)
      have HMU2 : Hid (m / 10 < 1000000000000) := Nat.lt_of_le_of_lt (Nat.div_le_self _ _) hmU
      by_cases h9 : 9 < m
      · have d1 : decide ((0 : Int) < ((m / 10 : Nat) : Int)) = true := decide_eq_true (by omega)
        have d2 : decide (0 < m / 10) = true := decide_eq_true (by omega)
        have HI2 : Hid (Lib.decDigits (m / 10) ++ (⟨#[x]⟩ ++ s : ByteArray).data.toList = Lib.decDigits n) := by
          show _ = _
          rw [ba_cons, ← HI.out, dec_big (u := m) (by omega), ← hd.1, HX.out]
          simp
        have HLT : Hid (m / 10 < m) := by show _ < _; omega
        have hq0 : (0 : Int) ≤ ((m / 10 : Nat) : Int) := by omega
        clear hd hmU h9
        generalize m / 10 = q at *
        go_wp2_with fail
        go_roundw
        case rel => exact ⟨q, _, true, rfl, rfl, rfl, fun _ => HI2.out, (fun h => by cases h), HMU2.out, HB2.out⟩
        case measure => simp [intOf, boolN]; exact HLT.out
      · have d1 : decide ((0 : Int) < ((m / 10 : Nat) : Int)) = false := decide_eq_false (by omega)
        have d2 : decide (0 < m / 10) = false := decide_eq_false (by omega)
        have hmd : m = d := by omega
        have HE : Hid ((⟨#[x]⟩ ++ s : ByteArray).data.toList = Lib.decDigits n) := by
          show _ = _
          rw [ba_cons, ← HI.out, dec_small (u := m) (by omega), HX.out, hmd]
          rfl
        have HLT : Hid (m / 10 = 0) := by show _ = _; omega
        have hq0 : (0 : Int) ≤ ((m / 10 : Nat) : Int) := by omega
        clear hd hmd hmU h9
        generalize m / 10 = q at *
        go_wp2_with fail
        go_roundw
        case rel => exact ⟨q, _, false, rfl, rfl, rfl, (fun h => by cases h), fun _ => HE.out, HMU2.out, HB2.out⟩
        case measure => simp [intOf, boolN]; have := HLT.out; omega

theorem rnum_int (v : Int) (W : World) (h : 0 ≤ v ∧ v ≤ 1000000) : Calls Tryd.prog 64 #[.int .i64 v] W fun e w' => e = .returned (.string (decS v)) ∧ Below W.heap.size W w' := by
  obtain ⟨n, rfl⟩ := Int.eq_ofNat_of_zero_le h.1
  exact rnum_any n W (by omega)
/-- all bundles fit -/
def fitsF (l : List Prod) : Nat → Tree → Bool
  | 0, _ => false
  | d + 1, e => rfitsB e.want l && e.args.all (fitsF l d)
theorem rfits_zero {l : List Prod} {p : Nat → Int} (hz : checkE l = 0) (h : eq6 p zero6 = true) : rfitsB p l = true := by
  have h6 := (eq6_iff p zero6).1 h
  have hv : validB p = true := validB_iff.2 fun k hk => by rw [h6 k hk]; unfold zero6; omega
  have ht : tailB p l.length = true := by
    unfold tailB
    rw [List.all_eq_true]
    intro k hk
    simp only [List.mem_range] at hk
    rw [h6 k (by omega)]
    simp [zero6]
  unfold rfitsB fitsB
  rw [hz, hv, ht]
  rfl
/-- the texts' word on fitting is that of all bundles -/
theorem fits_text {l : List Prod} (hz : checkE l = 0) : ∀ (d : Nat) (e : Tree), errN (preF d e) = 0 → (textF l d e).2 = fitsF l d e
  | 0, _, _ => rfl
  | d + 1, e, h => by
    obtain ⟨hf, hr, ha⟩ := err_parts h
    have hall : (e.args.all fun x => (textF l d x).2) = e.args.all (fitsF l d) := by
      rw [Bool.eq_iff_iff, List.all_eq_true, List.all_eq_true]
      constructor
      · intro q x hx; rw [← fits_text hz d x (ha x hx)]; exact q x hx
      · intro q x hx; rw [fits_text hz d x (ha x hx)]; exact q x hx
    rw [textF, fitsF]
    by_cases h1 : e.op = 1
    · rw [if_pos h1]
      have : e.args.length = 0 := by
        unfold formB at hf
        rw [if_pos h1] at hf
        exact of_decide_eq_true hf
      have hn : e.args = [] := List.length_eq_zero_iff.1 this
      rw [hn]
      simp
    · rw [if_neg h1]
      dsimp only
      have hw : e.op = 4 ∨ eq6 e.want zero6 = true := by
        unfold formB at hf
        rw [if_neg h1] at hf
        split at hf
        · simp only [Bool.and_eq_true] at hf; exact .inr hf.1.2
        · split at hf
          · exact .inl (by assumption)
          · split at hf
            · simp only [Bool.and_eq_true] at hf; exact .inr hf.2
            · cases hf
      by_cases h2 : e.op = 2
      · rw [if_pos h2, hall, rfits_zero hz (hw.resolve_left (by omega))]; simp
      · rw [if_neg h2]
        by_cases h3 : e.op = 3
        · rw [if_pos h3, hall, rfits_zero hz (hw.resolve_left (by omega))]; simp
        · rw [if_neg h3]
          by_cases h4 : e.op = 4
          · rw [if_pos h4, hall, Bool.and_comm]
          · rw [if_neg h4, hall, rfits_zero hz (hw.resolve_left h4)]; simp
set_option maxHeartbeats 4000000 in
set_option maxRecDepth 100000 in
theorem rfits2_any (d : Nat) : ∀ (l : List Prod) (v : Value) (e : Tree) (B : Nat) (w : World), PL w v l → In d B w e → B ≤ w.heap.size → (preF d e).length ≤ 5000 → Calls Tryd.prog 26 #[v, e.val] w fun r w' => r = .returned (.bool (fitsF l d e)) ∧ Below w.heap.size w w' := by
  induction d with
  | zero => intro l v e B w _ h; exact h.elim
  | succ d ih =>
    intro l v e B w hpl h hB hsz
    have hlen : e.args.length ≤ 5000 := by have := args_le h; omega
    have hli : (e.args.length : Int) ≤ 5000 := by omega
    have HPA := Lib.hid (fun x (hx : x ∈ e.args) => pre_arg (d := d) hx)
    have HSZ := Lib.hid hsz
    have CF := Lib.hid (fun W (b : Below w.heap.size w W) => rfits_any l v e.want W hpl.len (hpl.sl.keep b) hpl.nm)
    obtain ⟨h1, h2, h3, h4⟩ := h
    have HI := Lib.hid (fun x (hx : x ∈ e.args) W (k : Below w.heap.size w W) => ih l v x B W (hpl.keep k) ((h4 x hx).keep (k.mono hB)) (Nat.le_trans hB k.size) (by have h5 := HPA.out x hx; have := HSZ.out; omega))
    obtain ⟨A1, c1, rfl, _⟩ := ps_cases hpl.sl
    obtain ⟨A, hA⟩ : ∃ A, A = e.a := ⟨_, rfl⟩
    rw [← hA] at h3
    have HR := Lib.hid h3
    have HB := Lib.hid hB
    have BX := Lib.hid (below_new w (.cells #[.int .i64 e.op, .int .i64 (e.want 0), .int .i64 (e.want 1), .int .i64 (e.want 2), .int .i64 (e.want 3), .int .i64 (e.want 4), .int .i64 (e.want 5), .int .i64 e.value, .slice A e.args.length e.c] 27))
    have KX := Lib.hid (Blk.new w 27 #[.int .i64 e.op, .int .i64 (e.want 0), .int .i64 (e.want 1), .int .i64 (e.want 2), .int .i64 (e.want 3), .int .i64 (e.want 4), .int .i64 (e.want 5), .int .i64 e.value, .slice A e.args.length e.c])
    have HF : Hid (fitsF l (d + 1) e = (rfitsB e.want l && e.args.all (fitsF l d))) := rfl
    obtain ⟨R, hR⟩ : ∃ R, R = fitsF l (d + 1) e := ⟨_, rfl⟩
    have HRR := Lib.hid (hR.trans HF.out)
    rw [← hR]
    obtain ⟨fb, hfb⟩ : ∃ fb, fb = rfitsB e.want l := ⟨_, rfl⟩
    rw [← hfb] at CF HRR
    unfold arr at CF
    unfold Tree.val
    rw [← hA]
    clear ih h1 h2 h3 h4 hB hR hsz HPA hlen hA hpl HF hfb
    go_enter Tryd.func26, Tryd.ntmps26
    have z0 := KX.out.cell 0
    have z1 := KX.out.cell 1
    have z2 := KX.out.cell 2
    have z3 := KX.out.cell 3
    have z4 := KX.out.cell 4
    have z5 := KX.out.cell 5
    have z6 := KX.out.cell 6
    have z7 := KX.out.cell 7
    have z8 := KX.out.cell 8
    have zl := KX.out.lt
    go_wp2_with fail
    refine (CF.out _ BX.out).mono ?_
    rintro r w1 ⟨rfl, d1⟩
    have K1 := Lib.hid (KX.out.below' d1)
    have B1 := Lib.hid (chain0 BX.out d1)
    clear d1 KX BX CF
    clear z0 z1 z2 z3 z4 z5 z6 z7 z8 zl
    cases fb with
    | false =>
      go_wp2_with fail
      go_ret
      exact ⟨by rw [HRR.out]; rfl, B1.out⟩
    | true =>
    go_wp2_with fail
    go_loopw [5] (fun iv wr => ∃ k : Nat, k ≤ e.args.length ∧ iv = .int .i64 (k : Int) ∧ Hid (∀ j (hj : j < e.args.length), j < k → fitsF l d e.args[j] = true) ∧ Hid (Below w.heap.size w wr) ∧ Hid (Blk wr w.heap.size 27 #[.int .i64 e.op, .int .i64 (e.want 0), .int .i64 (e.want 1), .int .i64 (e.want 2), .int .i64 (e.want 3), .int .i64 (e.want 4), .int .i64 (e.want 5), .int .i64 e.value, .slice A e.args.length e.c])) (fun iv _ => e.args.length - (intOf iv).toNat)
    case atStart => exact ⟨0, Nat.zero_le _, rfl, (fun j _ h => absurd h (Nat.not_lt_zero _)), B1.out, K1.out⟩
    case round =>
      clear B1 K1
      obtain ⟨k, hk, rfl, HJ, HW, HK⟩ := hrel
      have hk0 : (0 : Int) ≤ (k : Int) := by omega
      have z8 := HK.out.cell 8
      have zl := HK.out.lt
      by_cases hkn : k < e.args.length
      · have hd1 : decide (k < e.args.length) = true := decide_eq_true hkn
        have hd2 : decide ((k : Int) < (e.args.length : Int)) = true := decide_eq_true (by omega)
        have hkn1 : (k : Int) < (e.args.length : Int) := by omega
        obtain ⟨b, o, e1, hb, hrow⟩ := HR.out (by omega)
        have hat := tree_at (Row.keepB hrow hb (HW.out.mono HB.out)) k hkn
        have hbr : b < wr.heap.size := Nat.lt_of_lt_of_le hb (Nat.le_trans HB.out HW.out.size)
        have HIK := Lib.hid (HI.out e.args[k] (List.getElem_mem hkn))
        obtain ⟨fx, hfx⟩ : ∃ fx, fx = fitsF l d e.args[k] := ⟨_, rfl⟩
        rw [← hfx] at HIK
        have HFX := Lib.hid hfx
        have HST : Hid (fx = false → e.args.all (fitsF l d) = false) := by
          intro h
          rw [List.all_eq_false]
          exact ⟨e.args[k], List.getElem_mem hkn, by rw [← HFX.out, h]; simp⟩
        have HGO : Hid (fx = true → ∀ j (hj : j < e.args.length), j < k + 1 → fitsF l d e.args[j] = true) := by
          intro h j hj hjk
          by_cases q : j = k
          · subst q; rw [← HFX.out]; exact h
          · exact HJ.out j hj (by omega)
        clear hfx HFX
        generalize e.args[k] = x at *
        unfold Tree.val at HIK
        clear hrow hb
        subst e1
        go_wp2_with fail
        refine (HIK.out _ HW.out).mono ?_
        rintro r w2 ⟨rfl, d2⟩
        have HW2 := Lib.hid (chain0 HW.out d2)
        have HK2 := Lib.hid (HK.out.below' d2)
        clear d2 hat hbr z8 zl HW HK HIK
        cases fx with
        | false =>
          have HE := Lib.hid (HST.out (by first | rfl | trivial))
          go_wp2_with fail
          go_ret
          exact ⟨by rw [HRR.out, HE.out]; rfl, HW2.out⟩
        | true =>
          have HJ2 := Lib.hid (HGO.out (by first | rfl | trivial))
          go_wp2_with fail
          go_roundw
          case rel => exact ⟨k + 1, hkn, by go_num, HJ2.out, HW2.out, HK2.out⟩
          case measure => simp [intOf]; omega
      · obtain rfl : k = e.args.length := by omega
        have hd1 : decide (e.args.length < e.args.length) = false := decide_eq_false (Nat.lt_irrefl _)
        have hd2 : decide ((e.args.length : Int) < (e.args.length : Int)) = false := decide_eq_false (Int.lt_irrefl _)
        have HE : Hid (e.args.all (fitsF l d) = true) := by
          show _ = _
          rw [List.all_eq_true]
          intro x hx
          obtain ⟨j, hj, rfl⟩ := List.getElem_of_mem hx
          exact HJ.out j hj hj
        go_wp2_with fail
        go_ret
        exact ⟨by rw [HRR.out, HE.out]; rfl, HW.out⟩

end Go.Proofs.YtjjlhihocllgjaaDoor.Ex
