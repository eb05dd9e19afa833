/- The reference's text and Format. Printed by gen_exC.py. -/
import Derived.Test.YtjjlhihocllgjaaDoorExB
namespace Go.Proofs.YtjjlhihocllgjaaDoor.Ex
open Go.ChangeShapes Go.WideShapes Go.ChangeAt Go.RowKit Gn Cat Lex
set_option linter.unusedVariables false
set_option linter.unusedSimpArgs false
attribute [local go_sem] later_cell
abbrev StrPost (s : ByteArray) (w : World) : Ending → World → Prop := fun r w' => r = .returned (.string s) ∧ Below w.heap.size w w'
theorem xor_word : (⟨#[120, 111, 114, 40]⟩ : ByteArray) = ⟨#[120, 111, 114]⟩ ++ ⟨#[40]⟩ := by decide
theorem or_word : (⟨#[111, 114, 40]⟩ : ByteArray) = ⟨#[111, 114]⟩ ++ ⟨#[40]⟩ := by decide
theorem app_assoc (a b c : ByteArray) : a ++ b ++ c = a ++ (b ++ c) := ByteArray.append_assoc

set_option maxHeartbeats 8000000 in
set_option maxRecDepth 100000 in
theorem rtext_1 (d : Nat) (ih : ∀ (l : List Prod) (v : Value) (e : Tree) (B : Nat) (w : World), PL w v l → Tab w → In d B w e → B ≤ w.heap.size → errN (preF d e) = 0 → (preF d e).length ≤ 40 → Calls Tryd.prog 27 #[v, e.val] w (StrPost (textF l d e).1 w)) (l : List Prod) (v : Value) (e : Tree) (B : Nat) (w : World) (hpl : PL w v l) (ht : Tab w) (h : In (d + 1) B w e) (hB : B ≤ w.heap.size) (he : errN (preF (d + 1) e) = 0) (hsz : (preF (d + 1) e).length ≤ 40) (hop : e.op = 1) : Calls Tryd.prog 27 #[v, e.val] w (StrPost (textF l (d + 1) e).1 w) := by
  obtain ⟨hf, hr, ha⟩ := err_parts he
  have hn8 := form_args hf
  have hli : (e.args.length : Int) ≤ 8 := by omega
  have HVA := Lib.hid (fun (h2 : (1 : Int) ≠ 2) (h3 : (1 : Int) ≠ 3) => (show 0 ≤ e.value ∧ e.value ≤ 1000000 by have := range_val hr (by rw [hop]; exact h2) (by rw [hop]; exact h3); omega))
  have HPR := Lib.hid (fun W (b : Below w.heap.size w W) => rformat_any l v e.want W hpl.len (hpl.sl.keep b) hpl.nm)
  have HFI := Lib.hid (fun hv W => rnum_int e.value W hv)
  have HPA := fun x (hx : x ∈ e.args) => pre_arg (d := d) hx
  have HTL := Lib.hid (fun x (hx : x ∈ e.args) => (show (textF l d x).1.size ≤ 200000 by
    have h1 := text_len l d x (ha x hx)
    have h2 := HPA x hx
    have h3 : 5000 * (preF d x).length ≤ 5000 * 40 := Nat.mul_le_mul_left _ (by omega)
    omega))
  have HI := Lib.hid (fun x (hx : x ∈ e.args) W (k : Below w.heap.size w W) => ih l v x B W (hpl.keep k) (ht.keep k) ((h.2.2.2 x hx).keep (k.mono hB)) (Nat.le_trans hB k.size) (ha x hx) (by have := HPA x hx; omega))
  have h3 := h.2.2.1
  obtain ⟨A1, c1, rfl, _⟩ := ps_cases hpl.sl
  obtain ⟨A, hA⟩ : ∃ A, A = e.a := ⟨_, rfl⟩
  rw [← hA] at h3
  have HR := Lib.hid h3
  have HB := Lib.hid hB
  have BX := Lib.hid (below_new w (.cells #[.int .i64 e.op, .int .i64 (e.want 0), .int .i64 (e.want 1), .int .i64 (e.want 2), .int .i64 (e.want 3), .int .i64 (e.want 4), .int .i64 (e.want 5), .int .i64 e.value, .slice A e.args.length e.c] 27))
  have KX := Lib.hid (Blk.new w 27 #[.int .i64 e.op, .int .i64 (e.want 0), .int .i64 (e.want 1), .int .i64 (e.want 2), .int .i64 (e.want 3), .int .i64 (e.want 4), .int .i64 (e.want 5), .int .i64 e.value, .slice A e.args.length e.c])
  have HMS := Lib.hid (fun k (hk : k < e.args.length) => map_snoc (fun x => (textF l d x).1) e.args k hk)
  have HTK := Lib.hid (fun k (hk : k < e.args.length) => List.take_succ_eq_append_getElem hk)
  obtain ⟨R, hR⟩ : ∃ R, R = (textF l (d + 1) e).1 := ⟨_, rfl⟩
  have HRR : Hid (R = ((priceT l e, rfitsB e.want l) : ByteArray × Bool).1) := by show _ = _; rw [hR, textF, hop]; rfl
  rw [← hR]
  have o1 : (e.op == (1 : Int)) = true := by rw [hop]; rfl
  have o2 : (e.op == (2 : Int)) = false := by rw [hop]; rfl
  have o3 : (e.op == (3 : Int)) = false := by rw [hop]; rfl
  have o4 : (e.op == (4 : Int)) = false := by rw [hop]; rfl
  have o5 : (e.op == (5 : Int)) = false := by rw [hop]; rfl
  unfold StrPost
  unfold Tree.val
  rw [← hA]
  clear ih h3 hB hA hR hpl ht h he hsz hf hr ha hn8 HPA hop
  have HVL := Lib.hid (HVA.out (by decide) (by decide))
  obtain ⟨fs, hfs⟩ : ∃ fs, fs = fmtS e.want l := ⟨_, rfl⟩
  obtain ⟨dv, hdv⟩ : ∃ dv, dv = decS e.value := ⟨_, rfl⟩
  have hfl : fs.size ≤ 4000 := by rw [hfs]; exact fmt_len _ _
  have hdl : dv.size ≤ 21 := by rw [hdv]; exact decS_size HVL.out
  have HFI2 := Lib.hid (HFI.out HVL.out)
  rw [← hfs] at HPR
  rw [← hdv] at HFI2
  unfold arr at HPR
  obtain ⟨p1, hp1⟩ : ∃ p1, p1 = fs ++ ⟨#[64]⟩ := ⟨_, rfl⟩
  obtain ⟨p2, hp2⟩ : ∃ p2, p2 = p1 ++ dv := ⟨_, rfl⟩
  have y1 : p1.size = fs.size + 1 := by rw [hp1, app_size]; rfl
  have q1 := add_to hp1 (show _ + 1 ≤ _ by omega)
  have q2 := add_to hp2 (by omega)
  have HV : Hid (R = p2) := by show _ = _; rw [HRR.out, hp2, hp1, hfs, hdv]; rfl
  clear hp1 hp2 y1 hfs hdv hfl hdl
  go_enter Tryd.func27, Tryd.ntmps27
  obtain ⟨wr, hwr⟩ : ∃ wr, wr = w.alloc (.cells #[.int .i64 e.op, .int .i64 (e.want 0), .int .i64 (e.want 1), .int .i64 (e.want 2), .int .i64 (e.want 3), .int .i64 (e.want 4), .int .i64 (e.want 5), .int .i64 e.value, .slice A e.args.length e.c] 27) := ⟨_, rfl⟩
  rw [← hwr] at BX KX
  have HWR := Lib.hid hwr
  have FR := Lib.hid (fun q => HPR.out (later wr q) (chain0 BX.out (later_below wr q)))
  have FN := Lib.hid (fun q => HFI2.out (later wr q))
  clear hwr HPR HFI2
  go_wp2_with fail
  rw [← HWR.out]
  have z0 := KX.out.cell 0
  have z1 := KX.out.cell 1
  have z2 := KX.out.cell 2
  have z3 := KX.out.cell 3
  have z4 := KX.out.cell 4
  have z5 := KX.out.cell 5
  have z6 := KX.out.cell 6
  have z7 := KX.out.cell 7
  have z8 := KX.out.cell 8
  have zl := KX.out.lt
  refine wp_region_later (by kernel_rfl) (by kernel_rfl) ?_
  repeat (first | go_big_quiet_step (first | (go_at_call 63; exact calls_later (FR.out _)) | (go_at_call 64; exact calls_later (FN.out _))) | quiet_step (first | (go_at_call 63; exact calls_later (FR.out _)) | (go_at_call 64; exact calls_later (FN.out _))))
  refine wpQuiet_nil ?_
  rintro _ ⟨y, rfl⟩
  have HW2 := Lib.hid (chain0 BX.out (later_below wr y))
  go_wp2_with fail
  go_ret
  exact ⟨by rw [HV.out]; rfl, HW2.out⟩

set_option maxHeartbeats 8000000 in
set_option maxRecDepth 100000 in
theorem rtext_2 (d : Nat) (ih : ∀ (l : List Prod) (v : Value) (e : Tree) (B : Nat) (w : World), PL w v l → Tab w → In d B w e → B ≤ w.heap.size → errN (preF d e) = 0 → (preF d e).length ≤ 40 → Calls Tryd.prog 27 #[v, e.val] w (StrPost (textF l d e).1 w)) (l : List Prod) (v : Value) (e : Tree) (B : Nat) (w : World) (hpl : PL w v l) (ht : Tab w) (h : In (d + 1) B w e) (hB : B ≤ w.heap.size) (he : errN (preF (d + 1) e) = 0) (hsz : (preF (d + 1) e).length ≤ 40) (hop : e.op = 2) : Calls Tryd.prog 27 #[v, e.val] w (StrPost (textF l (d + 1) e).1 w) := by
  obtain ⟨hf, hr, ha⟩ := err_parts he
  have hn8 := form_args hf
  have hli : (e.args.length : Int) ≤ 8 := by omega
  have HVA := Lib.hid (fun (h2 : (2 : Int) ≠ 2) (h3 : (2 : Int) ≠ 3) => (show 0 ≤ e.value ∧ e.value ≤ 1000000 by have := range_val hr (by rw [hop]; exact h2) (by rw [hop]; exact h3); omega))
  have HPR := Lib.hid (fun W (b : Below w.heap.size w W) => rformat_any l v e.want W hpl.len (hpl.sl.keep b) hpl.nm)
  have HFI := Lib.hid (fun hv W => rnum_int e.value W hv)
  have HPA := fun x (hx : x ∈ e.args) => pre_arg (d := d) hx
  have HTL := Lib.hid (fun x (hx : x ∈ e.args) => (show (textF l d x).1.size ≤ 200000 by
    have h1 := text_len l d x (ha x hx)
    have h2 := HPA x hx
    have h3 : 5000 * (preF d x).length ≤ 5000 * 40 := Nat.mul_le_mul_left _ (by omega)
    omega))
  have HI := Lib.hid (fun x (hx : x ∈ e.args) W (k : Below w.heap.size w W) => ih l v x B W (hpl.keep k) (ht.keep k) ((h.2.2.2 x hx).keep (k.mono hB)) (Nat.le_trans hB k.size) (ha x hx) (by have := HPA x hx; omega))
  have h3 := h.2.2.1
  obtain ⟨A1, c1, rfl, _⟩ := ps_cases hpl.sl
  obtain ⟨A, hA⟩ : ∃ A, A = e.a := ⟨_, rfl⟩
  rw [← hA] at h3
  have HR := Lib.hid h3
  have HB := Lib.hid hB
  have BX := Lib.hid (below_new w (.cells #[.int .i64 e.op, .int .i64 (e.want 0), .int .i64 (e.want 1), .int .i64 (e.want 2), .int .i64 (e.want 3), .int .i64 (e.want 4), .int .i64 (e.want 5), .int .i64 e.value, .slice A e.args.length e.c] 27))
  have KX := Lib.hid (Blk.new w 27 #[.int .i64 e.op, .int .i64 (e.want 0), .int .i64 (e.want 1), .int .i64 (e.want 2), .int .i64 (e.want 3), .int .i64 (e.want 4), .int .i64 (e.want 5), .int .i64 e.value, .slice A e.args.length e.c])
  have HMS := Lib.hid (fun k (hk : k < e.args.length) => map_snoc (fun x => (textF l d x).1) e.args k hk)
  have HTK := Lib.hid (fun k (hk : k < e.args.length) => List.take_succ_eq_append_getElem hk)
  obtain ⟨R, hR⟩ : ∃ R, R = (textF l (d + 1) e).1 := ⟨_, rfl⟩
  have HRR : Hid (R = ((⟨#[120, 111, 114]⟩ ++ ⟨#[40]⟩ ++ innK (e.args.map fun x => (textF l d x).1) ++ ⟨#[41]⟩, e.args.all fun x => (textF l d x).2) : ByteArray × Bool).1) := by show _ = _; rw [hR, textF, hop]; rfl
  rw [← hR]
  have o1 : (e.op == (1 : Int)) = false := by rw [hop]; rfl
  have o2 : (e.op == (2 : Int)) = true := by rw [hop]; rfl
  have o3 : (e.op == (3 : Int)) = false := by rw [hop]; rfl
  have o4 : (e.op == (4 : Int)) = false := by rw [hop]; rfl
  have o5 : (e.op == (5 : Int)) = false := by rw [hop]; rfl
  unfold StrPost
  unfold Tree.val
  rw [← hA]
  clear ih h3 hB hA hR hpl ht h he hsz hf hr ha hn8 HPA hop
  go_enter Tryd.func27, Tryd.ntmps27
  have z0 := KX.out.cell 0
  have z1 := KX.out.cell 1
  have z2 := KX.out.cell 2
  have z3 := KX.out.cell 3
  have z4 := KX.out.cell 4
  have z5 := KX.out.cell 5
  have z6 := KX.out.cell 6
  have z7 := KX.out.cell 7
  have z8 := KX.out.cell 8
  have zl := KX.out.lt
  go_wp2_with fail
  clear z0 z1 z2 z3 z4 z5 z6 z7 z8 zl
  go_loopw [6, 5] (fun iv tv wr => ∃ (k : Nat) (t : ByteArray), k ≤ e.args.length ∧ iv = .int .i64 (k : Int) ∧ tv = .string t ∧ Hid (t = innK ((e.args.take k).map fun x => (textF l d x).1)) ∧ Hid (t.size ≤ k * 200001) ∧ Hid (Below w.heap.size w wr) ∧ Hid (Blk wr w.heap.size 27 #[.int .i64 e.op, .int .i64 (e.want 0), .int .i64 (e.want 1), .int .i64 (e.want 2), .int .i64 (e.want 3), .int .i64 (e.want 4), .int .i64 (e.want 5), .int .i64 e.value, .slice A e.args.length e.c])) (fun iv _ _ => e.args.length - (intOf iv).toNat)
  case atStart => exact ⟨0, ⟨#[]⟩, Nat.zero_le _, rfl, rfl, rfl, Nat.le_refl 0, BX.out, KX.out⟩
  case round =>
    clear BX KX
    obtain ⟨k, t, hk, rfl, rfl, HT, HTS0, HW, HK⟩ := hrel
    have hk0 : (0 : Int) ≤ (k : Int) := by omega
    by_cases hkn : k < e.args.length
    · have hd1 : decide (k < e.args.length) = true := decide_eq_true hkn
      have hd2 : decide ((k : Int) < (e.args.length : Int)) = true := decide_eq_true (by omega)
      have hkn1 : (k : Int) < (e.args.length : Int) := by omega
      obtain ⟨b, o, e1, hb, hrow⟩ := HR.out (by omega)
      have hat := tree_at (Row.keepB hrow hb (HW.out.mono HB.out)) k hkn
      have hbr : b < wr.heap.size := Nat.lt_of_lt_of_le hb (Nat.le_trans HB.out HW.out.size)
      have HIK := Lib.hid (HI.out e.args[k] (List.getElem_mem hkn))
      have HLK := Lib.hid (HTL.out e.args[k] (List.getElem_mem hkn))
      have HM1 := Lib.hid (HMS.out k hkn)
      generalize e.args[k] = x at *
      obtain ⟨sx, hsx⟩ : ∃ sx, sx = (textF l d x).1 := ⟨_, rfl⟩
      unfold StrPost at HIK
      rw [← hsx] at HIK HLK HM1
      have HLT : (e.args.take k).length = k := by rw [List.length_take]; omega
      have HT2 : Hid (innK ((e.args.take (k + 1)).map fun x => (textF l d x).1) = if k = 0 then ⟨#[]⟩ ++ sx else t ++ ⟨#[44]⟩ ++ sx) := by
        show _ = _
        rw [HM1.out, inn_snoc, ← HT.out]
        rw [List.length_map, HLT]
      clear hrow hb hsx HLT
      subst e1
      unfold Tree.val at HIK
      have z8 := HK.out.cell 8
      have zl := HK.out.lt
      by_cases hk00 : k = 0
      · have hd3 : decide ((0 : Int) < (k : Int)) = false := decide_eq_false (by omega)
        have hd4 : decide (0 < k) = false := decide_eq_false (by omega)
        have ht0 : t = ⟨#[]⟩ := by rw [HT.out, hk00]; rfl
        have HT3 : Hid (t ++ sx = innK ((e.args.take (k + 1)).map fun x => (textF l d x).1)) := by show _ = _; rw [HT2.out, if_pos hk00, ht0]
        obtain ⟨t2, ht2⟩ : ∃ t2, t2 = t ++ sx := ⟨_, rfl⟩
        rw [← ht2] at HT3
        have hs2 : t2.size = t.size + sx.size := by rw [ht2, app_size]
        have q1 := add_to ht2 (by have := HTS0.out; have := HLK.out; have : k * 200001 = 0 := by rw [hk00, Nat.zero_mul]
                                  omega)
        have HS2 : Hid (t2.size ≤ (k + 1) * 200001) := by show _ ≤ _; have := HTS0.out; have := HLK.out; have : k * 200001 = 0 := by rw [hk00, Nat.zero_mul]
                                                          omega
        clear ht2 hs2 ht0 hk00
        go_wp2_with fail
        refine (HIK.out _ HW.out).mono ?_
        rintro r w5 ⟨rfl, d5⟩
        have HW5 := Lib.hid (chain0 HW.out d5)
        have HK5 := Lib.hid (HK.out.below' d5)
        clear d5 hat hbr HW HK HIK z8 zl
        go_wp2_with fail
        go_roundw
        case rel => exact ⟨k + 1, t2, hkn, by go_num, rfl, HT3.out, HS2.out, HW5.out, HK5.out⟩
        case measure => simp [intOf]; omega
      · have hd3 : decide ((0 : Int) < (k : Int)) = true := decide_eq_true (by omega)
        have hd4 : decide (0 < k) = true := decide_eq_true (by omega)
        obtain ⟨t1, ht1⟩ : ∃ t1, t1 = t ++ ⟨#[44]⟩ := ⟨_, rfl⟩
        obtain ⟨t2, ht2⟩ : ∃ t2, t2 = t1 ++ sx := ⟨_, rfl⟩
        have HT3 : Hid (t2 = innK ((e.args.take (k + 1)).map fun x => (textF l d x).1)) := by show _ = _; rw [HT2.out, if_neg hk00, ht2, ht1]
        have hs1 : t1.size = t.size + 1 := by rw [ht1, app_size]; rfl
        have hs2 : t2.size = t1.size + sx.size := by rw [ht2, app_size]
        have hkm : k * 200001 ≤ 1600008 := by have : k ≤ 8 := by omega
                                              omega
        have q1 := add_to ht1 (show _ + 1 ≤ _ by have := HTS0.out; omega)
        have q2 := add_to ht2 (by have := HTS0.out; have := HLK.out; omega)
        have HS2 : Hid (t2.size ≤ (k + 1) * 200001) := by show _ ≤ _; have := HTS0.out; have := HLK.out; omega
        clear ht1 ht2 hs1 hs2 hk00 hkm
        go_wp2_with fail
        refine (HIK.out _ HW.out).mono ?_
        rintro r w5 ⟨rfl, d5⟩
        have HW5 := Lib.hid (chain0 HW.out d5)
        have HK5 := Lib.hid (HK.out.below' d5)
        clear d5 hat hbr HW HK HIK z8 zl
        go_wp2_with fail
        go_roundw
        case rel => exact ⟨k + 1, t2, hkn, by go_num, rfl, HT3.out, HS2.out, HW5.out, HK5.out⟩
        case measure => simp [intOf]; omega
    · obtain rfl : k = e.args.length := by omega
      have hd1 : decide (e.args.length < e.args.length) = false := decide_eq_false (Nat.lt_irrefl _)
      have hd2 : decide ((e.args.length : Int) < (e.args.length : Int)) = false := decide_eq_false (Int.lt_irrefl _)
      have HTS : Hid (t.size ≤ 1600008) := by show _ ≤ _; have := HTS0.out; omega
      clear HTS0
      have z0 := HK.out.cell 0
      have z1 := HK.out.cell 1
      have z2 := HK.out.cell 2
      have z3 := HK.out.cell 3
      have z4 := HK.out.cell 4
      have z5 := HK.out.cell 5
      have z6 := HK.out.cell 6
      have z7 := HK.out.cell 7
      have z8 := HK.out.cell 8
      have zl := HK.out.lt
      obtain ⟨u1, hu1⟩ : ∃ u1 : ByteArray, u1 = ⟨#[120, 111, 114, 40]⟩ ++ t := ⟨_, rfl⟩
      obtain ⟨u2, hu2⟩ : ∃ u2 : ByteArray, u2 = u1 ++ ⟨#[41]⟩ := ⟨_, rfl⟩
      have y1 : u1.size ≤ 4 + t.size := by rw [hu1, app_size]; show _ + _ ≤ _; exact Nat.add_le_add_right (by decide) _
      have q1 := add_to hu1 (by have := HTS.out; have h4 : (⟨#[120, 111, 114, 40]⟩ : ByteArray).size ≤ 4 := by decide
                                omega)
      have q2 := add_to hu2 (show _ + 1 ≤ _ by have := HTS.out; omega)
      have HV : Hid (R = u2) := by show _ = _; rw [HRR.out, hu2, hu1, xor_word, HT.out, List.take_length]
      clear hu1 hu2 y1
      go_wp2_with fail
      go_ret
      exact ⟨by rw [HV.out]; rfl, HW.out⟩

set_option maxHeartbeats 8000000 in
set_option maxRecDepth 100000 in
theorem rtext_3 (d : Nat) (ih : ∀ (l : List Prod) (v : Value) (e : Tree) (B : Nat) (w : World), PL w v l → Tab w → In d B w e → B ≤ w.heap.size → errN (preF d e) = 0 → (preF d e).length ≤ 40 → Calls Tryd.prog 27 #[v, e.val] w (StrPost (textF l d e).1 w)) (l : List Prod) (v : Value) (e : Tree) (B : Nat) (w : World) (hpl : PL w v l) (ht : Tab w) (h : In (d + 1) B w e) (hB : B ≤ w.heap.size) (he : errN (preF (d + 1) e) = 0) (hsz : (preF (d + 1) e).length ≤ 40) (hop : e.op = 3) : Calls Tryd.prog 27 #[v, e.val] w (StrPost (textF l (d + 1) e).1 w) := by
  obtain ⟨hf, hr, ha⟩ := err_parts he
  have hn8 := form_args hf
  have hli : (e.args.length : Int) ≤ 8 := by omega
  have HVA := Lib.hid (fun (h2 : (3 : Int) ≠ 2) (h3 : (3 : Int) ≠ 3) => (show 0 ≤ e.value ∧ e.value ≤ 1000000 by have := range_val hr (by rw [hop]; exact h2) (by rw [hop]; exact h3); omega))
  have HPR := Lib.hid (fun W (b : Below w.heap.size w W) => rformat_any l v e.want W hpl.len (hpl.sl.keep b) hpl.nm)
  have HFI := Lib.hid (fun hv W => rnum_int e.value W hv)
  have HPA := fun x (hx : x ∈ e.args) => pre_arg (d := d) hx
  have HTL := Lib.hid (fun x (hx : x ∈ e.args) => (show (textF l d x).1.size ≤ 200000 by
    have h1 := text_len l d x (ha x hx)
    have h2 := HPA x hx
    have h3 : 5000 * (preF d x).length ≤ 5000 * 40 := Nat.mul_le_mul_left _ (by omega)
    omega))
  have HI := Lib.hid (fun x (hx : x ∈ e.args) W (k : Below w.heap.size w W) => ih l v x B W (hpl.keep k) (ht.keep k) ((h.2.2.2 x hx).keep (k.mono hB)) (Nat.le_trans hB k.size) (ha x hx) (by have := HPA x hx; omega))
  have h3 := h.2.2.1
  obtain ⟨A1, c1, rfl, _⟩ := ps_cases hpl.sl
  obtain ⟨A, hA⟩ : ∃ A, A = e.a := ⟨_, rfl⟩
  rw [← hA] at h3
  have HR := Lib.hid h3
  have HB := Lib.hid hB
  have BX := Lib.hid (below_new w (.cells #[.int .i64 e.op, .int .i64 (e.want 0), .int .i64 (e.want 1), .int .i64 (e.want 2), .int .i64 (e.want 3), .int .i64 (e.want 4), .int .i64 (e.want 5), .int .i64 e.value, .slice A e.args.length e.c] 27))
  have KX := Lib.hid (Blk.new w 27 #[.int .i64 e.op, .int .i64 (e.want 0), .int .i64 (e.want 1), .int .i64 (e.want 2), .int .i64 (e.want 3), .int .i64 (e.want 4), .int .i64 (e.want 5), .int .i64 e.value, .slice A e.args.length e.c])
  have HMS := Lib.hid (fun k (hk : k < e.args.length) => map_snoc (fun x => (textF l d x).1) e.args k hk)
  have HTK := Lib.hid (fun k (hk : k < e.args.length) => List.take_succ_eq_append_getElem hk)
  obtain ⟨R, hR⟩ : ∃ R, R = (textF l (d + 1) e).1 := ⟨_, rfl⟩
  have HRR : Hid (R = ((⟨#[111, 114]⟩ ++ ⟨#[40]⟩ ++ innK (e.args.map fun x => (textF l d x).1) ++ ⟨#[41]⟩, e.args.all fun x => (textF l d x).2) : ByteArray × Bool).1) := by show _ = _; rw [hR, textF, hop]; rfl
  rw [← hR]
  have o1 : (e.op == (1 : Int)) = false := by rw [hop]; rfl
  have o2 : (e.op == (2 : Int)) = false := by rw [hop]; rfl
  have o3 : (e.op == (3 : Int)) = true := by rw [hop]; rfl
  have o4 : (e.op == (4 : Int)) = false := by rw [hop]; rfl
  have o5 : (e.op == (5 : Int)) = false := by rw [hop]; rfl
  unfold StrPost
  unfold Tree.val
  rw [← hA]
  clear ih h3 hB hA hR hpl ht h he hsz hf hr ha hn8 HPA hop
  go_enter Tryd.func27, Tryd.ntmps27
  have z0 := KX.out.cell 0
  have z1 := KX.out.cell 1
  have z2 := KX.out.cell 2
  have z3 := KX.out.cell 3
  have z4 := KX.out.cell 4
  have z5 := KX.out.cell 5
  have z6 := KX.out.cell 6
  have z7 := KX.out.cell 7
  have z8 := KX.out.cell 8
  have zl := KX.out.lt
  go_wp2_with fail
  clear z0 z1 z2 z3 z4 z5 z6 z7 z8 zl
  go_loopw [6, 5] (fun iv tv wr => ∃ (k : Nat) (t : ByteArray), k ≤ e.args.length ∧ iv = .int .i64 (k : Int) ∧ tv = .string t ∧ Hid (t = innK ((e.args.take k).map fun x => (textF l d x).1)) ∧ Hid (t.size ≤ k * 200001) ∧ Hid (Below w.heap.size w wr) ∧ Hid (Blk wr w.heap.size 27 #[.int .i64 e.op, .int .i64 (e.want 0), .int .i64 (e.want 1), .int .i64 (e.want 2), .int .i64 (e.want 3), .int .i64 (e.want 4), .int .i64 (e.want 5), .int .i64 e.value, .slice A e.args.length e.c])) (fun iv _ _ => e.args.length - (intOf iv).toNat)
  case atStart => exact ⟨0, ⟨#[]⟩, Nat.zero_le _, rfl, rfl, rfl, Nat.le_refl 0, BX.out, KX.out⟩
  case round =>
    clear BX KX
    obtain ⟨k, t, hk, rfl, rfl, HT, HTS0, HW, HK⟩ := hrel
    have hk0 : (0 : Int) ≤ (k : Int) := by omega
    by_cases hkn : k < e.args.length
    · have hd1 : decide (k < e.args.length) = true := decide_eq_true hkn
      have hd2 : decide ((k : Int) < (e.args.length : Int)) = true := decide_eq_true (by omega)
      have hkn1 : (k : Int) < (e.args.length : Int) := by omega
      obtain ⟨b, o, e1, hb, hrow⟩ := HR.out (by omega)
      have hat := tree_at (Row.keepB hrow hb (HW.out.mono HB.out)) k hkn
      have hbr : b < wr.heap.size := Nat.lt_of_lt_of_le hb (Nat.le_trans HB.out HW.out.size)
      have HIK := Lib.hid (HI.out e.args[k] (List.getElem_mem hkn))
      have HLK := Lib.hid (HTL.out e.args[k] (List.getElem_mem hkn))
      have HM1 := Lib.hid (HMS.out k hkn)
      generalize e.args[k] = x at *
      obtain ⟨sx, hsx⟩ : ∃ sx, sx = (textF l d x).1 := ⟨_, rfl⟩
      unfold StrPost at HIK
      rw [← hsx] at HIK HLK HM1
      have HLT : (e.args.take k).length = k := by rw [List.length_take]; omega
      have HT2 : Hid (innK ((e.args.take (k + 1)).map fun x => (textF l d x).1) = if k = 0 then ⟨#[]⟩ ++ sx else t ++ ⟨#[44]⟩ ++ sx) := by
        show _ = _
        rw [HM1.out, inn_snoc, ← HT.out]
        rw [List.length_map, HLT]
      clear hrow hb hsx HLT
      subst e1
      unfold Tree.val at HIK
      have z8 := HK.out.cell 8
      have zl := HK.out.lt
      by_cases hk00 : k = 0
      · have hd3 : decide ((0 : Int) < (k : Int)) = false := decide_eq_false (by omega)
        have hd4 : decide (0 < k) = false := decide_eq_false (by omega)
        have ht0 : t = ⟨#[]⟩ := by rw [HT.out, hk00]; rfl
        have HT3 : Hid (t ++ sx = innK ((e.args.take (k + 1)).map fun x => (textF l d x).1)) := by show _ = _; rw [HT2.out, if_pos hk00, ht0]
        obtain ⟨t2, ht2⟩ : ∃ t2, t2 = t ++ sx := ⟨_, rfl⟩
        rw [← ht2] at HT3
        have hs2 : t2.size = t.size + sx.size := by rw [ht2, app_size]
        have q1 := add_to ht2 (by have := HTS0.out; have := HLK.out; have : k * 200001 = 0 := by rw [hk00, Nat.zero_mul]
                                  omega)
        have HS2 : Hid (t2.size ≤ (k + 1) * 200001) := by show _ ≤ _; have := HTS0.out; have := HLK.out; have : k * 200001 = 0 := by rw [hk00, Nat.zero_mul]
                                                          omega
        clear ht2 hs2 ht0 hk00
        go_wp2_with fail
        refine (HIK.out _ HW.out).mono ?_
        rintro r w5 ⟨rfl, d5⟩
        have HW5 := Lib.hid (chain0 HW.out d5)
        have HK5 := Lib.hid (HK.out.below' d5)
        clear d5 hat hbr HW HK HIK z8 zl
        go_wp2_with fail
        go_roundw
        case rel => exact ⟨k + 1, t2, hkn, by go_num, rfl, HT3.out, HS2.out, HW5.out, HK5.out⟩
        case measure => simp [intOf]; omega
      · have hd3 : decide ((0 : Int) < (k : Int)) = true := decide_eq_true (by omega)
        have hd4 : decide (0 < k) = true := decide_eq_true (by omega)
        obtain ⟨t1, ht1⟩ : ∃ t1, t1 = t ++ ⟨#[44]⟩ := ⟨_, rfl⟩
        obtain ⟨t2, ht2⟩ : ∃ t2, t2 = t1 ++ sx := ⟨_, rfl⟩
        have HT3 : Hid (t2 = innK ((e.args.take (k + 1)).map fun x => (textF l d x).1)) := by show _ = _; rw [HT2.out, if_neg hk00, ht2, ht1]
        have hs1 : t1.size = t.size + 1 := by rw [ht1, app_size]; rfl
        have hs2 : t2.size = t1.size + sx.size := by rw [ht2, app_size]
        have hkm : k * 200001 ≤ 1600008 := by have : k ≤ 8 := by omega
                                              omega
        have q1 := add_to ht1 (show _ + 1 ≤ _ by have := HTS0.out; omega)
        have q2 := add_to ht2 (by have := HTS0.out; have := HLK.out; omega)
        have HS2 : Hid (t2.size ≤ (k + 1) * 200001) := by show _ ≤ _; have := HTS0.out; have := HLK.out; omega
        clear ht1 ht2 hs1 hs2 hk00 hkm
        go_wp2_with fail
        refine (HIK.out _ HW.out).mono ?_
        rintro r w5 ⟨rfl, d5⟩
        have HW5 := Lib.hid (chain0 HW.out d5)
        have HK5 := Lib.hid (HK.out.below' d5)
        clear d5 hat hbr HW HK HIK z8 zl
        go_wp2_with fail
        go_roundw
        case rel => exact ⟨k + 1, t2, hkn, by go_num, rfl, HT3.out, HS2.out, HW5.out, HK5.out⟩
        case measure => simp [intOf]; omega
    · obtain rfl : k = e.args.length := by omega
      have hd1 : decide (e.args.length < e.args.length) = false := decide_eq_false (Nat.lt_irrefl _)
      have hd2 : decide ((e.args.length : Int) < (e.args.length : Int)) = false := decide_eq_false (Int.lt_irrefl _)
      have HTS : Hid (t.size ≤ 1600008) := by show _ ≤ _; have := HTS0.out; omega
      clear HTS0
      have z0 := HK.out.cell 0
      have z1 := HK.out.cell 1
      have z2 := HK.out.cell 2
      have z3 := HK.out.cell 3
      have z4 := HK.out.cell 4
      have z5 := HK.out.cell 5
      have z6 := HK.out.cell 6
      have z7 := HK.out.cell 7
      have z8 := HK.out.cell 8
      have zl := HK.out.lt
      obtain ⟨u1, hu1⟩ : ∃ u1 : ByteArray, u1 = ⟨#[111, 114, 40]⟩ ++ t := ⟨_, rfl⟩
      obtain ⟨u2, hu2⟩ : ∃ u2 : ByteArray, u2 = u1 ++ ⟨#[41]⟩ := ⟨_, rfl⟩
      have y1 : u1.size ≤ 4 + t.size := by rw [hu1, app_size]; show _ + _ ≤ _; exact Nat.add_le_add_right (by decide) _
      have q1 := add_to hu1 (by have := HTS.out; have h4 : (⟨#[111, 114, 40]⟩ : ByteArray).size ≤ 4 := by decide
                                omega)
      have q2 := add_to hu2 (show _ + 1 ≤ _ by have := HTS.out; omega)
      have HV : Hid (R = u2) := by show _ = _; rw [HRR.out, hu2, hu1, or_word, HT.out, List.take_length]
      clear hu1 hu2 y1
      go_wp2_with fail
      go_ret
      exact ⟨by rw [HV.out]; rfl, HW.out⟩

set_option maxHeartbeats 8000000 in
set_option maxRecDepth 100000 in
theorem rtext_4 (d : Nat) (ih : ∀ (l : List Prod) (v : Value) (e : Tree) (B : Nat) (w : World), PL w v l → Tab w → In d B w e → B ≤ w.heap.size → errN (preF d e) = 0 → (preF d e).length ≤ 40 → Calls Tryd.prog 27 #[v, e.val] w (StrPost (textF l d e).1 w)) (l : List Prod) (v : Value) (e : Tree) (B : Nat) (w : World) (hpl : PL w v l) (ht : Tab w) (h : In (d + 1) B w e) (hB : B ≤ w.heap.size) (he : errN (preF (d + 1) e) = 0) (hsz : (preF (d + 1) e).length ≤ 40) (hop : e.op = 4) : Calls Tryd.prog 27 #[v, e.val] w (StrPost (textF l (d + 1) e).1 w) := by
  obtain ⟨hf, hr, ha⟩ := err_parts he
  have hn8 := form_args hf
  have hli : (e.args.length : Int) ≤ 8 := by omega
  have HVA := Lib.hid (fun (h2 : (4 : Int) ≠ 2) (h3 : (4 : Int) ≠ 3) => (show 0 ≤ e.value ∧ e.value ≤ 1000000 by have := range_val hr (by rw [hop]; exact h2) (by rw [hop]; exact h3); omega))
  have HPR := Lib.hid (fun W (b : Below w.heap.size w W) => rformat_any l v e.want W hpl.len (hpl.sl.keep b) hpl.nm)
  have HFI := Lib.hid (fun hv W => rnum_int e.value W hv)
  have HPA := fun x (hx : x ∈ e.args) => pre_arg (d := d) hx
  have HTL := Lib.hid (fun x (hx : x ∈ e.args) => (show (textF l d x).1.size ≤ 200000 by
    have h1 := text_len l d x (ha x hx)
    have h2 := HPA x hx
    have h3 : 5000 * (preF d x).length ≤ 5000 * 40 := Nat.mul_le_mul_left _ (by omega)
    omega))
  have HI := Lib.hid (fun x (hx : x ∈ e.args) W (k : Below w.heap.size w W) => ih l v x B W (hpl.keep k) (ht.keep k) ((h.2.2.2 x hx).keep (k.mono hB)) (Nat.le_trans hB k.size) (ha x hx) (by have := HPA x hx; omega))
  have h3 := h.2.2.1
  obtain ⟨A1, c1, rfl, _⟩ := ps_cases hpl.sl
  obtain ⟨A, hA⟩ : ∃ A, A = e.a := ⟨_, rfl⟩
  rw [← hA] at h3
  have HR := Lib.hid h3
  have HB := Lib.hid hB
  have BX := Lib.hid (below_new w (.cells #[.int .i64 e.op, .int .i64 (e.want 0), .int .i64 (e.want 1), .int .i64 (e.want 2), .int .i64 (e.want 3), .int .i64 (e.want 4), .int .i64 (e.want 5), .int .i64 e.value, .slice A e.args.length e.c] 27))
  have KX := Lib.hid (Blk.new w 27 #[.int .i64 e.op, .int .i64 (e.want 0), .int .i64 (e.want 1), .int .i64 (e.want 2), .int .i64 (e.want 3), .int .i64 (e.want 4), .int .i64 (e.want 5), .int .i64 e.value, .slice A e.args.length e.c])
  have HMS := Lib.hid (fun k (hk : k < e.args.length) => map_snoc (fun x => (textF l d x).1) e.args k hk)
  have HTK := Lib.hid (fun k (hk : k < e.args.length) => List.take_succ_eq_append_getElem hk)
  obtain ⟨R, hR⟩ : ∃ R, R = (textF l (d + 1) e).1 := ⟨_, rfl⟩
  have HRR : Hid (R = ((⟨#[98, 111, 110, 117, 115, 40]⟩ ++ innK (e.args.map fun x => (textF l d x).1) ++ ⟨#[44]⟩ ++ priceT l e ++ ⟨#[41]⟩, (e.args.all fun x => (textF l d x).2) && rfitsB e.want l) : ByteArray × Bool).1) := by show _ = _; rw [hR, textF, hop]; rfl
  rw [← hR]
  have o1 : (e.op == (1 : Int)) = false := by rw [hop]; rfl
  have o2 : (e.op == (2 : Int)) = false := by rw [hop]; rfl
  have o3 : (e.op == (3 : Int)) = false := by rw [hop]; rfl
  have o4 : (e.op == (4 : Int)) = true := by rw [hop]; rfl
  have o5 : (e.op == (5 : Int)) = false := by rw [hop]; rfl
  unfold StrPost
  unfold Tree.val
  rw [← hA]
  clear ih h3 hB hA hR hpl ht h he hsz hf hr ha hn8 HPA hop
  go_enter Tryd.func27, Tryd.ntmps27
  have z0 := KX.out.cell 0
  have z1 := KX.out.cell 1
  have z2 := KX.out.cell 2
  have z3 := KX.out.cell 3
  have z4 := KX.out.cell 4
  have z5 := KX.out.cell 5
  have z6 := KX.out.cell 6
  have z7 := KX.out.cell 7
  have z8 := KX.out.cell 8
  have zl := KX.out.lt
  go_wp2_with fail
  clear z0 z1 z2 z3 z4 z5 z6 z7 z8 zl
  go_loopw [6, 5] (fun iv tv wr => ∃ (k : Nat) (t : ByteArray), k ≤ e.args.length ∧ iv = .int .i64 (k : Int) ∧ tv = .string t ∧ Hid (t = innK ((e.args.take k).map fun x => (textF l d x).1)) ∧ Hid (t.size ≤ k * 200001) ∧ Hid (Below w.heap.size w wr) ∧ Hid (Blk wr w.heap.size 27 #[.int .i64 e.op, .int .i64 (e.want 0), .int .i64 (e.want 1), .int .i64 (e.want 2), .int .i64 (e.want 3), .int .i64 (e.want 4), .int .i64 (e.want 5), .int .i64 e.value, .slice A e.args.length e.c])) (fun iv _ _ => e.args.length - (intOf iv).toNat)
  case atStart => exact ⟨0, ⟨#[]⟩, Nat.zero_le _, rfl, rfl, rfl, Nat.le_refl 0, BX.out, KX.out⟩
  case round =>
    clear BX KX
    obtain ⟨k, t, hk, rfl, rfl, HT, HTS0, HW, HK⟩ := hrel
    have hk0 : (0 : Int) ≤ (k : Int) := by omega
    by_cases hkn : k < e.args.length
    · have hd1 : decide (k < e.args.length) = true := decide_eq_true hkn
      have hd2 : decide ((k : Int) < (e.args.length : Int)) = true := decide_eq_true (by omega)
      have hkn1 : (k : Int) < (e.args.length : Int) := by omega
      obtain ⟨b, o, e1, hb, hrow⟩ := HR.out (by omega)
      have hat := tree_at (Row.keepB hrow hb (HW.out.mono HB.out)) k hkn
      have hbr : b < wr.heap.size := Nat.lt_of_lt_of_le hb (Nat.le_trans HB.out HW.out.size)
      have HIK := Lib.hid (HI.out e.args[k] (List.getElem_mem hkn))
      have HLK := Lib.hid (HTL.out e.args[k] (List.getElem_mem hkn))
      have HM1 := Lib.hid (HMS.out k hkn)
      generalize e.args[k] = x at *
      obtain ⟨sx, hsx⟩ : ∃ sx, sx = (textF l d x).1 := ⟨_, rfl⟩
      unfold StrPost at HIK
      rw [← hsx] at HIK HLK HM1
      have HLT : (e.args.take k).length = k := by rw [List.length_take]; omega
      have HT2 : Hid (innK ((e.args.take (k + 1)).map fun x => (textF l d x).1) = if k = 0 then ⟨#[]⟩ ++ sx else t ++ ⟨#[44]⟩ ++ sx) := by
        show _ = _
        rw [HM1.out, inn_snoc, ← HT.out]
        rw [List.length_map, HLT]
      clear hrow hb hsx HLT
      subst e1
      unfold Tree.val at HIK
      have z8 := HK.out.cell 8
      have zl := HK.out.lt
      by_cases hk00 : k = 0
      · have hd3 : decide ((0 : Int) < (k : Int)) = false := decide_eq_false (by omega)
        have hd4 : decide (0 < k) = false := decide_eq_false (by omega)
        have ht0 : t = ⟨#[]⟩ := by rw [HT.out, hk00]; rfl
        have HT3 : Hid (t ++ sx = innK ((e.args.take (k + 1)).map fun x => (textF l d x).1)) := by show _ = _; rw [HT2.out, if_pos hk00, ht0]
        obtain ⟨t2, ht2⟩ : ∃ t2, t2 = t ++ sx := ⟨_, rfl⟩
        rw [← ht2] at HT3
        have hs2 : t2.size = t.size + sx.size := by rw [ht2, app_size]
        have q1 := add_to ht2 (by have := HTS0.out; have := HLK.out; have : k * 200001 = 0 := by rw [hk00, Nat.zero_mul]
                                  omega)
        have HS2 : Hid (t2.size ≤ (k + 1) * 200001) := by show _ ≤ _; have := HTS0.out; have := HLK.out; have : k * 200001 = 0 := by rw [hk00, Nat.zero_mul]
                                                          omega
        clear ht2 hs2 ht0 hk00
        go_wp2_with fail
        refine (HIK.out _ HW.out).mono ?_
        rintro r w5 ⟨rfl, d5⟩
        have HW5 := Lib.hid (chain0 HW.out d5)
        have HK5 := Lib.hid (HK.out.below' d5)
        clear d5 hat hbr HW HK HIK z8 zl
        go_wp2_with fail
        go_roundw
        case rel => exact ⟨k + 1, t2, hkn, by go_num, rfl, HT3.out, HS2.out, HW5.out, HK5.out⟩
        case measure => simp [intOf]; omega
      · have hd3 : decide ((0 : Int) < (k : Int)) = true := decide_eq_true (by omega)
        have hd4 : decide (0 < k) = true := decide_eq_true (by omega)
        obtain ⟨t1, ht1⟩ : ∃ t1, t1 = t ++ ⟨#[44]⟩ := ⟨_, rfl⟩
        obtain ⟨t2, ht2⟩ : ∃ t2, t2 = t1 ++ sx := ⟨_, rfl⟩
        have HT3 : Hid (t2 = innK ((e.args.take (k + 1)).map fun x => (textF l d x).1)) := by show _ = _; rw [HT2.out, if_neg hk00, ht2, ht1]
        have hs1 : t1.size = t.size + 1 := by rw [ht1, app_size]; rfl
        have hs2 : t2.size = t1.size + sx.size := by rw [ht2, app_size]
        have hkm : k * 200001 ≤ 1600008 := by have : k ≤ 8 := by omega
                                              omega
        have q1 := add_to ht1 (show _ + 1 ≤ _ by have := HTS0.out; omega)
        have q2 := add_to ht2 (by have := HTS0.out; have := HLK.out; omega)
        have HS2 : Hid (t2.size ≤ (k + 1) * 200001) := by show _ ≤ _; have := HTS0.out; have := HLK.out; omega
        clear ht1 ht2 hs1 hs2 hk00 hkm
        go_wp2_with fail
        refine (HIK.out _ HW.out).mono ?_
        rintro r w5 ⟨rfl, d5⟩
        have HW5 := Lib.hid (chain0 HW.out d5)
        have HK5 := Lib.hid (HK.out.below' d5)
        clear d5 hat hbr HW HK HIK z8 zl
        go_wp2_with fail
        go_roundw
        case rel => exact ⟨k + 1, t2, hkn, by go_num, rfl, HT3.out, HS2.out, HW5.out, HK5.out⟩
        case measure => simp [intOf]; omega
    · obtain rfl : k = e.args.length := by omega
      have hd1 : decide (e.args.length < e.args.length) = false := decide_eq_false (Nat.lt_irrefl _)
      have hd2 : decide ((e.args.length : Int) < (e.args.length : Int)) = false := decide_eq_false (Int.lt_irrefl _)
      have HTS : Hid (t.size ≤ 1600008) := by show _ ≤ _; have := HTS0.out; omega
      clear HTS0
      have z0 := HK.out.cell 0
      have z1 := HK.out.cell 1
      have z2 := HK.out.cell 2
      have z3 := HK.out.cell 3
      have z4 := HK.out.cell 4
      have z5 := HK.out.cell 5
      have z6 := HK.out.cell 6
      have z7 := HK.out.cell 7
      have z8 := HK.out.cell 8
      have zl := HK.out.lt
      have HVL := Lib.hid (HVA.out (by decide) (by decide))
      obtain ⟨fs, hfs⟩ : ∃ fs, fs = fmtS e.want l := ⟨_, rfl⟩
      obtain ⟨dv, hdv⟩ : ∃ dv, dv = decS e.value := ⟨_, rfl⟩
      have hfl : fs.size ≤ 4000 := by rw [hfs]; exact fmt_len _ _
      have hdl : dv.size ≤ 21 := by rw [hdv]; exact decS_size HVL.out
      have HFI2 := Lib.hid (HFI.out HVL.out)
      rw [← hfs] at HPR
      rw [← hdv] at HFI2
      unfold arr at HPR
      have FR := Lib.hid (fun q => HPR.out (later wr q) (chain0 HW.out (later_below wr q)))
      have FN := Lib.hid (fun q => HFI2.out (later wr q))
      obtain ⟨u1, hu1⟩ : ∃ u1 : ByteArray, u1 = ⟨#[98, 111, 110, 117, 115, 40]⟩ ++ t := ⟨_, rfl⟩
      obtain ⟨u2, hu2⟩ : ∃ u2 : ByteArray, u2 = u1 ++ ⟨#[44]⟩ := ⟨_, rfl⟩
      obtain ⟨u3, hu3⟩ : ∃ u3 : ByteArray, u3 = u2 ++ fs := ⟨_, rfl⟩
      obtain ⟨u4, hu4⟩ : ∃ u4 : ByteArray, u4 = u3 ++ ⟨#[64]⟩ := ⟨_, rfl⟩
      obtain ⟨u5, hu5⟩ : ∃ u5 : ByteArray, u5 = u4 ++ dv := ⟨_, rfl⟩
      obtain ⟨u6, hu6⟩ : ∃ u6 : ByteArray, u6 = u5 ++ ⟨#[41]⟩ := ⟨_, rfl⟩
      have y1 : u1.size = 6 + t.size := by rw [hu1, app_size]; rfl
      have y2 : u2.size = u1.size + 1 := by rw [hu2, app_size]; rfl
      have y3 : u3.size = u2.size + fs.size := by rw [hu3, app_size]
      have y4 : u4.size = u3.size + 1 := by rw [hu4, app_size]; rfl
      have y5 : u5.size = u4.size + dv.size := by rw [hu5, app_size]
      have q1 := add_to hu1 (show 6 + _ ≤ _ by have := HTS.out; omega)
      have q2 := add_to hu2 (show _ + 1 ≤ _ by have := HTS.out; omega)
      have q3 := add_to hu3 (by have := HTS.out; omega)
      have q4 := add_to hu4 (show _ + 1 ≤ _ by have := HTS.out; omega)
      have q5 := add_to hu5 (by have := HTS.out; omega)
      have q6 := add_to hu6 (show _ + 1 ≤ _ by have := HTS.out; omega)
      have HV : Hid (R = u6) := by show _ = _; rw [HRR.out, hu6, hu5, hu4, hu3, hu2, hu1, hfs, hdv, HT.out, List.take_length]; unfold priceT; simp only [app_assoc]
      clear hu1 hu2 hu3 hu4 hu5 hu6 y1 y2 y3 y4 y5 hfs hdv hfl hdl HPR HFI2
      go_wp2_with fail
      refine wp_region_later (by kernel_rfl) (by kernel_rfl) ?_
      repeat (first | go_big_quiet_step (first | (go_at_call 63; exact calls_later (FR.out _)) | (go_at_call 64; exact calls_later (FN.out _))) | quiet_step (first | (go_at_call 63; exact calls_later (FR.out _)) | (go_at_call 64; exact calls_later (FN.out _))))
      refine wpQuiet_nil ?_
      rintro _ ⟨y, rfl⟩
      have HW2 := Lib.hid (chain0 HW.out (later_below wr y))
      go_wp2_with fail
      go_ret
      exact ⟨by rw [HV.out]; rfl, HW2.out⟩

set_option maxHeartbeats 8000000 in
set_option maxRecDepth 100000 in
theorem rtext_5 (d : Nat) (ih : ∀ (l : List Prod) (v : Value) (e : Tree) (B : Nat) (w : World), PL w v l → Tab w → In d B w e → B ≤ w.heap.size → errN (preF d e) = 0 → (preF d e).length ≤ 40 → Calls Tryd.prog 27 #[v, e.val] w (StrPost (textF l d e).1 w)) (l : List Prod) (v : Value) (e : Tree) (B : Nat) (w : World) (hpl : PL w v l) (ht : Tab w) (h : In (d + 1) B w e) (hB : B ≤ w.heap.size) (he : errN (preF (d + 1) e) = 0) (hsz : (preF (d + 1) e).length ≤ 40) (hop : e.op = 5) : Calls Tryd.prog 27 #[v, e.val] w (StrPost (textF l (d + 1) e).1 w) := by
  obtain ⟨hf, hr, ha⟩ := err_parts he
  have hn8 := form_args hf
  have hli : (e.args.length : Int) ≤ 8 := by omega
  have HVA := Lib.hid (fun (h2 : (5 : Int) ≠ 2) (h3 : (5 : Int) ≠ 3) => (show 0 ≤ e.value ∧ e.value ≤ 1000000 by have := range_val hr (by rw [hop]; exact h2) (by rw [hop]; exact h3); omega))
  have HPR := Lib.hid (fun W (b : Below w.heap.size w W) => rformat_any l v e.want W hpl.len (hpl.sl.keep b) hpl.nm)
  have HFI := Lib.hid (fun hv W => rnum_int e.value W hv)
  have HPA := fun x (hx : x ∈ e.args) => pre_arg (d := d) hx
  have HTL := Lib.hid (fun x (hx : x ∈ e.args) => (show (textF l d x).1.size ≤ 200000 by
    have h1 := text_len l d x (ha x hx)
    have h2 := HPA x hx
    have h3 : 5000 * (preF d x).length ≤ 5000 * 40 := Nat.mul_le_mul_left _ (by omega)
    omega))
  have HI := Lib.hid (fun x (hx : x ∈ e.args) W (k : Below w.heap.size w W) => ih l v x B W (hpl.keep k) (ht.keep k) ((h.2.2.2 x hx).keep (k.mono hB)) (Nat.le_trans hB k.size) (ha x hx) (by have := HPA x hx; omega))
  have h3 := h.2.2.1
  obtain ⟨A1, c1, rfl, _⟩ := ps_cases hpl.sl
  obtain ⟨A, hA⟩ : ∃ A, A = e.a := ⟨_, rfl⟩
  rw [← hA] at h3
  have HR := Lib.hid h3
  have HB := Lib.hid hB
  have BX := Lib.hid (below_new w (.cells #[.int .i64 e.op, .int .i64 (e.want 0), .int .i64 (e.want 1), .int .i64 (e.want 2), .int .i64 (e.want 3), .int .i64 (e.want 4), .int .i64 (e.want 5), .int .i64 e.value, .slice A e.args.length e.c] 27))
  have KX := Lib.hid (Blk.new w 27 #[.int .i64 e.op, .int .i64 (e.want 0), .int .i64 (e.want 1), .int .i64 (e.want 2), .int .i64 (e.want 3), .int .i64 (e.want 4), .int .i64 (e.want 5), .int .i64 e.value, .slice A e.args.length e.c])
  have HMS := Lib.hid (fun k (hk : k < e.args.length) => map_snoc (fun x => (textF l d x).1) e.args k hk)
  have HTK := Lib.hid (fun k (hk : k < e.args.length) => List.take_succ_eq_append_getElem hk)
  obtain ⟨R, hR⟩ : ∃ R, R = (textF l (d + 1) e).1 := ⟨_, rfl⟩
  have HRR : Hid (R = ((⟨#[108, 105, 109, 105, 116, 40]⟩ ++ innK (e.args.map fun x => (textF l d x).1) ++ ⟨#[44]⟩ ++ decS e.value ++ ⟨#[41]⟩, e.args.all fun x => (textF l d x).2) : ByteArray × Bool).1) := by show _ = _; rw [hR, textF, hop]; rfl
  rw [← hR]
  have o1 : (e.op == (1 : Int)) = false := by rw [hop]; rfl
  have o2 : (e.op == (2 : Int)) = false := by rw [hop]; rfl
  have o3 : (e.op == (3 : Int)) = false := by rw [hop]; rfl
  have o4 : (e.op == (4 : Int)) = false := by rw [hop]; rfl
  have o5 : (e.op == (5 : Int)) = true := by rw [hop]; rfl
  unfold StrPost
  unfold Tree.val
  rw [← hA]
  clear ih h3 hB hA hR hpl ht h he hsz hf hr ha hn8 HPA hop
  go_enter Tryd.func27, Tryd.ntmps27
  have z0 := KX.out.cell 0
  have z1 := KX.out.cell 1
  have z2 := KX.out.cell 2
  have z3 := KX.out.cell 3
  have z4 := KX.out.cell 4
  have z5 := KX.out.cell 5
  have z6 := KX.out.cell 6
  have z7 := KX.out.cell 7
  have z8 := KX.out.cell 8
  have zl := KX.out.lt
  go_wp2_with fail
  clear z0 z1 z2 z3 z4 z5 z6 z7 z8 zl
  go_loopw [6, 5] (fun iv tv wr => ∃ (k : Nat) (t : ByteArray), k ≤ e.args.length ∧ iv = .int .i64 (k : Int) ∧ tv = .string t ∧ Hid (t = innK ((e.args.take k).map fun x => (textF l d x).1)) ∧ Hid (t.size ≤ k * 200001) ∧ Hid (Below w.heap.size w wr) ∧ Hid (Blk wr w.heap.size 27 #[.int .i64 e.op, .int .i64 (e.want 0), .int .i64 (e.want 1), .int .i64 (e.want 2), .int .i64 (e.want 3), .int .i64 (e.want 4), .int .i64 (e.want 5), .int .i64 e.value, .slice A e.args.length e.c])) (fun iv _ _ => e.args.length - (intOf iv).toNat)
  case atStart => exact ⟨0, ⟨#[]⟩, Nat.zero_le _, rfl, rfl, rfl, Nat.le_refl 0, BX.out, KX.out⟩
  case round =>
    clear BX KX
    obtain ⟨k, t, hk, rfl, rfl, HT, HTS0, HW, HK⟩ := hrel
    have hk0 : (0 : Int) ≤ (k : Int) := by omega
    by_cases hkn : k < e.args.length
    · have hd1 : decide (k < e.args.length) = true := decide_eq_true hkn
      have hd2 : decide ((k : Int) < (e.args.length : Int)) = true := decide_eq_true (by omega)
      have hkn1 : (k : Int) < (e.args.length : Int) := by omega
      obtain ⟨b, o, e1, hb, hrow⟩ := HR.out (by omega)
      have hat := tree_at (Row.keepB hrow hb (HW.out.mono HB.out)) k hkn
      have hbr : b < wr.heap.size := Nat.lt_of_lt_of_le hb (Nat.le_trans HB.out HW.out.size)
      have HIK := Lib.hid (HI.out e.args[k] (List.getElem_mem hkn))
      have HLK := Lib.hid (HTL.out e.args[k] (List.getElem_mem hkn))
      have HM1 := Lib.hid (HMS.out k hkn)
      generalize e.args[k] = x at *
      obtain ⟨sx, hsx⟩ : ∃ sx, sx = (textF l d x).1 := ⟨_, rfl⟩
      unfold StrPost at HIK
      rw [← hsx] at HIK HLK HM1
      have HLT : (e.args.take k).length = k := by rw [List.length_take]; omega
      have HT2 : Hid (innK ((e.args.take (k + 1)).map fun x => (textF l d x).1) = if k = 0 then ⟨#[]⟩ ++ sx else t ++ ⟨#[44]⟩ ++ sx) := by
        show _ = _
        rw [HM1.out, inn_snoc, ← HT.out]
        rw [List.length_map, HLT]
      clear hrow hb hsx HLT
      subst e1
      unfold Tree.val at HIK
      have z8 := HK.out.cell 8
      have zl := HK.out.lt
      by_cases hk00 : k = 0
      · have hd3 : decide ((0 : Int) < (k : Int)) = false := decide_eq_false (by omega)
        have hd4 : decide (0 < k) = false := decide_eq_false (by omega)
        have ht0 : t = ⟨#[]⟩ := by rw [HT.out, hk00]; rfl
        have HT3 : Hid (t ++ sx = innK ((e.args.take (k + 1)).map fun x => (textF l d x).1)) := by show _ = _; rw [HT2.out, if_pos hk00, ht0]
        obtain ⟨t2, ht2⟩ : ∃ t2, t2 = t ++ sx := ⟨_, rfl⟩
        rw [← ht2] at HT3
        have hs2 : t2.size = t.size + sx.size := by rw [ht2, app_size]
        have q1 := add_to ht2 (by have := HTS0.out; have := HLK.out; have : k * 200001 = 0 := by rw [hk00, Nat.zero_mul]
                                  omega)
        have HS2 : Hid (t2.size ≤ (k + 1) * 200001) := by show _ ≤ _; have := HTS0.out; have := HLK.out; have : k * 200001 = 0 := by rw [hk00, Nat.zero_mul]
                                                          omega
        clear ht2 hs2 ht0 hk00
        go_wp2_with fail
        refine (HIK.out _ HW.out).mono ?_
        rintro r w5 ⟨rfl, d5⟩
        have HW5 := Lib.hid (chain0 HW.out d5)
        have HK5 := Lib.hid (HK.out.below' d5)
        clear d5 hat hbr HW HK HIK z8 zl
        go_wp2_with fail
        go_roundw
        case rel => exact ⟨k + 1, t2, hkn, by go_num, rfl, HT3.out, HS2.out, HW5.out, HK5.out⟩
        case measure => simp [intOf]; omega
      · have hd3 : decide ((0 : Int) < (k : Int)) = true := decide_eq_true (by omega)
        have hd4 : decide (0 < k) = true := decide_eq_true (by omega)
        obtain ⟨t1, ht1⟩ : ∃ t1, t1 = t ++ ⟨#[44]⟩ := ⟨_, rfl⟩
        obtain ⟨t2, ht2⟩ : ∃ t2, t2 = t1 ++ sx := ⟨_, rfl⟩
        have HT3 : Hid (t2 = innK ((e.args.take (k + 1)).map fun x => (textF l d x).1)) := by show _ = _; rw [HT2.out, if_neg hk00, ht2, ht1]
        have hs1 : t1.size = t.size + 1 := by rw [ht1, app_size]; rfl
        have hs2 : t2.size = t1.size + sx.size := by rw [ht2, app_size]
        have hkm : k * 200001 ≤ 1600008 := by have : k ≤ 8 := by omega
                                              omega
        have q1 := add_to ht1 (show _ + 1 ≤ _ by have := HTS0.out; omega)
        have q2 := add_to ht2 (by have := HTS0.out; have := HLK.out; omega)
        have HS2 : Hid (t2.size ≤ (k + 1) * 200001) := by show _ ≤ _; have := HTS0.out; have := HLK.out; omega
        clear ht1 ht2 hs1 hs2 hk00 hkm
        go_wp2_with fail
        refine (HIK.out _ HW.out).mono ?_
        rintro r w5 ⟨rfl, d5⟩
        have HW5 := Lib.hid (chain0 HW.out d5)
        have HK5 := Lib.hid (HK.out.below' d5)
        clear d5 hat hbr HW HK HIK z8 zl
        go_wp2_with fail
        go_roundw
        case rel => exact ⟨k + 1, t2, hkn, by go_num, rfl, HT3.out, HS2.out, HW5.out, HK5.out⟩
        case measure => simp [intOf]; omega
    · obtain rfl : k = e.args.length := by omega
      have hd1 : decide (e.args.length < e.args.length) = false := decide_eq_false (Nat.lt_irrefl _)
      have hd2 : decide ((e.args.length : Int) < (e.args.length : Int)) = false := decide_eq_false (Int.lt_irrefl _)
      have HTS : Hid (t.size ≤ 1600008) := by show _ ≤ _; have := HTS0.out; omega
      clear HTS0
      have z0 := HK.out.cell 0
      have z1 := HK.out.cell 1
      have z2 := HK.out.cell 2
      have z3 := HK.out.cell 3
      have z4 := HK.out.cell 4
      have z5 := HK.out.cell 5
      have z6 := HK.out.cell 6
      have z7 := HK.out.cell 7
      have z8 := HK.out.cell 8
      have zl := HK.out.lt
      have HVL := Lib.hid (HVA.out (by decide) (by decide))
      obtain ⟨dv, hdv⟩ : ∃ dv, dv = decS e.value := ⟨_, rfl⟩
      have hdl : dv.size ≤ 21 := by rw [hdv]; exact decS_size HVL.out
      have HFI2 := Lib.hid (HFI.out HVL.out)
      rw [← hdv] at HFI2
      obtain ⟨u1, hu1⟩ : ∃ u1 : ByteArray, u1 = ⟨#[108, 105, 109, 105, 116, 40]⟩ ++ t := ⟨_, rfl⟩
      obtain ⟨u2, hu2⟩ : ∃ u2 : ByteArray, u2 = u1 ++ ⟨#[44]⟩ := ⟨_, rfl⟩
      obtain ⟨u3, hu3⟩ : ∃ u3 : ByteArray, u3 = u2 ++ dv := ⟨_, rfl⟩
      obtain ⟨u4, hu4⟩ : ∃ u4 : ByteArray, u4 = u3 ++ ⟨#[41]⟩ := ⟨_, rfl⟩
      have y1 : u1.size = 6 + t.size := by rw [hu1, app_size]; rfl
      have y2 : u2.size = u1.size + 1 := by rw [hu2, app_size]; rfl
      have y3 : u3.size = u2.size + dv.size := by rw [hu3, app_size]
      have q1 := add_to hu1 (show 6 + _ ≤ _ by have := HTS.out; omega)
      have q2 := add_to hu2 (show _ + 1 ≤ _ by have := HTS.out; omega)
      have q3 := add_to hu3 (by have := HTS.out; omega)
      have q4 := add_to hu4 (show _ + 1 ≤ _ by have := HTS.out; omega)
      have HV : Hid (R = u4) := by show _ = _; rw [HRR.out, hu4, hu3, hu2, hu1, hdv, HT.out, List.take_length]
      clear hu1 hu2 hu3 hu4 y1 y2 y3 hdv hdl
      go_wp2_with fail
      refine (HFI2.out _).mono ?_
      rintro r w7 ⟨rfl, d7⟩
      have HW7 := Lib.hid (chain0 HW.out d7)
      clear d7
      go_wp2_with fail
      go_ret
      exact ⟨by rw [HV.out]; rfl, HW7.out⟩

end Go.Proofs.YtjjlhihocllgjaaDoor.Ex
