/- Contracts of exprtext.text and Format. Printed by gen_ex9.py. -/
import Derived.Test.YtjjlhihocllgjaaGreatDoorEx8
namespace Go.Proofs.YtjjlhihocllgjaaGreatDoor.Ex
open Go.ChangeShapes Go.WideShapes Go.ChangeAt Go.RowKit Gn Cat Lex
set_option linter.unusedVariables false
set_option linter.unusedSimpArgs false
theorem fold_size {f : Tree → ByteArray} {n : Tree → Nat} : ∀ (r : List Tree) (t : ByteArray), (∀ x ∈ r, (f x).size ≤ 5000 * n x) → ((r.map f).foldl (fun t x => t ++ ⟨#[44]⟩ ++ x) t).size ≤ t.size + 5000 * (r.map n).sum + r.length
  | [], t, _ => by simp
  | a :: r, t, h => by
    have h1 := fold_size r (t ++ ⟨#[44]⟩ ++ f a) fun x hx => h x (List.mem_cons_of_mem _ hx)
    have h2 := h a List.mem_cons_self
    rw [List.map_cons, List.foldl_cons, List.map_cons, List.sum_cons, List.length_cons]
    rw [app_size, app_size, show (⟨#[44]⟩ : ByteArray).size = 1 from rfl] at h1
    omega
theorem inn_size {f : Tree → ByteArray} {n : Tree → Nat} (l : List Tree) (h : ∀ x ∈ l, (f x).size ≤ 5000 * n x) : (innK (l.map f)).size ≤ 5000 * (l.map n).sum + l.length := by
  cases l with
  | nil => exact Nat.zero_le _
  | cons a r =>
    have h1 := fold_size r (⟨#[]⟩ ++ f a) fun x hx => h x (List.mem_cons_of_mem _ hx)
    have h2 := h a List.mem_cons_self
    rw [app_size, show (⟨#[]⟩ : ByteArray).size = 0 from rfl] at h1
    rw [List.map_cons, List.map_cons, List.sum_cons, List.length_cons]
    show (((r.map f).foldl (fun t x => t ++ ⟨#[44]⟩ ++ x) (⟨#[]⟩ ++ f a) : ByteArray)).size ≤ _
    omega
theorem sum_len (d : Nat) : ∀ l : List Tree, (l.map fun x => (preF d x).length).sum = (l.flatMap (preF d)).length
  | [] => rfl
  | a :: l => by rw [List.map_cons, List.sum_cons, List.flatMap_cons, List.length_append, sum_len d l]
theorem form_args {e : Tree} (h : formB e = true) : e.args.length ≤ 8 := by
  unfold formB at h
  split at h
  · have := of_decide_eq_true h; omega
  · split at h
    · simp only [Bool.and_eq_true, decide_eq_true_eq] at h; omega
    · split at h
      · have := of_decide_eq_true h; omega
      · split at h
        · simp only [Bool.and_eq_true, decide_eq_true_eq] at h; omega
        · cases h
theorem text_len (l : List Prod) : ∀ (d : Nat) (e : Tree), errN (preF d e) = 0 → (textF l d e).1.size ≤ 5000 * (preF d e).length
  | 0, _, _ => Nat.zero_le _
  | d + 1, e, h => by
    obtain ⟨hf, hr, ha⟩ := err_parts h
    have hn := form_args hf
    have hi := inn_size (f := fun x => (textF l d x).1) (n := fun x => (preF d x).length) e.args fun x hx => text_len l d x (ha x hx)
    rw [sum_len] at hi
    have hp : (preF (d + 1) e).length = (e.args.flatMap (preF d)).length + 1 := rfl
    rw [hp]
    have s1 : (⟨#[120, 111, 114]⟩ : ByteArray).size = 3 := rfl
    have s2 : (⟨#[40]⟩ : ByteArray).size = 1 := rfl
    have s3 : (⟨#[41]⟩ : ByteArray).size = 1 := rfl
    have s4 : (⟨#[111, 114]⟩ : ByteArray).size = 2 := rfl
    have s5 : (⟨#[98, 111, 110, 117, 115, 40]⟩ : ByteArray).size = 6 := rfl
    have s6 : (⟨#[44]⟩ : ByteArray).size = 1 := rfl
    have s7 : (⟨#[108, 105, 109, 105, 116, 40]⟩ : ByteArray).size = 6 := rfl
    unfold textF
    split
    · rename_i q
      have := price_len l (e := e) (by have := range_val hr (by omega) (by omega); omega)
      show (priceT l e).size ≤ _
      omega
    · dsimp only
      split
      · show (_ ++ _ ++ _ ++ _ : ByteArray).size ≤ _
        simp only [app_size]; omega
      · split
        · show (_ ++ _ ++ _ ++ _ : ByteArray).size ≤ _
          simp only [app_size]; omega
        · split
          · have := price_len l (e := e) (by have := range_val hr (by omega) (by omega); omega)
            show (_ ++ _ ++ _ ++ _ ++ _ : ByteArray).size ≤ _
            simp only [app_size]; omega
          · have := decS_size (v := e.value) (by have := range_val hr (by omega) (by omega); omega)
            show (_ ++ _ ++ _ ++ _ ++ _ : ByteArray).size ≤ _
            simp only [app_size]; omega
abbrev TextPost (p : ByteArray × Bool) (w : World) : Ending → World → Prop := fun r w' => r = .returned (.tuple #[.string p.1, .bool p.2]) ∧ Below w.heap.size w w'

set_option maxHeartbeats 8000000 in
set_option maxRecDepth 100000 in
theorem text_1 (d : Nat) (ih : ∀ (l : List Prod) (v : Value) (e : Tree) (B : Nat) (w : World), PL w v l → Tab w → In d B w e → B ≤ w.heap.size → errN (preF d e) = 0 → (preF d e).length ≤ 40 → Calls Tryz.prog 65 #[v, e.val] w (TextPost (textF l d e) w)) (l : List Prod) (v : Value) (e : Tree) (B : Nat) (w : World) (hpl : PL w v l) (ht : Tab w) (h : In (d + 1) B w e) (hB : B ≤ w.heap.size) (he : errN (preF (d + 1) e) = 0) (hsz : (preF (d + 1) e).length ≤ 40) (hop : e.op = 1) : Calls Tryz.prog 65 #[v, e.val] w (TextPost (textF l (d + 1) e) w) := by
  obtain ⟨hf, hr, ha⟩ := err_parts he
  have hn8 := form_args hf
  have hli : (e.args.length : Int) ≤ 8 := by omega
  have HVA := Lib.hid (fun (h2 : (1 : Int) ≠ 2) (h3 : (1 : Int) ≠ 3) => (show 0 ≤ e.value ∧ e.value ≤ 1000000 by have := range_val hr (by rw [hop]; exact h2) (by rw [hop]; exact h3); omega))
  have HPR := Lib.hid (fun hv W (b : Below w.heap.size w W) => price_any l v e W (hpl.keep b) (ht.keep b) hv)
  have HFI := Lib.hid (fun hv W (b : Below w.heap.size w W) => fint_any e.value W hv (ht.keep b))
  have HPA := fun x (hx : x ∈ e.args) => pre_arg (d := d) hx
  have HTL := Lib.hid (fun x (hx : x ∈ e.args) => (show (textF l d x).1.size ≤ 200000 by
    have h1 := text_len l d x (ha x hx)
    have h2 := HPA x hx
    have h3 : 5000 * (preF d x).length ≤ 5000 * 40 := Nat.mul_le_mul_left _ (by omega)
    omega))
  have HI := Lib.hid (fun x (hx : x ∈ e.args) W (k : Below w.heap.size w W) => ih l v x B W (hpl.keep k) (ht.keep k) ((h.2.2.2 x hx).keep (k.mono hB)) (Nat.le_trans hB k.size) (ha x hx) (by have := HPA x hx; omega))
  have h3 := h.2.2.1
  obtain ⟨A1, c1, rfl, _⟩ := ps_cases hpl.sl
  obtain ⟨A, hA⟩ : ∃ A, A = e.a := ⟨_, rfl⟩
  rw [← hA] at h3
  have HR := Lib.hid h3
  have HB := Lib.hid hB
  have BX := Lib.hid (below_new w (.cells #[.int .i64 e.op, .int .i64 (e.want 0), .int .i64 (e.want 1), .int .i64 (e.want 2), .int .i64 (e.want 3), .int .i64 (e.want 4), .int .i64 (e.want 5), .int .i64 e.value, .slice A e.args.length e.c] 28))
  have KX := Lib.hid (Blk.new w 28 #[.int .i64 e.op, .int .i64 (e.want 0), .int .i64 (e.want 1), .int .i64 (e.want 2), .int .i64 (e.want 3), .int .i64 (e.want 4), .int .i64 (e.want 5), .int .i64 e.value, .slice A e.args.length e.c])
  have HMS := Lib.hid (fun k (hk : k < e.args.length) => map_snoc (fun x => (textF l d x).1) e.args k hk)
  have HTK := Lib.hid (fun k (hk : k < e.args.length) => List.take_succ_eq_append_getElem hk)
  obtain ⟨R, hR⟩ : ∃ R, R = textF l (d + 1) e := ⟨_, rfl⟩
  have HRR : Hid (R = (priceT l e, rfitsB e.want l)) := by show _ = _; rw [hR, textF, hop]; rfl
  rw [← hR]
  have o1 : (e.op == (1 : Int)) = true := by rw [hop]; rfl
  have o2 : (e.op == (2 : Int)) = false := by rw [hop]; rfl
  have o3 : (e.op == (3 : Int)) = false := by rw [hop]; rfl
  have o4 : (e.op == (4 : Int)) = false := by rw [hop]; rfl
  have o5 : (e.op == (5 : Int)) = false := by rw [hop]; rfl
  unfold TextPost
  unfold Tree.val at HPR ⊢
  rw [← hA] at HPR ⊢
  clear ih h3 hB hA hR hpl ht h he hsz hf hr ha hn8 HPA hop
  have CP := Lib.hid (HPR.out (HVA.out (by decide) (by decide)) _ BX.out)
  obtain ⟨pr, hpr⟩ : ∃ pr, pr = priceT l e := ⟨_, rfl⟩
  obtain ⟨fb, hfb⟩ : ∃ fb, fb = rfitsB e.want l := ⟨_, rfl⟩
  rw [← hpr, ← hfb] at CP HRR
  clear hpr hfb HPR
  go_enter Tryz.func65, Tryz.ntmps65
  have z0 := KX.out.cell 0
  have z1 := KX.out.cell 1
  have z2 := KX.out.cell 2
  have z3 := KX.out.cell 3
  have z4 := KX.out.cell 4
  have z5 := KX.out.cell 5
  have z6 := KX.out.cell 6
  have z7 := KX.out.cell 7
  have z8 := KX.out.cell 8
  have zl := KX.out.lt
  go_wp2_with fail
  refine CP.out.mono ?_
  rintro r w7 ⟨rfl, d7⟩
  have HW7 := Lib.hid (chain0 BX.out d7)
  clear d7 CP
  clear z0 z1 z2 z3 z4 z5 z6 z7 z8 zl
  go_wp2_with fail
  go_ret2
  exact ⟨by rw [HRR.out]; rfl, HW7.out⟩

set_option maxHeartbeats 8000000 in
set_option maxRecDepth 100000 in
theorem text_2 (d : Nat) (ih : ∀ (l : List Prod) (v : Value) (e : Tree) (B : Nat) (w : World), PL w v l → Tab w → In d B w e → B ≤ w.heap.size → errN (preF d e) = 0 → (preF d e).length ≤ 40 → Calls Tryz.prog 65 #[v, e.val] w (TextPost (textF l d e) w)) (l : List Prod) (v : Value) (e : Tree) (B : Nat) (w : World) (hpl : PL w v l) (ht : Tab w) (h : In (d + 1) B w e) (hB : B ≤ w.heap.size) (he : errN (preF (d + 1) e) = 0) (hsz : (preF (d + 1) e).length ≤ 40) (hop : e.op = 2) : Calls Tryz.prog 65 #[v, e.val] w (TextPost (textF l (d + 1) e) w) := by
  obtain ⟨hf, hr, ha⟩ := err_parts he
  have hn8 := form_args hf
  have hli : (e.args.length : Int) ≤ 8 := by omega
  have HVA := Lib.hid (fun (h2 : (2 : Int) ≠ 2) (h3 : (2 : Int) ≠ 3) => (show 0 ≤ e.value ∧ e.value ≤ 1000000 by have := range_val hr (by rw [hop]; exact h2) (by rw [hop]; exact h3); omega))
  have HPR := Lib.hid (fun hv W (b : Below w.heap.size w W) => price_any l v e W (hpl.keep b) (ht.keep b) hv)
  have HFI := Lib.hid (fun hv W (b : Below w.heap.size w W) => fint_any e.value W hv (ht.keep b))
  have HPA := fun x (hx : x ∈ e.args) => pre_arg (d := d) hx
  have HTL := Lib.hid (fun x (hx : x ∈ e.args) => (show (textF l d x).1.size ≤ 200000 by
    have h1 := text_len l d x (ha x hx)
    have h2 := HPA x hx
    have h3 : 5000 * (preF d x).length ≤ 5000 * 40 := Nat.mul_le_mul_left _ (by omega)
    omega))
  have HI := Lib.hid (fun x (hx : x ∈ e.args) W (k : Below w.heap.size w W) => ih l v x B W (hpl.keep k) (ht.keep k) ((h.2.2.2 x hx).keep (k.mono hB)) (Nat.le_trans hB k.size) (ha x hx) (by have := HPA x hx; omega))
  have h3 := h.2.2.1
  obtain ⟨A1, c1, rfl, _⟩ := ps_cases hpl.sl
  obtain ⟨A, hA⟩ : ∃ A, A = e.a := ⟨_, rfl⟩
  rw [← hA] at h3
  have HR := Lib.hid h3
  have HB := Lib.hid hB
  have BX := Lib.hid (below_new w (.cells #[.int .i64 e.op, .int .i64 (e.want 0), .int .i64 (e.want 1), .int .i64 (e.want 2), .int .i64 (e.want 3), .int .i64 (e.want 4), .int .i64 (e.want 5), .int .i64 e.value, .slice A e.args.length e.c] 28))
  have KX := Lib.hid (Blk.new w 28 #[.int .i64 e.op, .int .i64 (e.want 0), .int .i64 (e.want 1), .int .i64 (e.want 2), .int .i64 (e.want 3), .int .i64 (e.want 4), .int .i64 (e.want 5), .int .i64 e.value, .slice A e.args.length e.c])
  have HMS := Lib.hid (fun k (hk : k < e.args.length) => map_snoc (fun x => (textF l d x).1) e.args k hk)
  have HTK := Lib.hid (fun k (hk : k < e.args.length) => List.take_succ_eq_append_getElem hk)
  obtain ⟨R, hR⟩ : ∃ R, R = textF l (d + 1) e := ⟨_, rfl⟩
  have HRR : Hid (R = (⟨#[120, 111, 114]⟩ ++ ⟨#[40]⟩ ++ innK (e.args.map fun x => (textF l d x).1) ++ ⟨#[41]⟩, e.args.all fun x => (textF l d x).2)) := by show _ = _; rw [hR, textF, hop]; rfl
  rw [← hR]
  have o1 : (e.op == (1 : Int)) = false := by rw [hop]; rfl
  have o2 : (e.op == (2 : Int)) = true := by rw [hop]; rfl
  have o3 : (e.op == (3 : Int)) = false := by rw [hop]; rfl
  have o4 : (e.op == (4 : Int)) = false := by rw [hop]; rfl
  have o5 : (e.op == (5 : Int)) = false := by rw [hop]; rfl
  unfold TextPost
  unfold Tree.val at HPR ⊢
  rw [← hA] at HPR ⊢
  clear ih h3 hB hA hR hpl ht h he hsz hf hr ha hn8 HPA hop
  go_enter Tryz.func65, Tryz.ntmps65
  have z0 := KX.out.cell 0
  have z1 := KX.out.cell 1
  have z2 := KX.out.cell 2
  have z3 := KX.out.cell 3
  have z4 := KX.out.cell 4
  have z5 := KX.out.cell 5
  have z6 := KX.out.cell 6
  have z7 := KX.out.cell 7
  have z8 := KX.out.cell 8
  have zl := KX.out.lt
  go_wp2_with fail
  clear z0 z1 z2 z3 z4 z5 z6 z7 z8 zl
  go_loopw [26, 6, 7] (fun iv tv fv wr => ∃ (k : Nat) (t : ByteArray) (f : Bool), k ≤ e.args.length ∧ iv = .int .i64 (k : Int) ∧ tv = .string t ∧ fv = .bool f ∧ Hid (t = innK ((e.args.take k).map fun x => (textF l d x).1)) ∧ Hid (f = (e.args.take k).all fun x => (textF l d x).2) ∧ Hid (t.size ≤ k * 200001) ∧ Hid (Below w.heap.size w wr) ∧ Hid (Blk wr w.heap.size 28 #[.int .i64 e.op, .int .i64 (e.want 0), .int .i64 (e.want 1), .int .i64 (e.want 2), .int .i64 (e.want 3), .int .i64 (e.want 4), .int .i64 (e.want 5), .int .i64 e.value, .slice A e.args.length e.c])) (fun iv _ _ _ => e.args.length - (intOf iv).toNat)
  case atStart => exact ⟨0, ⟨#[]⟩, true, Nat.zero_le _, rfl, rfl, rfl, rfl, rfl, Nat.le_refl 0, BX.out, KX.out⟩
  case round =>
    clear BX KX
    obtain ⟨k, t, f, hk, rfl, rfl, rfl, HT, HF, HTS0, HW, HK⟩ := hrel
    have hk0 : (0 : Int) ≤ (k : Int) := by omega
    by_cases hkn : k < e.args.length
    · have hd1 : decide (k < e.args.length) = true := decide_eq_true hkn
      have hd2 : decide ((k : Int) < (e.args.length : Int)) = true := decide_eq_true (by omega)
      have hkn1 : (k : Int) < (e.args.length : Int) := by omega
      obtain ⟨b, o, e1, hb, hrow⟩ := HR.out (by omega)
      have hat := tree_at (Row.keepB hrow hb (HW.out.mono HB.out)) k hkn
      have hbr : b < wr.heap.size := Nat.lt_of_lt_of_le hb (Nat.le_trans HB.out HW.out.size)
      have HIK := Lib.hid (HI.out e.args[k] (List.getElem_mem hkn))
      have HLK := Lib.hid (HTL.out e.args[k] (List.getElem_mem hkn))
      have HM1 := Lib.hid (HMS.out k hkn)
      have HK1 := Lib.hid (HTK.out k hkn)
      generalize e.args[k] = x at *
      obtain ⟨sx, hsx⟩ : ∃ sx, sx = (textF l d x).1 := ⟨_, rfl⟩
      obtain ⟨fx, hfx⟩ : ∃ fx, fx = (textF l d x).2 := ⟨_, rfl⟩
      unfold TextPost at HIK
      rw [← hsx, ← hfx] at HIK
      rw [← hsx] at HLK HM1
      have HF2 : Hid ((f && fx) = (e.args.take (k + 1)).all fun x => (textF l d x).2) := by show _ = _; rw [HK1.out, List.all_append, List.all_cons, List.all_nil, Bool.and_true, ← HF.out, ← hfx]
      have HLT : (e.args.take k).length = k := by rw [List.length_take]; omega
      have HT2 : Hid (innK ((e.args.take (k + 1)).map fun x => (textF l d x).1) = if k = 0 then ⟨#[]⟩ ++ sx else t ++ ⟨#[44]⟩ ++ sx) := by
        show _ = _
        rw [HM1.out, inn_snoc, ← HT.out]
        rw [List.length_map, HLT]
      have B2 := Lib.hid (below_new wr (.cells #[.int .i64 x.op, .int .i64 (x.want 0), .int .i64 (x.want 1), .int .i64 (x.want 2), .int .i64 (x.want 3), .int .i64 (x.want 4), .int .i64 (x.want 5), .int .i64 x.value, .slice x.a x.args.length x.c] 28))
      have HW2 := Lib.hid (chain0 HW.out B2.out)
      have HK2 := Lib.hid (HK.out.below' B2.out)
      clear hrow hb hsx hfx HLT
      subst e1
      unfold Tree.val at HIK
      by_cases hk00 : k = 0
      · have hd3 : decide ((0 : Int) < (k : Int)) = false := decide_eq_false (by omega)
        have hd4 : decide (0 < k) = false := decide_eq_false (by omega)
        have ht0 : t = ⟨#[]⟩ := by rw [HT.out, hk00]; rfl
        have HT3 : Hid (t ++ sx = innK ((e.args.take (k + 1)).map fun x => (textF l d x).1)) := by show _ = _; rw [HT2.out, if_pos hk00, ht0]
        obtain ⟨t2, ht2⟩ : ∃ t2, t2 = t ++ sx := ⟨_, rfl⟩
        rw [← ht2] at HT3
        have hs2 : t2.size = t.size + sx.size := by rw [ht2, app_size]
        have q1 := add_to ht2 (by have := HTS0.out; have := HLK.out; have : k * 200001 = 0 := by rw [hk00, Nat.zero_mul]
                                  omega)
        have HS2 : Hid (t2.size ≤ (k + 1) * 200001) := by show _ ≤ _; have := HTS0.out; have := HLK.out; have : k * 200001 = 0 := by rw [hk00, Nat.zero_mul]
                                                          omega
        clear ht2 hs2 ht0 hk00
        go_wp2_with fail
        refine (HIK.out _ HW2.out).mono ?_
        rintro r w5 ⟨rfl, d5⟩
        have HW5 := Lib.hid (chain0 HW2.out d5)
        have HK5 := Lib.hid (HK2.out.below' d5)
        clear d5 hat hbr B2 HW2 HK2 HW HK HIK
        cases f with
        | false =>
          go_wp2_with fail
          go_roundw
          case rel => exact ⟨k + 1, t2, false, hkn, by go_num, rfl, rfl, HT3.out, HF2.out, HS2.out, HW5.out, HK5.out⟩
          case measure => simp [intOf]; omega
        | true =>
          go_wp2_with fail
          go_roundw
          case rel => exact ⟨k + 1, t2, fx, hkn, by go_num, rfl, rfl, HT3.out, HF2.out, HS2.out, HW5.out, HK5.out⟩
          case measure => simp [intOf]; omega
      · have hd3 : decide ((0 : Int) < (k : Int)) = true := decide_eq_true (by omega)
        have hd4 : decide (0 < k) = true := decide_eq_true (by omega)
        obtain ⟨t1, ht1⟩ : ∃ t1, t1 = t ++ ⟨#[44]⟩ := ⟨_, rfl⟩
        obtain ⟨t2, ht2⟩ : ∃ t2, t2 = t1 ++ sx := ⟨_, rfl⟩
        have HT3 : Hid (t2 = innK ((e.args.take (k + 1)).map fun x => (textF l d x).1)) := by show _ = _; rw [HT2.out, if_neg hk00, ht2, ht1]
        have hs1 : t1.size = t.size + 1 := by rw [ht1, app_size]; rfl
        have hs2 : t2.size = t1.size + sx.size := by rw [ht2, app_size]
        have hkm : k * 200001 ≤ 1600008 := by have : k ≤ 8 := by omega
                                              omega
        have q1 := add_to ht1 (show _ + 1 ≤ _ by have := HTS0.out; omega)
        have q2 := add_to ht2 (by have := HTS0.out; have := HLK.out; omega)
        have HS2 : Hid (t2.size ≤ (k + 1) * 200001) := by show _ ≤ _; have := HTS0.out; have := HLK.out; omega
        clear ht1 ht2 hs1 hs2 hk00 hkm
        go_wp2_with fail
        refine (HIK.out _ HW2.out).mono ?_
        rintro r w5 ⟨rfl, d5⟩
        have HW5 := Lib.hid (chain0 HW2.out d5)
        have HK5 := Lib.hid (HK2.out.below' d5)
        clear d5 hat hbr B2 HW2 HK2 HW HK HIK
        cases f with
        | false =>
          go_wp2_with fail
          go_roundw
          case rel => exact ⟨k + 1, t2, false, hkn, by go_num, rfl, rfl, HT3.out, HF2.out, HS2.out, HW5.out, HK5.out⟩
          case measure => simp [intOf]; omega
        | true =>
          go_wp2_with fail
          go_roundw
          case rel => exact ⟨k + 1, t2, fx, hkn, by go_num, rfl, rfl, HT3.out, HF2.out, HS2.out, HW5.out, HK5.out⟩
          case measure => simp [intOf]; omega
    · obtain rfl : k = e.args.length := by omega
      have hd1 : decide (e.args.length < e.args.length) = false := decide_eq_false (Nat.lt_irrefl _)
      have hd2 : decide ((e.args.length : Int) < (e.args.length : Int)) = false := decide_eq_false (Int.lt_irrefl _)
      have HTS : Hid (t.size ≤ 1600008) := by show _ ≤ _; have := HTS0.out; omega
      clear HTS0
      have z0 := HK.out.cell 0
      have z1 := HK.out.cell 1
      have z2 := HK.out.cell 2
      have z3 := HK.out.cell 3
      have z4 := HK.out.cell 4
      have z5 := HK.out.cell 5
      have z6 := HK.out.cell 6
      have z7 := HK.out.cell 7
      have z8 := HK.out.cell 8
      have zl := HK.out.lt
      obtain ⟨u1, hu1⟩ : ∃ u1 : ByteArray, u1 = ⟨#[120, 111, 114]⟩ ++ ⟨#[40]⟩ := ⟨_, rfl⟩
      obtain ⟨u2, hu2⟩ : ∃ u2 : ByteArray, u2 = u1 ++ t := ⟨_, rfl⟩
      obtain ⟨u3, hu3⟩ : ∃ u3 : ByteArray, u3 = u2 ++ ⟨#[41]⟩ := ⟨_, rfl⟩
      have y1 : u1.size ≤ 10 := by rw [hu1, app_size]; decide
      have y2 : u2.size = u1.size + t.size := by rw [hu2, app_size]
      have q1 := add_to hu1 (show _ + _ ≤ _ by decide)
      have q2 := add_to hu2 (by have := HTS.out; omega)
      have q3 := add_to hu3 (show _ + 1 ≤ _ by have := HTS.out; omega)
      have HV : Hid (R = (u3, f)) := by show _ = _; rw [HRR.out, hu3, hu2, hu1, HT.out, HF.out, List.take_length]; first | done | rfl
      clear hu1 hu2 hu3 y1 y2
      go_wp2_with fail
      try go_step3
      go_wp2_with fail
      try dsimp only [Exit.noGoto, Exit.inBlock, Exit.then, Exit.jump]
      go_ret2
      exact ⟨by rw [HV.out]; rfl, HW.out⟩

set_option maxHeartbeats 8000000 in
set_option maxRecDepth 100000 in
theorem text_3 (d : Nat) (ih : ∀ (l : List Prod) (v : Value) (e : Tree) (B : Nat) (w : World), PL w v l → Tab w → In d B w e → B ≤ w.heap.size → errN (preF d e) = 0 → (preF d e).length ≤ 40 → Calls Tryz.prog 65 #[v, e.val] w (TextPost (textF l d e) w)) (l : List Prod) (v : Value) (e : Tree) (B : Nat) (w : World) (hpl : PL w v l) (ht : Tab w) (h : In (d + 1) B w e) (hB : B ≤ w.heap.size) (he : errN (preF (d + 1) e) = 0) (hsz : (preF (d + 1) e).length ≤ 40) (hop : e.op = 3) : Calls Tryz.prog 65 #[v, e.val] w (TextPost (textF l (d + 1) e) w) := by
  obtain ⟨hf, hr, ha⟩ := err_parts he
  have hn8 := form_args hf
  have hli : (e.args.length : Int) ≤ 8 := by omega
  have HVA := Lib.hid (fun (h2 : (3 : Int) ≠ 2) (h3 : (3 : Int) ≠ 3) => (show 0 ≤ e.value ∧ e.value ≤ 1000000 by have := range_val hr (by rw [hop]; exact h2) (by rw [hop]; exact h3); omega))
  have HPR := Lib.hid (fun hv W (b : Below w.heap.size w W) => price_any l v e W (hpl.keep b) (ht.keep b) hv)
  have HFI := Lib.hid (fun hv W (b : Below w.heap.size w W) => fint_any e.value W hv (ht.keep b))
  have HPA := fun x (hx : x ∈ e.args) => pre_arg (d := d) hx
  have HTL := Lib.hid (fun x (hx : x ∈ e.args) => (show (textF l d x).1.size ≤ 200000 by
    have h1 := text_len l d x (ha x hx)
    have h2 := HPA x hx
    have h3 : 5000 * (preF d x).length ≤ 5000 * 40 := Nat.mul_le_mul_left _ (by omega)
    omega))
  have HI := Lib.hid (fun x (hx : x ∈ e.args) W (k : Below w.heap.size w W) => ih l v x B W (hpl.keep k) (ht.keep k) ((h.2.2.2 x hx).keep (k.mono hB)) (Nat.le_trans hB k.size) (ha x hx) (by have := HPA x hx; omega))
  have h3 := h.2.2.1
  obtain ⟨A1, c1, rfl, _⟩ := ps_cases hpl.sl
  obtain ⟨A, hA⟩ : ∃ A, A = e.a := ⟨_, rfl⟩
  rw [← hA] at h3
  have HR := Lib.hid h3
  have HB := Lib.hid hB
  have BX := Lib.hid (below_new w (.cells #[.int .i64 e.op, .int .i64 (e.want 0), .int .i64 (e.want 1), .int .i64 (e.want 2), .int .i64 (e.want 3), .int .i64 (e.want 4), .int .i64 (e.want 5), .int .i64 e.value, .slice A e.args.length e.c] 28))
  have KX := Lib.hid (Blk.new w 28 #[.int .i64 e.op, .int .i64 (e.want 0), .int .i64 (e.want 1), .int .i64 (e.want 2), .int .i64 (e.want 3), .int .i64 (e.want 4), .int .i64 (e.want 5), .int .i64 e.value, .slice A e.args.length e.c])
  have HMS := Lib.hid (fun k (hk : k < e.args.length) => map_snoc (fun x => (textF l d x).1) e.args k hk)
  have HTK := Lib.hid (fun k (hk : k < e.args.length) => List.take_succ_eq_append_getElem hk)
  obtain ⟨R, hR⟩ : ∃ R, R = textF l (d + 1) e := ⟨_, rfl⟩
  have HRR : Hid (R = (⟨#[111, 114]⟩ ++ ⟨#[40]⟩ ++ innK (e.args.map fun x => (textF l d x).1) ++ ⟨#[41]⟩, e.args.all fun x => (textF l d x).2)) := by show _ = _; rw [hR, textF, hop]; rfl
  rw [← hR]
  have o1 : (e.op == (1 : Int)) = false := by rw [hop]; rfl
  have o2 : (e.op == (2 : Int)) = false := by rw [hop]; rfl
  have o3 : (e.op == (3 : Int)) = true := by rw [hop]; rfl
  have o4 : (e.op == (4 : Int)) = false := by rw [hop]; rfl
  have o5 : (e.op == (5 : Int)) = false := by rw [hop]; rfl
  unfold TextPost
  unfold Tree.val at HPR ⊢
  rw [← hA] at HPR ⊢
  clear ih h3 hB hA hR hpl ht h he hsz hf hr ha hn8 HPA hop
  go_enter Tryz.func65, Tryz.ntmps65
  have z0 := KX.out.cell 0
  have z1 := KX.out.cell 1
  have z2 := KX.out.cell 2
  have z3 := KX.out.cell 3
  have z4 := KX.out.cell 4
  have z5 := KX.out.cell 5
  have z6 := KX.out.cell 6
  have z7 := KX.out.cell 7
  have z8 := KX.out.cell 8
  have zl := KX.out.lt
  go_wp2_with fail
  clear z0 z1 z2 z3 z4 z5 z6 z7 z8 zl
  go_loopw [26, 6, 7] (fun iv tv fv wr => ∃ (k : Nat) (t : ByteArray) (f : Bool), k ≤ e.args.length ∧ iv = .int .i64 (k : Int) ∧ tv = .string t ∧ fv = .bool f ∧ Hid (t = innK ((e.args.take k).map fun x => (textF l d x).1)) ∧ Hid (f = (e.args.take k).all fun x => (textF l d x).2) ∧ Hid (t.size ≤ k * 200001) ∧ Hid (Below w.heap.size w wr) ∧ Hid (Blk wr w.heap.size 28 #[.int .i64 e.op, .int .i64 (e.want 0), .int .i64 (e.want 1), .int .i64 (e.want 2), .int .i64 (e.want 3), .int .i64 (e.want 4), .int .i64 (e.want 5), .int .i64 e.value, .slice A e.args.length e.c])) (fun iv _ _ _ => e.args.length - (intOf iv).toNat)
  case atStart => exact ⟨0, ⟨#[]⟩, true, Nat.zero_le _, rfl, rfl, rfl, rfl, rfl, Nat.le_refl 0, BX.out, KX.out⟩
  case round =>
    clear BX KX
    obtain ⟨k, t, f, hk, rfl, rfl, rfl, HT, HF, HTS0, HW, HK⟩ := hrel
    have hk0 : (0 : Int) ≤ (k : Int) := by omega
    by_cases hkn : k < e.args.length
    · have hd1 : decide (k < e.args.length) = true := decide_eq_true hkn
      have hd2 : decide ((k : Int) < (e.args.length : Int)) = true := decide_eq_true (by omega)
      have hkn1 : (k : Int) < (e.args.length : Int) := by omega
      obtain ⟨b, o, e1, hb, hrow⟩ := HR.out (by omega)
      have hat := tree_at (Row.keepB hrow hb (HW.out.mono HB.out)) k hkn
      have hbr : b < wr.heap.size := Nat.lt_of_lt_of_le hb (Nat.le_trans HB.out HW.out.size)
      have HIK := Lib.hid (HI.out e.args[k] (List.getElem_mem hkn))
      have HLK := Lib.hid (HTL.out e.args[k] (List.getElem_mem hkn))
      have HM1 := Lib.hid (HMS.out k hkn)
      have HK1 := Lib.hid (HTK.out k hkn)
      generalize e.args[k] = x at *
      obtain ⟨sx, hsx⟩ : ∃ sx, sx = (textF l d x).1 := ⟨_, rfl⟩
      obtain ⟨fx, hfx⟩ : ∃ fx, fx = (textF l d x).2 := ⟨_, rfl⟩
      unfold TextPost at HIK
      rw [← hsx, ← hfx] at HIK
      rw [← hsx] at HLK HM1
      have HF2 : Hid ((f && fx) = (e.args.take (k + 1)).all fun x => (textF l d x).2) := by show _ = _; rw [HK1.out, List.all_append, List.all_cons, List.all_nil, Bool.and_true, ← HF.out, ← hfx]
      have HLT : (e.args.take k).length = k := by rw [List.length_take]; omega
      have HT2 : Hid (innK ((e.args.take (k + 1)).map fun x => (textF l d x).1) = if k = 0 then ⟨#[]⟩ ++ sx else t ++ ⟨#[44]⟩ ++ sx) := by
        show _ = _
        rw [HM1.out, inn_snoc, ← HT.out]
        rw [List.length_map, HLT]
      have B2 := Lib.hid (below_new wr (.cells #[.int .i64 x.op, .int .i64 (x.want 0), .int .i64 (x.want 1), .int .i64 (x.want 2), .int .i64 (x.want 3), .int .i64 (x.want 4), .int .i64 (x.want 5), .int .i64 x.value, .slice x.a x.args.length x.c] 28))
      have HW2 := Lib.hid (chain0 HW.out B2.out)
      have HK2 := Lib.hid (HK.out.below' B2.out)
      clear hrow hb hsx hfx HLT
      subst e1
      unfold Tree.val at HIK
      by_cases hk00 : k = 0
      · have hd3 : decide ((0 : Int) < (k : Int)) = false := decide_eq_false (by omega)
        have hd4 : decide (0 < k) = false := decide_eq_false (by omega)
        have ht0 : t = ⟨#[]⟩ := by rw [HT.out, hk00]; rfl
        have HT3 : Hid (t ++ sx = innK ((e.args.take (k + 1)).map fun x => (textF l d x).1)) := by show _ = _; rw [HT2.out, if_pos hk00, ht0]
        obtain ⟨t2, ht2⟩ : ∃ t2, t2 = t ++ sx := ⟨_, rfl⟩
        rw [← ht2] at HT3
        have hs2 : t2.size = t.size + sx.size := by rw [ht2, app_size]
        have q1 := add_to ht2 (by have := HTS0.out; have := HLK.out; have : k * 200001 = 0 := by rw [hk00, Nat.zero_mul]
                                  omega)
        have HS2 : Hid (t2.size ≤ (k + 1) * 200001) := by show _ ≤ _; have := HTS0.out; have := HLK.out; have : k * 200001 = 0 := by rw [hk00, Nat.zero_mul]
                                                          omega
        clear ht2 hs2 ht0 hk00
        go_wp2_with fail
        refine (HIK.out _ HW2.out).mono ?_
        rintro r w5 ⟨rfl, d5⟩
        have HW5 := Lib.hid (chain0 HW2.out d5)
        have HK5 := Lib.hid (HK2.out.below' d5)
        clear d5 hat hbr B2 HW2 HK2 HW HK HIK
        cases f with
        | false =>
          go_wp2_with fail
          go_roundw
          case rel => exact ⟨k + 1, t2, false, hkn, by go_num, rfl, rfl, HT3.out, HF2.out, HS2.out, HW5.out, HK5.out⟩
          case measure => simp [intOf]; omega
        | true =>
          go_wp2_with fail
          go_roundw
          case rel => exact ⟨k + 1, t2, fx, hkn, by go_num, rfl, rfl, HT3.out, HF2.out, HS2.out, HW5.out, HK5.out⟩
          case measure => simp [intOf]; omega
      · have hd3 : decide ((0 : Int) < (k : Int)) = true := decide_eq_true (by omega)
        have hd4 : decide (0 < k) = true := decide_eq_true (by omega)
        obtain ⟨t1, ht1⟩ : ∃ t1, t1 = t ++ ⟨#[44]⟩ := ⟨_, rfl⟩
        obtain ⟨t2, ht2⟩ : ∃ t2, t2 = t1 ++ sx := ⟨_, rfl⟩
        have HT3 : Hid (t2 = innK ((e.args.take (k + 1)).map fun x => (textF l d x).1)) := by show _ = _; rw [HT2.out, if_neg hk00, ht2, ht1]
        have hs1 : t1.size = t.size + 1 := by rw [ht1, app_size]; rfl
        have hs2 : t2.size = t1.size + sx.size := by rw [ht2, app_size]
        have hkm : k * 200001 ≤ 1600008 := by have : k ≤ 8 := by omega
                                              omega
        have q1 := add_to ht1 (show _ + 1 ≤ _ by have := HTS0.out; omega)
        have q2 := add_to ht2 (by have := HTS0.out; have := HLK.out; omega)
        have HS2 : Hid (t2.size ≤ (k + 1) * 200001) := by show _ ≤ _; have := HTS0.out; have := HLK.out; omega
        clear ht1 ht2 hs1 hs2 hk00 hkm
        go_wp2_with fail
        refine (HIK.out _ HW2.out).mono ?_
        rintro r w5 ⟨rfl, d5⟩
        have HW5 := Lib.hid (chain0 HW2.out d5)
        have HK5 := Lib.hid (HK2.out.below' d5)
        clear d5 hat hbr B2 HW2 HK2 HW HK HIK
        cases f with
        | false =>
          go_wp2_with fail
          go_roundw
          case rel => exact ⟨k + 1, t2, false, hkn, by go_num, rfl, rfl, HT3.out, HF2.out, HS2.out, HW5.out, HK5.out⟩
          case measure => simp [intOf]; omega
        | true =>
          go_wp2_with fail
          go_roundw
          case rel => exact ⟨k + 1, t2, fx, hkn, by go_num, rfl, rfl, HT3.out, HF2.out, HS2.out, HW5.out, HK5.out⟩
          case measure => simp [intOf]; omega
    · obtain rfl : k = e.args.length := by omega
      have hd1 : decide (e.args.length < e.args.length) = false := decide_eq_false (Nat.lt_irrefl _)
      have hd2 : decide ((e.args.length : Int) < (e.args.length : Int)) = false := decide_eq_false (Int.lt_irrefl _)
      have HTS : Hid (t.size ≤ 1600008) := by show _ ≤ _; have := HTS0.out; omega
      clear HTS0
      have z0 := HK.out.cell 0
      have z1 := HK.out.cell 1
      have z2 := HK.out.cell 2
      have z3 := HK.out.cell 3
      have z4 := HK.out.cell 4
      have z5 := HK.out.cell 5
      have z6 := HK.out.cell 6
      have z7 := HK.out.cell 7
      have z8 := HK.out.cell 8
      have zl := HK.out.lt
      obtain ⟨u1, hu1⟩ : ∃ u1 : ByteArray, u1 = ⟨#[111, 114]⟩ ++ ⟨#[40]⟩ := ⟨_, rfl⟩
      obtain ⟨u2, hu2⟩ : ∃ u2 : ByteArray, u2 = u1 ++ t := ⟨_, rfl⟩
      obtain ⟨u3, hu3⟩ : ∃ u3 : ByteArray, u3 = u2 ++ ⟨#[41]⟩ := ⟨_, rfl⟩
      have y1 : u1.size ≤ 10 := by rw [hu1, app_size]; decide
      have y2 : u2.size = u1.size + t.size := by rw [hu2, app_size]
      have q1 := add_to hu1 (show _ + _ ≤ _ by decide)
      have q2 := add_to hu2 (by have := HTS.out; omega)
      have q3 := add_to hu3 (show _ + 1 ≤ _ by have := HTS.out; omega)
      have HV : Hid (R = (u3, f)) := by show _ = _; rw [HRR.out, hu3, hu2, hu1, HT.out, HF.out, List.take_length]; first | done | rfl
      clear hu1 hu2 hu3 y1 y2
      go_wp2_with fail
      try go_step3
      go_wp2_with fail
      try dsimp only [Exit.noGoto, Exit.inBlock, Exit.then, Exit.jump]
      go_ret2
      exact ⟨by rw [HV.out]; rfl, HW.out⟩

set_option maxHeartbeats 8000000 in
set_option maxRecDepth 100000 in
theorem text_4 (d : Nat) (ih : ∀ (l : List Prod) (v : Value) (e : Tree) (B : Nat) (w : World), PL w v l → Tab w → In d B w e → B ≤ w.heap.size → errN (preF d e) = 0 → (preF d e).length ≤ 40 → Calls Tryz.prog 65 #[v, e.val] w (TextPost (textF l d e) w)) (l : List Prod) (v : Value) (e : Tree) (B : Nat) (w : World) (hpl : PL w v l) (ht : Tab w) (h : In (d + 1) B w e) (hB : B ≤ w.heap.size) (he : errN (preF (d + 1) e) = 0) (hsz : (preF (d + 1) e).length ≤ 40) (hop : e.op = 4) : Calls Tryz.prog 65 #[v, e.val] w (TextPost (textF l (d + 1) e) w) := by
  obtain ⟨hf, hr, ha⟩ := err_parts he
  have hn8 := form_args hf
  have hli : (e.args.length : Int) ≤ 8 := by omega
  have HVA := Lib.hid (fun (h2 : (4 : Int) ≠ 2) (h3 : (4 : Int) ≠ 3) => (show 0 ≤ e.value ∧ e.value ≤ 1000000 by have := range_val hr (by rw [hop]; exact h2) (by rw [hop]; exact h3); omega))
  have HPR := Lib.hid (fun hv W (b : Below w.heap.size w W) => price_any l v e W (hpl.keep b) (ht.keep b) hv)
  have HFI := Lib.hid (fun hv W (b : Below w.heap.size w W) => fint_any e.value W hv (ht.keep b))
  have HPA := fun x (hx : x ∈ e.args) => pre_arg (d := d) hx
  have HTL := Lib.hid (fun x (hx : x ∈ e.args) => (show (textF l d x).1.size ≤ 200000 by
    have h1 := text_len l d x (ha x hx)
    have h2 := HPA x hx
    have h3 : 5000 * (preF d x).length ≤ 5000 * 40 := Nat.mul_le_mul_left _ (by omega)
    omega))
  have HI := Lib.hid (fun x (hx : x ∈ e.args) W (k : Below w.heap.size w W) => ih l v x B W (hpl.keep k) (ht.keep k) ((h.2.2.2 x hx).keep (k.mono hB)) (Nat.le_trans hB k.size) (ha x hx) (by have := HPA x hx; omega))
  have h3 := h.2.2.1
  obtain ⟨A1, c1, rfl, _⟩ := ps_cases hpl.sl
  obtain ⟨A, hA⟩ : ∃ A, A = e.a := ⟨_, rfl⟩
  rw [← hA] at h3
  have HR := Lib.hid h3
  have HB := Lib.hid hB
  have BX := Lib.hid (below_new w (.cells #[.int .i64 e.op, .int .i64 (e.want 0), .int .i64 (e.want 1), .int .i64 (e.want 2), .int .i64 (e.want 3), .int .i64 (e.want 4), .int .i64 (e.want 5), .int .i64 e.value, .slice A e.args.length e.c] 28))
  have KX := Lib.hid (Blk.new w 28 #[.int .i64 e.op, .int .i64 (e.want 0), .int .i64 (e.want 1), .int .i64 (e.want 2), .int .i64 (e.want 3), .int .i64 (e.want 4), .int .i64 (e.want 5), .int .i64 e.value, .slice A e.args.length e.c])
  have HMS := Lib.hid (fun k (hk : k < e.args.length) => map_snoc (fun x => (textF l d x).1) e.args k hk)
  have HTK := Lib.hid (fun k (hk : k < e.args.length) => List.take_succ_eq_append_getElem hk)
  obtain ⟨R, hR⟩ : ∃ R, R = textF l (d + 1) e := ⟨_, rfl⟩
  have HRR : Hid (R = (⟨#[98, 111, 110, 117, 115, 40]⟩ ++ innK (e.args.map fun x => (textF l d x).1) ++ ⟨#[44]⟩ ++ priceT l e ++ ⟨#[41]⟩, (e.args.all fun x => (textF l d x).2) && rfitsB e.want l)) := by show _ = _; rw [hR, textF, hop]; rfl
  rw [← hR]
  have o1 : (e.op == (1 : Int)) = false := by rw [hop]; rfl
  have o2 : (e.op == (2 : Int)) = false := by rw [hop]; rfl
  have o3 : (e.op == (3 : Int)) = false := by rw [hop]; rfl
  have o4 : (e.op == (4 : Int)) = true := by rw [hop]; rfl
  have o5 : (e.op == (5 : Int)) = false := by rw [hop]; rfl
  unfold TextPost
  unfold Tree.val at HPR ⊢
  rw [← hA] at HPR ⊢
  clear ih h3 hB hA hR hpl ht h he hsz hf hr ha hn8 HPA hop
  go_enter Tryz.func65, Tryz.ntmps65
  have z0 := KX.out.cell 0
  have z1 := KX.out.cell 1
  have z2 := KX.out.cell 2
  have z3 := KX.out.cell 3
  have z4 := KX.out.cell 4
  have z5 := KX.out.cell 5
  have z6 := KX.out.cell 6
  have z7 := KX.out.cell 7
  have z8 := KX.out.cell 8
  have zl := KX.out.lt
  go_wp2_with fail
  clear z0 z1 z2 z3 z4 z5 z6 z7 z8 zl
  go_loopw [26, 6, 7] (fun iv tv fv wr => ∃ (k : Nat) (t : ByteArray) (f : Bool), k ≤ e.args.length ∧ iv = .int .i64 (k : Int) ∧ tv = .string t ∧ fv = .bool f ∧ Hid (t = innK ((e.args.take k).map fun x => (textF l d x).1)) ∧ Hid (f = (e.args.take k).all fun x => (textF l d x).2) ∧ Hid (t.size ≤ k * 200001) ∧ Hid (Below w.heap.size w wr) ∧ Hid (Blk wr w.heap.size 28 #[.int .i64 e.op, .int .i64 (e.want 0), .int .i64 (e.want 1), .int .i64 (e.want 2), .int .i64 (e.want 3), .int .i64 (e.want 4), .int .i64 (e.want 5), .int .i64 e.value, .slice A e.args.length e.c])) (fun iv _ _ _ => e.args.length - (intOf iv).toNat)
  case atStart => exact ⟨0, ⟨#[]⟩, true, Nat.zero_le _, rfl, rfl, rfl, rfl, rfl, Nat.le_refl 0, BX.out, KX.out⟩
  case round =>
    clear BX KX
    obtain ⟨k, t, f, hk, rfl, rfl, rfl, HT, HF, HTS0, HW, HK⟩ := hrel
    have hk0 : (0 : Int) ≤ (k : Int) := by omega
    by_cases hkn : k < e.args.length
    · have hd1 : decide (k < e.args.length) = true := decide_eq_true hkn
      have hd2 : decide ((k : Int) < (e.args.length : Int)) = true := decide_eq_true (by omega)
      have hkn1 : (k : Int) < (e.args.length : Int) := by omega
      obtain ⟨b, o, e1, hb, hrow⟩ := HR.out (by omega)
      have hat := tree_at (Row.keepB hrow hb (HW.out.mono HB.out)) k hkn
      have hbr : b < wr.heap.size := Nat.lt_of_lt_of_le hb (Nat.le_trans HB.out HW.out.size)
      have HIK := Lib.hid (HI.out e.args[k] (List.getElem_mem hkn))
      have HLK := Lib.hid (HTL.out e.args[k] (List.getElem_mem hkn))
      have HM1 := Lib.hid (HMS.out k hkn)
      have HK1 := Lib.hid (HTK.out k hkn)
      generalize e.args[k] = x at *
      obtain ⟨sx, hsx⟩ : ∃ sx, sx = (textF l d x).1 := ⟨_, rfl⟩
      obtain ⟨fx, hfx⟩ : ∃ fx, fx = (textF l d x).2 := ⟨_, rfl⟩
      unfold TextPost at HIK
      rw [← hsx, ← hfx] at HIK
      rw [← hsx] at HLK HM1
      have HF2 : Hid ((f && fx) = (e.args.take (k + 1)).all fun x => (textF l d x).2) := by show _ = _; rw [HK1.out, List.all_append, List.all_cons, List.all_nil, Bool.and_true, ← HF.out, ← hfx]
      have HLT : (e.args.take k).length = k := by rw [List.length_take]; omega
      have HT2 : Hid (innK ((e.args.take (k + 1)).map fun x => (textF l d x).1) = if k = 0 then ⟨#[]⟩ ++ sx else t ++ ⟨#[44]⟩ ++ sx) := by
        show _ = _
        rw [HM1.out, inn_snoc, ← HT.out]
        rw [List.length_map, HLT]
      have B2 := Lib.hid (below_new wr (.cells #[.int .i64 x.op, .int .i64 (x.want 0), .int .i64 (x.want 1), .int .i64 (x.want 2), .int .i64 (x.want 3), .int .i64 (x.want 4), .int .i64 (x.want 5), .int .i64 x.value, .slice x.a x.args.length x.c] 28))
      have HW2 := Lib.hid (chain0 HW.out B2.out)
      have HK2 := Lib.hid (HK.out.below' B2.out)
      clear hrow hb hsx hfx HLT
      subst e1
      unfold Tree.val at HIK
      by_cases hk00 : k = 0
      · have hd3 : decide ((0 : Int) < (k : Int)) = false := decide_eq_false (by omega)
        have hd4 : decide (0 < k) = false := decide_eq_false (by omega)
        have ht0 : t = ⟨#[]⟩ := by rw [HT.out, hk00]; rfl
        have HT3 : Hid (t ++ sx = innK ((e.args.take (k + 1)).map fun x => (textF l d x).1)) := by show _ = _; rw [HT2.out, if_pos hk00, ht0]
        obtain ⟨t2, ht2⟩ : ∃ t2, t2 = t ++ sx := ⟨_, rfl⟩
        rw [← ht2] at HT3
        have hs2 : t2.size = t.size + sx.size := by rw [ht2, app_size]
        have q1 := add_to ht2 (by have := HTS0.out; have := HLK.out; have : k * 200001 = 0 := by rw [hk00, Nat.zero_mul]
                                  omega)
        have HS2 : Hid (t2.size ≤ (k + 1) * 200001) := by show _ ≤ _; have := HTS0.out; have := HLK.out; have : k * 200001 = 0 := by rw [hk00, Nat.zero_mul]
                                                          omega
        clear ht2 hs2 ht0 hk00
        go_wp2_with fail
        refine (HIK.out _ HW2.out).mono ?_
        rintro r w5 ⟨rfl, d5⟩
        have HW5 := Lib.hid (chain0 HW2.out d5)
        have HK5 := Lib.hid (HK2.out.below' d5)
        clear d5 hat hbr B2 HW2 HK2 HW HK HIK
        cases f with
        | false =>
          go_wp2_with fail
          go_roundw
          case rel => exact ⟨k + 1, t2, false, hkn, by go_num, rfl, rfl, HT3.out, HF2.out, HS2.out, HW5.out, HK5.out⟩
          case measure => simp [intOf]; omega
        | true =>
          go_wp2_with fail
          go_roundw
          case rel => exact ⟨k + 1, t2, fx, hkn, by go_num, rfl, rfl, HT3.out, HF2.out, HS2.out, HW5.out, HK5.out⟩
          case measure => simp [intOf]; omega
      · have hd3 : decide ((0 : Int) < (k : Int)) = true := decide_eq_true (by omega)
        have hd4 : decide (0 < k) = true := decide_eq_true (by omega)
        obtain ⟨t1, ht1⟩ : ∃ t1, t1 = t ++ ⟨#[44]⟩ := ⟨_, rfl⟩
        obtain ⟨t2, ht2⟩ : ∃ t2, t2 = t1 ++ sx := ⟨_, rfl⟩
        have HT3 : Hid (t2 = innK ((e.args.take (k + 1)).map fun x => (textF l d x).1)) := by show _ = _; rw [HT2.out, if_neg hk00, ht2, ht1]
        have hs1 : t1.size = t.size + 1 := by rw [ht1, app_size]; rfl
        have hs2 : t2.size = t1.size + sx.size := by rw [ht2, app_size]
        have hkm : k * 200001 ≤ 1600008 := by have : k ≤ 8 := by omega
                                              omega
        have q1 := add_to ht1 (show _ + 1 ≤ _ by have := HTS0.out; omega)
        have q2 := add_to ht2 (by have := HTS0.out; have := HLK.out; omega)
        have HS2 : Hid (t2.size ≤ (k + 1) * 200001) := by show _ ≤ _; have := HTS0.out; have := HLK.out; omega
        clear ht1 ht2 hs1 hs2 hk00 hkm
        go_wp2_with fail
        refine (HIK.out _ HW2.out).mono ?_
        rintro r w5 ⟨rfl, d5⟩
        have HW5 := Lib.hid (chain0 HW2.out d5)
        have HK5 := Lib.hid (HK2.out.below' d5)
        clear d5 hat hbr B2 HW2 HK2 HW HK HIK
        cases f with
        | false =>
          go_wp2_with fail
          go_roundw
          case rel => exact ⟨k + 1, t2, false, hkn, by go_num, rfl, rfl, HT3.out, HF2.out, HS2.out, HW5.out, HK5.out⟩
          case measure => simp [intOf]; omega
        | true =>
          go_wp2_with fail
          go_roundw
          case rel => exact ⟨k + 1, t2, fx, hkn, by go_num, rfl, rfl, HT3.out, HF2.out, HS2.out, HW5.out, HK5.out⟩
          case measure => simp [intOf]; omega
    · obtain rfl : k = e.args.length := by omega
      have hd1 : decide (e.args.length < e.args.length) = false := decide_eq_false (Nat.lt_irrefl _)
      have hd2 : decide ((e.args.length : Int) < (e.args.length : Int)) = false := decide_eq_false (Int.lt_irrefl _)
      have HTS : Hid (t.size ≤ 1600008) := by show _ ≤ _; have := HTS0.out; omega
      clear HTS0
      have z0 := HK.out.cell 0
      have z1 := HK.out.cell 1
      have z2 := HK.out.cell 2
      have z3 := HK.out.cell 3
      have z4 := HK.out.cell 4
      have z5 := HK.out.cell 5
      have z6 := HK.out.cell 6
      have z7 := HK.out.cell 7
      have z8 := HK.out.cell 8
      have zl := HK.out.lt
      have HVL := Lib.hid (HVA.out (by decide) (by decide))
      obtain ⟨pr, hpr⟩ : ∃ pr, pr = priceT l e := ⟨_, rfl⟩
      obtain ⟨fb, hfb⟩ : ∃ fb, fb = rfitsB e.want l := ⟨_, rfl⟩
      have hpl : pr.size ≤ 4022 := by rw [hpr]; exact price_len l HVL.out
      have CP := Lib.hid (HPR.out HVL.out wr HW.out)
      rw [← hpr, ← hfb] at CP
      obtain ⟨u1, hu1⟩ : ∃ u1 : ByteArray, u1 = ⟨#[98, 111, 110, 117, 115, 40]⟩ ++ t := ⟨_, rfl⟩
      obtain ⟨u2, hu2⟩ : ∃ u2 : ByteArray, u2 = u1 ++ ⟨#[44]⟩ := ⟨_, rfl⟩
      obtain ⟨u3, hu3⟩ : ∃ u3 : ByteArray, u3 = u2 ++ pr := ⟨_, rfl⟩
      obtain ⟨u4, hu4⟩ : ∃ u4 : ByteArray, u4 = u3 ++ ⟨#[41]⟩ := ⟨_, rfl⟩
      have y1 : u1.size = 6 + t.size := by rw [hu1, app_size]; rfl
      have y2 : u2.size = u1.size + 1 := by rw [hu2, app_size]; rfl
      have y3 : u3.size = u2.size + pr.size := by rw [hu3, app_size]
      have q1 := add_to hu1 (show 6 + _ ≤ _ by have := HTS.out; omega)
      have q2 := add_to hu2 (show _ + 1 ≤ _ by have := HTS.out; omega)
      have q3 := add_to hu3 (by have := HTS.out; omega)
      have q4 := add_to hu4 (show _ + 1 ≤ _ by have := HTS.out; omega)
      have HV : Hid (R = (u4, f && fb)) := by show _ = _; rw [HRR.out, hu4, hu3, hu2, hu1, hpr, hfb, HT.out, HF.out, List.take_length]; first | done | rfl
      clear hu1 hu2 hu3 hu4 y1 y2 y3 hpr hfb hpl
      go_wp2_with fail
      refine CP.out.mono ?_
      rintro r w7 ⟨rfl, d7⟩
      have HW7 := Lib.hid (chain0 HW.out d7)
      clear d7 CP
      cases f with
      | false =>
        go_wp2_with fail
        try go_step3
        go_wp2_with fail
        try dsimp only [Exit.noGoto, Exit.inBlock, Exit.then, Exit.jump]
        go_ret2
        exact ⟨by rw [HV.out]; rfl, HW7.out⟩
      | true =>
        go_wp2_with fail
        try go_step3
        go_wp2_with fail
        try dsimp only [Exit.noGoto, Exit.inBlock, Exit.then, Exit.jump]
        go_ret2
        exact ⟨by rw [HV.out]; rfl, HW7.out⟩

set_option maxHeartbeats 8000000 in
set_option maxRecDepth 100000 in
theorem text_5 (d : Nat) (ih : ∀ (l : List Prod) (v : Value) (e : Tree) (B : Nat) (w : World), PL w v l → Tab w → In d B w e → B ≤ w.heap.size → errN (preF d e) = 0 → (preF d e).length ≤ 40 → Calls Tryz.prog 65 #[v, e.val] w (TextPost (textF l d e) w)) (l : List Prod) (v : Value) (e : Tree) (B : Nat) (w : World) (hpl : PL w v l) (ht : Tab w) (h : In (d + 1) B w e) (hB : B ≤ w.heap.size) (he : errN (preF (d + 1) e) = 0) (hsz : (preF (d + 1) e).length ≤ 40) (hop : e.op = 5) : Calls Tryz.prog 65 #[v, e.val] w (TextPost (textF l (d + 1) e) w) := by
  obtain ⟨hf, hr, ha⟩ := err_parts he
  have hn8 := form_args hf
  have hli : (e.args.length : Int) ≤ 8 := by omega
  have HVA := Lib.hid (fun (h2 : (5 : Int) ≠ 2) (h3 : (5 : Int) ≠ 3) => (show 0 ≤ e.value ∧ e.value ≤ 1000000 by have := range_val hr (by rw [hop]; exact h2) (by rw [hop]; exact h3); omega))
  have HPR := Lib.hid (fun hv W (b : Below w.heap.size w W) => price_any l v e W (hpl.keep b) (ht.keep b) hv)
  have HFI := Lib.hid (fun hv W (b : Below w.heap.size w W) => fint_any e.value W hv (ht.keep b))
  have HPA := fun x (hx : x ∈ e.args) => pre_arg (d := d) hx
  have HTL := Lib.hid (fun x (hx : x ∈ e.args) => (show (textF l d x).1.size ≤ 200000 by
    have h1 := text_len l d x (ha x hx)
    have h2 := HPA x hx
    have h3 : 5000 * (preF d x).length ≤ 5000 * 40 := Nat.mul_le_mul_left _ (by omega)
    omega))
  have HI := Lib.hid (fun x (hx : x ∈ e.args) W (k : Below w.heap.size w W) => ih l v x B W (hpl.keep k) (ht.keep k) ((h.2.2.2 x hx).keep (k.mono hB)) (Nat.le_trans hB k.size) (ha x hx) (by have := HPA x hx; omega))
  have h3 := h.2.2.1
  obtain ⟨A1, c1, rfl, _⟩ := ps_cases hpl.sl
  obtain ⟨A, hA⟩ : ∃ A, A = e.a := ⟨_, rfl⟩
  rw [← hA] at h3
  have HR := Lib.hid h3
  have HB := Lib.hid hB
  have BX := Lib.hid (below_new w (.cells #[.int .i64 e.op, .int .i64 (e.want 0), .int .i64 (e.want 1), .int .i64 (e.want 2), .int .i64 (e.want 3), .int .i64 (e.want 4), .int .i64 (e.want 5), .int .i64 e.value, .slice A e.args.length e.c] 28))
  have KX := Lib.hid (Blk.new w 28 #[.int .i64 e.op, .int .i64 (e.want 0), .int .i64 (e.want 1), .int .i64 (e.want 2), .int .i64 (e.want 3), .int .i64 (e.want 4), .int .i64 (e.want 5), .int .i64 e.value, .slice A e.args.length e.c])
  have HMS := Lib.hid (fun k (hk : k < e.args.length) => map_snoc (fun x => (textF l d x).1) e.args k hk)
  have HTK := Lib.hid (fun k (hk : k < e.args.length) => List.take_succ_eq_append_getElem hk)
  obtain ⟨R, hR⟩ : ∃ R, R = textF l (d + 1) e := ⟨_, rfl⟩
  have HRR : Hid (R = (⟨#[108, 105, 109, 105, 116, 40]⟩ ++ innK (e.args.map fun x => (textF l d x).1) ++ ⟨#[44]⟩ ++ decS e.value ++ ⟨#[41]⟩, e.args.all fun x => (textF l d x).2)) := by show _ = _; rw [hR, textF, hop]; rfl
  rw [← hR]
  have o1 : (e.op == (1 : Int)) = false := by rw [hop]; rfl
  have o2 : (e.op == (2 : Int)) = false := by rw [hop]; rfl
  have o3 : (e.op == (3 : Int)) = false := by rw [hop]; rfl
  have o4 : (e.op == (4 : Int)) = false := by rw [hop]; rfl
  have o5 : (e.op == (5 : Int)) = true := by rw [hop]; rfl
  unfold TextPost
  unfold Tree.val at HPR ⊢
  rw [← hA] at HPR ⊢
  clear ih h3 hB hA hR hpl ht h he hsz hf hr ha hn8 HPA hop
  go_enter Tryz.func65, Tryz.ntmps65
  have z0 := KX.out.cell 0
  have z1 := KX.out.cell 1
  have z2 := KX.out.cell 2
  have z3 := KX.out.cell 3
  have z4 := KX.out.cell 4
  have z5 := KX.out.cell 5
  have z6 := KX.out.cell 6
  have z7 := KX.out.cell 7
  have z8 := KX.out.cell 8
  have zl := KX.out.lt
  go_wp2_with fail
  clear z0 z1 z2 z3 z4 z5 z6 z7 z8 zl
  go_loopw [26, 6, 7] (fun iv tv fv wr => ∃ (k : Nat) (t : ByteArray) (f : Bool), k ≤ e.args.length ∧ iv = .int .i64 (k : Int) ∧ tv = .string t ∧ fv = .bool f ∧ Hid (t = innK ((e.args.take k).map fun x => (textF l d x).1)) ∧ Hid (f = (e.args.take k).all fun x => (textF l d x).2) ∧ Hid (t.size ≤ k * 200001) ∧ Hid (Below w.heap.size w wr) ∧ Hid (Blk wr w.heap.size 28 #[.int .i64 e.op, .int .i64 (e.want 0), .int .i64 (e.want 1), .int .i64 (e.want 2), .int .i64 (e.want 3), .int .i64 (e.want 4), .int .i64 (e.want 5), .int .i64 e.value, .slice A e.args.length e.c])) (fun iv _ _ _ => e.args.length - (intOf iv).toNat)
  case atStart => exact ⟨0, ⟨#[]⟩, true, Nat.zero_le _, rfl, rfl, rfl, rfl, rfl, Nat.le_refl 0, BX.out, KX.out⟩
  case round =>
    clear BX KX
    obtain ⟨k, t, f, hk, rfl, rfl, rfl, HT, HF, HTS0, HW, HK⟩ := hrel
    have hk0 : (0 : Int) ≤ (k : Int) := by omega
    by_cases hkn : k < e.args.length
    · have hd1 : decide (k < e.args.length) = true := decide_eq_true hkn
      have hd2 : decide ((k : Int) < (e.args.length : Int)) = true := decide_eq_true (by omega)
      have hkn1 : (k : Int) < (e.args.length : Int) := by omega
      obtain ⟨b, o, e1, hb, hrow⟩ := HR.out (by omega)
      have hat := tree_at (Row.keepB hrow hb (HW.out.mono HB.out)) k hkn
      have hbr : b < wr.heap.size := Nat.lt_of_lt_of_le hb (Nat.le_trans HB.out HW.out.size)
      have HIK := Lib.hid (HI.out e.args[k] (List.getElem_mem hkn))
      have HLK := Lib.hid (HTL.out e.args[k] (List.getElem_mem hkn))
      have HM1 := Lib.hid (HMS.out k hkn)
      have HK1 := Lib.hid (HTK.out k hkn)
      generalize e.args[k] = x at *
      obtain ⟨sx, hsx⟩ : ∃ sx, sx = (textF l d x).1 := ⟨_, rfl⟩
      obtain ⟨fx, hfx⟩ : ∃ fx, fx = (textF l d x).2 := ⟨_, rfl⟩
      unfold TextPost at HIK
      rw [← hsx, ← hfx] at HIK
      rw [← hsx] at HLK HM1
      have HF2 : Hid ((f && fx) = (e.args.take (k + 1)).all fun x => (textF l d x).2) := by show _ = _; rw [HK1.out, List.all_append, List.all_cons, List.all_nil, Bool.and_true, ← HF.out, ← hfx]
      have HLT : (e.args.take k).length = k := by rw [List.length_take]; omega
      have HT2 : Hid (innK ((e.args.take (k + 1)).map fun x => (textF l d x).1) = if k = 0 then ⟨#[]⟩ ++ sx else t ++ ⟨#[44]⟩ ++ sx) := by
        show _ = _
        rw [HM1.out, inn_snoc, ← HT.out]
        rw [List.length_map, HLT]
      have B2 := Lib.hid (below_new wr (.cells #[.int .i64 x.op, .int .i64 (x.want 0), .int .i64 (x.want 1), .int .i64 (x.want 2), .int .i64 (x.want 3), .int .i64 (x.want 4), .int .i64 (x.want 5), .int .i64 x.value, .slice x.a x.args.length x.c] 28))
      have HW2 := Lib.hid (chain0 HW.out B2.out)
      have HK2 := Lib.hid (HK.out.below' B2.out)
      clear hrow hb hsx hfx HLT
      subst e1
      unfold Tree.val at HIK
      by_cases hk00 : k = 0
      · have hd3 : decide ((0 : Int) < (k : Int)) = false := decide_eq_false (by omega)
        have hd4 : decide (0 < k) = false := decide_eq_false (by omega)
        have ht0 : t = ⟨#[]⟩ := by rw [HT.out, hk00]; rfl
        have HT3 : Hid (t ++ sx = innK ((e.args.take (k + 1)).map fun x => (textF l d x).1)) := by show _ = _; rw [HT2.out, if_pos hk00, ht0]
        obtain ⟨t2, ht2⟩ : ∃ t2, t2 = t ++ sx := ⟨_, rfl⟩
        rw [← ht2] at HT3
        have hs2 : t2.size = t.size + sx.size := by rw [ht2, app_size]
        have q1 := add_to ht2 (by have := HTS0.out; have := HLK.out; have : k * 200001 = 0 := by rw [hk00, Nat.zero_mul]
                                  omega)
        have HS2 : Hid (t2.size ≤ (k + 1) * 200001) := by show _ ≤ _; have := HTS0.out; have := HLK.out; have : k * 200001 = 0 := by rw [hk00, Nat.zero_mul]
                                                          omega
        clear ht2 hs2 ht0 hk00
        go_wp2_with fail
        refine (HIK.out _ HW2.out).mono ?_
        rintro r w5 ⟨rfl, d5⟩
        have HW5 := Lib.hid (chain0 HW2.out d5)
        have HK5 := Lib.hid (HK2.out.below' d5)
        clear d5 hat hbr B2 HW2 HK2 HW HK HIK
        cases f with
        | false =>
          go_wp2_with fail
          go_roundw
          case rel => exact ⟨k + 1, t2, false, hkn, by go_num, rfl, rfl, HT3.out, HF2.out, HS2.out, HW5.out, HK5.out⟩
          case measure => simp [intOf]; omega
        | true =>
          go_wp2_with fail
          go_roundw
          case rel => exact ⟨k + 1, t2, fx, hkn, by go_num, rfl, rfl, HT3.out, HF2.out, HS2.out, HW5.out, HK5.out⟩
          case measure => simp [intOf]; omega
      · have hd3 : decide ((0 : Int) < (k : Int)) = true := decide_eq_true (by omega)
        have hd4 : decide (0 < k) = true := decide_eq_true (by omega)
        obtain ⟨t1, ht1⟩ : ∃ t1, t1 = t ++ ⟨#[44]⟩ := ⟨_, rfl⟩
        obtain ⟨t2, ht2⟩ : ∃ t2, t2 = t1 ++ sx := ⟨_, rfl⟩
        have HT3 : Hid (t2 = innK ((e.args.take (k + 1)).map fun x => (textF l d x).1)) := by show _ = _; rw [HT2.out, if_neg hk00, ht2, ht1]
        have hs1 : t1.size = t.size + 1 := by rw [ht1, app_size]; rfl
        have hs2 : t2.size = t1.size + sx.size := by rw [ht2, app_size]
        have hkm : k * 200001 ≤ 1600008 := by have : k ≤ 8 := by omega
                                              omega
        have q1 := add_to ht1 (show _ + 1 ≤ _ by have := HTS0.out; omega)
        have q2 := add_to ht2 (by have := HTS0.out; have := HLK.out; omega)
        have HS2 : Hid (t2.size ≤ (k + 1) * 200001) := by show _ ≤ _; have := HTS0.out; have := HLK.out; omega
        clear ht1 ht2 hs1 hs2 hk00 hkm
        go_wp2_with fail
        refine (HIK.out _ HW2.out).mono ?_
        rintro r w5 ⟨rfl, d5⟩
        have HW5 := Lib.hid (chain0 HW2.out d5)
        have HK5 := Lib.hid (HK2.out.below' d5)
        clear d5 hat hbr B2 HW2 HK2 HW HK HIK
        cases f with
        | false =>
          go_wp2_with fail
          go_roundw
          case rel => exact ⟨k + 1, t2, false, hkn, by go_num, rfl, rfl, HT3.out, HF2.out, HS2.out, HW5.out, HK5.out⟩
          case measure => simp [intOf]; omega
        | true =>
          go_wp2_with fail
          go_roundw
          case rel => exact ⟨k + 1, t2, fx, hkn, by go_num, rfl, rfl, HT3.out, HF2.out, HS2.out, HW5.out, HK5.out⟩
          case measure => simp [intOf]; omega
    · obtain rfl : k = e.args.length := by omega
      have hd1 : decide (e.args.length < e.args.length) = false := decide_eq_false (Nat.lt_irrefl _)
      have hd2 : decide ((e.args.length : Int) < (e.args.length : Int)) = false := decide_eq_false (Int.lt_irrefl _)
      have HTS : Hid (t.size ≤ 1600008) := by show _ ≤ _; have := HTS0.out; omega
      clear HTS0
      have z0 := HK.out.cell 0
      have z1 := HK.out.cell 1
      have z2 := HK.out.cell 2
      have z3 := HK.out.cell 3
      have z4 := HK.out.cell 4
      have z5 := HK.out.cell 5
      have z6 := HK.out.cell 6
      have z7 := HK.out.cell 7
      have z8 := HK.out.cell 8
      have zl := HK.out.lt
      have HVL := Lib.hid (HVA.out (by decide) (by decide))
      obtain ⟨dv, hdv⟩ : ∃ dv, dv = decS e.value := ⟨_, rfl⟩
      have hdl : dv.size ≤ 21 := by rw [hdv]; exact decS_size HVL.out
      have CI := Lib.hid (HFI.out HVL.out wr HW.out)
      rw [← hdv] at CI
      obtain ⟨u1, hu1⟩ : ∃ u1 : ByteArray, u1 = ⟨#[108, 105, 109, 105, 116, 40]⟩ ++ t := ⟨_, rfl⟩
      obtain ⟨u2, hu2⟩ : ∃ u2 : ByteArray, u2 = u1 ++ ⟨#[44]⟩ := ⟨_, rfl⟩
      obtain ⟨u3, hu3⟩ : ∃ u3 : ByteArray, u3 = u2 ++ dv := ⟨_, rfl⟩
      obtain ⟨u4, hu4⟩ : ∃ u4 : ByteArray, u4 = u3 ++ ⟨#[41]⟩ := ⟨_, rfl⟩
      have y1 : u1.size = 6 + t.size := by rw [hu1, app_size]; rfl
      have y2 : u2.size = u1.size + 1 := by rw [hu2, app_size]; rfl
      have y3 : u3.size = u2.size + dv.size := by rw [hu3, app_size]
      have q1 := add_to hu1 (show 6 + _ ≤ _ by have := HTS.out; omega)
      have q2 := add_to hu2 (show _ + 1 ≤ _ by have := HTS.out; omega)
      have q3 := add_to hu3 (by have := HTS.out; omega)
      have q4 := add_to hu4 (show _ + 1 ≤ _ by have := HTS.out; omega)
      have HV : Hid (R = (u4, f)) := by show _ = _; rw [HRR.out, hu4, hu3, hu2, hu1, hdv, HT.out, HF.out, List.take_length]; first | done | rfl
      clear hu1 hu2 hu3 hu4 y1 y2 y3 hdv hdl
      go_wp2_with fail
      try go_step3
      go_wp2_with fail
      refine CI.out.mono ?_
      rintro r w7 ⟨rfl, d7⟩
      have HW7 := Lib.hid (chain0 HW.out d7)
      clear d7 CI
      go_wp2_with fail
      try dsimp only [Exit.noGoto, Exit.inBlock, Exit.then, Exit.jump]
      go_ret2
      exact ⟨by rw [HV.out]; rfl, HW7.out⟩

end Go.Proofs.YtjjlhihocllgjaaGreatDoor.Ex
