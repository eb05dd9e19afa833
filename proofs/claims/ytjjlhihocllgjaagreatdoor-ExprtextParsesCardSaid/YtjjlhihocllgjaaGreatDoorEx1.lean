/- Contracts of expr.Depth and of the walker. Printed by gen_ex1.py. -/
import Derived.Test.YtjjlhihocllgjaaGreatDoorExT
import Derived.Deep.QuietTactic
import Derived.BigQuiet
import Derived.Deep.RegionHeld3
namespace Go.Proofs.YtjjlhihocllgjaaGreatDoor.Ex
open Go.ChangeShapes Go.WideShapes Go.ChangeAt Go.RowKit Gn Cat Lex
set_option linter.unusedVariables false
set_option linter.unusedSimpArgs false
theorem tree_at {w : World} {b o : Nat} {l : List Tree} (h : Row w b o (l.flatMap Tree.cells)) (k : Nat) (hk : k < l.length) : w.cell? ⟨b, o + k * 9, none⟩ = some (.int .i64 l[k].op) ∧ w.cell? ⟨b, o + k * 9 + 1, none⟩ = some (.int .i64 (l[k].want 0)) ∧ w.cell? ⟨b, o + k * 9 + 2, none⟩ = some (.int .i64 (l[k].want 1)) ∧ w.cell? ⟨b, o + k * 9 + 3, none⟩ = some (.int .i64 (l[k].want 2)) ∧ w.cell? ⟨b, o + k * 9 + 4, none⟩ = some (.int .i64 (l[k].want 3)) ∧ w.cell? ⟨b, o + k * 9 + 5, none⟩ = some (.int .i64 (l[k].want 4)) ∧ w.cell? ⟨b, o + k * 9 + 6, none⟩ = some (.int .i64 (l[k].want 5)) ∧ w.cell? ⟨b, o + k * 9 + 7, none⟩ = some (.int .i64 l[k].value) ∧ w.cell? ⟨b, o + k * 9 + 8, none⟩ = some (.slice l[k].a l[k].args.length l[k].c) :=
  ⟨h.elem0 tree_len k hk (by omega) _ rfl, h.elem tree_len k hk 1 (by omega) _ rfl, h.elem tree_len k hk 2 (by omega) _ rfl, h.elem tree_len k hk 3 (by omega) _ rfl, h.elem tree_len k hk 4 (by omega) _ rfl, h.elem tree_len k hk 5 (by omega) _ rfl, h.elem tree_len k hk 6 (by omega) _ rfl, h.elem tree_len k hk 7 (by omega) _ rfl, h.elem tree_len k hk 8 (by omega) _ rfl⟩
/-- the nine cells of a block that holds a node -/
theorem tree_cells {w : World} {g : Nat} {e : Tree} (h : Blk w g 28 e.cells.toArray) : w.cell? ⟨g, 0, none⟩ = some (.int .i64 e.op) ∧ w.cell? ⟨g, 1, none⟩ = some (.int .i64 (e.want 0)) ∧ w.cell? ⟨g, 2, none⟩ = some (.int .i64 (e.want 1)) ∧ w.cell? ⟨g, 3, none⟩ = some (.int .i64 (e.want 2)) ∧ w.cell? ⟨g, 4, none⟩ = some (.int .i64 (e.want 3)) ∧ w.cell? ⟨g, 5, none⟩ = some (.int .i64 (e.want 4)) ∧ w.cell? ⟨g, 6, none⟩ = some (.int .i64 (e.want 5)) ∧ w.cell? ⟨g, 7, none⟩ = some (.int .i64 e.value) ∧ w.cell? ⟨g, 8, none⟩ = some (.slice e.a e.args.length e.c) :=
  ⟨h.cell 0, h.cell 1, h.cell 2, h.cell 3, h.cell 4, h.cell 5, h.cell 6, h.cell 7, h.cell 8⟩
theorem Row.keepB {w w' : World} {b o B : Nat} {xs : List Value} (h : Row w b o xs) (hb : b < B) (k : Below B w w') : Row w' b o xs := fun j u hu => (k.cell (p := ⟨b, o + j, none⟩) hb).trans (h j u hu)
theorem max_int (a b : Nat) : (if (a : Int) < (b : Int) then (b : Int) else (a : Int)) = ((max a b : Nat) : Int) := by
  by_cases h : a < b
  · rw [if_pos (by omega)]; congr 1; omega
  · rw [if_neg (by omega)]; congr 1; omega
set_option maxHeartbeats 2000000 in
set_option maxRecDepth 100000 in
theorem depth_any (d : Nat) : ∀ (e : Tree) (B : Nat) (w : World), In d B w e → B ≤ w.heap.size → (preF d e).length ≤ 5000 → Calls Tryz.prog 81 #[e.val] w fun r w' => r = .returned (.int .i64 (depthF d e : Nat)) ∧ Below w.heap.size w w' := by
  induction d with
  | zero => intro e B w h; exact h.elim
  | succ d ih =>
    intro e B w h hB hsz
    have HPA := Lib.hid (fun x (hx : x ∈ e.args) => pre_arg (d := d) hx)
    have HSZ := Lib.hid hsz
    have hlen : e.args.length ≤ 5000 := by
      have : e.args.length ≤ (e.args.flatMap (preF d)).length := by
        clear ih
        have hp := fun x (hx : x ∈ e.args) => (h.2.2.2 x hx).pos
        have hq : ∀ l : List Tree, (∀ x ∈ l, 0 < d) → l.length ≤ (l.flatMap (preF d)).length := by
          intro l
          induction l with
          | nil => intro _; exact Nat.le_refl _
          | cons a l ihl =>
            intro hl
            have h1 := ihl (fun x hx => hl x (List.mem_cons_of_mem _ hx))
            have h2 := hl a List.mem_cons_self
            rw [List.flatMap_cons, List.length_append, List.length_cons]
            obtain ⟨q, rfl⟩ : ∃ q, d = q + 1 := ⟨d - 1, by omega⟩
            have h3 : 0 < (preF (q + 1) a).length := Nat.succ_pos _
            omega
        exact hq _ hp
      have h2 : (preF (d + 1) e).length = (e.args.flatMap (preF d)).length + 1 := rfl
      omega
    have hli : (e.args.length : Int) ≤ 5000 := by omega
    have HDL := Lib.hid (fun k => (show maxL ((e.args.take k).map (depthF d)) ≤ 5000 from maxL_le _ 0 _ (Nat.zero_le _) fun x hx => by
      obtain ⟨y, hy, rfl⟩ := List.mem_map.1 hx
      have h1 := depth_le d y
      have h2 := pre_arg (d := d) (List.mem_of_mem_take hy)
      omega))
    have HDY := Lib.hid (fun x (hx : x ∈ e.args) => (show depthF d x ≤ 5000 by
      have h1 := depth_le d x
      have h2 := pre_arg (d := d) hx
      omega))
    obtain ⟨h1, h2, h3, h4⟩ := h
    obtain ⟨A, hA⟩ : ∃ A, A = e.a := ⟨_, rfl⟩
    rw [← hA] at h3
    have HR := Lib.hid h3
    have HI := Lib.hid (fun x (hx : x ∈ e.args) W (k : Below w.heap.size w W) => ih x B W ((h4 x hx).keep (k.mono hB)) (Nat.le_trans hB k.size) (by have h5 := HPA.out x hx; have := HSZ.out; omega))
    have BX := Lib.hid (below_new w (.cells #[.int .i64 e.op, .int .i64 (e.want 0), .int .i64 (e.want 1), .int .i64 (e.want 2), .int .i64 (e.want 3), .int .i64 (e.want 4), .int .i64 (e.want 5), .int .i64 e.value, .slice A e.args.length e.c] 28))
    have KX := Lib.hid (Blk.new w 28 #[.int .i64 e.op, .int .i64 (e.want 0), .int .i64 (e.want 1), .int .i64 (e.want 2), .int .i64 (e.want 3), .int .i64 (e.want 4), .int .i64 (e.want 5), .int .i64 e.value, .slice A e.args.length e.c])
    have HB := Lib.hid hB
    have HMS := Lib.hid (fun k (hk : k < e.args.length) => (show maxL ((e.args.take (k + 1)).map (depthF d)) = max (maxL ((e.args.take k).map (depthF d))) (depthF d e.args[k]) by rw [map_snoc _ _ _ hk, maxL_snoc]))
    have HDE : Hid (depthF (d + 1) e = maxL ((e.args.take e.args.length).map (depthF d)) + 1) := by show _ = _; rw [List.take_length]; rfl
    obtain ⟨R, hR⟩ : ∃ R, R = depthF (d + 1) e := ⟨_, rfl⟩
    have HRR := Lib.hid hR
    rw [← hR]
    unfold Tree.val
    rw [← hA]
    clear ih h1 h2 h3 h4 hB hR hsz HPA hlen hA
    go_enter Tryz.func81, Tryz.ntmps81
    have z8 := KX.out.cell 8
    go_wp2_with fail
    go_loopw [9, 3] (fun iv nv wr => ∃ (k n : Nat), k ≤ e.args.length ∧ iv = .int .i64 (k : Int) ∧ nv = .int .i64 (n : Int) ∧ Hid (n = maxL ((e.args.take k).map (depthF d))) ∧ Hid (Below w.heap.size w wr)) (fun iv _ _ => e.args.length - (intOf iv).toNat)
    case atStart => exact ⟨0, 0, Nat.zero_le _, rfl, rfl, rfl, BX.out⟩
    case round =>
      obtain ⟨k, n, hk, rfl, rfl, HN, HW⟩ := hrel
      have hk0 : (0 : Int) ≤ (k : Int) := by omega
      by_cases hkn : k < e.args.length
      · have hd1 : decide (k < e.args.length) = true := decide_eq_true hkn
        have hd2 : decide ((k : Int) < (e.args.length : Int)) = true := decide_eq_true (by omega)
        have hkn1 : (k : Int) < (e.args.length : Int) := by omega
        obtain ⟨b, o, e1, hb, hrow⟩ := HR.out (by omega)
        have hat := tree_at (Row.keepB hrow hb (HW.out.mono HB.out)) k hkn
        have hbr : b < wr.heap.size := Nat.lt_of_lt_of_le hb (Nat.le_trans HB.out HW.out.size)
        have HMK := Lib.hid (HMS.out k hkn)
        have HIK := Lib.hid (HI.out e.args[k] (List.getElem_mem hkn))
        have HDK := Lib.hid (HDY.out e.args[k] (List.getElem_mem hkn))
        have HNL : Hid (n ≤ 5000) := by show n ≤ 5000; rw [HN.out]; exact HDL.out k
        rw [← HN.out] at HMK
        generalize e.args[k] = x at *
        obtain ⟨dx, hdx⟩ : ∃ dx, dx = depthF d x := ⟨_, rfl⟩
        rw [← hdx] at HMK HIK HDK
        clear hrow hdx hb
        have K1 := Lib.hid (Blk.new wr 28 x.cells.toArray)
        have B1 := Lib.hid (chain0 HW.out (below_new wr (.cells x.cells.toArray 28)))
        subst e1
        go_wp2_with fail
        refine (HIK.out _ B1.out).mono ?_
        rintro r w2 ⟨rfl, d2⟩
        have B2 := Lib.hid (chain0 B1.out d2)
        clear d2 hat hbr B1 HW K1 HIK
        go_wp2_with fail
        go_roundw
        case rel => exact ⟨k + 1, max n dx, hkn, by go_num, by congr 1; omega, HMK.out.symm, B2.out⟩
        case measure => simp [intOf]; omega
      · obtain rfl : k = e.args.length := by omega
        have hd1 : decide (e.args.length < e.args.length) = false := decide_eq_false (Nat.lt_irrefl _)
        have hd2 : decide ((e.args.length : Int) < (e.args.length : Int)) = false := decide_eq_false (Int.lt_irrefl _)
        have HV : Hid (R = n + 1) := by show _ = _; rw [HRR.out, HDE.out, HN.out]
        have hn5 : (n : Int) ≤ 5000 := by have h := HDL.out e.args.length; rw [← HN.out] at h; omega
        go_wp2_with fail
        go_ret
        exact ⟨by rw [HV.out]; rfl, HW.out⟩

theorem fold_go {step : Int → Tree → Int} {ok : Int → Tree → Bool} {l r : List Tree} {s t : Int} (h : foldW step ok s l = (t, true)) : foldW step ok s (l ++ r) = foldW step ok t r := by rw [foldW_append, h, if_pos rfl]
theorem fold_stop {step : Int → Tree → Int} {ok : Int → Tree → Bool} {l r : List Tree} {s t : Int} (h : foldW step ok s l = (t, false)) : foldW step ok s (l ++ r) = (t, false) := by rw [foldW_append, h, if_neg (by simp)]
theorem pre_split {d : Nat} (e : Tree) (k : Nat) (hk : k < e.args.length) : e :: e.args.flatMap (preF d) = (e :: (e.args.take k).flatMap (preF d)) ++ (preF d e.args[k] ++ (e.args.drop (k + 1)).flatMap (preF d)) := by
  have h : e.args = e.args.take k ++ (e.args[k] :: e.args.drop (k + 1)) := by rw [← List.drop_eq_getElem_cons hk, List.take_append_drop]
  rw [List.cons_append]
  congr 1
  conv => lhs; rw [h, List.flatMap_append, List.flatMap_cons]
theorem Only.pair {g : Nat} {w w' : World} (o : Only g w w') {B : Nat} (h1 : B ≤ g) (h2 : B ≤ w.heap.size) : Below B w w' := o.below h1 h2
theorem args_le {d B : Nat} {w : World} {e : Tree} (h : In (d + 1) B w e) : e.args.length < (preF (d + 1) e).length := by
  have hp := fun x (hx : x ∈ e.args) => (h.2.2.2 x hx).pos
  have hq : ∀ l : List Tree, (∀ x ∈ l, 0 < d) → l.length ≤ (l.flatMap (preF d)).length := by
    intro l
    induction l with
    | nil => intro _; exact Nat.le_refl _
    | cons a l ihl =>
      intro hl
      have h1 := ihl (fun x hx => hl x (List.mem_cons_of_mem _ hx))
      have h2 := hl a List.mem_cons_self
      rw [List.flatMap_cons, List.length_append, List.length_cons]
      obtain ⟨q, rfl⟩ : ∃ q, d = q + 1 := ⟨d - 1, by omega⟩
      have h3 : 0 < (preF (q + 1) a).length := Nat.succ_pos _
      omega
  have h2 : (preF (d + 1) e).length = (e.args.flatMap (preF d)).length + 1 := rfl
  have := hq _ hp
  omega
set_option maxHeartbeats 2000000 in
set_option maxRecDepth 100000 in
theorem walk1_any (g B : Nat) (T : World → Int → Prop) (step : Int → Tree → Int) (ok : Int → Tree → Bool) (hg : B ≤ g)
    (hT : ∀ W W' s, T W s → Below W.heap.size W W' → T W' s) (hTg : ∀ W s, T W s → g < W.heap.size)
    (hv : ∀ d x W s, In d B W x → B ≤ W.heap.size → T W s → Calls Tryz.prog 82 #[x.val] W fun r W' => r = .returned (.bool (ok s x)) ∧ T W' (step s x) ∧ Only g W W') (d : Nat) :
    ∀ (e : Tree) (w : World) (s : Int), In d B w e → B ≤ w.heap.size → T w s → (preF d e).length ≤ 5000 → Calls Tryz.prog 83 #[.agg #[.func (.func 82) #[] #[]], e.val] w fun r w' => r = .returned (.bool (foldW step ok s (preF d e)).2) ∧ T w' (foldW step ok s (preF d e)).1 ∧ Only g w w' := by
  induction d with
  | zero => intro e w s h; exact h.elim
  | succ d ih =>
    intro e w s h hB ht hsz
    have hlen : e.args.length ≤ 5000 := by have := args_le h; omega
    have hli : (e.args.length : Int) ≤ 5000 := by omega
    have HPA := Lib.hid (fun x (hx : x ∈ e.args) => pre_arg (d := d) hx)
    have HSZ := Lib.hid hsz
    have HV := Lib.hid (fun W (k : Below w.heap.size w W) => hv (d + 1) e W s (h.keep (k.mono hB)) (Nat.le_trans hB k.size) (hT _ _ _ ht k))
    obtain ⟨h1, h2, h3, h4⟩ := h
    have HI := Lib.hid (fun x (hx : x ∈ e.args) W t (k : Below B w W) (hw : B ≤ W.heap.size) (ht : T W t) => ih x W t ((h4 x hx).keep k) hw ht (by have h5 := HPA.out x hx; have := HSZ.out; omega))
    obtain ⟨A, hA⟩ : ∃ A, A = e.a := ⟨_, rfl⟩
    rw [← hA] at h3
    have HR := Lib.hid h3
    have HB := Lib.hid hB
    have HG := Lib.hid hg
    have HGT := Lib.hid (hTg _ _ ht)
    have HK := Lib.hid hT
    have hz1 : (w.alloc (.cells #[.func (.func 82) #[] #[]] 124)).heap.size = w.heap.size + 1 := World.size_alloc _ _
    have BX := Lib.hid ((below_new w (.cells #[.func (.func 82) #[] #[]] 124)).alloc (below_new w (.cells #[.func (.func 82) #[] #[]] 124)).size (.cells #[.int .i64 e.op, .int .i64 (e.want 0), .int .i64 (e.want 1), .int .i64 (e.want 2), .int .i64 (e.want 3), .int .i64 (e.want 4), .int .i64 (e.want 5), .int .i64 e.value, .slice A e.args.length e.c] 28))
    have KW := Lib.hid ((Blk.new w 124 #[.func (.func 82) #[] #[]]).alloc (.cells #[.int .i64 e.op, .int .i64 (e.want 0), .int .i64 (e.want 1), .int .i64 (e.want 2), .int .i64 (e.want 3), .int .i64 (e.want 4), .int .i64 (e.want 5), .int .i64 e.value, .slice A e.args.length e.c] 28))
    have ke := Blk.new (w.alloc (.cells #[.func (.func 82) #[] #[]] 124)) 28 #[.int .i64 e.op, .int .i64 (e.want 0), .int .i64 (e.want 1), .int .i64 (e.want 2), .int .i64 (e.want 3), .int .i64 (e.want 4), .int .i64 (e.want 5), .int .i64 e.value, .slice A e.args.length e.c]
    rw [hz1] at ke
    have KE := Lib.hid ke
    have HFA := Lib.hid (foldW_append step ok)
    have HPE : Hid (preF (d + 1) e = e :: e.args.flatMap (preF d)) := rfl
    unfold Tree.val at HV ⊢
    rw [← hA] at HV ⊢
    obtain ⟨F, hF⟩ : ∃ F, F = foldW step ok s (preF (d + 1) e) := ⟨_, rfl⟩
    have HF := Lib.hid hF
    rw [← hF]
    clear hF
    clear ih hv h1 h2 h3 h4 hB hsz HPA hlen hA ke hz1 hT hTg hg ht
    go_enter Tryz.func83, Tryz.ntmps83
    have z0 := KE.out.cell 0
    have z1 := KE.out.cell 1
    have z2 := KE.out.cell 2
    have z3 := KE.out.cell 3
    have z4 := KE.out.cell 4
    have z5 := KE.out.cell 5
    have z6 := KE.out.cell 6
    have z7 := KE.out.cell 7
    have z8 := KE.out.cell 8
    go_wp2_with fail
    refine (HV.out _ BX.out).mono ?_
    rintro r w1 ⟨rfl, ht1, o1⟩
    have HT1 := Lib.hid ht1
    have KW1 := Lib.hid (KW.out.only o1 (by have := HGT.out; omega))
    have KE1 := Lib.hid (KE.out.only o1 (by have := HGT.out; omega))
    have O1 := Lib.hid ((Only.of_below g BX.out).trans o1)
    clear ht1 o1 BX KW KE z0 z1 z2 z3 z4 z5 z6 z7 z8 HV
    cases hok : ok s e with
    | false =>
      have HE : Hid (F = (step s e, false)) := by show _ = _; rw [HF.out, HPE.out, foldW, if_neg (by rw [hok]; simp)]
      clear hok
      go_wp2_with fail
      go_ret
      exact ⟨by rw [HE.out]; rfl, by rw [HE.out]; exact HT1.out, O1.out⟩
    | true =>
    have HS0 : Hid (foldW step ok s [e] = (step s e, true)) := by show _ = _; rw [foldW, if_pos hok]; rfl
    clear hok
    have z8 := KE1.out.cell 8
    have zl := KE1.out.lt
    go_wp2_with fail
    clear z8 zl
    go_loopw [15] (fun iv wr => ∃ (k : Nat) (t : Int), k ≤ e.args.length ∧ iv = .int .i64 (k : Int) ∧ Hid (foldW step ok s (e :: (e.args.take k).flatMap (preF d)) = (t, true)) ∧ Hid (T wr t) ∧ Hid (Only g w wr) ∧ Hid (Blk wr w.heap.size 124 #[.func (.func 82) #[] #[]])) (fun iv _ => e.args.length - (intOf iv).toNat)
    case atStart => exact ⟨0, step s e, Nat.zero_le _, rfl, HS0.out, HT1.out, O1.out, KW1.out⟩
    case round =>
      clear HS0 HT1 O1 KW1 KE1
      obtain ⟨k, t, hk, rfl, HS, HT1, O1, KW1⟩ := hrel
      have hk0 : (0 : Int) ≤ (k : Int) := by omega
      by_cases hkn : k < e.args.length
      · have hd1 : decide (k < e.args.length) = true := decide_eq_true hkn
        have hd2 : decide ((k : Int) < (e.args.length : Int)) = true := decide_eq_true (by omega)
        have hkn1 : (k : Int) < (e.args.length : Int) := by omega
        obtain ⟨b, o, e1, hb, hrow⟩ := HR.out (by omega)
        subst e1
        have hat := tree_at (Row.keepB hrow hb (O1.out.below HG.out HB.out)) k hkn
        have hbr : b < wr.heap.size := Nat.lt_of_lt_of_le hb (Nat.le_trans HB.out O1.out.size)
        have HIK := Lib.hid (HI.out e.args[k] (List.getElem_mem hkn))
        have HSP := Lib.hid (pre_split (d := d) e k hkn)
        have HSN := Lib.hid (flat_snoc (preF d) e.args k hkn)
        generalize e.args[k] = x at *
        have kw := KW1.out.cell 0
        have kwl := KW1.out.lt
        have B2 := Lib.hid (below_new wr (.cells #[.int .i64 x.op, .int .i64 (x.want 0), .int .i64 (x.want 1), .int .i64 (x.want 2), .int .i64 (x.want 3), .int .i64 (x.want 4), .int .i64 (x.want 5), .int .i64 x.value, .slice x.a x.args.length x.c] 28))
        have O2 := Lib.hid (O1.out.then_below B2.out)
        have HT2 := Lib.hid (HK.out _ _ _ HT1.out B2.out)
        have KW2 := Lib.hid (KW1.out.below' B2.out)
        clear hrow hb
        go_wp2_with fail
        refine (HIK.out _ t (O2.out.below HG.out HB.out) (Nat.le_trans HB.out O2.out.size) HT2.out).mono ?_
        rintro r w3 ⟨rfl, ht3, o3⟩
        have HT3 := Lib.hid ht3
        have O3 := Lib.hid (O2.out.trans o3)
        have KW3 := Lib.hid (KW2.out.only o3 (by have := HGT.out; omega))
        clear ht3 o3 hat hbr kw kwl B2 O2 HT2 KW2 HIK HT1 O1 KW1
        obtain ⟨q, hq⟩ : ∃ q, q = foldW step ok t (preF d x) := ⟨_, rfl⟩
        rw [← hq] at HT3 ⊢
        have HQ := Lib.hid hq
        clear hq
        obtain ⟨t2, b2⟩ := q
        dsimp only at HT3 ⊢
        cases b2 with
        | false =>
          have HE : Hid (F = (t2, false)) := by show _ = _; rw [HF.out, HPE.out, HSP.out, fold_go HS.out, fold_stop HQ.out.symm]
          go_wp2_with fail
          go_ret
          exact ⟨by rw [HE.out]; rfl, by rw [HE.out]; exact HT3.out, O3.out⟩
        | true =>
          have HS2 : Hid (foldW step ok s (e :: (e.args.take (k + 1)).flatMap (preF d)) = (t2, true)) := by show _ = _; rw [HSN.out, ← List.cons_append, fold_go HS.out]; exact HQ.out.symm
          go_wp2_with fail
          go_roundw
          case rel => exact ⟨k + 1, t2, hkn, by go_num, HS2.out, HT3.out, O3.out, KW3.out⟩
          case measure => simp [intOf]; omega
      · obtain rfl : k = e.args.length := by omega
        have hd1 : decide (e.args.length < e.args.length) = false := decide_eq_false (Nat.lt_irrefl _)
        have hd2 : decide ((e.args.length : Int) < (e.args.length : Int)) = false := decide_eq_false (Int.lt_irrefl _)
        have HE : Hid (F = (t, true)) := by show _ = _; have h := HS.out; rw [List.take_length] at h; rw [HF.out, HPE.out]; exact h
        go_wp2_with fail
        go_ret
        exact ⟨by rw [HE.out]; rfl, by rw [HE.out]; exact HT1.out, O1.out⟩

set_option maxHeartbeats 2000000 in
set_option maxRecDepth 100000 in
theorem walk2_any (g B : Nat) (T : World → Int → Prop) (step : Int → Tree → Int) (ok : Int → Tree → Bool) (hg : B ≤ g)
    (hT : ∀ W W' s, T W s → Below W.heap.size W W' → T W' s) (hTg : ∀ W s, T W s → g < W.heap.size)
    (hv : ∀ d x W s, In d B W x → B ≤ W.heap.size → T W s → Calls Tryz.prog 126 #[x.val, .pointer (some ⟨g, 0, none⟩)] W fun r W' => r = .returned (.bool (ok s x)) ∧ T W' (step s x) ∧ Only g W W') (d : Nat) :
    ∀ (e : Tree) (w : World) (s : Int), In d B w e → B ≤ w.heap.size → T w s → (preF d e).length ≤ 5000 → Calls Tryz.prog 83 #[.agg #[.func (.func 126) #[] #[.pointer (some ⟨g, 0, none⟩)]], e.val] w fun r w' => r = .returned (.bool (foldW step ok s (preF d e)).2) ∧ T w' (foldW step ok s (preF d e)).1 ∧ Only g w w' := by
  induction d with
  | zero => intro e w s h; exact h.elim
  | succ d ih =>
    intro e w s h hB ht hsz
    have hlen : e.args.length ≤ 5000 := by have := args_le h; omega
    have hli : (e.args.length : Int) ≤ 5000 := by omega
    have HPA := Lib.hid (fun x (hx : x ∈ e.args) => pre_arg (d := d) hx)
    have HSZ := Lib.hid hsz
    have HV := Lib.hid (fun W (k : Below w.heap.size w W) => hv (d + 1) e W s (h.keep (k.mono hB)) (Nat.le_trans hB k.size) (hT _ _ _ ht k))
    obtain ⟨h1, h2, h3, h4⟩ := h
    have HI := Lib.hid (fun x (hx : x ∈ e.args) W t (k : Below B w W) (hw : B ≤ W.heap.size) (ht : T W t) => ih x W t ((h4 x hx).keep k) hw ht (by have h5 := HPA.out x hx; have := HSZ.out; omega))
    obtain ⟨A, hA⟩ : ∃ A, A = e.a := ⟨_, rfl⟩
    rw [← hA] at h3
    have HR := Lib.hid h3
    have HB := Lib.hid hB
    have HG := Lib.hid hg
    have HGT := Lib.hid (hTg _ _ ht)
    have HK := Lib.hid hT
    have hz1 : (w.alloc (.cells #[.func (.func 126) #[] #[.pointer (some ⟨g, 0, none⟩)]] 124)).heap.size = w.heap.size + 1 := World.size_alloc _ _
    have BX := Lib.hid ((below_new w (.cells #[.func (.func 126) #[] #[.pointer (some ⟨g, 0, none⟩)]] 124)).alloc (below_new w (.cells #[.func (.func 126) #[] #[.pointer (some ⟨g, 0, none⟩)]] 124)).size (.cells #[.int .i64 e.op, .int .i64 (e.want 0), .int .i64 (e.want 1), .int .i64 (e.want 2), .int .i64 (e.want 3), .int .i64 (e.want 4), .int .i64 (e.want 5), .int .i64 e.value, .slice A e.args.length e.c] 28))
    have KW := Lib.hid ((Blk.new w 124 #[.func (.func 126) #[] #[.pointer (some ⟨g, 0, none⟩)]]).alloc (.cells #[.int .i64 e.op, .int .i64 (e.want 0), .int .i64 (e.want 1), .int .i64 (e.want 2), .int .i64 (e.want 3), .int .i64 (e.want 4), .int .i64 (e.want 5), .int .i64 e.value, .slice A e.args.length e.c] 28))
    have ke := Blk.new (w.alloc (.cells #[.func (.func 126) #[] #[.pointer (some ⟨g, 0, none⟩)]] 124)) 28 #[.int .i64 e.op, .int .i64 (e.want 0), .int .i64 (e.want 1), .int .i64 (e.want 2), .int .i64 (e.want 3), .int .i64 (e.want 4), .int .i64 (e.want 5), .int .i64 e.value, .slice A e.args.length e.c]
    rw [hz1] at ke
    have KE := Lib.hid ke
    have HFA := Lib.hid (foldW_append step ok)
    have HPE : Hid (preF (d + 1) e = e :: e.args.flatMap (preF d)) := rfl
    unfold Tree.val at HV ⊢
    rw [← hA] at HV ⊢
    obtain ⟨F, hF⟩ : ∃ F, F = foldW step ok s (preF (d + 1) e) := ⟨_, rfl⟩
    have HF := Lib.hid hF
    rw [← hF]
    clear hF
    clear ih hv h1 h2 h3 h4 hB hsz HPA hlen hA ke hz1 hT hTg hg ht
    go_enter Tryz.func83, Tryz.ntmps83
    have z0 := KE.out.cell 0
    have z1 := KE.out.cell 1
    have z2 := KE.out.cell 2
    have z3 := KE.out.cell 3
    have z4 := KE.out.cell 4
    have z5 := KE.out.cell 5
    have z6 := KE.out.cell 6
    have z7 := KE.out.cell 7
    have z8 := KE.out.cell 8
    go_wp2_with fail
    refine (HV.out _ BX.out).mono ?_
    rintro r w1 ⟨rfl, ht1, o1⟩
    have HT1 := Lib.hid ht1
    have KW1 := Lib.hid (KW.out.only o1 (by have := HGT.out; omega))
    have KE1 := Lib.hid (KE.out.only o1 (by have := HGT.out; omega))
    have O1 := Lib.hid ((Only.of_below g BX.out).trans o1)
    clear ht1 o1 BX KW KE z0 z1 z2 z3 z4 z5 z6 z7 z8 HV
    cases hok : ok s e with
    | false =>
      have HE : Hid (F = (step s e, false)) := by show _ = _; rw [HF.out, HPE.out, foldW, if_neg (by rw [hok]; simp)]
      clear hok
      go_wp2_with fail
      go_ret
      exact ⟨by rw [HE.out]; rfl, by rw [HE.out]; exact HT1.out, O1.out⟩
    | true =>
    have HS0 : Hid (foldW step ok s [e] = (step s e, true)) := by show _ = _; rw [foldW, if_pos hok]; rfl
    clear hok
    have z8 := KE1.out.cell 8
    have zl := KE1.out.lt
    go_wp2_with fail
    clear z8 zl
    go_loopw [15] (fun iv wr => ∃ (k : Nat) (t : Int), k ≤ e.args.length ∧ iv = .int .i64 (k : Int) ∧ Hid (foldW step ok s (e :: (e.args.take k).flatMap (preF d)) = (t, true)) ∧ Hid (T wr t) ∧ Hid (Only g w wr) ∧ Hid (Blk wr w.heap.size 124 #[.func (.func 126) #[] #[.pointer (some ⟨g, 0, none⟩)]])) (fun iv _ => e.args.length - (intOf iv).toNat)
    case atStart => exact ⟨0, step s e, Nat.zero_le _, rfl, HS0.out, HT1.out, O1.out, KW1.out⟩
    case round =>
      clear HS0 HT1 O1 KW1 KE1
      obtain ⟨k, t, hk, rfl, HS, HT1, O1, KW1⟩ := hrel
      have hk0 : (0 : Int) ≤ (k : Int) := by omega
      by_cases hkn : k < e.args.length
      · have hd1 : decide (k < e.args.length) = true := decide_eq_true hkn
        have hd2 : decide ((k : Int) < (e.args.length : Int)) = true := decide_eq_true (by omega)
        have hkn1 : (k : Int) < (e.args.length : Int) := by omega
        obtain ⟨b, o, e1, hb, hrow⟩ := HR.out (by omega)
        subst e1
        have hat := tree_at (Row.keepB hrow hb (O1.out.below HG.out HB.out)) k hkn
        have hbr : b < wr.heap.size := Nat.lt_of_lt_of_le hb (Nat.le_trans HB.out O1.out.size)
        have HIK := Lib.hid (HI.out e.args[k] (List.getElem_mem hkn))
        have HSP := Lib.hid (pre_split (d := d) e k hkn)
        have HSN := Lib.hid (flat_snoc (preF d) e.args k hkn)
        generalize e.args[k] = x at *
        have kw := KW1.out.cell 0
        have kwl := KW1.out.lt
        have B2 := Lib.hid (below_new wr (.cells #[.int .i64 x.op, .int .i64 (x.want 0), .int .i64 (x.want 1), .int .i64 (x.want 2), .int .i64 (x.want 3), .int .i64 (x.want 4), .int .i64 (x.want 5), .int .i64 x.value, .slice x.a x.args.length x.c] 28))
        have O2 := Lib.hid (O1.out.then_below B2.out)
        have HT2 := Lib.hid (HK.out _ _ _ HT1.out B2.out)
        have KW2 := Lib.hid (KW1.out.below' B2.out)
        clear hrow hb
        go_wp2_with fail
        refine (HIK.out _ t (O2.out.below HG.out HB.out) (Nat.le_trans HB.out O2.out.size) HT2.out).mono ?_
        rintro r w3 ⟨rfl, ht3, o3⟩
        have HT3 := Lib.hid ht3
        have O3 := Lib.hid (O2.out.trans o3)
        have KW3 := Lib.hid (KW2.out.only o3 (by have := HGT.out; omega))
        clear ht3 o3 hat hbr kw kwl B2 O2 HT2 KW2 HIK HT1 O1 KW1
        obtain ⟨q, hq⟩ : ∃ q, q = foldW step ok t (preF d x) := ⟨_, rfl⟩
        rw [← hq] at HT3 ⊢
        have HQ := Lib.hid hq
        clear hq
        obtain ⟨t2, b2⟩ := q
        dsimp only at HT3 ⊢
        cases b2 with
        | false =>
          have HE : Hid (F = (t2, false)) := by show _ = _; rw [HF.out, HPE.out, HSP.out, fold_go HS.out, fold_stop HQ.out.symm]
          go_wp2_with fail
          go_ret
          exact ⟨by rw [HE.out]; rfl, by rw [HE.out]; exact HT3.out, O3.out⟩
        | true =>
          have HS2 : Hid (foldW step ok s (e :: (e.args.take (k + 1)).flatMap (preF d)) = (t2, true)) := by show _ = _; rw [HSN.out, ← List.cons_append, fold_go HS.out]; exact HQ.out.symm
          go_wp2_with fail
          go_roundw
          case rel => exact ⟨k + 1, t2, hkn, by go_num, HS2.out, HT3.out, O3.out, KW3.out⟩
          case measure => simp [intOf]; omega
      · obtain rfl : k = e.args.length := by omega
        have hd1 : decide (e.args.length < e.args.length) = false := decide_eq_false (Nat.lt_irrefl _)
        have hd2 : decide ((e.args.length : Int) < (e.args.length : Int)) = false := decide_eq_false (Int.lt_irrefl _)
        have HE : Hid (F = (t, true)) := by show _ = _; have h := HS.out; rw [List.take_length] at h; rw [HF.out, HPE.out]; exact h
        go_wp2_with fail
        go_ret
        exact ⟨by rw [HE.out]; rfl, by rw [HE.out]; exact HT1.out, O1.out⟩

set_option maxHeartbeats 2000000 in
set_option maxRecDepth 100000 in
theorem walk3_any (g B : Nat) (T : World → Int → Prop) (step : Int → Tree → Int) (ok : Int → Tree → Bool) (hg : B ≤ g)
    (hT : ∀ W W' s, T W s → Below W.heap.size W W' → T W' s) (hTg : ∀ W s, T W s → g < W.heap.size)
    (hv : ∀ d x W s, In d B W x → B ≤ W.heap.size → T W s → Calls Tryz.prog 85 #[x.val, .pointer (some ⟨g, 0, none⟩)] W fun r W' => r = .returned (.bool (ok s x)) ∧ T W' (step s x) ∧ Only g W W') (d : Nat) :
    ∀ (e : Tree) (w : World) (s : Int), In d B w e → B ≤ w.heap.size → T w s → (preF d e).length ≤ 5000 → Calls Tryz.prog 83 #[.agg #[.func (.func 85) #[] #[.pointer (some ⟨g, 0, none⟩)]], e.val] w fun r w' => r = .returned (.bool (foldW step ok s (preF d e)).2) ∧ T w' (foldW step ok s (preF d e)).1 ∧ Only g w w' := by
  induction d with
  | zero => intro e w s h; exact h.elim
  | succ d ih =>
    intro e w s h hB ht hsz
    have hlen : e.args.length ≤ 5000 := by have := args_le h; omega
    have hli : (e.args.length : Int) ≤ 5000 := by omega
    have HPA := Lib.hid (fun x (hx : x ∈ e.args) => pre_arg (d := d) hx)
    have HSZ := Lib.hid hsz
    have HV := Lib.hid (fun W (k : Below w.heap.size w W) => hv (d + 1) e W s (h.keep (k.mono hB)) (Nat.le_trans hB k.size) (hT _ _ _ ht k))
    obtain ⟨h1, h2, h3, h4⟩ := h
    have HI := Lib.hid (fun x (hx : x ∈ e.args) W t (k : Below B w W) (hw : B ≤ W.heap.size) (ht : T W t) => ih x W t ((h4 x hx).keep k) hw ht (by have h5 := HPA.out x hx; have := HSZ.out; omega))
    obtain ⟨A, hA⟩ : ∃ A, A = e.a := ⟨_, rfl⟩
    rw [← hA] at h3
    have HR := Lib.hid h3
    have HB := Lib.hid hB
    have HG := Lib.hid hg
    have HGT := Lib.hid (hTg _ _ ht)
    have HK := Lib.hid hT
    have hz1 : (w.alloc (.cells #[.func (.func 85) #[] #[.pointer (some ⟨g, 0, none⟩)]] 124)).heap.size = w.heap.size + 1 := World.size_alloc _ _
    have BX := Lib.hid ((below_new w (.cells #[.func (.func 85) #[] #[.pointer (some ⟨g, 0, none⟩)]] 124)).alloc (below_new w (.cells #[.func (.func 85) #[] #[.pointer (some ⟨g, 0, none⟩)]] 124)).size (.cells #[.int .i64 e.op, .int .i64 (e.want 0), .int .i64 (e.want 1), .int .i64 (e.want 2), .int .i64 (e.want 3), .int .i64 (e.want 4), .int .i64 (e.want 5), .int .i64 e.value, .slice A e.args.length e.c] 28))
    have KW := Lib.hid ((Blk.new w 124 #[.func (.func 85) #[] #[.pointer (some ⟨g, 0, none⟩)]]).alloc (.cells #[.int .i64 e.op, .int .i64 (e.want 0), .int .i64 (e.want 1), .int .i64 (e.want 2), .int .i64 (e.want 3), .int .i64 (e.want 4), .int .i64 (e.want 5), .int .i64 e.value, .slice A e.args.length e.c] 28))
    have ke := Blk.new (w.alloc (.cells #[.func (.func 85) #[] #[.pointer (some ⟨g, 0, none⟩)]] 124)) 28 #[.int .i64 e.op, .int .i64 (e.want 0), .int .i64 (e.want 1), .int .i64 (e.want 2), .int .i64 (e.want 3), .int .i64 (e.want 4), .int .i64 (e.want 5), .int .i64 e.value, .slice A e.args.length e.c]
    rw [hz1] at ke
    have KE := Lib.hid ke
    have HFA := Lib.hid (foldW_append step ok)
    have HPE : Hid (preF (d + 1) e = e :: e.args.flatMap (preF d)) := rfl
    unfold Tree.val at HV ⊢
    rw [← hA] at HV ⊢
    obtain ⟨F, hF⟩ : ∃ F, F = foldW step ok s (preF (d + 1) e) := ⟨_, rfl⟩
    have HF := Lib.hid hF
    rw [← hF]
    clear hF
    clear ih hv h1 h2 h3 h4 hB hsz HPA hlen hA ke hz1 hT hTg hg ht
    go_enter Tryz.func83, Tryz.ntmps83
    have z0 := KE.out.cell 0
    have z1 := KE.out.cell 1
    have z2 := KE.out.cell 2
    have z3 := KE.out.cell 3
    have z4 := KE.out.cell 4
    have z5 := KE.out.cell 5
    have z6 := KE.out.cell 6
    have z7 := KE.out.cell 7
    have z8 := KE.out.cell 8
    go_wp2_with fail
    refine (HV.out _ BX.out).mono ?_
    rintro r w1 ⟨rfl, ht1, o1⟩
    have HT1 := Lib.hid ht1
    have KW1 := Lib.hid (KW.out.only o1 (by have := HGT.out; omega))
    have KE1 := Lib.hid (KE.out.only o1 (by have := HGT.out; omega))
    have O1 := Lib.hid ((Only.of_below g BX.out).trans o1)
    clear ht1 o1 BX KW KE z0 z1 z2 z3 z4 z5 z6 z7 z8 HV
    cases hok : ok s e with
    | false =>
      have HE : Hid (F = (step s e, false)) := by show _ = _; rw [HF.out, HPE.out, foldW, if_neg (by rw [hok]; simp)]
      clear hok
      go_wp2_with fail
      go_ret
      exact ⟨by rw [HE.out]; rfl, by rw [HE.out]; exact HT1.out, O1.out⟩
    | true =>
    have HS0 : Hid (foldW step ok s [e] = (step s e, true)) := by show _ = _; rw [foldW, if_pos hok]; rfl
    clear hok
    have z8 := KE1.out.cell 8
    have zl := KE1.out.lt
    go_wp2_with fail
    clear z8 zl
    go_loopw [15] (fun iv wr => ∃ (k : Nat) (t : Int), k ≤ e.args.length ∧ iv = .int .i64 (k : Int) ∧ Hid (foldW step ok s (e :: (e.args.take k).flatMap (preF d)) = (t, true)) ∧ Hid (T wr t) ∧ Hid (Only g w wr) ∧ Hid (Blk wr w.heap.size 124 #[.func (.func 85) #[] #[.pointer (some ⟨g, 0, none⟩)]])) (fun iv _ => e.args.length - (intOf iv).toNat)
    case atStart => exact ⟨0, step s e, Nat.zero_le _, rfl, HS0.out, HT1.out, O1.out, KW1.out⟩
    case round =>
      clear HS0 HT1 O1 KW1 KE1
      obtain ⟨k, t, hk, rfl, HS, HT1, O1, KW1⟩ := hrel
      have hk0 : (0 : Int) ≤ (k : Int) := by omega
      by_cases hkn : k < e.args.length
      · have hd1 : decide (k < e.args.length) = true := decide_eq_true hkn
        have hd2 : decide ((k : Int) < (e.args.length : Int)) = true := decide_eq_true (by omega)
        have hkn1 : (k : Int) < (e.args.length : Int) := by omega
        obtain ⟨b, o, e1, hb, hrow⟩ := HR.out (by omega)
        subst e1
        have hat := tree_at (Row.keepB hrow hb (O1.out.below HG.out HB.out)) k hkn
        have hbr : b < wr.heap.size := Nat.lt_of_lt_of_le hb (Nat.le_trans HB.out O1.out.size)
        have HIK := Lib.hid (HI.out e.args[k] (List.getElem_mem hkn))
        have HSP := Lib.hid (pre_split (d := d) e k hkn)
        have HSN := Lib.hid (flat_snoc (preF d) e.args k hkn)
        generalize e.args[k] = x at *
        have kw := KW1.out.cell 0
        have kwl := KW1.out.lt
        have B2 := Lib.hid (below_new wr (.cells #[.int .i64 x.op, .int .i64 (x.want 0), .int .i64 (x.want 1), .int .i64 (x.want 2), .int .i64 (x.want 3), .int .i64 (x.want 4), .int .i64 (x.want 5), .int .i64 x.value, .slice x.a x.args.length x.c] 28))
        have O2 := Lib.hid (O1.out.then_below B2.out)
        have HT2 := Lib.hid (HK.out _ _ _ HT1.out B2.out)
        have KW2 := Lib.hid (KW1.out.below' B2.out)
        clear hrow hb
        go_wp2_with fail
        refine (HIK.out _ t (O2.out.below HG.out HB.out) (Nat.le_trans HB.out O2.out.size) HT2.out).mono ?_
        rintro r w3 ⟨rfl, ht3, o3⟩
        have HT3 := Lib.hid ht3
        have O3 := Lib.hid (O2.out.trans o3)
        have KW3 := Lib.hid (KW2.out.only o3 (by have := HGT.out; omega))
        clear ht3 o3 hat hbr kw kwl B2 O2 HT2 KW2 HIK HT1 O1 KW1
        obtain ⟨q, hq⟩ : ∃ q, q = foldW step ok t (preF d x) := ⟨_, rfl⟩
        rw [← hq] at HT3 ⊢
        have HQ := Lib.hid hq
        clear hq
        obtain ⟨t2, b2⟩ := q
        dsimp only at HT3 ⊢
        cases b2 with
        | false =>
          have HE : Hid (F = (t2, false)) := by show _ = _; rw [HF.out, HPE.out, HSP.out, fold_go HS.out, fold_stop HQ.out.symm]
          go_wp2_with fail
          go_ret
          exact ⟨by rw [HE.out]; rfl, by rw [HE.out]; exact HT3.out, O3.out⟩
        | true =>
          have HS2 : Hid (foldW step ok s (e :: (e.args.take (k + 1)).flatMap (preF d)) = (t2, true)) := by show _ = _; rw [HSN.out, ← List.cons_append, fold_go HS.out]; exact HQ.out.symm
          go_wp2_with fail
          go_roundw
          case rel => exact ⟨k + 1, t2, hkn, by go_num, HS2.out, HT3.out, O3.out, KW3.out⟩
          case measure => simp [intOf]; omega
      · obtain rfl : k = e.args.length := by omega
        have hd1 : decide (e.args.length < e.args.length) = false := decide_eq_false (Nat.lt_irrefl _)
        have hd2 : decide ((e.args.length : Int) < (e.args.length : Int)) = false := decide_eq_false (Int.lt_irrefl _)
        have HE : Hid (F = (t, true)) := by show _ = _; have h := HS.out; rw [List.take_length] at h; rw [HF.out, HPE.out]; exact h
        go_wp2_with fail
        go_ret
        exact ⟨by rw [HE.out]; rfl, by rw [HE.out]; exact HT1.out, O1.out⟩

end Go.Proofs.YtjjlhihocllgjaaGreatDoor.Ex
