/- Contracts of exprtext.price, text, Format. Printed by gen_ex8.py. -/
import Derived.Test.YtjjlhihocllgjaaGreatDoorEx4
import Derived.Test.YtjjlhihocllgjaaGreatDoorCatV
import Derived.Test.YtjjlhihocllgjaaGreatDoorShelf
import Derived.Lib.ItoaNum
import Derived.Lib.ItoaLen
import Derived.Lib.LaidTab
import Derived.Lib.AppendIntMem
import Derived.Laws.IdiomStrings
import Derived.ChangeAgain
import Derived.OwnWalk
namespace Go.Proofs.YtjjlhihocllgjaaGreatDoor.Ex
open Go.ChangeShapes Go.WideShapes Go.ChangeAt Go.RowKit Gn Cat Lex
set_option linter.unusedVariables false
set_option linter.unusedSimpArgs false
theorem grow_below (w : World) (q : Nat) (os : Array Obj) : Below w.heap.size w (Go.Sort.grow (w.drewN q) os) :=
  ⟨rfl, rfl, rfl, by first | (simp [Go.Sort.grow]; done) | (simp [Go.Sort.grow]; omega), fun i hi => by
    show ((w.drewN q).heap ++ os)[i]? = _
    rw [Array.getElem?_append_left (by show i < w.heap.size; omega)]
    rfl⟩
/-- the table of the library's formatter -/
abbrev Tab (w : World) : Prop := Lib.TabIs Tryz.prog w "internal/strconv.uint64pow10" .u64 Lib.pow10Tab
theorem Tab.keep {w w' : World} (h : Tab w) (b : Below w.heap.size w w') : Tab w' := Lib.tabBelow_of_tabIs h w' b
def decS (v : Int) : ByteArray := ⟨(Lib.itoa v).toArray⟩
theorem decS_size {v : Int} (h : 0 ≤ v ∧ v ≤ 1000000) : (decS v).size ≤ 21 := by
  show ((Lib.itoa v).toArray).size ≤ 21
  rw [List.size_toArray]
  exact Lib.itoa_length_le v (by omega) (by omega)
theorem add_to {a b c : ByteArray} (hc : c = a ++ b) (h : a.size + b.size ≤ 4000000) (W : World) : (Op.stringOp .add a b).run Tryz.prog W = .ok (.string c) W := by rw [hc]; exact run_string_add_sum W _ _ (by omega)
theorem app_size (a b : ByteArray) : (a ++ b).size = a.size + b.size := ByteArray.size_append
theorem fint_any (v : Int) (w : World) (h : 0 ≤ v ∧ v ≤ 1000000) (ht : Tab w) : Calls Tryz.prog 51 #[.int .i64 v, .int .i64 10] w fun e w' => e = .returned (.string (decS v)) ∧ Below w.heap.size w w' := by
  refine (Tryz.strconv_FormatInt_10 v (by omega) (by omega) w ht).mono ?_
  rintro e w1 ⟨rfl, k, os, hw⟩
  exact ⟨rfl, by rw [hw]; exact grow_below w k os⟩
/-- a bundle with its value, as text; texts with commas between them -/
def priceT (l : List Prod) (e : Tree) : ByteArray := fmtS e.want l ++ ⟨#[64]⟩ ++ decS e.value
def innK : List ByteArray → ByteArray
  | [] => ⟨#[]⟩
  | s :: r => r.foldl (fun t x => t ++ ⟨#[44]⟩ ++ x) (⟨#[]⟩ ++ s)
theorem inn_snoc (ss : List ByteArray) (x : ByteArray) : innK (ss ++ [x]) = if ss.length = 0 then ⟨#[]⟩ ++ x else innK ss ++ ⟨#[44]⟩ ++ x := by
  cases ss with
  | nil => rfl
  | cons s r =>
    rw [if_neg (by simp)]
    show (r ++ [x]).foldl _ _ = _
    rw [List.foldl_append]
    rfl
/-- the text of an expression, and whether its bundles fit -/
def textF (l : List Prod) : Nat → Tree → ByteArray × Bool
  | 0, _ => (⟨#[]⟩, false)
  | d + 1, e =>
    if e.op = 1 then (priceT l e, rfitsB e.want l)
    else
      let t := innK (e.args.map fun x => (textF l d x).1)
      let f := e.args.all fun x => (textF l d x).2
      if e.op = 2 then (⟨#[120, 111, 114]⟩ ++ ⟨#[40]⟩ ++ t ++ ⟨#[41]⟩, f)
      else if e.op = 3 then (⟨#[111, 114]⟩ ++ ⟨#[40]⟩ ++ t ++ ⟨#[41]⟩, f)
      else if e.op = 4 then (⟨#[98, 111, 110, 117, 115, 40]⟩ ++ t ++ ⟨#[44]⟩ ++ priceT l e ++ ⟨#[41]⟩, f && rfitsB e.want l)
      else (⟨#[108, 105, 109, 105, 116, 40]⟩ ++ t ++ ⟨#[44]⟩ ++ decS e.value ++ ⟨#[41]⟩, f)
theorem err_app : ∀ {a b : List Tree}, errN (a ++ b) = 0 → errN a = 0 ∧ errN b = 0
  | [], _, h => ⟨rfl, h⟩
  | x :: a, b, h => by
    rw [List.cons_append, errN] at h
    rw [errN]
    split at h
    · cases h
    · rename_i h1
      rw [if_neg h1]
      split at h
      · cases h
      · rename_i h2
        rw [if_neg h2]
        exact err_app h
theorem err_flat {d : Nat} : ∀ {l : List Tree}, errN (l.flatMap (preF d)) = 0 → ∀ x ∈ l, errN (preF d x) = 0
  | [], _, x, hx => by cases hx
  | a :: l, h, x, hx => by
    rw [List.flatMap_cons] at h
    obtain ⟨h1, h2⟩ := err_app h
    rcases List.mem_cons.1 hx with rfl | hx
    · exact h1
    · exact err_flat h2 x hx
theorem err_parts {d : Nat} {e : Tree} (h : errN (preF (d + 1) e) = 0) : formB e = true ∧ rangeB e = true ∧ ∀ x ∈ e.args, errN (preF d x) = 0 := by
  have h2 : errN (e :: e.args.flatMap (preF d)) = 0 := h
  rw [errN] at h2
  split at h2
  · cases h2
  · rename_i q1
    split at h2
    · cases h2
    · rename_i q2
      exact ⟨by simpa using q1, by simpa using q2, err_flat h2⟩
/-- the operation of a node of the right form; its value, where it has one -/
theorem form_op {e : Tree} (h : formB e = true) : e.op = 1 ∨ e.op = 2 ∨ e.op = 3 ∨ e.op = 4 ∨ e.op = 5 := by
  unfold formB at h
  split at h
  · exact .inl (by assumption)
  · split at h
    · rename_i q; rcases q with q | q
      · exact .inr (.inl q)
      · exact .inr (.inr (.inl q))
    · split at h
      · exact .inr (.inr (.inr (.inl (by assumption))))
      · split at h
        · exact .inr (.inr (.inr (.inr (by assumption))))
        · cases h
theorem range_val {e : Tree} (h : rangeB e = true) (h2 : e.op ≠ 2) (h3 : e.op ≠ 3) : 1 ≤ e.value ∧ e.value ≤ 1000000 := by
  unfold rangeB at h
  rw [if_neg (fun q => q.elim h2 h3)] at h
  split at h
  · cases h
  · omega
theorem fmt_some {b : Nat → Int} {l : List Prod} (h : rfitsB b l = true) : ((fmtS b l).toList == ([] : List UInt8)) = false ∧ (fmtS b l).toList.isEmpty = false := by
  have : 0 < (fmtS b l).size := by unfold fmtS; rw [if_pos h, ByteArray.size_append, ByteArray.size_append]; show 0 < 1 + _ + 1; omega
  exact ⟨bytes_ne_nil this, bytes_isEmpty this⟩
theorem fmt_len (b : Nat → Int) (l : List Prod) : (fmtS b l).size ≤ 4000 := by
  cases h : rfitsB b l with
  | true => exact fmt_size b l h
  | false => unfold fmtS; rw [h]; exact Nat.zero_le _
theorem price_len (l : List Prod) {e : Tree} (hv : 0 ≤ e.value ∧ e.value ≤ 1000000) : (priceT l e).size ≤ 4022 := by
  have h1 := fmt_len e.want l
  have h2 := decS_size hv
  unfold priceT
  rw [app_size, app_size, show (⟨#[64]⟩ : ByteArray).size = 1 from rfl]
  omega
theorem fmt_none {b : Nat → Int} {l : List Prod} (h : rfitsB b l = false) : fmtS b l = ⟨#[]⟩ := by unfold fmtS; rw [h]; rfl
/-- the products, as the functions get them -/
structure PL (w : World) (v : Value) (l : List Prod) : Prop where
  sl : PS w v l
  len : l.length ≤ 5000
  nm : ∀ p ∈ l, p.name.size ≤ maxLen
theorem PL.keep {w w' : World} {v : Value} {l : List Prod} (h : PL w v l) (b : Below w.heap.size w w') : PL w' v l := ⟨h.sl.keep b, h.len, h.nm⟩
set_option maxHeartbeats 2000000 in
set_option maxRecDepth 100000 in
theorem price_any (l : List Prod) (v : Value) (e : Tree) (w : World) (h : PL w v l) (ht : Tab w) (hv : 0 ≤ e.value ∧ e.value ≤ 1000000) : Calls Tryz.prog 117 #[v, e.val] w fun r w' => r = .returned (.tuple #[.string (priceT l e), .bool (rfitsB e.want l)]) ∧ Below w.heap.size w w' := by
  obtain ⟨A1, c1, rfl, _⟩ := ps_cases h.sl
  have CF := Lib.hid (fun W (b : Below w.heap.size w W) => format_any l _ e.want W h.len (h.sl.keep b) h.nm)
  have CI := Lib.hid (fun W (b : Below w.heap.size w W) => fint_any e.value W hv (ht.keep b))
  have BX := Lib.hid (below_new w (.cells #[.int .i64 e.op, .int .i64 (e.want 0), .int .i64 (e.want 1), .int .i64 (e.want 2), .int .i64 (e.want 3), .int .i64 (e.want 4), .int .i64 (e.want 5), .int .i64 e.value, .slice e.a e.args.length e.c] 28))
  have KX := Lib.hid (Blk.new w 28 #[.int .i64 e.op, .int .i64 (e.want 0), .int .i64 (e.want 1), .int .i64 (e.want 2), .int .i64 (e.want 3), .int .i64 (e.want 4), .int .i64 (e.want 5), .int .i64 e.value, .slice e.a e.args.length e.c])
  obtain ⟨R, hR⟩ : ∃ R, R = priceT l e := ⟨_, rfl⟩
  have h1 := fmt_len e.want l
  have h2 := decS_size hv
  obtain ⟨p1, hp1⟩ : ∃ p1, p1 = fmtS e.want l ++ ⟨#[64]⟩ := ⟨_, rfl⟩
  have hs1 : p1.size = (fmtS e.want l).size + 1 := by rw [hp1, app_size]; rfl
  have q1 := add_to hp1 (show _ + 1 ≤ _ by omega)
  have q2 := add_to (a := p1) (b := decS e.value) (c := R) (by rw [hR, hp1]; rfl) (by omega)
  rw [← hR]
  have F1 := Lib.hid (fmt_some (b := e.want) (l := l))
  have F2 := Lib.hid (fmt_none (b := e.want) (l := l))
  obtain ⟨b, hb⟩ : ∃ b, b = rfitsB e.want l := ⟨_, rfl⟩
  rw [← hb] at F1 F2 ⊢
  unfold arr at CF
  unfold Tree.val
  clear h hv hR hb hp1 hs1 h1 h2
  go_enter Tryz.func117, Tryz.ntmps117
  have z0 := KX.out.cell 0
  have z1 := KX.out.cell 1
  have z2 := KX.out.cell 2
  have z3 := KX.out.cell 3
  have z4 := KX.out.cell 4
  have z5 := KX.out.cell 5
  have z6 := KX.out.cell 6
  have z7 := KX.out.cell 7
  have z8 := KX.out.cell 8
  have zl := KX.out.lt
  go_wp2_with fail
  refine (CF.out _ BX.out).mono ?_
  rintro r w1 ⟨rfl, d1⟩
  have K1 := Lib.hid (KX.out.below' d1)
  have B1 := Lib.hid (chain0 BX.out d1)
  clear d1 KX BX CF
  clear z0 z1 z2 z3 z4 z5 z6 z7 z8 zl
  have z7 := K1.out.cell 7
  have zl := K1.out.lt
  generalize decS e.value = dv at *
  cases b with
  | true =>
    obtain ⟨f1, f2⟩ := F1.out (by first | rfl | trivial)
    have f3 : ((fmtS e.want l).toList != ([] : List UInt8)) = true := by show (!((fmtS e.want l).toList == [])) = true; rw [f1]; rfl
    generalize fmtS e.want l = fs at *
    clear F1 F2
    go_wp2_with fail
    refine (CI.out _ B1.out).mono ?_
    rintro r w2 ⟨rfl, d2⟩
    have B2 := Lib.hid (chain0 B1.out d2)
    clear d2
    go_wp2_with fail
    go_ret2
    exact ⟨rfl, B2.out⟩
  | false =>
    have f1 := F2.out (by first | rfl | trivial)
    rw [f1] at q1
    rw [f1]
    clear F1 F2 f1
    go_wp2_with fail
    refine (CI.out _ B1.out).mono ?_
    rintro r w2 ⟨rfl, d2⟩
    have B2 := Lib.hid (chain0 B1.out d2)
    clear d2
    go_wp2_with fail
    go_ret2
    exact ⟨rfl, B2.out⟩

end Go.Proofs.YtjjlhihocllgjaaGreatDoor.Ex
