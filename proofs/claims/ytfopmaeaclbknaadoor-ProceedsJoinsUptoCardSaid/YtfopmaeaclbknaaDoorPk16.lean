/- Arrays of six numbers in memory; contracts of Supply of both. -/
import Derived.Test.YtfopmaeaclbknaaDoorPk15
import Derived.ChangeKeysEq
import Derived.Deep.DeepCutAuto
import Derived.Deep.RegionWith
import Derived.Deep.RegionHeld3
namespace Go.Proofs.YtfopmaeaclbknaaDoor
open Go.ChangeShapes Go.WideShapes Go.ChangeAt Go.RowKit
set_option linter.unusedVariables false
set_option linter.unusedSimpArgs false
namespace Cat
open Lex
def eq6 (a b : Nat → Int) : Bool := a 0 == b 0 && (a 1 == b 1 && (a 2 == b 2 && (a 3 == b 3 && (a 4 == b 4 && (a 5 == b 5)))))
theorem eq6_iff (a b : Nat → Int) : eq6 a b = true ↔ ∀ k, k < 6 → a k = b k := by
  simp only [eq6, Bool.and_eq_true, beq_iff_eq]
  constructor
  · rintro ⟨h0, h1, h2, h3, h4, h5⟩ k hk
    obtain rfl | rfl | rfl | rfl | rfl | rfl : k = 0 ∨ k = 1 ∨ k = 2 ∨ k = 3 ∨ k = 4 ∨ k = 5 := by omega
    all_goals assumption
  · intro h
    exact ⟨h 0 (by omega), h 1 (by omega), h 2 (by omega), h 3 (by omega), h 4 (by omega), h 5 (by omega)⟩
section
variable {P : Program} {E : TypeId} {d : Nat}
theorem item_step (hE : P.underlying E = some (.int .i64)) (hp : P.plainKey E = true) (xs ys : Array Value) (j : Nat) (is : List Nat) (a b : Int) (ha : xs[j]? = some (.int .i64 a)) (hb : ys[j]? = some (.int .i64 b)) (r : Bool) (w : World)
    (hr : (Op.eqItems (d + 1) E 1 xs ys is).run P w = .ok r w) : (Op.eqItems (d + 1) E 1 xs ys (j :: is)).run P w = .ok (a == b && r) w := by
  have e1 := run_part_plain (w := w) hp (off := j) ha
  have e2 := run_part_plain (w := w) hp (off := j) hb
  have e3 : (Op.equalIn (d + 1) E (.int .i64 a) (.int .i64 b)).run P w = .ok (a == b) w := by simp [Op.equalIn, run_underlying hE]
  simp only [Op.eqItems, Nat.mul_one, Sem.run_bind, e1, e2, e3, Result.andThen_ok]
  cases h : (a == b)
  · simp
  · simp [hr]
theorem run_eq6 {T : TypeId} {i : TypeInfo} (hT : P.underlying T = some (.array 6 E)) (hi : P.info? E = some i) (hE : P.underlying E = some (.int .i64)) (hp : P.plainKey E = true) (hc : P.cellsOf E = 1) (a b : Nat → Int) (w : World) :
    (Op.equalIn 10000 T (.agg (arr a)) (.agg (arr b))).run P w = .ok (eq6 a b) w := by
  rw [run_equalIn_array w 9999 _ _ hT hi, hc]
  show (Op.eqItems (9998 + 1) E 1 (arr a) (arr b) [0, 1, 2, 3, 4, 5]).run P w = _
  unfold eq6
  refine item_step hE hp _ _ 0 _ (a 0) (b 0) rfl rfl _ w ?_
  refine item_step hE hp _ _ 1 _ (a 1) (b 1) rfl rfl _ w ?_
  refine item_step hE hp _ _ 2 _ (a 2) (b 2) rfl rfl _ w ?_
  refine item_step hE hp _ _ 3 _ (a 3) (b 3) rfl rfl _ w ?_
  refine item_step hE hp _ _ 4 _ (a 4) (b 4) rfl rfl _ w ?_
  rw [show (a 5 == b 5) = (a 5 == b 5 && true) by simp]
  exact item_step hE hp _ _ 5 _ (a 5) (b 5) rfl rfl _ w rfl
end
theorem eq27 (a b : Nat → Int) (w : World) : (Op.equalIn 10000 77 (.agg (arr a)) (.agg (arr b))).run Tryd.prog w = .ok (eq6 a b) w :=
  run_eq6 (P := Tryd.prog) (E := 3) (by kernel_rfl) (Option.some_get (by kernel_rfl)).symm (by kernel_rfl) (by kernel_rfl) (by kernel_rfl) a b w

theorem bcell {W w1 : World} (hb : Below W.heap.size W w1) : (∀ b o, b < W.heap.size → w1.cell? ⟨b, o, none⟩ = W.cell? ⟨b, o, none⟩) ∧ (∀ b o, b < W.heap.size → w1.frozen? ⟨b, o, none⟩ = W.frozen? ⟨b, o, none⟩) :=
  ⟨fun b o h => hb.cell (p := ⟨b, o, none⟩) h, fun b o h => hb.frozen (p := ⟨b, o, none⟩) h⟩

/-- block b holds the six numbers p -/
structure Box (w : World) (b : Nat) (p : Nat → Int) : Prop where
  blk : ∃ T, w.heap[b]? = some (.cells (arr p) T (0, 0))

theorem Box.cell {w : World} {b : Nat} {p : Nat → Int} (h : Box w b p) (k : Nat) (hk : k < 6) : w.cell? ⟨b, k, none⟩ = some (.int .i64 (p k)) := by
  obtain ⟨T, h⟩ := h.blk
  rw [cell_of_row w b k _ T _ h]
  obtain rfl | rfl | rfl | rfl | rfl | rfl : k = 0 ∨ k = 1 ∨ k = 2 ∨ k = 3 ∨ k = 4 ∨ k = 5 := by omega
  all_goals rfl
theorem Box.free {w : World} {b : Nat} {p : Nat → Int} (h : Box w b p) (k : Nat) : w.frozen? ⟨b, k, none⟩ = false := by
  obtain ⟨T, h⟩ := h.blk
  exact frozen_of_row w b k _ T h
theorem Box.lt {w : World} {b : Nat} {p : Nat → Int} (h : Box w b p) : b < w.heap.size := by
  have := block_lt_of_cell (h.cell 0 (by omega))
  exact this
theorem Box.below {B : Nat} {w w1 : World} {b : Nat} {p : Nat → Int} (h : Box w b p) (hb : Below B w w1) (hB : b < B) : Box w1 b p := by
  obtain ⟨T, h⟩ := h.blk
  exact ⟨T, by rw [hb.block b hB]; exact h⟩
theorem Box.other {w : World} {b c k : Nat} {p : Nat → Int} (h : Box w b p) (hn : b ≠ c) (v : Value) : Box (w.setCell ⟨c, k, none⟩ v) b p := by
  obtain ⟨T, h⟩ := h.blk
  exact ⟨T, by rw [heap_setCell_other _ _ _ _ hn]; exact h⟩
theorem Box.set {w : World} {b : Nat} {p : Nat → Int} (h : Box w b p) (k : Nat) (hk : k < 6) (x : Int) : Box (w.setCell ⟨b, k, none⟩ (.int .i64 x)) b (fun j => if j = k then x else p j) := by
  obtain ⟨T, h⟩ := h.blk
  refine ⟨T, ?_⟩
  rw [heap_setCell_same w b k _ T _ h]
  obtain rfl | rfl | rfl | rfl | rfl | rfl : k = 0 ∨ k = 1 ∨ k = 2 ∨ k = 3 ∨ k = 4 ∨ k = 5 := by omega
  all_goals simp [arr]
theorem Box.congr {w : World} {b : Nat} {p q : Nat → Int} (h : Box w b p) (he : ∀ k, k < 6 → p k = q k) : Box w b q := by
  obtain ⟨T, h⟩ := h.blk
  refine ⟨T, ?_⟩
  rw [h]
  simp [arr, he]
theorem Box.cells {w : World} {b : Nat} {p : Nat → Int} (h : Box w b p) : w.cell? ⟨b, 0, none⟩ = some (.int .i64 (p 0)) ∧ w.cell? ⟨b, 1, none⟩ = some (.int .i64 (p 1)) ∧ w.cell? ⟨b, 2, none⟩ = some (.int .i64 (p 2)) ∧ w.cell? ⟨b, 3, none⟩ = some (.int .i64 (p 3)) ∧ w.cell? ⟨b, 4, none⟩ = some (.int .i64 (p 4)) ∧ w.cell? ⟨b, 5, none⟩ = some (.int .i64 (p 5)) :=
  ⟨h.cell 0 (by omega), h.cell 1 (by omega), h.cell 2 (by omega), h.cell 3 (by omega), h.cell 4 (by omega), h.cell 5 (by omega)⟩
theorem idx27 (p : Nat → Int) (k : Nat) (hk : k < 6) (w : World) :
    (Instr.index 77 (.agg (arr p)) (.int .i64 (k : Int))).run Tryd.prog w = .ok (.int .i64 (p k)) w := by
  obtain rfl | rfl | rfl | rfl | rfl | rfl : k = 0 ∨ k = 1 ∨ k = 2 ∨ k = 3 ∨ k = 4 ∨ k = 5 := by omega
  all_goals kernel_rfl

theorem box_new (w : World) (p : Nat → Int) (T : TypeId) : Box (w.alloc (.cells (arr p) T)) w.heap.size p := ⟨T, by show (w.heap.push _)[w.heap.size]? = _; simp⟩
theorem Box.alloc {w : World} {b : Nat} {p : Nat → Int} (h : Box w b p) (o : Obj) : Box (w.alloc o) b p := by
  obtain ⟨T, h'⟩ := h.blk
  exact ⟨T, by rw [Below.heap_alloc _ _ _ h.lt]; exact h'⟩
theorem Box.drew {w : World} {b : Nat} {p : Nat → Int} (h : Box w b p) : Box w.drew b p := ⟨h.blk⟩
/-- the result's block is filled and read -/
theorem res_end {w : World} {b : Nat} {p : Nat → Int} (h : Box w b p) (q : Nat → Int) :
    Box ((((((w.setCell ⟨b, 0, none⟩ (.int .i64 (q 0))).setCell ⟨b, 1, none⟩ (.int .i64 (q 1))).setCell ⟨b, 2, none⟩ (.int .i64 (q 2))).setCell ⟨b, 3, none⟩ (.int .i64 (q 3))).setCell ⟨b, 4, none⟩ (.int .i64 (q 4))).setCell ⟨b, 5, none⟩ (.int .i64 (q 5))) b q :=
  ((((((h.set 0 (by omega) (q 0)).set 1 (by omega) (q 1)).set 2 (by omega) (q 2)).set 3 (by omega) (q 3)).set 4 (by omega) (q 4)).set 5 (by omega) (q 5)).congr (by
    intro k hk
    obtain rfl | rfl | rfl | rfl | rfl | rfl : k = 0 ∨ k = 1 ∨ k = 2 ∨ k = 3 ∨ k = 4 ∨ k = 5 := by omega
    all_goals rfl)

def startP (n : Nat) (re : Nat → Int) : Nat → Int := fun k => if k < n then re k else 0

structure SMid (w wx : World) (q : Nat → Int) : Prop where
  res : Box wx w.heap.size (fun _ => 0)
  out : Box wx (w.heap.size + 1) q
  bel : Below w.heap.size w wx
theorem smid_new (w : World) (T1 T2 : TypeId) (q : Nat → Int) (hq : ∀ k, k < 6 → (0 : Int) = q k) : SMid w ((w.alloc (.cells (arr fun _ => 0) T1)).alloc (.cells (arr fun _ => 0) T2)) q := by
  refine ⟨(box_new w _ T1).alloc _, ?_, ((Below.refl _ _).alloc (by go_size) _).alloc (by go_size) _⟩
  have := (box_new (w.alloc (.cells (arr fun _ => 0) T1)) (fun _ => 0) T2).congr hq
  simpa only [World.size_alloc] using this
theorem SMid.alloc {w wx : World} {q : Nat → Int} (h : SMid w wx q) (o : Obj) : SMid w (wx.alloc o) q :=
  ⟨h.res.alloc o, h.out.alloc o, h.bel.alloc h.bel.size _⟩
theorem SMid.put {w wx : World} {q : Nat → Int} (h : SMid w wx q) (k : Nat) (hk : k < 6) (v : Int) : SMid w (wx.setCell ⟨w.heap.size + 1, k, none⟩ (.int .i64 v)) (fun j => if j = k then v else q j) :=
  ⟨h.res.other (by omega) _, h.out.set k hk v, h.bel.setCell (p := ⟨w.heap.size + 1, k, none⟩) (by show w.heap.size ≤ w.heap.size + 1; omega) _⟩
theorem SMid.same {w wx : World} {q q' : Nat → Int} (h : SMid w wx q) (he : ∀ k, k < 6 → q k = q' k) : SMid w wx q' := ⟨h.res, h.out.congr he, h.bel⟩
theorem SMid.drew {w wx : World} {q : Nat → Int} (h : SMid w wx q) : SMid w wx.drew q := ⟨h.res.drew, h.out.drew, h.bel.drew⟩
theorem start_step (k : Nat) (re : Nat → Int) (j : Nat) : (if j = k then re k else startP k re j) = startP (k + 1) re j := by
  unfold startP
  by_cases e : j = k
  · subst e; simp
  · by_cases l : j < k
    · simp [e, l, Nat.lt_succ_of_lt l]
    · simp [e, l, show ¬ j < k + 1 by omega]

theorem start_sat (k : Nat) (re : Nat → Int) (h : 6 ≤ k) (j : Nat) (hj : j < 6) : startP k re j = startP (k + 1) re j := by
  unfold startP
  rw [if_pos (by omega), if_pos (by omega)]
def supI (l : List Prod) : Nat → Int := fun i => (l.getD i Prod.none).supply
def supP (l : List Prod) : Nat → Int := startP l.length (supI l)
theorem getD_prod (l : List Prod) (k : Nat) (h : k < l.length) : l.getD k Prod.none = l[k] := by simp [List.getD, h]
theorem supI_at (l : List Prod) (k : Nat) (h : k < l.length) : supI l k = l[k].supply := by unfold supI; rw [getD_prod l k h]
set_option maxHeartbeats 400000 in
theorem supply_some (l : List Prod) (b1 o1 c1 : Nat) (w : World) (hl : l.length ≤ 5000) (h1 : ProdRow w b1 o1 l) (h0 : 0 < l.length) :
    Calls Tryd.prog 113 #[.slice (some ⟨b1, o1, none⟩) l.length c1] w
      fun e w' => e = .returned (.agg (arr (supP l))) ∧ Below w.heap.size w w' := by
  have hb1 : b1 < w.heap.size := block_lt_of_cell (h1.at_ 0 h0).1
  have HR := Lib.hid h1
  clear h1 h0
  have R0 := Lib.hid (smid_new w 77 77 (startP 0 (supI l)) (by intro k _; simp [startP]))
  have HS := Lib.hid (start_step (re := supI l))
  have HE : Hid (supP l = startP l.length (supI l)) := rfl
  generalize supP l = res at *
  go_enter Tryd.func113, Tryd.ntmps113
  go_wp2_with fail
  go_loopw [8] (fun i wr => ∃ k : Nat, k ≤ l.length ∧ i = .int .i64 (k : Int) ∧ SMid w wr (startP k (supI l))) (fun i _ => l.length - (intOf i).toNat)
  case atStart => exact ⟨0, by omega, rfl, R0.out⟩
  case round =>
    obtain ⟨k, hk, rfl, R⟩ := hrel
    clear R0
    by_cases hlt : k < l.length
    · have hd : decide ((k : Int) < (l.length : Int)) = true := by simp; omega
      have hi0 : (0 : Int) ≤ (k : Int) := by omega
      have et := HR.out.at_ k hlt
      simp only [← R.bel.cell (p := ⟨b1, _, none⟩) hb1] at et
      have hbr : b1 < wr.heap.size := by have := R.bel.size; omega
      have HQ := Lib.hid (supI_at l k hlt)
      generalize l[k] = p at *
      by_cases h6 : k < 6
      · have hd6 : decide ((k : Int) < 6) = true := by simp; omega
        have pk := R.out.cell k h6
        have pf := R.out.free k
        have zp := R.out.lt
        have n1 : ¬ w.heap.size + 1 = wr.heap.size := by omega
        have n2 : ¬ b1 = wr.heap.size := by omega
        go_wp2_with fail
        all_goals
          go_roundw
          case rel => exact ⟨k + 1, by omega, by go_num, ((R.put k h6 _).alloc _).same fun j _ => by rw [← HQ.out]; exact HS.out k j⟩
          case measure => simp [intOf]; omega
      · have hd6 : decide ((k : Int) < 6) = false := by simp; omega
        go_wp2_with fail
        go_roundw
        case rel => exact ⟨k + 1, by omega, by go_num, (R.alloc _).same fun j hj => start_sat k _ (by omega) j hj⟩
        case measure => simp [intOf]; omega
    · obtain rfl : k = l.length := by omega
      have hd : decide ((l.length : Int) < (l.length : Int)) = false := by simp
      rw [← HE.out] at R
      have Rf := R.res.free
      obtain ⟨Z0, Z1, Z2, Z3, Z4, Z5⟩ := R.res.cells
      obtain ⟨Q0, Q1, Q2, Q3, Q4, Q5⟩ := R.out.cells
      go_wp2_with fail
      have RE := res_end R.res res
      obtain ⟨E0, E1, E2, E3, E4, E5⟩ := RE.cells
      refine bodyPost_ret (v := .agg (arr res)) (by simp [results, Tryd.results113, go_sem, arr, E0, E1, E2, E3, E4, E5]) rfl ⟨rfl, ?_⟩
      have := R.bel
      go_grown
theorem supply_empty (A : Option Addr) (c : Nat) (w : World) : Calls Tryd.prog 113 #[.slice A 0 c] w
      fun e w' => e = .returned (.agg (arr (supP []))) ∧ Below w.heap.size w w' := by
  have R := Lib.hid (smid_new w 77 77 (supP []) (by intro k _; simp [supP, startP]))
  go_enter Tryd.func113, Tryd.ntmps113
  go_wp2_with fail
  refine wp_loop_rounds 1 ?_
  rw [rounds_succ]
  go_wp2_with fail
  have RE := res_end R.out.res (supP [])
  obtain ⟨E0, E1, E2, E3, E4, E5⟩ := RE.cells
  refine bodyPost_ret (v := .agg (arr (supP []))) (by simp [results, Tryd.results113, go_sem, arr, supP, startP]) rfl ⟨rfl, ?_⟩
  go_grown
theorem supply_any (l : List Prod) (v : Value) (w : World) (hl : l.length ≤ 5000) (h : PS w v l) : Calls Tryd.prog 113 #[v] w
      fun e w' => e = .returned (.agg (arr (supP l))) ∧ Below w.heap.size w w' := by
  obtain ⟨A, c, rfl, _, _, ha⟩ := ps_cases h
  cases l with
  | nil => exact supply_empty A c w
  | cons p l =>
    obtain ⟨b, o, rfl, _, r⟩ := ha (by simp)
    exact supply_some _ b o c w hl r (by simp)
end Cat
end Go.Proofs.YtfopmaeaclbknaaDoor
