/- Contracts of Start and the reference's. -/
import Derived.Test.YtnnakikhfacnpaaClk5
namespace Go.Proofs.Ytnnakikhfacnpaa
open Go.ChangeShapes Go.WideShapes Go.ChangeAt Go.RowKit
namespace Clk

/-- element i of a slice of products at ⟨b, off⟩ -/
structure ProdAt (w : World) (b off : Nat) (nm : ByteArray) (su re po gr : Int) : Prop where
  c0 : w.cell? ⟨b, off, none⟩ = some (.string nm)
  c1 : w.cell? ⟨b, off + 1, none⟩ = some (.int .i64 su)
  c2 : w.cell? ⟨b, off + 2, none⟩ = some (.int .i64 re)
  c3 : w.cell? ⟨b, off + 3, none⟩ = some (.int .i64 po)
  c4 : w.cell? ⟨b, off + 4, none⟩ = some (.int .i64 gr)

def startP (n : Nat) (re : Nat → Int) : Nat → Int := fun k => if k < n then re k else 0

theorem ProdAt.below {B : Nat} {w w1 : World} {b off : Nat} {nm : ByteArray} {su re po gr : Int} (h : ProdAt w b off nm su re po gr) (hb : Below B w w1) (hB : b < B) : ProdAt w1 b off nm su re po gr :=
  ⟨(hb.cell (p := ⟨b, _, none⟩) hB).trans h.c0, (hb.cell (p := ⟨b, _, none⟩) hB).trans h.c1, (hb.cell (p := ⟨b, _, none⟩) hB).trans h.c2, (hb.cell (p := ⟨b, _, none⟩) hB).trans h.c3, (hb.cell (p := ⟨b, _, none⟩) hB).trans h.c4⟩

structure SMid (w wx : World) (q : Nat → Int) : Prop where
  res : Box wx w.heap.size (fun _ => 0)
  out : Box wx (w.heap.size + 1) q
  bel : Below w.heap.size w wx
theorem smid_new (w : World) (T1 T2 : TypeId) (q : Nat → Int) (hq : ∀ k, k < 6 → (0 : Int) = q k) : SMid w ((w.alloc (.cells (arr fun _ => 0) T1)).alloc (.cells (arr fun _ => 0) T2)) q := by
  refine ⟨(box_new w _ T1).alloc _, ?_, ((Below.refl _ _).alloc (by go_size) _).alloc (by go_size) _⟩
  have := (box_new (w.alloc (.cells (arr fun _ => 0) T1)) (fun _ => 0) T2).congr hq
  simpa only [World.size_alloc] using this
theorem SMid.alloc {w wx : World} {q : Nat → Int} (h : SMid w wx q) (o : Obj) : SMid w (wx.alloc o) q :=
  ⟨h.res.alloc o, h.out.alloc o, h.bel.alloc h.bel.size _⟩
theorem SMid.put {w wx : World} {q : Nat → Int} (h : SMid w wx q) (k : Nat) (hk : k < 6) (v : Int) : SMid w (wx.setCell ⟨w.heap.size + 1, k, none⟩ (.int .i64 v)) (fun j => if j = k then v else q j) :=
  ⟨h.res.other (by omega) _, h.out.set k hk v, h.bel.setCell (p := ⟨w.heap.size + 1, k, none⟩) (by show w.heap.size ≤ w.heap.size + 1; omega) _⟩
theorem SMid.same {w wx : World} {q q' : Nat → Int} (h : SMid w wx q) (he : ∀ k, k < 6 → q k = q' k) : SMid w wx q' := ⟨h.res, h.out.congr he, h.bel⟩
theorem SMid.drew {w wx : World} {q : Nat → Int} (h : SMid w wx q) : SMid w wx.drew q := ⟨h.res.drew, h.out.drew, h.bel.drew⟩
theorem start_step (k : Nat) (re : Nat → Int) (j : Nat) : (if j = k then re k else startP k re j) = startP (k + 1) re j := by
  unfold startP
  by_cases e : j = k
  · subst e; simp
  · by_cases l : j < k
    · simp [e, l, Nat.lt_succ_of_lt l]
    · simp [e, l, show ¬ j < k + 1 by omega]

set_option maxHeartbeats 400000 in
theorem start_lt (b off n cap : Nat) (nm : Nat → ByteArray) (su re po gr : Nat → Int) (w : World) (hn : 0 < n) (hc : n ≤ cap) (hm : cap ≤ maxLen) (h6 : n ≤ 6)
    (hp : ∀ i, i < n → ProdAt w b (off + i * 5) (nm i) (su i) (re i) (po i) (gr i)) :
    Calls Try.prog 20 #[.slice (some ⟨b, off, none⟩) n cap] w
      fun e w' => e = .returned (.agg (arr (startP n re))) ∧ Below w.heap.size w w' := by
  have HP := Lib.hid hp
  have hb : b < w.heap.size := block_lt_of_cell (hp 0 hn).c0
  clear hp
  unfold maxLen at hm
  have R0 := Lib.hid (smid_new w 25 25 (startP 0 re) (by intro k _; simp [startP]))
  have HS := Lib.hid (start_step (re := re))
  have hd : ¬ (6 : Int) < n := by omega
  go_enter Try.func20, Try.ntmps20
  go_wp2_with fail
  go_loopw [12] (fun i wr => ∃ k : Nat, k ≤ n ∧ i = .int .i64 k ∧ SMid w wr (startP k re)) (fun i _ => n - (intOf i).toNat)
  case atStart => exact ⟨0, by omega, rfl, R0.out⟩
  case round =>
    obtain ⟨k, hk, rfl, R⟩ := hrel
    clear R0
    by_cases hlt : k < n
    · obtain ⟨e0, e1, e2, e3, e4⟩ := (HP.out k (by omega)).below R.bel hb
      have pk := R.out.cell k (by omega)
      have pf := R.out.free k
      have zp := R.out.lt
      have n1 : ¬ w.heap.size + 1 = wr.heap.size := by omega
      have n2 : ¬ b = wr.heap.size := by omega
      
      go_wp2_with fail
      all_goals
        go_roundw
        case rel => exact ⟨k + 1, by omega, by go_num, ((R.put k (by omega) _).alloc _).same fun j _ => HS.out k j⟩
        case measure => simp [intOf]; omega
    · obtain rfl : n = k := by omega
      have R2 := R.same (q' := startP n re) (by intro j hj; unfold startP; (repeat' split) <;> first | rfl | omega)
      clear R
      have Rf := R2.res.free
      obtain ⟨Z0, Z1, Z2, Z3, Z4, Z5⟩ := R2.res.cells
      obtain ⟨Q0, Q1, Q2, Q3, Q4, Q5⟩ := R2.out.cells
      
      go_wp2_with fail
      have RE := res_end R2.res (startP n re)
      obtain ⟨E0, E1, E2, E3, E4, E5⟩ := RE.cells
      refine bodyPost_ret (v := .agg (arr (startP n re))) (by simp [results, Try.results20, go_sem, arr, E0, E1, E2, E3, E4, E5]) rfl ⟨rfl, ?_⟩
      have := R2.bel
      go_grown

set_option maxHeartbeats 400000 in
theorem start_ge (b off n cap : Nat) (nm : Nat → ByteArray) (su re po gr : Nat → Int) (w : World) (hn : 0 < n) (hc : n ≤ cap) (hm : cap ≤ maxLen) (h6 : 6 < n)
    (hp : ∀ i, i < n → ProdAt w b (off + i * 5) (nm i) (su i) (re i) (po i) (gr i)) :
    Calls Try.prog 20 #[.slice (some ⟨b, off, none⟩) n cap] w
      fun e w' => e = .returned (.agg (arr (startP n re))) ∧ Below w.heap.size w w' := by
  have HP := Lib.hid hp
  have hb : b < w.heap.size := block_lt_of_cell (hp 0 hn).c0
  clear hp
  unfold maxLen at hm
  have R0 := Lib.hid (smid_new w 25 25 (startP 0 re) (by intro k _; simp [startP]))
  have HS := Lib.hid (start_step (re := re))
  have hd : (6 : Int) < n := by omega
  have hmax : max (6 : Int) 0 = 6 := by decide
  have hd3 : (6 : Int) ≤ cap := by omega
  go_enter Try.func20, Try.ntmps20
  go_wp2_with fail
  go_loopw [12] (fun i wr => ∃ k : Nat, k ≤ 6 ∧ i = .int .i64 k ∧ SMid w wr (startP k re)) (fun i _ => 6 - (intOf i).toNat)
  case atStart => exact ⟨0, by omega, rfl, R0.out⟩
  case round =>
    obtain ⟨k, hk, rfl, R⟩ := hrel
    clear R0
    by_cases hlt : k < 6
    · obtain ⟨e0, e1, e2, e3, e4⟩ := (HP.out k (by omega)).below R.bel hb
      have pk := R.out.cell k (by omega)
      have pf := R.out.free k
      have zp := R.out.lt
      have n1 : ¬ w.heap.size + 1 = wr.heap.size := by omega
      have n2 : ¬ b = wr.heap.size := by omega
      
      go_wp2_with fail
      all_goals
        go_roundw
        case rel => exact ⟨k + 1, by omega, by go_num, ((R.put k (by omega) _).alloc _).same fun j _ => HS.out k j⟩
        case measure => simp [intOf]; omega
    · obtain rfl : 6 = k := by omega
      have R2 := R.same (q' := startP n re) (by intro j hj; unfold startP; (repeat' split) <;> first | rfl | omega)
      clear R
      have Rf := R2.res.free
      obtain ⟨Z0, Z1, Z2, Z3, Z4, Z5⟩ := R2.res.cells
      obtain ⟨Q0, Q1, Q2, Q3, Q4, Q5⟩ := R2.out.cells
      
      go_wp2_with fail
      have RE := res_end R2.res (startP n re)
      obtain ⟨E0, E1, E2, E3, E4, E5⟩ := RE.cells
      refine bodyPost_ret (v := .agg (arr (startP n re))) (by simp [results, Try.results20, go_sem, arr, E0, E1, E2, E3, E4, E5]) rfl ⟨rfl, ?_⟩
      have := R2.bel
      go_grown

set_option maxHeartbeats 400000 in
theorem refStart_lt (b off n cap : Nat) (nm : Nat → ByteArray) (su re po gr : Nat → Int) (w : World) (hn : 0 < n) (_hc : n ≤ cap) (_hm : cap ≤ maxLen) (h6 : n ≤ 6)
    (hp : ∀ i, i < n → ProdAt w b (off + i * 5) (nm i) (su i) (re i) (po i) (gr i)) :
    Calls Try.prog 21 #[.slice (some ⟨b, off, none⟩) n cap] w
      fun e w' => e = .returned (.agg (arr (startP n re))) ∧ Below w.heap.size w w' := by
  have HP := Lib.hid hp
  have hb : b < w.heap.size := block_lt_of_cell (hp 0 hn).c0
  clear hp
  have R0 := Lib.hid (smid_new w 25 25 (startP 0 re) (by intro k _; simp [startP]))
  have HS := Lib.hid (start_step (re := re))
  
  go_enter Try.func21, Try.ntmps21
  go_wp2_with fail
  go_loopw [4] (fun i wr => ∃ k : Nat, k ≤ n ∧ i = .int .i64 k ∧ SMid w wr (startP k re)) (fun i _ => n - (intOf i).toNat)
  case atStart => exact ⟨0, by omega, rfl, R0.out⟩
  case round =>
    obtain ⟨k, hk, rfl, R⟩ := hrel
    clear R0
    by_cases hlt : k < n
    · obtain ⟨e0, e1, e2, e3, e4⟩ := (HP.out k (by omega)).below R.bel hb
      have pk := R.out.cell k (by omega)
      have pf := R.out.free k
      have zp := R.out.lt
      have n1 : ¬ w.heap.size + 1 = wr.heap.size := by omega
      have n2 : ¬ b = wr.heap.size := by omega
      have hd : (k : Int) < 6 := by omega
      go_wp2_with fail
      all_goals
        go_roundw
        case rel => exact ⟨k + 1, by omega, by go_num, (R.put k (by omega) _).same fun j _ => HS.out k j⟩
        case measure => simp [intOf]; omega
    · obtain rfl : n = k := by omega
      have R2 := R.same (q' := startP n re) (by intro j hj; unfold startP; (repeat' split) <;> first | rfl | omega)
      clear R
      have Rf := R2.res.free
      obtain ⟨Z0, Z1, Z2, Z3, Z4, Z5⟩ := R2.res.cells
      obtain ⟨Q0, Q1, Q2, Q3, Q4, Q5⟩ := R2.out.cells
      
      go_wp2_with fail
      have RE := res_end R2.res (startP n re)
      obtain ⟨E0, E1, E2, E3, E4, E5⟩ := RE.cells
      refine bodyPost_ret (v := .agg (arr (startP n re))) (by simp [results, Try.results21, go_sem, arr, E0, E1, E2, E3, E4, E5]) rfl ⟨rfl, ?_⟩
      have := R2.bel
      go_grown

set_option maxHeartbeats 400000 in
theorem refStart_ge (b off n cap : Nat) (nm : Nat → ByteArray) (su re po gr : Nat → Int) (w : World) (hn : 0 < n) (_hc : n ≤ cap) (_hm : cap ≤ maxLen) (h6 : 6 < n)
    (hp : ∀ i, i < n → ProdAt w b (off + i * 5) (nm i) (su i) (re i) (po i) (gr i)) :
    Calls Try.prog 21 #[.slice (some ⟨b, off, none⟩) n cap] w
      fun e w' => e = .returned (.agg (arr (startP n re))) ∧ Below w.heap.size w w' := by
  have HP := Lib.hid hp
  have hb : b < w.heap.size := block_lt_of_cell (hp 0 hn).c0
  clear hp
  have R0 := Lib.hid (smid_new w 25 25 (startP 0 re) (by intro k _; simp [startP]))
  have HS := Lib.hid (start_step (re := re))
  
  go_enter Try.func21, Try.ntmps21
  go_wp2_with fail
  go_loopw [4] (fun i wr => ∃ k : Nat, k ≤ 6 ∧ i = .int .i64 k ∧ SMid w wr (startP k re)) (fun i _ => 6 - (intOf i).toNat)
  case atStart => exact ⟨0, by omega, rfl, R0.out⟩
  case round =>
    obtain ⟨k, hk, rfl, R⟩ := hrel
    clear R0
    by_cases hlt : k < 6
    · obtain ⟨e0, e1, e2, e3, e4⟩ := (HP.out k (by omega)).below R.bel hb
      have pk := R.out.cell k (by omega)
      have pf := R.out.free k
      have zp := R.out.lt
      have n1 : ¬ w.heap.size + 1 = wr.heap.size := by omega
      have n2 : ¬ b = wr.heap.size := by omega
      have hd : (k : Int) < n := by omega
      go_wp2_with fail
      all_goals
        go_roundw
        case rel => exact ⟨k + 1, by omega, by go_num, (R.put k (by omega) _).same fun j _ => HS.out k j⟩
        case measure => simp [intOf]; omega
    · obtain rfl : 6 = k := by omega
      have R2 := R.same (q' := startP n re) (by intro j hj; unfold startP; (repeat' split) <;> first | rfl | omega)
      clear R
      have Rf := R2.res.free
      obtain ⟨Z0, Z1, Z2, Z3, Z4, Z5⟩ := R2.res.cells
      obtain ⟨Q0, Q1, Q2, Q3, Q4, Q5⟩ := R2.out.cells
      
      go_wp2_with fail
      have RE := res_end R2.res (startP n re)
      obtain ⟨E0, E1, E2, E3, E4, E5⟩ := RE.cells
      refine bodyPost_ret (v := .agg (arr (startP n re))) (by simp [results, Try.results21, go_sem, arr, E0, E1, E2, E3, E4, E5]) rfl ⟨rfl, ?_⟩
      have := R2.bel
      go_grown

theorem start_nil (a : Option Addr) (cap : Nat) (w : World) (_ha : a = none → cap = 0) :
    Calls Try.prog 20 #[.slice a 0 cap] w
      fun e w' => e = .returned (.agg (arr (startP 0 fun _ => 0))) ∧ Below w.heap.size w w' := by
  have R := Lib.hid (smid_new w 25 25 (startP 0 fun _ => 0) (by intro k _; simp [startP]))
  go_enter Try.func20, Try.ntmps20
  go_wp2_with fail
  refine wp_loop_rounds 1 ?_
  rw [rounds_succ]
  go_wp2_with fail
  have RE := res_end R.out.res (startP 0 fun _ => 0)
  obtain ⟨E0, E1, E2, E3, E4, E5⟩ := RE.cells
  refine bodyPost_ret (v := .agg (arr (startP 0 fun _ => 0))) (by simp [results, Try.results20, go_sem, arr, startP]) rfl ⟨rfl, ?_⟩
  go_grown

theorem refStart_nil (a : Option Addr) (cap : Nat) (w : World) (_ha : a = none → cap = 0) :
    Calls Try.prog 21 #[.slice a 0 cap] w
      fun e w' => e = .returned (.agg (arr (startP 0 fun _ => 0))) ∧ Below w.heap.size w w' := by
  have R := Lib.hid (smid_new w 25 25 (startP 0 fun _ => 0) (by intro k _; simp [startP]))
  go_enter Try.func21, Try.ntmps21
  go_wp2_with fail
  refine wp_loop_rounds 1 ?_
  rw [rounds_succ]
  go_wp2_with fail
  have RE := res_end R.out.res (startP 0 fun _ => 0)
  obtain ⟨E0, E1, E2, E3, E4, E5⟩ := RE.cells
  refine bodyPost_ret (v := .agg (arr (startP 0 fun _ => 0))) (by simp [results, Try.results21, go_sem, arr, startP]) rfl ⟨rfl, ?_⟩
  go_grown

end Clk
end Go.Proofs.Ytnnakikhfacnpaa
