/- Contracts of clockprice.Next and its reference. -/
import Derived.Test.YtnnakikhfacnpaaClk2
import Derived.Deep.DeepCutAuto
import Derived.Deep.RegionWith
import Derived.Deep.RegionHeld3
namespace Go.Proofs.Ytnnakikhfacnpaa
open Go.ChangeShapes Go.WideShapes Go.ChangeAt Go.RowKit
namespace Clk

def nextP (s p : Int) (x n : Nat → Int) : Nat → Int := fun k => if 0 < n k then up s p (x k) else x k

theorem bcell {W w1 : World} (hb : Below W.heap.size W w1) : (∀ b o, b < W.heap.size → w1.cell? ⟨b, o, none⟩ = W.cell? ⟨b, o, none⟩) ∧ (∀ b o, b < W.heap.size → w1.frozen? ⟨b, o, none⟩ = W.frozen? ⟨b, o, none⟩) :=
  ⟨fun b o h => hb.cell (p := ⟨b, o, none⟩) h, fun b o h => hb.frozen (p := ⟨b, o, none⟩) h⟩

/-- block b holds the six numbers p -/
structure Box (w : World) (b : Nat) (p : Nat → Int) : Prop where
  blk : ∃ T, w.heap[b]? = some (.cells (arr p) T (0, 0))

theorem Box.cell {w : World} {b : Nat} {p : Nat → Int} (h : Box w b p) (k : Nat) (hk : k < 6) : w.cell? ⟨b, k, none⟩ = some (.int .i64 (p k)) := by
  obtain ⟨T, h⟩ := h.blk
  rw [cell_of_row w b k _ T _ h]
  obtain rfl | rfl | rfl | rfl | rfl | rfl : k = 0 ∨ k = 1 ∨ k = 2 ∨ k = 3 ∨ k = 4 ∨ k = 5 := by omega
  all_goals rfl
theorem Box.free {w : World} {b : Nat} {p : Nat → Int} (h : Box w b p) (k : Nat) : w.frozen? ⟨b, k, none⟩ = false := by
  obtain ⟨T, h⟩ := h.blk
  exact frozen_of_row w b k _ T h
theorem Box.lt {w : World} {b : Nat} {p : Nat → Int} (h : Box w b p) : b < w.heap.size := by
  have := block_lt_of_cell (h.cell 0 (by omega))
  exact this
theorem Box.below {B : Nat} {w w1 : World} {b : Nat} {p : Nat → Int} (h : Box w b p) (hb : Below B w w1) (hB : b < B) : Box w1 b p := by
  obtain ⟨T, h⟩ := h.blk
  exact ⟨T, by rw [hb.block b hB]; exact h⟩
theorem Box.other {w : World} {b c k : Nat} {p : Nat → Int} (h : Box w b p) (hn : b ≠ c) (v : Value) : Box (w.setCell ⟨c, k, none⟩ v) b p := by
  obtain ⟨T, h⟩ := h.blk
  exact ⟨T, by rw [heap_setCell_other _ _ _ _ hn]; exact h⟩
theorem Box.set {w : World} {b : Nat} {p : Nat → Int} (h : Box w b p) (k : Nat) (hk : k < 6) (x : Int) : Box (w.setCell ⟨b, k, none⟩ (.int .i64 x)) b (fun j => if j = k then x else p j) := by
  obtain ⟨T, h⟩ := h.blk
  refine ⟨T, ?_⟩
  rw [heap_setCell_same w b k _ T _ h]
  obtain rfl | rfl | rfl | rfl | rfl | rfl : k = 0 ∨ k = 1 ∨ k = 2 ∨ k = 3 ∨ k = 4 ∨ k = 5 := by omega
  all_goals simp [arr]
theorem Box.congr {w : World} {b : Nat} {p q : Nat → Int} (h : Box w b p) (he : ∀ k, k < 6 → p k = q k) : Box w b q := by
  obtain ⟨T, h⟩ := h.blk
  refine ⟨T, ?_⟩
  rw [h]
  simp [arr, he]
theorem Box.cells {w : World} {b : Nat} {p : Nat → Int} (h : Box w b p) : w.cell? ⟨b, 0, none⟩ = some (.int .i64 (p 0)) ∧ w.cell? ⟨b, 1, none⟩ = some (.int .i64 (p 1)) ∧ w.cell? ⟨b, 2, none⟩ = some (.int .i64 (p 2)) ∧ w.cell? ⟨b, 3, none⟩ = some (.int .i64 (p 3)) ∧ w.cell? ⟨b, 4, none⟩ = some (.int .i64 (p 4)) ∧ w.cell? ⟨b, 5, none⟩ = some (.int .i64 (p 5)) :=
  ⟨h.cell 0 (by omega), h.cell 1 (by omega), h.cell 2 (by omega), h.cell 3 (by omega), h.cell 4 (by omega), h.cell 5 (by omega)⟩
/-- what the closure of the increment holds -/
structure Clo (w : World) (b : Nat) (s p : Int) : Prop where
  c0 : w.cell? ⟨b, 0, none⟩ = some (.int .i64 s)
  c1 : w.cell? ⟨b, 1, none⟩ = some (.int .i64 p)
theorem Clo.lt {w : World} {b : Nat} {s p : Int} (h : Clo w b s p) : b < w.heap.size := block_lt_of_cell h.c0
theorem Clo.below {B : Nat} {w w1 : World} {b : Nat} {s p : Int} (h : Clo w b s p) (hb : Below B w w1) (hB : b < B) : Clo w1 b s p :=
  ⟨(hb.cell (p := ⟨b, 0, none⟩) hB).trans h.c0, (hb.cell (p := ⟨b, 1, none⟩) hB).trans h.c1⟩
theorem Clo.other {w : World} {b c k : Nat} {s p : Int} (h : Clo w b s p) (hn : b ≠ c) (v : Value) : Clo (w.setCell ⟨c, k, none⟩ v) b s p := by
  have e : (w.setCell ⟨c, k, none⟩ v).heap[b]? = w.heap[b]? := heap_setCell_other w ⟨c, k, none⟩ b v hn
  exact ⟨(World.cell?_of_block (a := ⟨b, 0, none⟩) e).trans h.c0, (World.cell?_of_block (a := ⟨b, 1, none⟩) e).trans h.c1⟩

theorem next_pol (s p u r : Int) (x n : Nat → Int) (w : World) (hp : ¬ Pol s p u r) :
    Calls Try.prog 15 #[.agg #[.int .i64 s, .int .i64 p, .int .i64 u, .int .i64 r], .agg (arr x), .agg (arr n)] w
      fun e w' => e = .returned (.tuple #[.agg (arr fun _ => 0), .int .i64 4]) ∧ Below w.heap.size w w' := by
  have H := Lib.hid hp
  clear hp
  unfold arr
  go_enter Try.func15, Try.ntmps15
  go_wp2_with fail
  refine (check_no s p u r _ H.out).mono ?_
  rintro e w1 ⟨rfl, hb⟩
  obtain ⟨hc, hf⟩ := bcell hb
  have hz : w.heap.size + 3 < w1.heap.size := by have := hb.size; simp at this; omega
  go_wp2_with fail
  refine bodyPost_ret (v := .tuple #[.agg (arr fun _ => 0), .int .i64 4]) (by simp [results, Try.results15, go_sem, arr, hc]) rfl ⟨rfl, ?_⟩
  refine Below.trans (b := w1) ?_ (by go_grown)
  have hb2 := hb.mono (B' := w.heap.size) (by simp; omega)
  exact Below.trans (by go_grown) hb2


theorem idx27 (p : Nat → Int) (k : Nat) (hk : k < 6) (w : World) :
    (Instr.index 27 (.agg (arr p)) (.int .i64 (k : Int))).run Try.prog w = .ok (.int .i64 (p k)) w := by
  obtain rfl | rfl | rfl | rfl | rfl | rfl : k = 0 ∨ k = 1 ∨ k = 2 ∨ k = 3 ∨ k = 4 ∨ k = 5 := by omega
  all_goals kernel_rfl

/-- behind 'raise, out := raised(o), p' -/
structure Mid (w wx : World) (c o : Nat) (s p : Int) (x q n : Nat → Int) : Prop where
  clo : Clo wx c s p
  out : Box wx o q
  px : Box wx (w.heap.size + 1) x
  nx : Box wx (w.heap.size + 1 + 1) n
  res : Box wx (w.heap.size + 1 + 1 + 1) (fun _ => 0)
  ho : w.heap.size + 1 + 1 + 1 < o
  hc : w.heap.size + 1 + 1 + 1 < c
  hoc : c ≠ o
  bel : Below w.heap.size w wx

def IsNew (w wx : World) (s p : Int) (x n : Nat → Int) (s9 s10 : Value) : Prop :=
  ∃ c o : Nat, s9 = .func (.func 51) #[] #[.pointer (some ⟨c, 0, none⟩)] ∧ s10 = .pointer (some ⟨o, 0, none⟩) ∧ Mid w wx c o s p x x n

theorem box_new (w : World) (p : Nat → Int) (T : TypeId) : Box (w.alloc (.cells (arr p) T)) w.heap.size p := ⟨T, by show (w.heap.push _)[w.heap.size]? = _; simp⟩
theorem Box.alloc {w : World} {b : Nat} {p : Nat → Int} (h : Box w b p) (o : Obj) : Box (w.alloc o) b p := by
  obtain ⟨T, h'⟩ := h.blk
  exact ⟨T, by rw [Below.heap_alloc _ _ _ h.lt]; exact h'⟩
theorem clo_new (w : World) (s p u r : Int) (T : TypeId) : Clo (w.alloc (.cells #[.int .i64 s, .int .i64 p, .int .i64 u, .int .i64 r] T)) w.heap.size s p := ⟨by simp [go_sem], by simp [go_sem]⟩
theorem Clo.alloc {w : World} {b : Nat} {s p : Int} (h : Clo w b s p) (o : Obj) : Clo (w.alloc o) b s p :=
  ⟨(World.cell?_of_block (a := ⟨b, 0, none⟩) (Below.heap_alloc _ _ _ h.lt)).trans h.c0, (World.cell?_of_block (a := ⟨b, 1, none⟩) (Below.heap_alloc _ _ _ h.lt)).trans h.c1⟩

theorem Box.drew {w : World} {b : Nat} {p : Nat → Int} (h : Box w b p) : Box w.drew b p := ⟨h.blk⟩
theorem Clo.drew {w : World} {b : Nat} {s p : Int} (h : Clo w b s p) : Clo w.drew b s p := ⟨h.c0, h.c1⟩
theorem Mid.drew {w wx : World} {c o : Nat} {s p : Int} {x q n : Nat → Int} (h : Mid w wx c o s p x q n) : Mid w wx.drew c o s p x q n :=
  ⟨h.clo.drew, h.out.drew, h.px.drew, h.nx.drew, h.res.drew, h.ho, h.hc, h.hoc, h.bel.drew⟩

theorem Mid.later {w wx w2 : World} {c o : Nat} {s p : Int} {x q n : Nat → Int} (h : Mid w wx c o s p x q n) (hb : Below wx.heap.size wx w2) : Mid w w2 c o s p x q n :=
  ⟨h.clo.below hb h.clo.lt, h.out.below hb h.out.lt, h.px.below hb h.px.lt, h.nx.below hb h.nx.lt, h.res.below hb h.res.lt, h.ho, h.hc, h.hoc, h.bel.trans (hb.mono h.bel.size)⟩
theorem Mid.put {w wx : World} {c o : Nat} {s p : Int} {x q n : Nat → Int} (h : Mid w wx c o s p x q n) (k : Nat) (hk : k < 6) (v : Int) : Mid w (wx.setCell ⟨o, k, none⟩ (.int .i64 v)) c o s p x (fun j => if j = k then v else q j) n :=
  have := h.ho
  ⟨h.clo.other h.hoc _, h.out.set k hk v, h.px.other (by omega) _, h.nx.other (by omega) _, h.res.other (by omega) _, h.ho, h.hc, h.hoc, h.bel.setCell (p := ⟨o, k, none⟩) (by show w.heap.size ≤ o; omega) _⟩

/-- the result's block is filled and read -/
theorem res_end {w : World} {b : Nat} {p : Nat → Int} (h : Box w b p) (q : Nat → Int) :
    Box ((((((w.setCell ⟨b, 0, none⟩ (.int .i64 (q 0))).setCell ⟨b, 1, none⟩ (.int .i64 (q 1))).setCell ⟨b, 2, none⟩ (.int .i64 (q 2))).setCell ⟨b, 3, none⟩ (.int .i64 (q 3))).setCell ⟨b, 4, none⟩ (.int .i64 (q 4))).setCell ⟨b, 5, none⟩ (.int .i64 (q 5))) b q :=
  ((((((h.set 0 (by omega) (q 0)).set 1 (by omega) (q 1)).set 2 (by omega) (q 2)).set 3 (by omega) (q 3)).set 4 (by omega) (q 4)).set 5 (by omega) (q 5)).congr (by
    intro k hk
    obtain rfl | rfl | rfl | rfl | rfl | rfl : k = 0 ∨ k = 1 ∨ k = 2 ∨ k = 3 ∨ k = 4 ∨ k = 5 := by omega
    all_goals rfl)

section
variable {w w1 : World} {o1 o2 o3 o4 : Obj} {x z : Nat → Int} {s p u r : Int} {T : TypeId}
theorem mid_a (hb : Below ((((w.alloc o1).alloc o2).alloc o3).alloc o4).heap.size ((((w.alloc o1).alloc o2).alloc o3).alloc o4) w1)
    {n : Nat → Int} {T' : TypeId} (h2 : o2 = .cells (arr x) T) (h3 : o3 = .cells (arr n) T') (h4 : o4 = .cells (arr fun _ => 0) T) :
    Mid w ((w1.alloc (.cells #[.int .i64 s, .int .i64 p, .int .i64 u, .int .i64 r] 23)).alloc (.cells (arr x) 25)).drew w1.heap.size (w1.heap.size + 1) s p x x n := by
  have hz := hb.size
  simp only [World.size_alloc] at hz
  have b2 : Box w1 (w.heap.size + 1) x := by
    subst h2
    have := (((box_new (w.alloc o1) x T).alloc o3).alloc o4).below hb (by go_size)
    simpa using this
  have b3 : Box w1 (w.heap.size + 1 + 1) n := by
    subst h3
    have := ((box_new ((w.alloc o1).alloc o2) n T').alloc o4).below hb (by go_size)
    simpa using this
  have b4 : Box w1 (w.heap.size + 1 + 1 + 1) (fun _ => 0) := by
    subst h4
    have := (box_new (((w.alloc o1).alloc o2).alloc o3) (fun _ => 0) T).below hb (by simp)
    simpa using this
  have hw : Below w.heap.size w w1 := (((((Below.refl _ _).alloc (by go_size) _).alloc (by go_size) _).alloc (by go_size) _).alloc (by go_size) _).trans (hb.mono (by go_size))
  refine Mid.drew ⟨(clo_new w1 s p u r _).alloc _, ?_, (b2.alloc _).alloc _, (b3.alloc _).alloc _, (b4.alloc _).alloc _, by omega, by omega, by omega, (hw.alloc (by omega) _).alloc (by go_size) _⟩
  have := box_new (w1.alloc (.cells #[.int .i64 s, .int .i64 p, .int .i64 u, .int .i64 r] 23)) x 25
  simp only [World.size_alloc] at this
  exact this
theorem mid_b (hb : Below ((((w.alloc o1).alloc o2).alloc o3).alloc o4).heap.size ((((w.alloc o1).alloc o2).alloc o3).alloc o4) w1)
    {n : Nat → Int} {T' : TypeId} (h2 : o2 = .cells (arr x) T) (h3 : o3 = .cells (arr n) T') (h4 : o4 = .cells (arr fun _ => 0) T) :
    Mid w ((w1.alloc (.cells (arr x) 25)).alloc (.cells #[.int .i64 s, .int .i64 p, .int .i64 u, .int .i64 r] 23)).drew (w1.heap.size + 1) w1.heap.size s p x x n := by
  have hz := hb.size
  simp only [World.size_alloc] at hz
  have b2 : Box w1 (w.heap.size + 1) x := by
    subst h2
    have := (((box_new (w.alloc o1) x T).alloc o3).alloc o4).below hb (by go_size)
    simpa using this
  have b3 : Box w1 (w.heap.size + 1 + 1) n := by
    subst h3
    have := ((box_new ((w.alloc o1).alloc o2) n T').alloc o4).below hb (by go_size)
    simpa using this
  have b4 : Box w1 (w.heap.size + 1 + 1 + 1) (fun _ => 0) := by
    subst h4
    have := (box_new (((w.alloc o1).alloc o2).alloc o3) (fun _ => 0) T).below hb (by simp)
    simpa using this
  have hw : Below w.heap.size w w1 := (((((Below.refl _ _).alloc (by go_size) _).alloc (by go_size) _).alloc (by go_size) _).alloc (by go_size) _).trans (hb.mono (by go_size))
  refine Mid.drew ⟨?_, (box_new w1 x _).alloc _, (b2.alloc _).alloc _, (b3.alloc _).alloc _, (b4.alloc _).alloc _, by omega, by omega, by omega, (hw.alloc (by omega) _).alloc (by go_size) _⟩
  have := clo_new (w1.alloc (.cells (arr x) 25)) s p u r 23
  simp only [World.size_alloc] at this
  exact this
end

theorem next_inv (s p u r : Int) (x n : Nat → Int) (w : World) (hp : Pol s p u r) (hx : ¬ valid x) :
    Calls Try.prog 15 #[.agg #[.int .i64 s, .int .i64 p, .int .i64 u, .int .i64 r], .agg (arr x), .agg (arr n)] w
      fun e w' => e = .returned (.tuple #[.agg (arr fun _ => 0), .int .i64 4]) ∧ Below w.heap.size w w' := by
  have H := Lib.hid hp
  have HX := Lib.hid hx
  have HI := Lib.hid (idx27 n)
  clear hp hx
  unfold arr
  go_enter Try.func15, Try.ntmps15
  go_wp2_with fail
  refine (check_yes s p u r _ H.out).mono ?_
  rintro e w1 ⟨rfl, hb⟩
  obtain ⟨hc, hf⟩ := bcell hb
  have hz : w.heap.size + 3 < w1.heap.size := by have := hb.size; simp at this; omega
  have HB := Lib.hid hb
  clear hb
  obtain ⟨P0, P1, P2, P3, P4, P5⟩ : w1.cell? ⟨w.heap.size + 1, 0, none⟩ = some (.int .i64 (x 0)) ∧ w1.cell? ⟨w.heap.size + 1, 1, none⟩ = some (.int .i64 (x 1)) ∧ w1.cell? ⟨w.heap.size + 1, 2, none⟩ = some (.int .i64 (x 2)) ∧ w1.cell? ⟨w.heap.size + 1, 3, none⟩ = some (.int .i64 (x 3)) ∧ w1.cell? ⟨w.heap.size + 1, 4, none⟩ = some (.int .i64 (x 4)) ∧ w1.cell? ⟨w.heap.size + 1, 5, none⟩ = some (.int .i64 (x 5)) := by simp [hc, go_sem]
  obtain ⟨O0, O1, O2, O3⟩ : w1.cell? ⟨w.heap.size, 0, none⟩ = some (.int .i64 s) ∧ w1.cell? ⟨w.heap.size, 1, none⟩ = some (.int .i64 p) ∧ w1.cell? ⟨w.heap.size, 2, none⟩ = some (.int .i64 u) ∧ w1.cell? ⟨w.heap.size, 3, none⟩ = some (.int .i64 r) := by simp [hc, go_sem]
  have HC := Lib.hid hc
  have HF := Lib.hid hf
  have HZ := Lib.hid hz
  go_upto_region 4 with fail
  go_cut [9, 10] (fun s9 s10 wx => IsNew w wx s p x n s9 s10)
  case first =>
    clear hc hf hz
    go_region_held3 (fun w' => w'.cell? ⟨w.heap.size + 1, 0, none⟩ = some (.int .i64 (x 0)) ∧ w'.cell? ⟨w.heap.size + 1, 1, none⟩ = some (.int .i64 (x 1)) ∧ w'.cell? ⟨w.heap.size + 1, 2, none⟩ = some (.int .i64 (x 2)) ∧ w'.cell? ⟨w.heap.size + 1, 3, none⟩ = some (.int .i64 (x 3)) ∧ w'.cell? ⟨w.heap.size + 1, 4, none⟩ = some (.int .i64 (x 4)) ∧ w'.cell? ⟨w.heap.size + 1, 5, none⟩ = some (.int .i64 (x 5)) ∧ w'.cell? ⟨w.heap.size, 0, none⟩ = some (.int .i64 s) ∧ w'.cell? ⟨w.heap.size, 1, none⟩ = some (.int .i64 p) ∧ w'.cell? ⟨w.heap.size, 2, none⟩ = some (.int .i64 u) ∧ w'.cell? ⟨w.heap.size, 3, none⟩ = some (.int .i64 r)) (go_keep)
      (first | (go_at_call 42; refine (raised_any s p u r _).mono ?_; rintro e w' ⟨rfl, rfl⟩))
    all_goals (go_wp2_with fail; go_meet)
    · exact ⟨_, _, rfl, rfl, mid_a HB.out rfl rfl rfl⟩
    · exact ⟨_, _, rfl, rfl, mid_b HB.out rfl rfl rfl⟩
  case rest =>
    obtain ⟨c, o, rfl, rfl, M⟩ := hcut
    clear HB HC HF HZ P0 P1 P2 P3 P4 P5 O0 O1 O2 O3
    obtain ⟨N0, N1, N2, N3, N4, N5⟩ := M.nx.cells
    go_wp2_with fail
    clear N0 N1 N2 N3 N4 N5
    go_loopw [23] (fun i wr => ∃ k : Nat, k ≤ 6 ∧ i = .int .i64 k ∧ Mid w wr c o s p x x n) (fun i _ => 6 - (intOf i).toNat)
    case atStart => exact ⟨0, by omega, rfl, M⟩
    case round =>
      obtain ⟨k, hk, rfl, R⟩ := hrel
      by_cases hlt : k < 6
      · have hi := HI.out k hlt
        by_cases hn : 0 < n k
        · obtain ⟨P0, P1, P2, P3, P4, P5⟩ := R.px.cells
          go_wp2_with fail
          refine (valid_no x _ HX.out).mono ?_
          rintro e w2 ⟨rfl, hb2⟩
          have R2 := R.later hb2
          clear hb2
          go_wp2
          go_roundw
          case rel => exact ⟨k + 1, by omega, by go_num, R2⟩
          case measure => simp [intOf]; omega
        · go_wp2
          go_roundw
          case rel => exact ⟨k + 1, by omega, by go_num, R⟩
          case measure => simp [intOf]; omega
      · obtain ⟨P0, P1, P2, P3, P4, P5⟩ := R.px.cells
        go_wp2_with fail
        refine (valid_no x _ HX.out).mono ?_
        rintro e w2 ⟨rfl, hb2⟩
        have R2 := R.later hb2
        have Rf := R2.res.free
        obtain ⟨Z0, Z1, Z2, Z3, Z4, Z5⟩ := R2.res.cells
        clear hb2 P0 P1 P2 P3 P4 P5
        go_wp2
        have RE := res_end R2.res (fun _ => 0)
        obtain ⟨E0, E1, E2, E3, E4, E5⟩ := RE.cells
        refine bodyPost_ret (v := .tuple #[.agg (arr fun _ => 0), .int .i64 4]) (by simp [results, Try.results15, go_sem, arr, E0, E1, E2, E3, E4, E5]) rfl ⟨rfl, ?_⟩
        have := R2.bel
        go_grown

theorem Mid.same {w wx : World} {c o : Nat} {s p : Int} {x q q' n : Nat → Int} (h : Mid w wx c o s p x q n) (he : ∀ k, k < 6 → q k = q' k) : Mid w wx c o s p x q' n :=
  ⟨h.clo, h.out.congr he, h.px, h.nx, h.res, h.ho, h.hc, h.hoc, h.bel⟩

def mix (s p : Int) (x n : Nat → Int) (k : Nat) : Nat → Int := fun j => if j < k then nextP s p x n j else x j

theorem mix_end (s p : Int) (x n : Nat → Int) (k : Nat) (h : 6 ≤ k) (j : Nat) (hj : j < 6) : mix s p x n k j = nextP s p x n j := by
  unfold mix; rw [if_pos (by omega)]
theorem mix_yes (s p : Int) (x n : Nat → Int) (k : Nat) (h : 0 < n k) (j : Nat) : (if j = k then up s p (x k) else mix s p x n k j) = mix s p x n (k + 1) j := by
  unfold mix nextP
  by_cases e : j = k
  · subst e; simp [h]
  · by_cases l : j < k
    · simp [e, l, Nat.lt_succ_of_lt l]
    · simp [e, l, show ¬ j < k + 1 by omega]
theorem mix_no (s p : Int) (x n : Nat → Int) (k : Nat) (h : ¬ 0 < n k) (j : Nat) : mix s p x n k j = mix s p x n (k + 1) j := by
  unfold mix nextP
  by_cases e : j = k
  · subst e; simp [h]
  · by_cases l : j < k
    · simp [l, Nat.lt_succ_of_lt l]
    · simp [l, show ¬ j < k + 1 by omega]

/-- what Next returns for valid prices -/
def NextPost (s p : Int) (x n : Nat → Int) (w : World) (e : Ending) (w' : World) : Prop :=
  (valid (nextP s p x n) → e = .returned (.tuple #[.agg (arr (nextP s p x n)), .int .i64 0])) ∧ (¬ valid (nextP s p x n) → e = .returned (.tuple #[.agg (arr fun _ => 0), .int .i64 4])) ∧ Below w.heap.size w w'

set_option maxHeartbeats 800000 in
theorem next_any (s p u r : Int) (x n : Nat → Int) (w : World) (hp : Pol s p u r) (hx : valid x) :
    Calls Try.prog 15 #[.agg #[.int .i64 s, .int .i64 p, .int .i64 u, .int .i64 r], .agg (arr x), .agg (arr n)] w
      fun e w' => NextPost s p x n w e w' := by
  have H := Lib.hid hp
  have HX := Lib.hid hx
  have HI := Lib.hid (idx27 n)
  clear hp hx
  unfold arr
  go_enter Try.func15, Try.ntmps15
  go_wp2_with fail
  refine (check_yes s p u r _ H.out).mono ?_
  rintro e w1 ⟨rfl, hb⟩
  obtain ⟨hc, hf⟩ := bcell hb
  have hz : w.heap.size + 3 < w1.heap.size := by have := hb.size; simp at this; omega
  have HB := Lib.hid hb
  clear hb
  obtain ⟨P0, P1, P2, P3, P4, P5⟩ : w1.cell? ⟨w.heap.size + 1, 0, none⟩ = some (.int .i64 (x 0)) ∧ w1.cell? ⟨w.heap.size + 1, 1, none⟩ = some (.int .i64 (x 1)) ∧ w1.cell? ⟨w.heap.size + 1, 2, none⟩ = some (.int .i64 (x 2)) ∧ w1.cell? ⟨w.heap.size + 1, 3, none⟩ = some (.int .i64 (x 3)) ∧ w1.cell? ⟨w.heap.size + 1, 4, none⟩ = some (.int .i64 (x 4)) ∧ w1.cell? ⟨w.heap.size + 1, 5, none⟩ = some (.int .i64 (x 5)) := by simp [hc, go_sem]
  obtain ⟨O0, O1, O2, O3⟩ : w1.cell? ⟨w.heap.size, 0, none⟩ = some (.int .i64 s) ∧ w1.cell? ⟨w.heap.size, 1, none⟩ = some (.int .i64 p) ∧ w1.cell? ⟨w.heap.size, 2, none⟩ = some (.int .i64 u) ∧ w1.cell? ⟨w.heap.size, 3, none⟩ = some (.int .i64 r) := by simp [hc, go_sem]
  have HC := Lib.hid hc
  have HF := Lib.hid hf
  have HZ := Lib.hid hz
  go_upto_region 4 with fail
  go_cut [9, 10] (fun s9 s10 wx => IsNew w wx s p x n s9 s10)
  case first =>
    clear hc hf hz
    go_region_held3 (fun w' => w'.cell? ⟨w.heap.size + 1, 0, none⟩ = some (.int .i64 (x 0)) ∧ w'.cell? ⟨w.heap.size + 1, 1, none⟩ = some (.int .i64 (x 1)) ∧ w'.cell? ⟨w.heap.size + 1, 2, none⟩ = some (.int .i64 (x 2)) ∧ w'.cell? ⟨w.heap.size + 1, 3, none⟩ = some (.int .i64 (x 3)) ∧ w'.cell? ⟨w.heap.size + 1, 4, none⟩ = some (.int .i64 (x 4)) ∧ w'.cell? ⟨w.heap.size + 1, 5, none⟩ = some (.int .i64 (x 5)) ∧ w'.cell? ⟨w.heap.size, 0, none⟩ = some (.int .i64 s) ∧ w'.cell? ⟨w.heap.size, 1, none⟩ = some (.int .i64 p) ∧ w'.cell? ⟨w.heap.size, 2, none⟩ = some (.int .i64 u) ∧ w'.cell? ⟨w.heap.size, 3, none⟩ = some (.int .i64 r)) (go_keep)
      (first | (go_at_call 42; refine (raised_any s p u r _).mono ?_; rintro e w' ⟨rfl, rfl⟩))
    all_goals (go_wp2_with fail; go_meet)
    · exact ⟨_, _, rfl, rfl, mid_a HB.out rfl rfl rfl⟩
    · exact ⟨_, _, rfl, rfl, mid_b HB.out rfl rfl rfl⟩
  case rest =>
    obtain ⟨c, o, rfl, rfl, M⟩ := hcut
    clear HB HC HF HZ P0 P1 P2 P3 P4 P5 O0 O1 O2 O3
    obtain ⟨N0, N1, N2, N3, N4, N5⟩ := M.nx.cells
    go_wp2_with fail
    clear N0 N1 N2 N3 N4 N5
    have HM := Lib.hid (mix_yes s p x n)
    have HN := Lib.hid (mix_no s p x n)
    have HE := Lib.hid (mix_end s p x n)
    obtain ⟨q0, q1, q2, q3, _, _, _, _⟩ := H.out
    go_loopw [23] (fun i wr => ∃ k : Nat, k ≤ 6 ∧ i = .int .i64 k ∧ Mid w wr c o s p x (mix s p x n k) n) (fun i _ => 6 - (intOf i).toNat)
    case atStart => exact ⟨0, by omega, rfl, M.same (by intro k _; simp [mix])⟩
    case round =>
      obtain ⟨k, hk, rfl, R⟩ := hrel
      by_cases hlt : k < 6
      · have hi := HI.out k hlt
        by_cases hn : 0 < n k
        · obtain ⟨P0, P1, P2, P3, P4, P5⟩ := R.px.cells
          go_wp2_with fail
          refine (valid_yes x _ HX.out).mono ?_
          rintro e w2 ⟨rfl, hb2⟩
          have R2 := R.later hb2
          clear hb2 P0 P1 P2 P3 P4 P5
          have pk := R2.px.cell k hlt
          have ok := R2.out.cell k hlt
          have of := R2.out.free k
          obtain ⟨xa, xb⟩ := HX.out k hlt
          go_wp2_with fail
          refine (raise_any s p (x k) c _ R2.clo.c0 R2.clo.c1 q0 q1 q2 q3 xa xb).mono ?_
          rintro e w3 ⟨rfl, rfl⟩
          go_wp2
          go_roundw
          case rel => exact ⟨k + 1, by omega, by go_num, (R2.put k hlt _).same fun j _ => HM.out k hn j⟩
          case measure => simp [intOf]; omega
        · go_wp2
          go_roundw
          case rel => exact ⟨k + 1, by omega, by go_num, R.same fun j _ => HN.out k hn j⟩
          case measure => simp [intOf]; omega
      · have R0 := R.same (fun j hj => HE.out k (by omega) j hj)
        clear R
        obtain ⟨P0, P1, P2, P3, P4, P5⟩ := R0.px.cells
        go_wp2_with fail
        refine (valid_yes x _ HX.out).mono ?_
        rintro e w2 ⟨rfl, hb2⟩
        have R2 := R0.later hb2
        have Rf := R2.res.free
        clear hb2 P0 P1 P2 P3 P4 P5
        obtain ⟨P0, P1, P2, P3, P4, P5⟩ := R2.px.cells
        obtain ⟨Q0, Q1, Q2, Q3, Q4, Q5⟩ := R2.out.cells
        obtain ⟨Z0, Z1, Z2, Z3, Z4, Z5⟩ := R2.res.cells
        have he := eq25 (nextP s p x n) x
        by_cases hq : eq6 (nextP s p x n) x = true
        · have hv : valid (nextP s p x n) := by
            intro j hj
            rw [(eq6_iff _ _).1 hq j hj]
            exact HX.out j hj
          have HV := Lib.hid hv
          rw [hq] at he
          unfold arr at he
          clear hq hv
          go_wp2
          have RE := res_end R2.res (nextP s p x n)
          obtain ⟨E0, E1, E2, E3, E4, E5⟩ := RE.cells
          refine bodyPost_ret (v := .tuple #[.agg (arr (nextP s p x n)), .int .i64 0]) (by simp [results, Try.results15, go_sem, arr, E0, E1, E2, E3, E4, E5]) rfl ⟨fun _ => rfl, fun h => absurd HV.out h, ?_⟩
          have := R2.bel
          go_grown
        · have hq' : eq6 (nextP s p x n) x = false := by simpa using hq
          rw [hq'] at he
          unfold arr at he
          clear hq hq'
          by_cases hv : valid (nextP s p x n)
          · have HV := Lib.hid hv
            clear hv
            go_wp2_with fail
            refine (valid_yes _ _ HV.out).mono ?_
            rintro e w3 ⟨rfl, hb3⟩
            have R3 := R2.later hb3
            clear hb3 P0 P1 P2 P3 P4 P5 Q0 Q1 Q2 Q3 Q4 Q5 Z0 Z1 Z2 Z3 Z4 Z5 Rf he
            have Rf := R3.res.free
            obtain ⟨Q0, Q1, Q2, Q3, Q4, Q5⟩ := R3.out.cells
            obtain ⟨Z0, Z1, Z2, Z3, Z4, Z5⟩ := R3.res.cells
            go_wp2
            have RE := res_end R3.res (nextP s p x n)
            obtain ⟨E0, E1, E2, E3, E4, E5⟩ := RE.cells
            refine bodyPost_ret (v := .tuple #[.agg (arr (nextP s p x n)), .int .i64 0]) (by simp [results, Try.results15, go_sem, arr, E0, E1, E2, E3, E4, E5]) rfl ⟨fun _ => rfl, fun h => absurd HV.out h, ?_⟩
            have := R3.bel
            go_grown
          · have HV := Lib.hid hv
            clear hv
            go_wp2_with fail
            refine (valid_no _ _ HV.out).mono ?_
            rintro e w3 ⟨rfl, hb3⟩
            have R3 := R2.later hb3
            clear hb3 P0 P1 P2 P3 P4 P5 Q0 Q1 Q2 Q3 Q4 Q5 Z0 Z1 Z2 Z3 Z4 Z5 Rf he
            have Rf := R3.res.free
            obtain ⟨Z0, Z1, Z2, Z3, Z4, Z5⟩ := R3.res.cells
            go_wp2
            have RE := res_end R3.res (fun _ => 0)
            obtain ⟨E0, E1, E2, E3, E4, E5⟩ := RE.cells
            refine bodyPost_ret (v := .tuple #[.agg (arr fun _ => 0), .int .i64 4]) (by simp [results, Try.results15, go_sem, arr, E0, E1, E2, E3, E4, E5]) rfl ⟨fun h => absurd h HV.out, fun _ => rfl, ?_⟩
            have := R3.bel
            go_grown

end Clk
end Go.Proofs.Ytnnakikhfacnpaa
