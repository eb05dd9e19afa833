/- The chapter's sale. -/
import Derived.Test.YthehchdonmmpaaaGreatDoorSt5
namespace Go.Proofs.YthehchdonmmpaaaGreatDoor.St
open Go.ChangeShapes Go.WideShapes Go.ChangeAt Go.RowKit Gn Cat Lex Pr Ros Fr
set_option linter.unusedVariables false
set_option linter.unusedSimpArgs false
def saleQ : List Prod := [⟨⟨#[97]⟩, 2, 3, 0, 0⟩]
def bidQ : List Bid := [⟨⟨#[120]⟩, 0, 0, 0⟩, ⟨⟨#[121]⟩, 0, 0, 0⟩]
theorem sl_of_cells {w : World} {g n K : Nat} {t : TypeId} {cs : List Value} (h : Blk w g t cs.toArray) (hl : cs.length = n * K) (hm : n ≤ 1000) : Sl w K (.slice (some ⟨g, 0, none⟩) n n) n cs := by
  refine ⟨hl, some ⟨g, 0, none⟩, n, rfl, Nat.le_refl _, by unfold maxLen; omega, fun _ => ⟨g, 0, rfl, h.lt, fun j u hu => ?_⟩⟩
  rw [Nat.zero_add, h.cell]
  simpa using hu
theorem three_alloc (w : World) (a0 a1 a2 : Array Value) (t0 t1 t2 : TypeId) :
    Blk (((w.alloc (.cells a0 t0)).alloc (.cells a1 t1)).alloc (.cells a2 t2)) w.heap.size t0 a0 ∧ Blk (((w.alloc (.cells a0 t0)).alloc (.cells a1 t1)).alloc (.cells a2 t2)) (w.heap.size + 1) t1 a1 ∧ Blk (((w.alloc (.cells a0 t0)).alloc (.cells a1 t1)).alloc (.cells a2 t2)) (w.heap.size + 1 + 1) t2 a2 ∧ Below w.heap.size w (((w.alloc (.cells a0 t0)).alloc (.cells a1 t1)).alloc (.cells a2 t2)) := by
  have e1 : (w.alloc (.cells a0 t0)).heap.size = w.heap.size + 1 := World.size_alloc _ _
  have e2 : ((w.alloc (.cells a0 t0)).alloc (.cells a1 t1)).heap.size = w.heap.size + 1 + 1 := by rw [World.size_alloc, e1]
  have k1 := Blk.new (w.alloc (.cells a0 t0)) t1 a1
  have k2 := Blk.new ((w.alloc (.cells a0 t0)).alloc (.cells a1 t1)) t2 a2
  rw [e1] at k1
  rw [e2] at k2
  exact ⟨((Blk.new w t0 a0).alloc _).alloc _, k1.alloc _, k2, ((below_new w _).alloc (below_new w _).size _).alloc (by rw [e2]; omega) _⟩
set_option maxRecDepth 100000 in
theorem sale_any (w : World) : Calls Tryz.prog 8 #[] w fun e w' => ∃ a b, e = .returned (.agg #[.slice (some ⟨a, 0, none⟩) 1 1, .slice (some ⟨b, 0, none⟩) 2 2, .slice none 0 0, .slice none 0 0]) ∧ SaleP w' (.slice (some ⟨a, 0, none⟩) 1 1) (.slice (some ⟨b, 0, none⟩) 2 2) saleQ bidQ ∧ Below w.heap.size w w' := by
  obtain ⟨k0, k1, k2, b0⟩ := three_alloc w #[.slice (some ⟨w.heap.size + 1, 0, none⟩) 1 1, .slice (some ⟨w.heap.size + 1 + 1, 0, none⟩) 2 2, .slice none 0 0, .slice none 0 0] #[.string ⟨#[97]⟩, .int .i64 2, .int .i64 3, .int .i64 0, .int .i64 0] #[.string ⟨#[120]⟩, .int .i64 0, .int .i64 0, .int .i64 0, .string ⟨#[121]⟩, .int .i64 0, .int .i64 0, .int .i64 0] 27 49 51
  have s1 := sl_of_cells (n := 1) (K := 5) (cs := [.string ⟨#[97]⟩, .int .i64 2, .int .i64 3, .int .i64 0, .int .i64 0]) k1 rfl (by omega)
  have s2 := sl_of_cells (n := 2) (K := 4) (cs := [.string ⟨#[120]⟩, .int .i64 0, .int .i64 0, .int .i64 0, .string ⟨#[121]⟩, .int .i64 0, .int .i64 0, .int .i64 0]) k2 rfl (by omega)
  have HK := Lib.hid k0
  have HS1 := Lib.hid s1
  have HS2 := Lib.hid s2
  have HB := Lib.hid b0
  clear k0 k1 k2 b0 s1 s2
  go_enter Tryz.func8, Tryz.ntmps8
  go_wp2_with fail
  exact bodyPost_ret (v := .agg #[.slice (some ⟨w.heap.size + 1, 0, none⟩) 1 1, .slice (some ⟨w.heap.size + 1 + 1, 0, none⟩) 2 2, .slice none 0 0, .slice none 0 0]) (results_blk rfl rfl HK.out Tryz.underlying27 rfl (by kernel_rfl)) rfl ⟨_, _, rfl, ⟨⟨HS1.out, by decide, fun p hp => by
    simp only [saleQ, List.mem_cons, List.not_mem_nil, or_false] at hp
    rw [hp]; show 1 ≤ maxLen; unfold maxLen; omega⟩, HS2.out, by decide, fun p hp => by
    simp only [bidQ, List.mem_cons, List.not_mem_nil, or_false] at hp
    rcases hp with rfl | rfl <;> (show 1 ≤ maxLen; unfold maxLen; omega)⟩, HB.out⟩
end Go.Proofs.YthehchdonmmpaaaGreatDoor.St
