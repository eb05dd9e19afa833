/- Plain laws on worlds, over any program: a region that draws its order and whose calls make memory, walked once in the order of the text. -/
import Derived.WalkKit
import Derived.ProofKit
import Derived.OpenShut
import Derived.Handy
import Derived.BigQuiet
import Derived.Lib.Hide
namespace Go.Proofs.YtfopmaeaclbknaaDoor
open Go.ChangeShapes Go.WideShapes Go.ChangeAt Go.RowKit

theorem bcell {W w1 : World} (hb : Below W.heap.size W w1) : (∀ b o, b < W.heap.size → w1.cell? ⟨b, o, none⟩ = W.cell? ⟨b, o, none⟩) ∧ (∀ b o, b < W.heap.size → w1.frozen? ⟨b, o, none⟩ = W.frozen? ⟨b, o, none⟩) :=
  ⟨fun b o h => hb.cell (p := ⟨b, o, none⟩) h, fun b o h => hb.frozen (p := ⟨b, o, none⟩) h⟩

/-- some world that is as w below w's end -/
noncomputable def later (w x : World) : World := @ite _ (Below w.heap.size w x) (Classical.propDecidable _) x w
theorem later_below (w x : World) : Below w.heap.size w (later w x) := by
  unfold later
  split
  · assumption
  · exact Below.refl _ _
theorem later_of {w x : World} (h : Below w.heap.size w x) : later w x = x := by
  unfold later
  rw [if_pos h]
theorem later_cell {w x : World} {a : Addr} {v : Value} (h : w.cell? a = some v) : (later w x).cell? a = some v :=
  ((later_below w x).cell (p := a) (block_lt_of_cell h)).trans h
theorem later_iff (w : World) (C : World → Prop) : (∀ w', (∃ x, w' = later w x) → C w') ↔ ∀ x, C (later w x) :=
  ⟨fun h x => h _ ⟨x, rfl⟩, fun h _ ⟨x, e⟩ => by rw [e]; exact h x⟩

theorem chain0 {w a c : World} (h : Below w.heap.size w a) (k : Below a.heap.size a c) : Below w.heap.size w c := h.trans (k.mono h.size)
theorem chain1 {w a c : World} {o : Obj} (h : Below w.heap.size w a) (k : Below (a.alloc o).heap.size (a.alloc o) c) : Below w.heap.size w c :=
  chain0 (h.alloc h.size o) k
theorem chain2 {w a c : World} {o o' : Obj} (h : Below w.heap.size w a) (k : Below ((a.alloc o).alloc o').heap.size ((a.alloc o).alloc o') c) : Below w.heap.size w c :=
  chain1 (h.alloc h.size o) k
theorem below_new (w : World) (o : Obj) : Below w.heap.size w (w.alloc o) := (Below.refl _ _).alloc (Nat.le_refl _) o

section
variable {P : Program}
theorem wp_region_later {id : Nat} {Q : Exit → Act → World → Prop} {a : Act} {w : World} {l : List Oper} (hm : P.follows .mixedOrders = true) (hB : Region.lexB .any l.toArray = true)
    (h : wpQuiet P l.toArray (fun w' => ∃ x, w' = later w x) (fun a' => ∀ w', (∃ x, w' = later w x) → Q .normal a' w') l a) : (Code.region id l.toArray true).wp P Q a w :=
  wp_region_quiet (C := fun w' => ∃ x, w' = later w x) hm hB ⟨w.drew, (later_of ((Below.refl _ _).drew)).symm⟩ (by simpa using h)
theorem calls_later {f : FuncId} {args : Array Value} {w x : World} {v : Value}
    (h : Calls P f args (later w x) fun e w' => e = .returned v ∧ Below (later w x).heap.size (later w x) w') :
    Calls P f args (later w x) fun e w'' => e = .returned v ∧ ∃ y, w'' = later w y :=
  h.mono fun _ w' ⟨he, hb⟩ => ⟨he, w', (later_of ((later_below w x).trans (hb.mono (later_below w x).size))).symm⟩
end
end Go.Proofs.YtfopmaeaclbknaaDoor
