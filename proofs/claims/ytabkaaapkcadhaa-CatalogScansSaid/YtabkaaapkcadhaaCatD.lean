/- Contracts of the weights' closures and of (units).sum. Printed by gen_catD.py. -/
import Derived.Test.YtabkaaapkcadhaaCatC
import Derived.BigQuiet
namespace Go.Proofs.Ytabkaaapkcadhaa
open Go.ChangeShapes Go.WideShapes Go.ChangeAt Go.RowKit
set_option linter.unusedVariables false
set_option linter.unusedSimpArgs false
namespace Cat
open Lex
/-- the quantities of the first k products times their weights -/
def sw (f : Prod → Int) (b : Nat → Int) (l : List Prod) : Nat → Int
  | 0 => 0
  | k + 1 => sw f b l k + b k * f (l.getD k Prod.none)
theorem sw_le {f : Prod → Int} {b : Nat → Int} {l : List Prod} (hb : ∀ i, i < 6 → 0 ≤ b i ∧ b i ≤ 4) (hf : ∀ p ∈ l, 0 ≤ f p ∧ f p ≤ 1000000) (h6 : l.length ≤ 6) : ∀ k, k ≤ l.length → 0 ≤ sw f b l k ∧ sw f b l k ≤ 4000000 * k
  | 0, _ => by simp [sw]
  | k + 1, hk => by
    have h := sw_le hb hf h6 k (by omega)
    have h1 := hb k (by omega)
    have h2 := hf l[k] (List.getElem_mem (by omega))
    have h3 : l.getD k Prod.none = l[k] := getD_prod l k (by omega)
    unfold sw
    rw [h3]
    have h4 : 0 ≤ b k * f l[k] := Int.mul_nonneg h1.1 h2.1
    have h5 : b k * f l[k] ≤ 4 * 1000000 := Int.mul_le_mul h1.2 h2.2 h2.1 (by omega)
    constructor <;> omega
def sumE (f : Prod → Int) (b : Nat → Int) (l : List Prod) : Int := if checkE l = 0 ∧ validB b = true then sw f b l l.length else 0
def gw (g : Int) (p : Prod) : Int := if p.group = g then 1 else 0
theorem points1_any (p : Prod) (w : World) : Calls Try.prog 77 #[.agg #[.string p.name, .int .i64 p.supply, .int .i64 p.reserve, .int .i64 p.points, .int .i64 p.group]] w fun e w' => e = .returned (.int .i64 p.points) ∧ Below w.heap.size w w' := by
  go_enter Try.func77, Try.ntmps77
  go_wp2_with fail
  go_ret
  exact ⟨rfl, below_new _ _⟩
theorem reserve1_any (p : Prod) (w : World) : Calls Try.prog 78 #[.agg #[.string p.name, .int .i64 p.supply, .int .i64 p.reserve, .int .i64 p.points, .int .i64 p.group]] w fun e w' => e = .returned (.int .i64 p.reserve) ∧ Below w.heap.size w w' := by
  go_enter Try.func78, Try.ntmps78
  go_wp2_with fail
  go_ret
  exact ⟨rfl, below_new _ _⟩
theorem units1_any (p : Prod) (g : Int) (a : Nat) (w : World) (h : w.cell? ⟨a, 0, none⟩ = some (.int .i64 g)) : Calls Try.prog 79 #[.agg #[.string p.name, .int .i64 p.supply, .int .i64 p.reserve, .int .i64 p.points, .int .i64 p.group], .pointer (some ⟨a, 0, none⟩)] w fun e w' => e = .returned (.int .i64 (gw g p)) ∧ Below w.heap.size w w' := by
  have ha : a < w.heap.size := block_lt_of_cell h
  by_cases e : p.group = g
  · have hq : (p.group == g) = true := by simpa using e
    have HG := Lib.hid (show gw g p = 1 by unfold gw; rw [if_pos e])
    clear e
    go_enter Try.func79, Try.ntmps79
    go_wp2_with fail
    go_ret
    exact ⟨by rw [HG.out]; rfl, below_new _ _⟩
  · have hq : (p.group == g) = false := by simpa using e
    have HG := Lib.hid (show gw g p = 0 by unfold gw; rw [if_neg e])
    clear e
    go_enter Try.func79, Try.ntmps79
    go_wp2_with fail
    go_ret
    exact ⟨by rw [HG.out]; rfl, below_new _ _⟩
end Cat
end Go.Proofs.Ytabkaaapkcadhaa
