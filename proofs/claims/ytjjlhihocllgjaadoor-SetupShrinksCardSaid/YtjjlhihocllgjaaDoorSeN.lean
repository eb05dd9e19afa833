/- Numbers as text, and the library's contracts in the form that the setup wants. -/
import Derived.Test.YtjjlhihocllgjaaDoorPd05
import Derived.Test.YtjjlhihocllgjaaDoorShelf
import Derived.Test.YtjjlhihocllgjaaDoorSeP
import Derived.Lib.ItoaNum
import Derived.Lib.ItoaLen
import Derived.Lib.Join
import Derived.Lib.SmallJoins
import Derived.Lib.AppendIntMem
import Derived.Laws.IdiomStrings
import Derived.Lib.LaidTab
import Derived.ChangeAgain
import Derived.OwnWalk
namespace Go.Proofs.YtjjlhihocllgjaaDoor.Se
open Go.ChangeShapes Go.WideShapes Go.ChangeAt Go.RowKit
set_option linter.unusedVariables false
set_option linter.unusedSimpArgs false
theorem grow_below (w : World) (q : Nat) (os : Array Obj) : Below w.heap.size w (Go.Sort.grow (w.drewN q) os) :=
  ⟨rfl, rfl, rfl, by first | (simp [Go.Sort.grow]; done) | (simp [Go.Sort.grow]; omega), fun i hi => by
    show ((w.drewN q).heap ++ os)[i]? = _
    rw [Array.getElem?_append_left (by show i < w.heap.size; omega)]
    rfl⟩
/-- the library's variables: the table of the formatter, the shape of all -/
structure Env (w : World) : Prop where
  tab : Lib.TabIs Tryd.prog w "internal/strconv.uint64pow10" .u64 Lib.pow10Tab
  sh : w.ShapedOpen Tryd.prog
theorem Env.keep {w w' : World} (h : Env w) (b : Below w.heap.size w w') : Env w' := ⟨Lib.tabBelow_of_tabIs h.tab w' b, h.sh.keptBut (b.frame fun _ => False) fun _ h => h.elim⟩
def decS (v : Int) : ByteArray := ⟨(Lib.itoa v).toArray⟩
def I64 (v : Int) : Prop := -9223372036854775808 ≤ v ∧ v ≤ 9223372036854775807
theorem decS_size {v : Int} (h : I64 v) : (decS v).size ≤ 21 := by
  show ((Lib.itoa v).toArray).size ≤ 21
  rw [List.size_toArray]
  exact Lib.itoa_length_le v h.1 h.2
theorem decS_pos (n : Nat) : decS (n : Int) = ⟨(Lib.decDigits n).toArray⟩ := by
  unfold decS Lib.itoa
  rw [if_neg (by omega), Int.toNat_natCast]
theorem fmt_any (v : Int) (w : World) (h : I64 v) (ht : Env w) : Calls Tryd.prog 56 #[.int .i64 v, .int .i64 10] w fun e w' => e = .returned (.string (decS v)) ∧ Below w.heap.size w w' := by
  refine (Tryd.strconv_FormatInt_10 v h.1 h.2 w ht.tab).mono ?_
  rintro e w1 ⟨rfl, k, os, hw⟩
  exact ⟨rfl, by rw [hw]; exact grow_below w k os⟩
theorem itoa_any (v : Int) (w : World) (h : I64 v) (ht : Env w) : Calls Tryd.prog 85 #[.int .i64 v] w fun e w' => e = .returned (.string (decS v)) ∧ Below w.heap.size w w' := by
  refine (Tryd.strconv_Itoa v h.1 h.2 w ht.tab).mono ?_
  rintro e w1 ⟨rfl, k, os, hw⟩
  exact ⟨rfl, by rw [hw]; exact grow_below w k os⟩
theorem atoi_num {s : ByteArray} (h1 : ∀ b ∈ s.data.toList, dig b = true) (h2 : s.size ≠ 0) : Lib.atoi s.data.toList = some (numV s) := by
  unfold numV
  exact atoi_val (l := s.data.toList) (fun e => h2 (by show s.data.toList.length = 0; rw [e]; rfl)) h1
theorem atoi_any (s : ByteArray) (w : World) (h : numE s = 0) : Calls Tryd.prog 142 #[.string s] w fun e w' => e = .returned (.tuple #[.int .i64 (numV s), .nilIface]) ∧ Below w.heap.size w w' := by
  obtain ⟨h1, h2, h3⟩ := numE_zero h
  have ha := atoi_num h1 h2
  generalize numV s = n at *
  refine (Tryd.strconv_Atoi s n (by omega) ha w).mono ?_
  rintro e w1 ⟨rfl, t, hw⟩
  refine ⟨rfl, ?_⟩
  rw [hw]
  exact Go.Joins.below_bytesWorld _ w _ t (Nat.le_refl _)
theorem split_any (c : UInt8) (s : ByteArray) (w : World) (hs : s.size ≤ 5000) (ht : Env w) : Calls Tryd.prog 86 #[.string s, .string ⟨#[c]⟩] w fun e w' =>
    e = .returned (.slice (some ⟨w.heap.size, 0, none⟩) (splitS c s).length (splitS c s).length) ∧ w' = w.alloc (.cells ((splitS c s).map Value.string).toArray 9) := by
  have h := Tryd.strings_Split_shaped s ⟨#[c]⟩ w ht.sh (by omega) (Nat.le_refl 1)
  rw [countB_one, splitB_one] at h
  exact h
theorem add_small (a b : ByteArray) (h : a.size + b.size ≤ 100000) (W : World) : (Op.stringOp .add a b).run Tryd.prog W = .ok (.string (a ++ b)) W := run_string_add_sum W _ _ (by omega)
end Go.Proofs.YtjjlhihocllgjaaDoor.Se
