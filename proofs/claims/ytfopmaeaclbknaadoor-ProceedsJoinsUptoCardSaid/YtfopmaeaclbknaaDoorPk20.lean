/- Contracts of fits and of the reference's Fits. Contract of NewScanner. -/
import Derived.Test.YtfopmaeaclbknaaDoorPk18
import Derived.Test.YtfopmaeaclbknaaDoorPk15
import Derived.Test.YtfopmaeaclbknaaDoorPk00
namespace Go.Proofs.YtfopmaeaclbknaaDoor
open Go.ChangeShapes Go.WideShapes Go.ChangeAt Go.RowKit
set_option linter.unusedVariables false
set_option linter.unusedSimpArgs false
namespace Cat
open Lex
/-- no units from place n on -/
def tailB (p : Nat → Int) (n : Nat) : Bool := (List.range 6).all fun i => decide (i < n) || p i == 0
theorem tailB_true {p : Nat → Int} {n : Nat} (h : ∀ j, j < 6 → j < n ∨ p j = 0) : tailB p n = true := by
  unfold tailB
  rw [List.all_eq_true]
  intro i hi
  simpa using h i (List.mem_range.1 hi)
theorem tailB_iff {p : Nat → Int} {n : Nat} : tailB p n = true ↔ ∀ j, j < 6 → j < n ∨ p j = 0 := by
  refine ⟨fun h j hj => ?_, tailB_true⟩
  unfold tailB at h
  rw [List.all_eq_true] at h
  simpa using h j (List.mem_range.2 hj)
theorem tailB_false {p : Nat → Int} {n : Nat} (k : Nat) (hk : k < 6) (h1 : ¬ k < n) (h2 : p k ≠ 0) : tailB p n = false := by
  cases h : tailB p n with
  | false => rfl
  | true => rcases tailB_iff.1 h k hk with h | h <;> contradiction
def fitsB (p : Nat → Int) (n : Nat) : Bool := validB p && tailB p n
theorem fits_no (n : Nat) (A : Option Addr) (c : Nat) (p : Nat → Int) (w : World) (hn : n ≤ 5000) (hv : validB p = false) : Calls Tryd.prog 114 #[.slice A n c, .agg (arr p)] w fun e w' => e = .returned (.bool (fitsB p n)) ∧ Below w.heap.size w w' := by
  have HF : Hid (fitsB p n = false) := by show fitsB p n = false; unfold fitsB; rw [hv]; rfl
  have CB := Lib.hid (fun w => bcheck_no p w hv)
  unfold arr at CB
  clear hv
  unfold arr
  go_enter Tryd.func114, Tryd.ntmps114
  go_wp2_with fail
  refine (CB.out _).mono ?_
  rintro e w1 ⟨rfl, b1⟩
  have B1 := Lib.hid (chain1 (Below.refl _ _) b1)
  clear b1
  go_wp2_with fail
  go_ret
  exact ⟨by rw [HF.out]; rfl, B1.out⟩
theorem fits_yes (n : Nat) (A : Option Addr) (c : Nat) (p : Nat → Int) (w : World) (hn : n ≤ 5000) (hv : validB p = true) : Calls Tryd.prog 114 #[.slice A n c, .agg (arr p)] w fun e w' => e = .returned (.bool (fitsB p n)) ∧ Below w.heap.size w w' := by
  have HF : Hid (∀ b, tailB p n = b → fitsB p n = b) := fun b h => by unfold fitsB; rw [hv, h]; rfl
  have CB := Lib.hid (fun w => bcheck_yes p w hv)
  have HK := Lib.hid (fun w1 (k : Below (w.alloc (.cells (arr p) 77)).heap.size (w.alloc (.cells (arr p) 77)) w1) => (box_new w p 77).below k (by go_size))
  have HI := Lib.hid (idx27 p)
  unfold arr at CB HI
  clear hv
  unfold arr
  go_enter Tryd.func114, Tryd.ntmps114
  go_wp2_with fail
  refine (CB.out _).mono ?_
  rintro e w1 ⟨rfl, d1⟩
  have K1 := Lib.hid (HK.out _ d1)
  have c1 := K1.out.cells
  have g1 := K1.out.lt
  have B1 := Lib.hid (chain1 (Below.refl _ _) d1)
  clear d1
  go_wp2_with fail
  clear c1 g1
  go_loop [11] (fun i => ∃ k : Nat, k ≤ 6 ∧ i = .int .i64 (k : Int) ∧ Hid (∀ j, j < k → j < n ∨ p j = 0)) (fun i => 6 - (intOf i).toNat)
  case atStart => exact ⟨0, by omega, rfl, fun j hj => by omega⟩
  case round =>
    obtain ⟨k, hk, rfl, HA⟩ := hrel
    by_cases hlt : k < 6
    · have hi' := HI.out k hlt
      have hd : decide ((k : Int) < 6) = true := by simp; omega
      have hi0 : (0 : Int) ≤ (k : Int) := by omega
      by_cases hkn : k < n
      · have d1 : decide (n ≤ k) = false := by simp; omega
        have HA2 : Hid (∀ j, j < k + 1 → j < n ∨ p j = 0) := fun j hj => by
          by_cases e : j = k
          · subst e; exact .inl hkn
          · exact HA.out j (by omega)
        go_wp2_with fail
        go_round
        case rel => exact ⟨k + 1, by omega, by go_num, HA2⟩
        case measure => simp [intOf]; omega
      · have d1 : decide (n ≤ k) = true := by simp; omega
        by_cases h0 : p k = 0
        · have q0 : (p k != 0) = false := by simpa using h0
          have HA2 : Hid (∀ j, j < k + 1 → j < n ∨ p j = 0) := fun j hj => by
            by_cases e : j = k
            · subst e; exact .inr h0
            · exact HA.out j (by omega)
          clear h0
          go_wp2_with fail
          go_round
          case rel => exact ⟨k + 1, by omega, by go_num, HA2⟩
          case measure => simp [intOf]; omega
        · have q0 : (p k != 0) = true := by simpa using h0
          have HR := Lib.hid (HF.out false (tailB_false k hlt hkn h0))
          clear h0
          go_wp2_with fail
          go_ret
          exact ⟨by rw [HR.out]; rfl, B1.out⟩
    · obtain rfl : k = 6 := by omega
      have hd : decide (((6 : Nat) : Int) < 6) = false := by simp
      have HR := Lib.hid (HF.out true (tailB_true HA.out))
      go_wp2_with fail
      go_ret
      exact ⟨by rw [HR.out]; rfl, B1.out⟩
theorem fits_any (n : Nat) (A : Option Addr) (c : Nat) (p : Nat → Int) (w : World) (hn : n ≤ 5000) : Calls Tryd.prog 114 #[.slice A n c, .agg (arr p)] w fun e w' => e = .returned (.bool (fitsB p n)) ∧ Below w.heap.size w w' := by
  cases hv : validB p with
  | false => exact fits_no n A c p w hn hv
  | true => exact fits_yes n A c p w hn hv
def rfitsB (p : Nat → Int) (l : List Prod) : Bool := checkE l == 0 && fitsB p l.length
theorem rfits_any (l : List Prod) (v : Value) (p : Nat → Int) (w : World) (hl : l.length ≤ 5000) (h : PS w v l) (hn : ∀ p ∈ l, p.name.size ≤ maxLen) : Calls Tryd.prog 86 #[v, .agg (arr p)] w fun e w' => e = .returned (.bool (rfitsB p l)) ∧ Below w.heap.size w w' := by
  have CC := Lib.hid (fun w' (k : Below w.heap.size w w') => rcheck_any l v w' hl (Sl.keep h k) hn)
  have CV := Lib.hid (fun w => valid_any p w)
  have HK := Lib.hid (fun w1 (k : Below (w.alloc (.cells (arr p) 77)).heap.size (w.alloc (.cells (arr p) 77)) w1) => (box_new w p 77).below k (by go_size))
  obtain ⟨A, c, rfl, _, _, _⟩ := ps_cases h
  have HI := Lib.hid (fun k h => cellArr w p 77 k h)
  have HT : Hid (∀ k, k < 6 → l.length ≤ k → p k ≠ 0 → rfitsB p l = false) := fun k h1 h2 h3 => by
    unfold rfitsB fitsB
    rw [tailB_false k h1 (by omega) h3]
    simp
  have HY : Hid ((∀ j, j < 6 → j < l.length ∨ p j = 0) → rfitsB p l = (checkE l == 0 && validB p)) := fun h => by
    unfold rfitsB fitsB
    rw [tailB_true h]
    simp
  clear h hn
  unfold arr at CV HI
  unfold arr
  go_enter Tryd.func86, Tryd.ntmps86
  go_wp2_with fail
  go_loop [5] (fun i => ∃ k : Nat, l.length ≤ k ∧ (k ≤ 6 ∨ k = l.length) ∧ i = .int .i64 (k : Int) ∧ Hid (∀ j, j < k → j < l.length ∨ p j = 0)) (fun i => 6 - (intOf i).toNat)
  case atStart => exact ⟨l.length, by omega, by omega, rfl, fun j hj => .inl hj⟩
  case round =>
    obtain ⟨k, hkl, hk, rfl, HA⟩ := hrel
    by_cases hlt : k < 6
    · have hi' := HI.out k hlt
      have hd : decide ((k : Int) < 6) = true := by simp; omega
      have hi0 : (0 : Int) ≤ (k : Int) := by omega
      by_cases h0 : p k = 0
      · have q0 : (p k != 0) = false := by simpa using h0
        have HA2 : Hid (∀ j, j < k + 1 → j < l.length ∨ p j = 0) := fun j hj => by
          by_cases e : j = k
          · subst e; exact .inr h0
          · exact HA.out j (by omega)
        clear h0
        go_wp2_with fail
        go_round
        case rel => exact ⟨k + 1, by omega, by omega, by go_num, HA2⟩
        case measure => simp [intOf]; omega
      · have q0 : (p k != 0) = true := by simpa using h0
        have HR := Lib.hid (HT.out k hlt hkl h0)
        clear h0
        go_wp2_with fail
        go_ret
        exact ⟨by rw [HR.out]; rfl, by go_grown⟩
    · have hd : decide ((k : Int) < 6) = false := by simp; omega
      have HR := Lib.hid (HY.out fun j hj => HA.out j (by omega))
      cases hz : checkE l == 0 with
      | false =>
        go_wp2_with fail
        refine (CC.out _ (below_new _ _)).mono ?_
        rintro e w1 ⟨rfl, d1⟩
        have B1 := Lib.hid (chain1 (Below.refl _ _) d1)
        clear d1
        go_wp2_with fail
        go_ret
        exact ⟨by rw [HR.out, hz]; rfl, B1.out⟩
      | true =>
        go_wp2_with fail
        refine (CC.out _ (below_new _ _)).mono ?_
        rintro e w1 ⟨rfl, d1⟩
        have K1 := Lib.hid (HK.out _ d1)
        have c1 := K1.out.cells
        have g1 := K1.out.lt
        have B1 := Lib.hid (chain1 (Below.refl _ _) d1)
        clear d1
        go_wp2_with fail
        refine (CV.out _).mono ?_
        rintro e w2 ⟨rfl, d2⟩
        have B2 := Lib.hid (chain0 B1.out d2)
        clear d2
        go_wp2_with fail
        go_ret
        exact ⟨by rw [HR.out, hz]; rfl, B2.out⟩
end Cat
end Go.Proofs.YtfopmaeaclbknaaDoor
namespace Go.Proofs.YtfopmaeaclbknaaDoor
open Go.ChangeShapes Go.WideShapes Go.ChangeAt Go.RowKit
section
variable {P : Program} (w : World)
/-- append of no elements onto nil -/
theorem run_append_none (t ty e : TypeId) (i : TypeInfo) (ht : P.underlying t = some (.slice e)) (hi : P.info? e = some i) (A : Option Addr) (c : Nat) :
    (Builtin.append_ #[t, t] ty #[.slice none 0 0, .slice A 0 c]).run P w = .ok (.slice none 0 0) w := by
  cases A with
  | none => simp [Builtin.append_, run_underlying ht, sizeOf, typeInfo, hi, Builtin.lenOf, Builtin.firstCells]
  | some a => simp [Builtin.append_, run_underlying ht, sizeOf, typeInfo, hi, Builtin.lenOf, Builtin.firstCells, loadCells, loadCellsFrom]
end
namespace Lex
theorem own_scan {w : World} {base : Nat} {te : TypeId} {v : Value} {L : List Tok} (h : w.ownsRow base te 4 v L.length (cellsOf L)) :
    ∃ A c, v = .slice A L.length c ∧ L.length ≤ c ∧ c ≤ maxLen ∧ (0 < L.length → ∃ b o cs, A = some ⟨b, o, none⟩ ∧ Blk w b te cs ∧ TokRow w b o L) := by
  have hs := Sl.of_own h
  rcases h.2 with ⟨rfl, h0⟩ | ⟨g, cap, cur, rfl, _, hh, hn, hc, _, _⟩
  · exact ⟨none, 0, by rw [h0], by omega, by unfold maxLen; omega, fun h => by omega⟩
  · refine ⟨_, cap, rfl, hn, hc, fun hp => ?_⟩
    obtain ⟨_, A, c, e, _, _, hr⟩ := hs
    obtain ⟨b, o, e2, _, hr2⟩ := hr hp
    injection e with e3
    subst e3
    injection e2 with e4
    injection e4 with e5 e6
    subst e5
    exact ⟨_, _, cur, rfl, hh, by rw [e6]; exact hr2⟩
theorem scan_new {w : World} {base : Nat} {ts te : TypeId} {v : Value} {L : List Tok} (h : w.ownsRow base te 4 v L.length (cellsOf L)) (e : Int) :
    Scan ts te (w.alloc (.cells #[v, .int .i64 e] ts)) w.heap.size L e := by
  obtain ⟨A, c, rfl, h1, h2, h3⟩ := own_scan h
  refine ⟨A, c, Blk.new _ _ _, h1, h2, fun hp => ?_⟩
  obtain ⟨b, o, cs, e1, e2, e3⟩ := h3 hp
  exact ⟨b, o, cs, e1, e2.alloc _, e3.keep e2 (e2.alloc _)⟩
end Lex
end Go.Proofs.YtfopmaeaclbknaaDoor
