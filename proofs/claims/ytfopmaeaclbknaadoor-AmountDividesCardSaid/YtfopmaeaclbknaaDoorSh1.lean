/- The closures of amount.Share. -/
import Derived.Test.YtfopmaeaclbknaaDoorSo2
namespace Go.Proofs.YtfopmaeaclbknaaDoor
open Go.ChangeShapes Go.WideShapes Go.ChangeAt Go.RowKit
set_option linter.unusedVariables false
set_option linter.unusedSimpArgs false
namespace So
def at_ (W : List Nat) (i : Nat) : Nat := W.getD i 0
theorem at_in {W : List Nat} {i : Nat} (h : i < W.length) : at_ W i = W[i] := by simp [at_, List.getD, h]
/-- what is left of a part -/
def rst (T : Nat) (W : List Nat) (S i : Nat) : Nat := T * at_ W i % S
/-- what the closures have captured -/
structure Env (w : World) (b2 b3 b6 gc : Nat) (T : Nat) (W : List Nat) (S : Nat) (A : Option Addr) (c : Nat) : Prop where
  total : w.cell? ⟨b2, 0, none⟩ = some (.int .i64 (T : Int))
  wts : w.cell? ⟨b3, 0, none⟩ = some (.slice A W.length c)
  sum : w.cell? ⟨b6, 0, none⟩ = some (.int .i64 (S : Int))
  fn : w.cell? ⟨gc, 0, none⟩ = some (.func (.func 47) #[] #[.pointer (some ⟨b2, 0, none⟩), .pointer (some ⟨b3, 0, none⟩), .pointer (some ⟨b6, 0, none⟩)])
  cells : 0 < W.length → ∃ b o, A = some ⟨b, o, none⟩ ∧ b < w.heap.size ∧ ∀ i, i < W.length → w.cell? ⟨b, o + i, none⟩ = some (.int .i64 ((at_ W i : Nat) : Int))
theorem Env.far {w w' : World} {g b2 b3 b6 gc T : Nat} {W : List Nat} {S : Nat} {A : Option Addr} {c : Nat} (h : Env w b2 b3 b6 gc T W S A c) (f : Far g w w') (h2 : b2 ≠ g) (h3 : b3 ≠ g) (h6 : b6 ≠ g) (hg : gc ≠ g) (hA : ∀ b o, A = some ⟨b, o, none⟩ → b ≠ g) : Env w' b2 b3 b6 gc T W S A c := by
  refine ⟨(f.cell 0 h2 (block_lt_of_cell h.total)).trans h.total, (f.cell 0 h3 (block_lt_of_cell h.wts)).trans h.wts, (f.cell 0 h6 (block_lt_of_cell h.sum)).trans h.sum, (f.cell 0 hg (block_lt_of_cell h.fn)).trans h.fn, fun hn => ?_⟩
  obtain ⟨b, o, e, hb, hc⟩ := h.cells hn
  exact ⟨b, o, e, Nat.lt_of_lt_of_le hb f.size, fun i hi => (f.cell _ (hA b o e) hb).trans (hc i hi)⟩
theorem rest_facts {T x S : Nat} (hT : T ≤ 1000000) (hx : x ≤ 1000000) (hS : 0 < S) (hS2 : S ≤ 1000000000) : ∃ p r : Nat, (p = T * x ∧ r = T * x % S ∧ r < S) ∧ IntKind.i64.wrap ((T : Int) * (x : Int)) = ((p : Nat) : Int) ∧ (p : Int) % (S : Int) = ((r : Nat) : Int) ∧ (p : Int).tmod (S : Int) = ((r : Nat) : Int) ∧ (0 : Int) ≤ (p : Int) := by
  have h1 : T * x ≤ 1000000 * 1000000 := Nat.mul_le_mul hT hx
  have e : (T : Int) * (x : Int) = ((T * x : Nat) : Int) := by simp
  refine ⟨T * x, T * x % S, ⟨rfl, rfl, Nat.mod_lt _ hS⟩, ?_, by simp, by rw [Int.ofNat_tmod], by omega⟩
  rw [e]
  exact IntWalk.i64_in _ (by omega)
set_option maxHeartbeats 1000000 in
theorem rest_any {w : World} {b2 b3 b6 gc T : Nat} {W : List Nat} {S : Nat} {A : Option Addr} {c : Nat} (h : Env w b2 b3 b6 gc T W S A c) (hT : T ≤ 1000000) (hW : ∀ x ∈ W, x ≤ 1000000) (hS : 0 < S) (hS2 : S ≤ 1000000000) (hl : W.length ≤ 1000) (i : Nat) (hi : i < W.length) :
    Calls Tryd.prog 47 #[.int .i64 (i : Int), .pointer (some ⟨b2, 0, none⟩), .pointer (some ⟨b3, 0, none⟩), .pointer (some ⟨b6, 0, none⟩)] w fun e w' => e = .returned (.int .i64 ((rst T W S i : Nat) : Int)) ∧ ∃ q, w' = w.drewN q := by
  obtain ⟨b, o, rfl, hb, hc⟩ := h.cells (by omega)
  have c1 := h.total
  have c2 := h.wts
  have c3 := h.sum
  have c4 := hc i hi
  obtain ⟨p, r, hp, f1, f2, f3, f4⟩ := rest_facts (x := at_ W i) hT (by rw [at_in hi]; exact hW _ (List.getElem_mem hi)) hS hS2
  have HR : Hid (rst T W S i = r) := hp.2.1.symm
  have hi0 : (0 : Int) ≤ (i : Int) := by omega
  have hi1 : (i : Int) < (W.length : Int) := by omega
  have hl2 : (W.length : Int) ≤ 1000 := by omega
  have q1 : ((S : Int) == 0) = false := beq_eq_false_iff_ne.2 (by omega)
  have q2 : (S : Int) ≠ 0 := by omega
  have q3 : (0 : Int) < (S : Int) := by omega
  have hr9 : (r : Int) < 1000000000 := by have := hp.2.2; omega
  have hr0 : (0 : Int) ≤ (r : Int) := by omega
  rw [HR.out]
  clear h hc hp hW
  go_enter Tryd.func47, Tryd.ntmps47
  go_wp2_with fail
  go_quiet (fail)
  go_wp2_with fail
  go_ret
  refine ⟨?_, _, rfl⟩
  first | rfl | (congr 2; first | exact f2 | exact f3 | simp [f2, f3])
set_option maxHeartbeats 2000000 in
theorem cmp_any {w : World} {b2 b3 b6 gc T : Nat} {W : List Nat} {S : Nat} {A : Option Addr} {c : Nat} (h : Env w b2 b3 b6 gc T W S A c) (hT : T ≤ 1000000) (hW : ∀ x ∈ W, x ≤ 1000000) (hS : 0 < S) (hS2 : S ≤ 1000000000) (hl : W.length ≤ 1000) (i j : Nat) (hi : i < W.length) (hj : j < W.length) :
    Calls Tryd.prog 49 #[.int .i64 (i : Int), .int .i64 (j : Int), .pointer (some ⟨gc, 0, none⟩)] w fun e w' => e = .returned (.int .i64 (cmpv (rst T W S i) (rst T W S j))) ∧ ∃ q, w' = w.drewN q := by
  have hE : ∀ m, Env (w.drewN m) b2 b3 b6 gc T W S A c := fun m => ⟨h.total, h.wts, h.sum, h.fn, h.cells⟩
  have R1 := Lib.hid (fun m k (hk : k < W.length) => rest_any (hE m) hT hW hS hS2 hl k hk)
  have c4 := h.fn
  obtain ⟨n, hn⟩ : ∃ n, n = W.length := ⟨_, rfl⟩
  rw [← hn] at hi hj R1
  clear h hE hW hn hl
  obtain ⟨rr, hrr⟩ : ∃ rr, rr = rst T W S := ⟨_, rfl⟩
  have R2 : Hid (∀ m k, k < n → Calls Tryd.prog 47 #[.int .i64 (k : Int), .pointer (some ⟨b2, 0, none⟩), .pointer (some ⟨b3, 0, none⟩), .pointer (some ⟨b6, 0, none⟩)] (w.drewN m) fun e w' => e = .returned (.int .i64 ((rr k : Nat) : Int)) ∧ ∃ q, w' = (w.drewN m).drewN q) := by
    rw [hrr]
    exact R1.out
  rw [← hrr]
  clear R1 hrr
  obtain ⟨x, hx⟩ : ∃ x, x = rr i := ⟨_, rfl⟩
  obtain ⟨y, hy⟩ : ∃ y, y = rr j := ⟨_, rfl⟩
  have RI : Hid (∀ m, Calls Tryd.prog 47 #[.int .i64 (i : Int), .pointer (some ⟨b2, 0, none⟩), .pointer (some ⟨b3, 0, none⟩), .pointer (some ⟨b6, 0, none⟩)] (w.drewN m) fun e w' => e = .returned (.int .i64 (x : Int)) ∧ ∃ q, w' = (w.drewN m).drewN q) := fun m => by rw [hx]; exact R2.out m i hi
  have RJ : Hid (∀ m, Calls Tryd.prog 47 #[.int .i64 (j : Int), .pointer (some ⟨b2, 0, none⟩), .pointer (some ⟨b3, 0, none⟩), .pointer (some ⟨b6, 0, none⟩)] (w.drewN m) fun e w' => e = .returned (.int .i64 (y : Int)) ∧ ∃ q, w' = (w.drewN m).drewN q) := fun m => by rw [hy]; exact R2.out m j hj
  rw [← hx, ← hy]
  clear R2 hx hy hi hj
  have HV : Hid (cmpv x y = if y < x then -1 else if x < y then 1 else 0) := rfl
  rcases Nat.lt_trichotomy x y with hx | hx | hx
  · have HF : Hid (cmpv x y = 1) := by show _ = _; rw [HV.out, if_neg (by omega), if_pos hx]
    have q1 : decide (y < x) = false := decide_eq_false (by omega)
    have q2 : decide ((y : Int) < (x : Int)) = false := decide_eq_false (by omega)
    have q3 : decide (x < y) = true := decide_eq_true hx
    have q4 : decide ((x : Int) < (y : Int)) = true := decide_eq_true (by omega)
    clear hx
    go_enter Tryd.func49, Tryd.ntmps49
    go_wp2_with fail
    go_quiet ((go_at_call 47; first | (with_reducible refine Calls.quiet_of (RI.out _)) | (with_reducible refine Calls.quiet_of (RJ.out _))))
    go_wp2_with fail
    go_ret
    exact ⟨by rw [HF.out]; rfl, _, rfl⟩
  · have HF : Hid (cmpv x y = 0) := by show _ = _; rw [HV.out, if_neg (by omega), if_neg (by omega)]
    have q1 : decide (y < x) = false := decide_eq_false (by omega)
    have q2 : decide ((y : Int) < (x : Int)) = false := decide_eq_false (by omega)
    have q3 : decide (x < y) = false := decide_eq_false (by omega)
    have q4 : decide ((x : Int) < (y : Int)) = false := decide_eq_false (by omega)
    clear hx
    go_enter Tryd.func49, Tryd.ntmps49
    go_wp2_with fail
    go_quiet ((go_at_call 47; first | (with_reducible refine Calls.quiet_of (RI.out _)) | (with_reducible refine Calls.quiet_of (RJ.out _))))
    go_wp2_with fail
    go_ret
    exact ⟨by rw [HF.out]; rfl, _, rfl⟩
  · have HF : Hid (cmpv x y = -1) := by show _ = _; rw [HV.out, if_pos hx]
    have q1 : decide (y < x) = true := decide_eq_true hx
    have q2 : decide ((y : Int) < (x : Int)) = true := decide_eq_true (by omega)
    clear hx
    go_enter Tryd.func49, Tryd.ntmps49
    go_wp2_with fail
    go_quiet ((go_at_call 47; first | (with_reducible refine Calls.quiet_of (RI.out _)) | (with_reducible refine Calls.quiet_of (RJ.out _))))
    go_wp2_with fail
    go_ret
    exact ⟨by rw [HF.out]; rfl, _, rfl⟩
theorem cmp_ok {w : World} {g b2 b3 b6 gc T : Nat} {W : List Nat} {S : Nat} {A : Option Addr} {c : Nat} (h : Env w b2 b3 b6 gc T W S A c) (hT : T ≤ 1000000) (hW : ∀ x ∈ W, x ≤ 1000000) (hS : 0 < S) (hS2 : S ≤ 1000000000) (hl : W.length ≤ 1000) (h2 : b2 ≠ g) (h3 : b3 ≠ g) (h6 : b6 ≠ g) (hg : gc ≠ g) (hA : ∀ b o, A = some ⟨b, o, none⟩ → b ≠ g) : CmpOk w g gc W.length (rst T W S) :=
  fun w' f x y hx hy => cmp_any (h.far f h2 h3 h6 hg hA) hT hW hS hS2 hl x y hx hy
end So
end Go.Proofs.YtfopmaeaclbknaaDoor
