/- Plain: the words behind a line's first word, as the two splitters give them. -/
import Derived.Test.YtaikmgnpfbnjjaaGreatDoorPu24
namespace Go.Proofs.YtaikmgnpfbnjjaaGreatDoor.Ev
open Go.ChangeShapes Go.WideShapes Go.ChangeAt Go.RowKit Gn Cat Lex Ros Se
set_option linter.unusedVariables false
set_option linter.unusedSimpArgs false
def tailL (k : Int) (l : List UInt8) : List (List UInt8) :=
  if k = 3 ∨ k = 4 ∨ k = 9 then [] else if k = 2 ∨ k = 5 then [(cutL (cutL l).2.1).1, (cutL (cutL l).2.1).2.1] else [(cutL l).2.1]
def tailS (k : Int) (s : ByteArray) : List ByteArray := (tailL k s.data.toList).map ofL
theorem split_tail {k : Int} (h1 : k ≠ 1) (h5 : k ≠ 5) {l : List UInt8} (h : wordsL k (cutL l).2.1 (cutL l).2.2 = true) : (splitL 32 l).tail = tailL k l := by
  unfold wordsL at h
  rw [if_neg h1] at h
  by_cases h3 : k = 3 ∨ k = 4 ∨ k = 9
  · rw [if_pos h3] at h
    have hm : (cutL l).2.2 = false := by simpa using h
    rw [split_cut l, if_neg (by rw [hm]; simp)]
    unfold tailL
    rw [if_pos h3]
    rfl
  · rw [if_neg h3, if_neg h5] at h
    by_cases h2 : k = 2
    · rw [if_pos h2] at h
      simp only [Bool.and_eq_true, Bool.not_eq_true'] at h
      obtain ⟨m1, m2, m3⟩ := h
      rw [split_cut l, if_pos m1, List.tail_cons, split_cut (cutL l).2.1, if_pos m2, split_cut (cutL (cutL l).2.1).2.1, if_neg (by rw [m3]; simp), (cut_no m3).2.1]
      unfold tailL
      rw [if_neg h3, if_pos (.inl h2)]
    · rw [if_neg h2] at h
      simp only [Bool.and_eq_true, Bool.not_eq_true'] at h
      obtain ⟨m1, m2⟩ := h
      rw [split_cut l, if_pos m1, List.tail_cons, split_cut (cutL l).2.1, if_neg (by rw [m2]; simp), (cut_no m2).2.1]
      unfold tailL
      rw [if_neg h3, if_neg (by rintro (x | x); exact h2 x; exact h5 x)]
theorem splitS_tail {k : Int} (h1 : k ≠ 1) (h5 : k ≠ 5) {s : ByteArray} (h : wordsL k (cutL s.data.toList).2.1 (cutL s.data.toList).2.2 = true) : (splitS 32 s).tail = tailS k s := by
  unfold splitS tailS
  rw [← List.map_tail, split_tail h1 h5 h]
  rfl
theorem words_decide {k : Int} (h1 : k ≠ 1) (h5 : k ≠ 5) (s : ByteArray) : wordsL k (cutL s.data.toList).2.1 (cutL s.data.toList).2.2 = decide ((splitS 32 s).length = wordsN k) := by
  rw [words_split h1 h5]
  unfold splitS
  rw [List.length_map]
/-- the two kinds with a text -/
theorem cuts_sale (s : ByteArray) : cutsS 1 s = if (cutL s.data.toList).2.2 = true then [ofL (cutL s.data.toList).1, ofL (cutL s.data.toList).2.1] else [s] := by
  unfold cutsS
  rw [cutsL]
  split
  · rfl
  · rfl
theorem cuts_bid (s : ByteArray) : cutsS 2 s = if (cutL s.data.toList).2.2 = true then (if (cutL (cutL s.data.toList).2.1).2.2 = true then [ofL (cutL s.data.toList).1, ofL (cutL (cutL s.data.toList).2.1).1, ofL (cutL (cutL s.data.toList).2.1).2.1] else [ofL (cutL s.data.toList).1, ofL (cutL s.data.toList).2.1]) else [s] := by
  unfold cutsS
  rw [cutsL]
  split
  · rw [cutsL]
    split
    · rfl
    · rfl
  · rfl
theorem ws_tail {w : World} {b o n c : Nat} {A : Option Addr} {ws : List ByteArray} (h : WS w (.slice (some ⟨b, o, none⟩) n c) ws) (hn : 1 ≤ n) (hA : 1 < c → A = some ⟨b, o + 1, none⟩) : WS w (.slice A (n - 1) (c - 1)) ws.tail := by
  obtain ⟨h0, A', c', e, h2, h3, h4⟩ := h
  obtain ⟨e1, e2, e3⟩ := Value.slice.inj e
  subst e3
  obtain ⟨b', o', e4, hlt, hc⟩ := h4 (by omega)
  rw [e4] at e1
  injection e1 with e1
  injection e1 with e5 e6
  subst e5 e6
  refine ⟨by simp, A, c - 1, by rw [List.length_tail, e2], by rw [List.length_tail]; omega, by omega, fun hp => ?_⟩
  rw [List.length_tail] at hp
  refine ⟨b, o + 1, hA (by omega), hlt, fun j u hu => ?_⟩
  have h5 := hc (j + 1) u (by
    rw [← hu, List.map_tail, List.getElem?_tail])
  rw [show o + 1 + j = o + (j + 1) by omega]
  exact h5
theorem ws_get {w : World} {b o n c : Nat} {ws : List ByteArray} (h : WS w (.slice (some ⟨b, o, none⟩) n c) ws) {j : Nat} (hj : j < ws.length) : w.cell? ⟨b, o + j, none⟩ = some (.string ws[j]) := by
  obtain ⟨h0, A', c', e, h2, h3, h4⟩ := h
  obtain ⟨e1, e2, e3⟩ := Value.slice.inj e
  obtain ⟨b', o', e4, hlt, hc⟩ := h4 (by omega)
  rw [e4] at e1
  injection e1 with e1
  injection e1 with e5 e6
  subst e5 e6
  exact hc j _ (by rw [List.getElem?_map, List.getElem?_eq_getElem hj]; rfl)
theorem ws_lt {w : World} {b o n c : Nat} {ws : List ByteArray} (h : WS w (.slice (some ⟨b, o, none⟩) n c) ws) (hn : 0 < n) : n = ws.length ∧ n ≤ c ∧ b < w.heap.size := by
  obtain ⟨h0, A', c', e, h2, h3, h4⟩ := h
  obtain ⟨e1, e2, e3⟩ := Value.slice.inj e
  obtain ⟨b', o', e4, hlt, hc⟩ := h4 (by omega)
  rw [e4] at e1
  injection e1 with e1
  injection e1 with e5 e6
  subst e5
  exact ⟨e2, by omega, hlt⟩
theorem ws_len {w : World} {A : Option Addr} {n c : Nat} {ws : List ByteArray} (h : WS w (.slice A n c) ws) : n = ws.length := by
  obtain ⟨h0, A', c', e, h2, h3, h4⟩ := h
  exact (Value.slice.inj e).2.1
theorem str_info : (Tryz.prog.info? 9).map (fun i => i.size) = some 1 := by kernel_rfl
/-- all words but the first -/
theorem slice_one (b o n c : Nat) (hn : 1 ≤ n) (hc : n ≤ c) : ∃ A, (1 < c → A = some ⟨b, o + 1, none⟩) ∧ ∀ W, (Instr.slice 54 (.slice (some ⟨b, o, none⟩) n c) (some (.int .i64 1)) none none).run Tryz.prog W = .ok (.slice A (n - 1) (c - 1)) W := by
  have h := fun W => run_slice_l (P := Tryz.prog) (w := W) 54 (some ⟨b, o, none⟩) n c (by kernel_rfl) .i64 (1 : Int) (by omega) (by omega)
  have hz : ∀ W, (sizeOf (Tryz.prog.elem 54)).run Tryz.prog W = .ok 1 W := fun W => by
    have e : Tryz.prog.elem 54 = 9 := by kernel_rfl
    rw [e]
    obtain ⟨i0, hi0, hz0⟩ := Option.map_eq_some_iff.1 str_info
    simp [sizeOf, typeInfo, hi0, hz0]
  by_cases hnc : 1 < c
  · refine ⟨some ⟨b, o + 1, none⟩, fun _ => rfl, fun W => ?_⟩
    rw [h W, hz W]
    show Result.ok (sliced _ _ _ _ _) W = _
    unfold sliced
    rw [if_neg (by simp; omega)]
    simp [Addr.add]
  · refine ⟨some ⟨b, o, none⟩, fun k => absurd k hnc, fun W => ?_⟩
    rw [h W, hz W]
    obtain rfl : c = 1 := by omega
    show Result.ok (sliced _ _ _ _ _) W = _
    unfold sliced
    rw [if_pos (by simp)]
    simp
end Go.Proofs.YtaikmgnpfbnjjaaGreatDoor.Ev
