/- What the bulk of a list of tokens says of its texts. -/
import Derived.Test.YtabkaaapkcadhaaRows
import Derived.Test.YtabkaaapkcadhaaOpenT
namespace Go.Proofs.Ytabkaaapkcadhaa.OpenU
open Go.ChangeShapes Go.WideShapes Go.ChangeAt Go.RowKit Go.Joins Go.Deep
open Lex
theorem tok_bulk {H : Type} {t : Tok} {d : DataW H} (h : OpenT.TokD t d) : t.text.size + 1 ≤ Rows.uptoBulk d := by
  obtain ⟨_, a, b, c, rfl⟩ := h
  have e : t.text.data.toList.length = t.text.size := rfl
  simp only [Rows.uptoBulk, Rows.uptoBulkAll, e]
  omega
theorem toks_bulk {H : Type} : ∀ (L : List Tok) (el : List (DataW H)), el.length = L.length → (∀ i (h : i < L.length) (h' : i < el.length), OpenT.TokD L[i] el[i]) → (L.map fun t => t.text.size + 1).sum ≤ Rows.uptoBulkAll el
  | [], [], _, _ => by simp [Rows.uptoBulkAll]
  | [], d :: el, h, _ => by simp at h
  | t :: L, [], h, _ => by simp at h
  | t :: L, d :: el, h, hq => by
    have h1 := tok_bulk (hq 0 (by simp) (by simp))
    have h2 := toks_bulk L el (by simpa using h) (fun i a b => hq (i + 1) (by simpa using a) (by simpa using b))
    simp only [List.getElem_cons_zero] at h1
    simp only [List.map_cons, List.sum_cons, Rows.uptoBulkAll]
    omega
theorem elems_bulk {H : Type} {L : List Tok} {d : DataW H} (h : OpenG.Elems OpenT.TokD L d) : (L.map fun t => t.text.size + 1).sum ≤ Rows.uptoBulk d := by
  rcases h with ⟨rfl, rfl⟩ | ⟨el, sp, rfl, hl, hq⟩
  · simp
  · have := toks_bulk L el hl hq
    simp only [Rows.uptoBulk]
    omega
theorem bound_one {H : Type} {d : DataW H} (hk : Rows.uptoSmall H ([d] ++ []) = true) : Rows.uptoBulk d ≤ 1048576 := by
  have h : Rows.uptoBulkAll ([d] ++ []) ≤ 1048576 := of_decide_eq_true hk
  simp only [List.append_nil, Rows.uptoBulkAll] at h
  omega
end Go.Proofs.Ytabkaaapkcadhaa.OpenU
