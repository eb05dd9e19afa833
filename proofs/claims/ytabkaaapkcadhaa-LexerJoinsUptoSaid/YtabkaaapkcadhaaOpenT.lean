/- Opening an argument that is a list of tokens, or a list of scanner steps. -/
import Derived.Test.YtabkaaapkcadhaaOpenG
import Derived.Test.YtabkaaapkcadhaaLexY
namespace Go.Proofs.Ytabkaaapkcadhaa.OpenT
open Go.ChangeShapes Go.WideShapes Go.ChangeAt Go.RowKit Go.Joins Go.Deep
open Lex
section
variable {H : Type} {enc : TypeId × Value → H} {w : World} {base : Nat} {spare : Nat → Bool} {held : Bool}
theorem tok_fields : ∃ f0 f1 f2 f3 : Field, Try.prog.underlying 33 = some (.struct #[f0, f1, f2, f3]) ∧ oneCellFields Try.prog #[f0, f1, f2, f3] = true ∧ Try.prog.underlying f0.type = some (.int .i64) ∧ Try.prog.underlying f1.type = some .string ∧ Try.prog.underlying f2.type = some (.int .i64) ∧ Try.prog.underlying f3.type = some (.int .i64) :=
  ⟨_, _, _, _, Try.underlying33, by kernel_rfl, by kernel_rfl, by kernel_rfl, by kernel_rfl, by kernel_rfl⟩
/-- a token's datum -/
def TokD (t : Tok) (d : DataW H) : Prop := t.text.size ≤ maxLen ∧ ∃ a b c, d = .agg [a, .lit (.string t.text.data.toList), b, c]
set_option maxRecDepth 100000 in
theorem dec_tok (fuel : Nat) (cs : List Value) (y : DataW H × List MemPlace) (h : DataW.trod enc Try.prog w base spare held fuel 33 cs = some y) : ∃ t : Tok, cs = t.cells ∧ TokD t y.1 := by
  obtain ⟨f0, f1, f2, f3, hs, hone, k0, k1, k2, k3⟩ := tok_fields
  obtain ⟨xs, n, _, rfl, hl, hxl, hf⟩ := DataW.trod_struct hs h
  have hC : Try.prog.cellsOf 33 = 4 := by kernel_rfl
  rw [hC] at hl
  match cs, hl, xs, hxl, hf with
  | [c0, c1, c2, c3], _, [x0, x1, x2, x3], _, hf =>
    obtain ⟨a, e0, _, _⟩ := DataW.trod_int k0 (OpenG.field_at hone hf 0 f0 rfl (by simp) (by simp))
    obtain ⟨s, e1, g1, z1⟩ := DataW.trod_string k1 (OpenG.field_at hone hf 1 f1 rfl (by simp) (by simp))
    obtain ⟨b, e2, _, _⟩ := DataW.trod_int k2 (OpenG.field_at hone hf 2 f2 rfl (by simp) (by simp))
    obtain ⟨c, e3, _, _⟩ := DataW.trod_int k3 (OpenG.field_at hone hf 3 f3 rfl (by simp) (by simp))
    simp at e0 e1 e2 e3 g1
    subst e0 e1 e2 e3
    exact ⟨⟨a, s, b, c⟩, rfl, z1, x0.1, x2.1, x3.1, by simp [g1]⟩
set_option maxRecDepth 100000 in
theorem open_toks {r : Reach} {b0 : Nat} {v : Value} {d : DataW H} {ps : List MemPlace} (hv : Value.okWide Try.prog w r b0 23 v) (h : DataW.Trod enc Try.prog w base spare held 23 v d ps) :
    ∃ (A : Option Addr) (cap : Nat) (L : List Tok), v = .slice A L.length cap ∧ L.length ≤ maxLen ∧ Sl w 4 (.slice A L.length cap) L.length (cellsOf L) ∧ OpenG.Elems TokD L d := by
  obtain ⟨A, cap, L, rfl, h1, h2, h3, h4⟩ := OpenG.open_list 4 Tok.cells TokD (by decide) (fun _ => rfl) Try.underlying23 (by kernel_rfl) dec_tok hv h
  exact ⟨A, cap, L, rfl, Nat.le_trans h1 h2, ⟨cellsOf_len L, A, cap, rfl, h1, h2, h3⟩, h4⟩
theorem step_fields : ∃ f0 f1 f2 : Field, Try.prog.underlying 45 = some (.struct #[f0, f1, f2]) ∧ oneCellFields Try.prog #[f0, f1, f2] = true ∧ Try.prog.underlying f0.type = some (.int .i64) ∧ Try.prog.underlying f1.type = some .string ∧ Try.prog.underlying f2.type = some (.int .i64) :=
  ⟨_, _, _, Try.underlying45, by kernel_rfl, by kernel_rfl, by kernel_rfl, by kernel_rfl⟩
set_option maxRecDepth 100000 in
theorem dec_step (fuel : Nat) (cs : List Value) (y : DataW H × List MemPlace) (h : DataW.trod enc Try.prog w base spare held fuel 45 cs = some y) : ∃ t : Stp, cs = t.cells ∧ True := by
  obtain ⟨f0, f1, f2, hs, hone, k0, k1, k2⟩ := step_fields
  obtain ⟨xs, n, _, rfl, hl, hxl, hf⟩ := DataW.trod_struct hs h
  have hC : Try.prog.cellsOf 45 = 3 := by kernel_rfl
  rw [hC] at hl
  match cs, hl, xs, hxl, hf with
  | [c0, c1, c2], _, [x0, x1, x2], _, hf =>
    obtain ⟨a, e0, _, _⟩ := DataW.trod_int k0 (OpenG.field_at hone hf 0 f0 rfl (by simp) (by simp))
    obtain ⟨s, e1, g1, z1⟩ := DataW.trod_string k1 (OpenG.field_at hone hf 1 f1 rfl (by simp) (by simp))
    obtain ⟨b, e2, _, _⟩ := DataW.trod_int k2 (OpenG.field_at hone hf 2 f2 rfl (by simp) (by simp))
    simp at e0 e1 e2
    subst e0 e1 e2
    exact ⟨⟨a, s, b⟩, rfl, trivial⟩
set_option maxRecDepth 100000 in
theorem open_steps {r : Reach} {b0 : Nat} {v : Value} {d : DataW H} {ps : List MemPlace} (hv : Value.okWide Try.prog w r b0 38 v) (h : DataW.Trod enc Try.prog w base spare held 38 v d ps) :
    ∃ (A : Option Addr) (cap : Nat) (L : List Stp), v = .slice A L.length cap ∧ L.length ≤ maxLen ∧ (0 < L.length → ∃ b o, A = some ⟨b, o, none⟩ ∧ b < w.heap.size ∧ StepRow w b o L) := by
  obtain ⟨A, cap, L, rfl, h1, h2, h3, h4⟩ := OpenG.open_list 3 Stp.cells (fun _ _ => True) (by decide) (fun _ => rfl) Try.underlying38 (by kernel_rfl) dec_step hv h
  exact ⟨A, cap, L, rfl, Nat.le_trans h1 h2, h3⟩
end
end Go.Proofs.Ytabkaaapkcadhaa.OpenT
