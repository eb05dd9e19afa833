/- Plain: the examples of the chapter. -/
import Derived.Test.YtaikmgnpfbnjjaaGreatDoorPu21
namespace Go.Proofs.YtaikmgnpfbnjjaaGreatDoor.Ev
open Go.ChangeShapes Go.WideShapes Go.ChangeAt Go.RowKit Gn Cat Lex Ros Se
set_option linter.unusedVariables false
set_option linter.unusedSimpArgs false
def pA : Nat → Int := fun i => if i = 0 then 1 else 0
def saleS : SetD := ⟨[⟨⟨#[97]⟩, 2, 0, 0, 0⟩], [⟨⟨#[120]⟩, 0, 0, 0⟩], [], []⟩
abbrev exD : Evt := ⟨2, 1, 0, pA, ⟨#[]⟩, 0⟩
abbrev exW : ByteArray := ⟨#[2, 1, 1, 0, 0, 0, 0, 0]⟩
abbrev exText : ByteArray := ⟨#[112, 114, 111, 100, 117, 99, 116, 32, 97, 32, 49, 32, 48, 32, 49, 32, 48, 10, 98, 105, 100, 100, 101, 114, 32, 120, 32, 48, 32, 48, 32, 49, 10]⟩
abbrev exLine : ByteArray := ⟨#[115, 97, 108, 101, 32, 112, 114, 111, 100, 117, 99, 116, 32, 97, 32, 49, 32, 48, 32, 49, 32, 48, 59, 98, 105, 100, 100, 101, 114, 32, 120, 32, 48, 32, 48, 32, 49]⟩
theorem ex_enc : encodeV exD = (exW, 0) := by
  have h1 : checkV exD = 0 := by decide +kernel
  have h2 : codeB exD = exW := by decide +kernel
  unfold encodeV
  rw [h1, h2, if_neg (by simp)]
theorem ex_fmt : formatV SetD.none ⟨1, 0, 0, zero6, exText, 0⟩ = exLine := by decide +kernel
theorem ex_name : nameK 2 = ⟨#[100, 101, 109, 97, 110, 100]⟩ ∧ nameK 11 = ⟨#[]⟩ := by decide +kernel
theorem ex_check : checkV ⟨3, 0, 1, zero6, ⟨#[]⟩, 0⟩ = 2 := by decide +kernel
end Go.Proofs.YtaikmgnpfbnjjaaGreatDoor.Ev
