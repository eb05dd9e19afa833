/- Contract of the reference's Parse. Printed by gen_eve4.py. -/
import Derived.Test.YtaikmgnpfbnjjaaGreatDoorPu36
import Derived.Test.YtaikmgnpfbnjjaaGreatDoorPu37
namespace Go.Proofs.YtaikmgnpfbnjjaaGreatDoor.Ev
open Go.ChangeShapes Go.WideShapes Go.ChangeAt Go.RowKit Gn Cat Lex Ros Se
set_option linter.unusedVariables false
set_option linter.unusedSimpArgs false
theorem rparseE_any (S : SetD) (s : ByteArray) (v1 v2 v3 v4 : Value) (w : World) (h : SetW w v1 v2 v3 v4 S) (h5 : s.size ≤ 5000) : Calls Tryz.prog 22 #[.agg #[v1, v2, v3, v4], .string s] w (ParseP (parseV S s) w) := by
  by_cases hs : 4000 < s.size
  · exact rparse_long S s v1 v2 v3 v4 w hs
  have hk : kindOf (cutL s.data.toList).1 = 0 ∨ (kindOf (cutL s.data.toList).1 = 3 ∨ kindOf (cutL s.data.toList).1 = 4 ∨ kindOf (cutL s.data.toList).1 = 9) ∨ (kindOf (cutL s.data.toList).1 = 6 ∨ kindOf (cutL s.data.toList).1 = 7) ∨ kindOf (cutL s.data.toList).1 = 1 ∨ kindOf (cutL s.data.toList).1 = 2 ∨ kindOf (cutL s.data.toList).1 = 5 ∨ kindOf (cutL s.data.toList).1 = 8 ∨ kindOf (cutL s.data.toList).1 = 10 := by
    unfold kindOf
    repeat' split
    all_goals omega
  rcases hk with x | x | x | x | x | x | x | x
  · exact rparse_none S s v1 v2 v3 v4 w h hs _ rfl x
  · exact rparse_bare S s v1 v2 v3 v4 w h hs _ rfl x
  · exact rparse_out S s v1 v2 v3 v4 w h hs _ rfl x
  · exact rparse_sale S s v1 v2 v3 v4 w h hs _ rfl x
  · exact rparse_dem S s v1 v2 v3 v4 w h hs _ rfl x
  · exact rparse_bid S s v1 v2 v3 v4 w h hs _ rfl x
  · exact rparse_rer S s v1 v2 v3 v4 w h hs _ rfl x
  · exact rparse_dec S s v1 v2 v3 v4 w h hs _ rfl x
end Go.Proofs.YtaikmgnpfbnjjaaGreatDoor.Ev
