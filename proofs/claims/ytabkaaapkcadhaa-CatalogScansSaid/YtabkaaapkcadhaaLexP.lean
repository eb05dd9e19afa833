/- Contract of NewScanner. -/
import Derived.Test.YtabkaaapkcadhaaLexN
import Derived.Test.YtabkaaapkcadhaaApp
namespace Go.Proofs.Ytabkaaapkcadhaa
open Go.ChangeShapes Go.WideShapes Go.ChangeAt Go.RowKit
section
variable {P : Program} (w : World)
/-- append of no elements onto nil -/
theorem run_append_none (t ty e : TypeId) (i : TypeInfo) (ht : P.underlying t = some (.slice e)) (hi : P.info? e = some i) (A : Option Addr) (c : Nat) :
    (Builtin.append_ #[t, t] ty #[.slice none 0 0, .slice A 0 c]).run P w = .ok (.slice none 0 0) w := by
  cases A with
  | none => simp [Builtin.append_, run_underlying ht, sizeOf, typeInfo, hi, Builtin.lenOf, Builtin.firstCells]
  | some a => simp [Builtin.append_, run_underlying ht, sizeOf, typeInfo, hi, Builtin.lenOf, Builtin.firstCells, loadCells, loadCellsFrom]
end
namespace Lex
theorem own_scan {w : World} {base : Nat} {te : TypeId} {v : Value} {L : List Tok} (h : w.ownsRow base te 4 v L.length (cellsOf L)) :
    ∃ A c, v = .slice A L.length c ∧ L.length ≤ c ∧ c ≤ maxLen ∧ (0 < L.length → ∃ b o cs, A = some ⟨b, o, none⟩ ∧ Blk w b te cs ∧ TokRow w b o L) := by
  have hs := Sl.of_own h
  rcases h.2 with ⟨rfl, h0⟩ | ⟨g, cap, cur, rfl, _, hh, hn, hc, _, _⟩
  · exact ⟨none, 0, by rw [h0], by omega, by unfold maxLen; omega, fun h => by omega⟩
  · refine ⟨_, cap, rfl, hn, hc, fun hp => ?_⟩
    obtain ⟨_, A, c, e, _, _, hr⟩ := hs
    obtain ⟨b, o, e2, _, hr2⟩ := hr hp
    injection e with e3
    subst e3
    injection e2 with e4
    injection e4 with e5 e6
    subst e5
    exact ⟨_, _, cur, rfl, hh, by rw [e6]; exact hr2⟩
theorem scan_new {w : World} {base : Nat} {ts te : TypeId} {v : Value} {L : List Tok} (h : w.ownsRow base te 4 v L.length (cellsOf L)) (e : Int) :
    Scan ts te (w.alloc (.cells #[v, .int .i64 e] ts)) w.heap.size L e := by
  obtain ⟨A, c, rfl, h1, h2, h3⟩ := own_scan h
  refine ⟨A, c, Blk.new _ _ _, h1, h2, fun hp => ?_⟩
  obtain ⟨b, o, cs, e1, e2, e3⟩ := h3 hp
  exact ⟨b, o, cs, e1, e2.alloc _, e3.keep e2 (e2.alloc _)⟩
def NewPost (L : List Tok) (w : World) (r : Ending) (w' : World) : Prop :=
  ∃ g, r = .returned (.pointer (some ⟨g, 0, none⟩)) ∧ w.heap.size ≤ g ∧ Scan 95 33 w' g L 0 ∧ Below w.heap.size w w'
set_option maxRecDepth 100000 in
theorem newScanner_any (L : List Tok) (v : Value) (w : World) (hL : L.length ≤ 5000) (h : Sl w 4 v L.length (cellsOf L)) :
    Calls Try.prog 23 #[v] w (NewPost L w) := by
  obtain ⟨i0, hi0, hz0, hz1, hz2⟩ := info_parts tok_info
  obtain ⟨A, c, rfl, hc, hm, hr⟩ := sl_cases h
  cases L with
  | nil =>
    have HA := Lib.hid fun w => run_append_none (P := Try.prog) w 23 23 33 i0 Try.underlying23 hi0 A c
    clear hr h hm hc
    go_enter Try.func23, Try.ntmps23
    go_wp2_with (at_builtin; refine wpList_append_run _ rfl (.const (.slice none 0 0)) (.tmp 3) _ _ rfl (.slice none 0 0) (.slice A 0 c) rfl rfl _ _ (HA.out _) ?_)
    go_ret
    exact ⟨_, rfl, Nat.le_refl _, scan_new (World.ownsRow_nil w w.heap.size _ _) 0, below_new _ _⟩
  | cons t L =>
    obtain ⟨b, o, rfl, hb, hrow⟩ := hr (by simp)
    have HM := Lib.hid hm
    have HC := Lib.hid hc
    have HR := Lib.hid hrow
    have HL := Lib.hid hL
    have h1 : ∀ u ∈ cellsOf (t :: L), u.oneCell' = true := by
      intro u hu
      obtain ⟨x, _, hx⟩ := List.mem_flatMap.1 hu
      exact one_cells4 rfl rfl rfl rfl u hx
    have H1 := Lib.hid h1
    have HN := Lib.hid (cellsOf_len (t :: L))
    clear hrow hm hc hL h1 h
    generalize ht : (t :: L : List Tok) = M at *
    clear ht t L
    go_enter Try.func23, Try.ntmps23
    go_wp2_with (at_builtin; refine wpList_append_own _ rfl (.const (.slice none 0 0)) (.tmp 3) _ rfl w.heap.size 33 i0 _ 4 40 Try.underlying23 hi0 hz0 hz1 hz2 rfl (by decide) (.slice none 0 0) 0 [] rfl (World.ownsRow_nil _ _ _ _) ⟨b, o, none⟩ M.length c (cellsOf M) rfl HN.out ?c1 H1.out ?c3 ?c4 (Nat.le_refl _) ?_)
    case c1 =>
      intro j u hj
      rw [OpenAdd.add_at]
      exact HR.out j u hj
    case c3 => have := HL.out; unfold maxLen; omega
    case c4 => have := HL.out; omega
    intro v' w1 hown hgr _
    have O1 := Lib.hid hown
    have B1 : Hid (Below w.heap.size w w1) := (Below.refl _ _).grown hgr (Nat.le_refl _) (by simp [Value.ownBlock])
    obtain ⟨A2, c2, rfl, _, _, _⟩ := own_scan hown
    clear hown hgr
    go_wp2_with fail
    go_ret
    exact ⟨_, rfl, B1.out.size, scan_new O1.out 0, B1.out.alloc B1.out.size _⟩
end Lex
end Go.Proofs.Ytabkaaapkcadhaa
