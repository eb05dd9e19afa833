/- Contract of one. -/
import Derived.Test.YtabkaaapkcadhaaLex5
import Derived.Laws.Rows
namespace Go.Proofs.Ytabkaaapkcadhaa
open Go.ChangeShapes Go.WideShapes Go.ChangeAt Go.RowKit
namespace Lex
theorem results_cell_row_tmp {P : Program} {fn : Func} {p u : Tmp} {ty : TypeId} (h : fn.results = #[.cell p ty, .tmp u]) (tmps : Array Value) (w : World) (g : Nat) (t : TypeId) (cs : Array Value) (fr : Nat × Nat) (d : TypeDesc)
    (hp : tmps.getD p undef = .pointer (some ⟨g, 0, none⟩)) (hg : w.heap[g]? = some (.cells cs t fr))
    (hu : P.underlying ty = some d) (hd : (match d with | .struct _ | .array _ _ => true | _ => false) = true) (hi : (P.info? ty).map (·.size) = some cs.size) {x : Value} (hx : tmps.getD u undef = x) :
    (results fn tmps).run P w = .ok (.tuple #[.agg cs, x]) w := by
  subst hx
  have hp' : tmps[p]?.getD undef = .pointer (some ⟨g, 0, none⟩) := by simpa using hp
  simp [results, h, hp', asAddr, run_loadVar_row w g t ty cs fr d hg hu hd hi]
theorem heap_two (w : World) (o o' : Obj) : ((w.alloc o).alloc o').heap[w.heap.size]? = some o := by
  show ((w.heap.push o).push o')[w.heap.size]? = some o
  rw [Array.getElem?_push]
  simp
theorem one_word (s : ByteArray) (a : Nat) (w : World) (hs : s.size ≤ 5000) (ha : a < s.size) (hl : isLet s[a] = true) (h12 : runLen isInn s a ≤ 12) :
    Calls Try.prog 61 #[.string s, .int .i64 (a : Int)] w fun e w' => e = .returned (.tuple #[.agg #[.int .i64 1, .string (s.extract a (a + runLen isInn s a)), .int .i64 0, .int .i64 (a : Int)], .int .i64 0]) ∧ Below w.heap.size w w' := by
  have hb := s[a].toNat_lt
  have CL := Lib.hid (letter_any s[a])
  have WB := Lib.hid (wrap32_byte s[a])
  have CR := Lib.hid (fun w => run_inner s a w (by unfold maxLen; omega) (by omega))
  have hz : (s.extract a (a + runLen isInn s a)).size = runLen isInn s a := by
    have := runLen_le isInn s a (by omega)
    simp; omega
  generalize s.extract a (a + runLen isInn s a) = t at *
  have hd : decide ((12 : Int) < (t.size : Int)) = false := by simp; omega
  go_enter Try.func61, Try.ntmps61
  go_wp2_with (first | (go_at_call 63; (try rw [WB.out]); refine (CL.out _).mono ?_; rintro e w' ⟨rfl, rfl⟩; rw [hl]) | (go_at_call 64; refine (CR.out _).mono ?_; rintro e w' ⟨rfl, rfl⟩))
  refine bodyPost_ret (v := .tuple #[.agg #[.int .i64 1, .string t, .int .i64 0, .int .i64 (a : Int)], .int .i64 0]) (results_cell_row_tmp (p := 4) (u := 5) rfl _ _ w.heap.size 33 _ (0, 0) _ rfl (heap_two w _ _) Try.underlying33 rfl (by kernel_rfl) rfl) rfl ⟨rfl, ?_⟩
  go_grown

theorem one_long (s : ByteArray) (a : Nat) (w : World) (hs : s.size ≤ 5000) (ha : a < s.size) (hl : isLet s[a] = true) (h12 : 12 < runLen isInn s a) :
    Calls Try.prog 61 #[.string s, .int .i64 (a : Int)] w fun e w' => e = .returned (.tuple #[.agg #[.int .i64 0, .string ⟨#[]⟩, .int .i64 0, .int .i64 0], .int .i64 3]) ∧ Below w.heap.size w w' := by
  have hb := s[a].toNat_lt
  have CL := Lib.hid (letter_any s[a])
  have WB := Lib.hid (wrap32_byte s[a])
  have CR := Lib.hid (fun w => run_inner s a w (by unfold maxLen; omega) (by omega))
  have hz : (s.extract a (a + runLen isInn s a)).size = runLen isInn s a := by
    have := runLen_le isInn s a (by omega)
    simp; omega
  generalize s.extract a (a + runLen isInn s a) = t at *
  have hd : decide ((12 : Int) < (t.size : Int)) = true := by simp; omega
  go_enter Try.func61, Try.ntmps61
  go_wp2_with (first | (go_at_call 63; (try rw [WB.out]); refine (CL.out _).mono ?_; rintro e w' ⟨rfl, rfl⟩; rw [hl]) | (go_at_call 64; refine (CR.out _).mono ?_; rintro e w' ⟨rfl, rfl⟩))
  refine bodyPost_ret (v := .tuple #[.agg #[.int .i64 0, .string ⟨#[]⟩, .int .i64 0, .int .i64 0], .int .i64 3]) (results_cell_row_tmp (p := 4) (u := 5) rfl _ _ w.heap.size 33 _ (0, 0) _ rfl (heap_two w _ _) Try.underlying33 rfl (by kernel_rfl) rfl) rfl ⟨rfl, ?_⟩
  go_grown
end Lex
end Go.Proofs.Ytabkaaapkcadhaa
