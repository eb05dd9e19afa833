/- The chapter's example: values, small, contracts. Printed by gen_seA.py. -/
import Derived.Test.YtjjlhihocllgjaaDoorSe9
import Derived.Test.YtjjlhihocllgjaaDoorSe5
import Derived.Test.YtjjlhihocllgjaaDoorPd03
import Derived.Deep.RegionHeld3
import Derived.Deep.DrawnRows
namespace Go.Proofs.YtjjlhihocllgjaaDoor.Se
open Go.ChangeShapes Go.WideShapes Go.ChangeAt Go.RowKit Gn Cat Lex Ros
set_option linter.unusedVariables false
set_option linter.unusedSimpArgs false
def exS : SetD := ⟨[⟨⟨#[97]⟩, 2, 3, 1, 0⟩], [⟨⟨#[120]⟩, 0, 0, 2⟩, ⟨⟨#[121]⟩, 1, 0, 2⟩], [], [⟨0, 1, 1⟩]⟩
def n6 (a : Int) : Nat → Int := fun i => if i = 0 then a else 0
abbrev a6 (a : Int) : Array Value := #[.int .i64 a, .int .i64 0, .int .i64 0, .int .i64 0, .int .i64 0, .int .i64 0]
theorem arr_n6 (a : Int) : arr (n6 a) = a6 a := rfl
theorem ex_err : exS.err = 0 := by decide +kernel
theorem ex_txt : fmtT exS = ⟨#[112, 114, 111, 100, 117, 99, 116, 32, 97, 32, 50, 32, 51, 32, 49, 32, 48, 10, 98, 105, 100, 100, 101, 114, 32, 120, 32, 48, 32, 48, 32, 50, 10, 98, 105, 100, 100, 101, 114, 32, 121, 32, 49, 32, 48, 32, 50, 10, 97, 115, 105, 100, 101, 32, 97, 32, 49, 32, 49, 10]⟩ := by decide +kernel
theorem ex_p1 : (readS ⟨#[105, 116, 101, 109, 32, 97, 32, 49, 32, 48, 32, 48, 32, 48]⟩).n = 1 ∧ (readS ⟨#[105, 116, 101, 109, 32, 97, 32, 49, 32, 48, 32, 48, 32, 48]⟩).e = 22 := by decide +kernel
theorem ex_p2 : (readS ⟨#[99, 97, 112, 32, 120, 32, 48, 32, 49]⟩).n = 1 ∧ (readS ⟨#[99, 97, 112, 32, 120, 32, 48, 32, 49]⟩).e = 6 := by decide +kernel
theorem ex_open : openS exS 0 = 1 ∧ openS exS 1 = 0 ∧ openS exS 2 = 0 ∧ openS exS 3 = 0 ∧ openS exS 4 = 0 ∧ openS exS 5 = 0 := by decide +kernel
theorem ex_cls : clsS exS 0 = 1 ∧ clsS exS 1 = 0 ∧ clsS exS 2 = 0 ∧ clsS exS 3 = 0 ∧ clsS exS 4 = 0 ∧ clsS exS 5 = 0 := by decide +kernel
theorem ex_al0 : allowedE exS 0 (n6 2) = 14 := by decide +kernel
theorem ex_al1 : allowedE exS 1 (n6 2) = 0 := by decide +kernel
theorem ex_fe : feasE exS [n6 1, n6 1] = 0 := by decide +kernel
theorem ex_re : restS exS [n6 1, n6 0] 0 = 1 ∧ restS exS [n6 1, n6 0] 1 = 0 ∧ restS exS [n6 1, n6 0] 2 = 0 ∧ restS exS [n6 1, n6 0] 3 = 0 ∧ restS exS [n6 1, n6 0] 4 = 0 ∧ restS exS [n6 1, n6 0] 5 = 0 := by decide +kernel
theorem arr_of6 {p : Nat → Int} {a : Int} (h : p 0 = a ∧ p 1 = 0 ∧ p 2 = 0 ∧ p 3 = 0 ∧ p 4 = 0 ∧ p 5 = 0) : arr p = a6 a := by
  obtain ⟨rfl, h1, h2, h3, h4, h5⟩ := h
  show #[_, _, _, _, _, _] = #[_, _, _, _, _, _]
  rw [h1, h2, h3, h4, h5]
abbrev exV (b1 b2 b3 : Nat) : Array Value := #[.slice (some ⟨b1, 0, none⟩) 1 1, .slice (some ⟨b2, 0, none⟩) 2 2, .slice none 0 0, .slice (some ⟨b3, 0, none⟩) 1 1]
abbrev ExW (w : World) (b1 b2 b3 : Nat) : Prop := SetW w (.slice (some ⟨b1, 0, none⟩) 1 1) (.slice (some ⟨b2, 0, none⟩) 2 2) (.slice none 0 0) (.slice (some ⟨b3, 0, none⟩) 1 1) exS
theorem sl_blk {w : World} {g : Nat} {t : TypeId} {n st : Nat} {xs : List Value} (h : Blk w g t xs.toArray) (hn : xs.length = n * st) (hm : n ≤ maxLen) : Sl w st (.slice (some ⟨g, 0, none⟩) n n) n xs := by
  refine ⟨hn, _, _, rfl, Nat.le_refl _, hm, fun _ => ⟨g, 0, rfl, h.lt, fun j u hu => ?_⟩⟩
  rw [Nat.zero_add, h.cell j]
  simpa using hu
theorem ex_of {w : World} {b1 b2 b3 : Nat} (h1 : Blk w b1 77 #[.string ⟨#[97]⟩, .int .i64 2, .int .i64 3, .int .i64 1, .int .i64 0]) (h2 : Blk w b2 116 #[.string ⟨#[120]⟩, .int .i64 0, .int .i64 0, .int .i64 2, .string ⟨#[121]⟩, .int .i64 1, .int .i64 0, .int .i64 2]) (h3 : Blk w b3 114 #[.int .i64 0, .int .i64 1, .int .i64 1]) : ExW w b1 b2 b3 :=
  ⟨sl_blk h1 rfl (by decide), sl_blk h2 rfl (by decide), Sl.nil w 3, sl_blk h3 rfl (by decide), by decide, by decide, by decide, by decide, (fun p hp => by unfold maxLen; simp [exS] at hp; subst hp; decide), fun p hp => by unfold maxLen; simp [exS] at hp; rcases hp with rfl | rfl <;> decide⟩
abbrev SmallPost (w : World) : Ending → World → Prop := fun e w' => ∃ b1 b2 b3, e = .returned (.agg (exV b1 b2 b3)) ∧ Below w.heap.size w w' ∧ ExW w' b1 b2 b3
theorem e_format (w : World) (b1 b2 b3 : Nat) (h : ExW w b1 b2 b3) (ht : Env w) : Calls Tryd.prog 39 #[.agg (exV b1 b2 b3)] w fun e w' => e = .returned (.tuple #[.string ⟨#[112, 114, 111, 100, 117, 99, 116, 32, 97, 32, 50, 32, 51, 32, 49, 32, 48, 10, 98, 105, 100, 100, 101, 114, 32, 120, 32, 48, 32, 48, 32, 50, 10, 98, 105, 100, 100, 101, 114, 32, 121, 32, 49, 32, 48, 32, 50, 10, 97, 115, 105, 100, 101, 32, 97, 32, 49, 32, 49, 10]⟩, .int .i64 0]) ∧ Below w.heap.size w w' := by
  have h2 := format_any exS _ _ _ _ w h ht
  unfold FmtPost at h2
  rw [ex_txt, ex_err] at h2
  exact h2
theorem e_parse1 (w : World) (ht : Env w) : Calls Tryd.prog 40 #[.string ⟨#[105, 116, 101, 109, 32, 97, 32, 49, 32, 48, 32, 48, 32, 48]⟩] w fun e w' => (∃ A1 n1 c1 A2 n2 c2 A3 n3 c3 A4 n4 c4, e = .returned (.tuple #[.agg #[.slice A1 n1 c1, .slice A2 n2 c2, .slice A3 n3 c3, .slice A4 n4 c4], .int .i64 1, .int .i64 22])) ∧ Below w.heap.size w w' := by
  refine (parse_any _ w (by decide) ht).mono ?_
  rintro e w' ⟨v1, v2, v3, v4, rfl, q, h⟩
  obtain ⟨A1, c1, A2, c2, A3, c3, A4, c4, rfl, rfl, rfl, rfl⟩ := q.forms
  rw [ex_p1.1, ex_p1.2]
  exact ⟨⟨_, _, _, _, _, _, _, _, _, _, _, _, rfl⟩, h⟩
theorem e_parse2 (w : World) (ht : Env w) : Calls Tryd.prog 40 #[.string ⟨#[99, 97, 112, 32, 120, 32, 48, 32, 49]⟩] w fun e w' => (∃ A1 n1 c1 A2 n2 c2 A3 n3 c3 A4 n4 c4, e = .returned (.tuple #[.agg #[.slice A1 n1 c1, .slice A2 n2 c2, .slice A3 n3 c3, .slice A4 n4 c4], .int .i64 1, .int .i64 6])) ∧ Below w.heap.size w w' := by
  refine (parse_any _ w (by decide) ht).mono ?_
  rintro e w' ⟨v1, v2, v3, v4, rfl, q, h⟩
  obtain ⟨A1, c1, A2, c2, A3, c3, A4, c4, rfl, rfl, rfl, rfl⟩ := q.forms
  rw [ex_p2.1, ex_p2.2]
  exact ⟨⟨_, _, _, _, _, _, _, _, _, _, _, _, rfl⟩, h⟩
theorem e_open (w : World) (b1 b2 b3 : Nat) (h : ExW w b1 b2 b3) : Calls Tryd.prog 41 #[.agg (exV b1 b2 b3)] w fun e w' => e = .returned (.tuple #[.agg (a6 1), .agg (a6 1)]) ∧ Below w.heap.size w w' := by
  have h2 := open_any exS _ _ _ _ w h
  unfold TwoPost at h2
  rw [arr_of6 ex_open, arr_of6 ex_cls] at h2
  exact h2
theorem e_allowed0 (w : World) (b1 b2 b3 : Nat) (h : ExW w b1 b2 b3) : Calls Tryd.prog 42 #[.agg (exV b1 b2 b3), .int .i64 0, .agg (a6 2)] w fun e w' => e = .returned (.int .i64 14) ∧ Below w.heap.size w w' := by
  have h2 := allowed_any exS _ _ _ _ 0 (n6 2) w h
  rw [ex_al0, arr_n6] at h2
  exact h2
theorem e_allowed1 (w : World) (b1 b2 b3 : Nat) (h : ExW w b1 b2 b3) : Calls Tryd.prog 42 #[.agg (exV b1 b2 b3), .int .i64 1, .agg (a6 2)] w fun e w' => e = .returned (.int .i64 0) ∧ Below w.heap.size w w' := by
  have h2 := allowed_any exS _ _ _ _ 1 (n6 2) w h
  rw [ex_al1, arr_n6] at h2
  exact h2
theorem bun_blk {w : World} {g : Nat} {t : TypeId} {x y : Int} (h : Blk w g t #[.int .i64 x, .int .i64 0, .int .i64 0, .int .i64 0, .int .i64 0, .int .i64 0, .int .i64 y, .int .i64 0, .int .i64 0, .int .i64 0, .int .i64 0, .int .i64 0]) : BunS w (.slice (some ⟨g, 0, none⟩) 2 2) [n6 x, n6 y] := sl_blk h rfl (by decide)
theorem e_feas (w : World) (b1 b2 b3 g : Nat) (h : ExW w b1 b2 b3) (hb : BunS w (.slice (some ⟨g, 0, none⟩) 2 2) [n6 1, n6 1]) : Calls Tryd.prog 17 #[.agg (exV b1 b2 b3), .slice (some ⟨g, 0, none⟩) 2 2] w fun e w' => e = .returned (.int .i64 0) ∧ Below w.heap.size w w' := by
  have h2 := feas_any exS [n6 1, n6 1] _ _ _ _ _ w h hb (by decide)
  rw [ex_fe] at h2
  exact h2
theorem e_rest (w : World) (b1 b2 b3 g : Nat) (h : ExW w b1 b2 b3) (hb : BunS w (.slice (some ⟨g, 0, none⟩) 2 2) [n6 1, n6 0]) : Calls Tryd.prog 43 #[.agg (exV b1 b2 b3), .slice (some ⟨g, 0, none⟩) 2 2] w fun e w' => e = .returned (.agg (a6 1)) ∧ Below w.heap.size w w' := by
  have h2 := rest_any exS [n6 1, n6 0] _ _ _ _ _ w h hb (by decide)
  rw [arr_of6 ex_re] at h2
  exact h2
def exO : Obj := .cells #[.string ⟨#[97]⟩, .int .i64 2, .int .i64 3, .int .i64 1, .int .i64 0] 77
def exB : Obj := .cells #[.string ⟨#[120]⟩, .int .i64 0, .int .i64 0, .int .i64 2, .string ⟨#[121]⟩, .int .i64 1, .int .i64 0, .int .i64 2] 116
def exA : Obj := .cells #[.int .i64 0, .int .i64 1, .int .i64 1] 114
theorem ex_world (w : World) (o : Obj) : ExW ((((w.alloc o).alloc exO).alloc exB).alloc exA) (w.heap.size + 1) (w.heap.size + 1 + 1) (w.heap.size + 1 + 1 + 1) := by
  have k1 := Blk.new (w.alloc o) 77 #[.string ⟨#[97]⟩, .int .i64 2, .int .i64 3, .int .i64 1, .int .i64 0]
  have k2 := Blk.new ((w.alloc o).alloc exO) 116 #[.string ⟨#[120]⟩, .int .i64 0, .int .i64 0, .int .i64 2, .string ⟨#[121]⟩, .int .i64 1, .int .i64 0, .int .i64 2]
  have k3 := Blk.new (((w.alloc o).alloc exO).alloc exB) 114 #[.int .i64 0, .int .i64 1, .int .i64 1]
  rw [World.size_alloc] at k1
  rw [World.size_alloc, World.size_alloc] at k2
  rw [World.size_alloc, World.size_alloc, World.size_alloc] at k3
  exact ex_of ((k1.alloc exB).alloc exA) (k2.alloc exA) k3
set_option maxHeartbeats 2000000 in
set_option maxRecDepth 100000 in
theorem small_any (w : World) : Calls Tryd.prog 38 #[] w (SmallPost w) := by
  go_enter Tryd.func38, Tryd.ntmps38
  go_wp2_with fail
  exact bodyPost_ret (v := .agg (exV (w.heap.size + 1) (w.heap.size + 1 + 1) (w.heap.size + 1 + 1 + 1))) (results_blk rfl rfl (((Blk.new w 43 (exV (w.heap.size + 1) (w.heap.size + 1 + 1) (w.heap.size + 1 + 1 + 1))).alloc exO).alloc exB |>.alloc exA) Tryd.underlying43 rfl (by kernel_rfl)) rfl ⟨_, _, _, rfl, (((below_new w _).alloc (by rw [World.size_alloc]; omega) exO).alloc (by rw [World.size_alloc, World.size_alloc]; omega) exB).alloc (by rw [World.size_alloc, World.size_alloc, World.size_alloc]; omega) exA, ex_world w _⟩

end Go.Proofs.YtjjlhihocllgjaaDoor.Se
