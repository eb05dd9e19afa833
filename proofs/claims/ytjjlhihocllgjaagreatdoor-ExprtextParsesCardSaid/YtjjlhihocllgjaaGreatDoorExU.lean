/- The examples of the chapter hold. Printed by gen_exU.py. -/
import Derived.Test.YtjjlhihocllgjaaGreatDoorExS
import Derived.Test.YtjjlhihocllgjaaGreatDoorExM
import Derived.Test.YtjjlhihocllgjaaGreatDoorEx7
import Derived.Deep.RegionHeld3
import Derived.Deep.DrawnRows
namespace Go.Proofs.YtjjlhihocllgjaaGreatDoor.Ex
open Go.ChangeShapes Go.WideShapes Go.ChangeAt Go.RowKit Gn Cat Lex
set_option linter.unusedVariables false
set_option linter.unusedSimpArgs false
abbrev sv (b : Nat) : Value := .slice (some ⟨b, 0, none⟩) 2 2
theorem sale_pl {w : World} {b : Nat} (h : Blk w b 82 #[.string ⟨#[97]⟩, .int .i64 2, .int .i64 0, .int .i64 0, .int .i64 0, .string ⟨#[98]⟩, .int .i64 2, .int .i64 0, .int .i64 0, .int .i64 0]) : PL w (sv b) sale2 := by
  refine ⟨?_, by decide, fun p hp => ?_⟩
  · refine ⟨rfl, _, _, rfl, by decide, by decide, fun _ => ⟨b, 0, rfl, h.lt, fun j u hu => ?_⟩⟩
    rw [Nat.zero_add, h.cell j]
    simpa [prodCells, sale2] using hu
  · unfold maxLen
    simp [sale2] at hp
    rcases hp with rfl | rfl <;> decide
set_option maxRecDepth 100000 in
theorem sale_any (w : World) : Calls Tryz.prog 32 #[] w fun r w' => ∃ b, r = .returned (sv b) ∧ PL w' (sv b) sale2 ∧ Below w.heap.size w w' := by
  have K := Lib.hid (Blk.new w 82 #[.string ⟨#[97]⟩, .int .i64 2, .int .i64 0, .int .i64 0, .int .i64 0, .string ⟨#[98]⟩, .int .i64 2, .int .i64 0, .int .i64 0, .int .i64 0])
  have B := Lib.hid (below_new w (.cells #[.string ⟨#[97]⟩, .int .i64 2, .int .i64 0, .int .i64 0, .int .i64 0, .string ⟨#[98]⟩, .int .i64 2, .int .i64 0, .int .i64 0, .int .i64 0] 82))
  go_enter Tryz.func32, Tryz.ntmps32
  go_wp2_with fail
  go_ret
  exact ⟨_, rfl, sale_pl K.out, B.out⟩
theorem ex_in {w : World} {a : Nat} (h : Blk w a 28 #[.int .i64 1, .int .i64 1, .int .i64 0, .int .i64 0, .int .i64 0, .int .i64 0, .int .i64 0, .int .i64 5, .slice none 0 0, .int .i64 1, .int .i64 0, .int .i64 1, .int .i64 0, .int .i64 0, .int .i64 0, .int .i64 0, .int .i64 7, .slice none 0 0]) : In 2 w.heap.size w (exT (some ⟨a, 0, none⟩)) := by
  refine ⟨Nat.le_refl 2, (show 2 ≤ maxLen by decide), fun _ => ⟨a, 0, rfl, h.lt, fun j u hu => ?_⟩, fun x hx => ?_⟩
  · rw [Nat.zero_add, h.cell j]
    have e : ((exT (some ⟨a, 0, none⟩)).args.flatMap Tree.cells) = [.int .i64 1, .int .i64 1, .int .i64 0, .int .i64 0, .int .i64 0, .int .i64 0, .int .i64 0, .int .i64 5, .slice none 0 0, .int .i64 1, .int .i64 0, .int .i64 1, .int .i64 0, .int .i64 0, .int .i64 0, .int .i64 0, .int .i64 7, .slice none 0 0] := rfl
    rw [e] at hu
    simpa using hu
  · simp only [Tree.args, List.mem_cons, List.not_mem_nil, or_false] at hx
    rcases hx with rfl | rfl
    · exact ⟨Nat.le_refl _, Nat.zero_le _, fun h => absurd h (by simp), fun x hx => by cases hx⟩
    · exact ⟨Nat.le_refl _, Nat.zero_le _, fun h => absurd h (by simp), fun x hx => by cases hx⟩
theorem e_format (b a : Nat) (w : World) (h : PL w (sv b) sale2) (ht : Tab w) (hi : In 2 w.heap.size w (exT (some ⟨a, 0, none⟩))) : Calls Tryz.prog 31 #[sv b, .agg #[.int .i64 2, .int .i64 0, .int .i64 0, .int .i64 0, .int .i64 0, .int .i64 0, .int .i64 0, .int .i64 0, .slice (some ⟨a, 0, none⟩) 2 2]] w fun r w' => r = .returned (.tuple #[.string ⟨#[120, 111, 114, 40, 123, 97, 58, 49, 125, 64, 53, 44, 123, 98, 58, 49, 125, 64, 55, 41]⟩, .int .i64 0]) ∧ Below w.heap.size w w' := by
  have h2 := format_any sale2 (sv b) 2 (exT (some ⟨a, 0, none⟩)) w.heap.size w h ht hi (Nat.le_refl _) (show 3 ≤ 5000 by decide)
  rw [ex_fmt] at h2
  exact h2
theorem e_parse1 (b : Nat) (w : World) (h : PL w (sv b) sale2) : Calls Tryz.prog 11 #[sv b, .string ⟨#[120, 111, 114, 40, 32, 123, 97, 58, 49, 125, 32, 64, 32, 53, 32, 44, 32, 123, 98, 58, 49, 125, 32, 64, 32, 55, 32, 41]⟩] w fun r w' => ∃ (t : Tree) (d : Nat), r = .returned (.tuple #[t.val, .int .i64 0]) ∧ Below w.heap.size w w' ∧ In d w'.heap.size w' t ∧ xF d t = xF 2 (exT none) := by
  refine (parse_any sale2 (sv b) ⟨#[120, 111, 114, 40, 32, 123, 97, 58, 49, 125, 32, 64, 32, 53, 32, 44, 32, 123, 98, 58, 49, 125, 32, 64, 32, 55, 32, 41]⟩ w h (by decide)).mono ?_
  rintro r w' ⟨t, e, d, rfl, hb, hi, _, _, hx⟩
  have hp := ex_parse1
  rcases hx with ⟨h1, _⟩ | ⟨_, t0, d0, hd, h2, h3, h4⟩
  · rw [hp] at h1; exact absurd rfl h1
  · rw [hp] at h2
    have hc : checkX d0 t0 = 0 := (check_congr hd (ex_deep none) h2).trans ex_check
    rw [hc] at h3
    subst h3
    rcases h4 with ⟨_, h4⟩ | ⟨h4, _⟩
    · rw [hp] at h4
      exact ⟨t, d, rfl, hb, hi.to_in, h4⟩
    · exact absurd rfl h4
theorem e_parse2 (b : Nat) (w : World) (h : PL w (sv b) sale2) : Calls Tryz.prog 11 #[sv b, .string ⟨#[123, 99, 58, 49, 125, 64, 53]⟩] w fun r w' => ∃ (t : Tree), r = .returned (.tuple #[t.val, .int .i64 6]) ∧ Below w.heap.size w w' := by
  refine (parse_any sale2 (sv b) ⟨#[123, 99, 58, 49, 125, 64, 53]⟩ w h (by decide)).mono ?_
  rintro r w' ⟨t, e, d, rfl, hb, hi, _, _, hx⟩
  have hp := ex_parse2
  rcases hx with ⟨_, h2, _⟩ | ⟨h1, _⟩
  · rw [hp] at h2
    subst h2
    exact ⟨t, rfl, hb⟩
  · rw [hp] at h1; cases h1
theorem e_parse3 (b : Nat) (w : World) (h : PL w (sv b) sale2) : Calls Tryz.prog 11 #[sv b, .string ⟨#[123, 97, 58, 49, 125, 64, 48]⟩] w fun r w' => ∃ (t : Tree), r = .returned (.tuple #[t.val, .int .i64 4]) ∧ Below w.heap.size w w' := by
  refine (parse_any sale2 (sv b) ⟨#[123, 97, 58, 49, 125, 64, 48]⟩ w h (by decide)).mono ?_
  rintro r w' ⟨t, e, d, rfl, hb, hi, _, _, hx⟩
  have hp := ex_parse3
  rcases hx with ⟨h1, _⟩ | ⟨_, t0, d0, hd, h2, h3, h4⟩
  · rw [hp] at h1; exact absurd rfl h1
  · rw [hp] at h2
    have hc : checkX d0 t0 = 4 := (check_congr hd (show Deep 1 (.mk 1 pA 0 none 0 []) from fun x hx => by cases hx) h2).trans ex_check3
    rw [hc] at h3
    subst h3
    exact ⟨t, rfl, hb⟩
theorem ex_cells {w : World} {y a : Nat} (h : Blk w y 28 #[.int .i64 2, .int .i64 0, .int .i64 0, .int .i64 0, .int .i64 0, .int .i64 0, .int .i64 0, .int .i64 0, .slice (some ⟨a, 0, none⟩) 2 2]) : w.cell? ⟨y, 0, none⟩ = some (.int .i64 2) ∧ w.cell? ⟨y, 1, none⟩ = some (.int .i64 0) ∧ w.cell? ⟨y, 2, none⟩ = some (.int .i64 0) ∧ w.cell? ⟨y, 3, none⟩ = some (.int .i64 0) ∧ w.cell? ⟨y, 4, none⟩ = some (.int .i64 0) ∧ w.cell? ⟨y, 5, none⟩ = some (.int .i64 0) ∧ w.cell? ⟨y, 6, none⟩ = some (.int .i64 0) ∧ w.cell? ⟨y, 7, none⟩ = some (.int .i64 0) ∧ w.cell? ⟨y, 8, none⟩ = some (.slice (some ⟨a, 0, none⟩) 2 2) :=
  ⟨h.cell 0, h.cell 1, h.cell 2, h.cell 3, h.cell 4, h.cell 5, h.cell 6, h.cell 7, h.cell 8⟩
set_option maxHeartbeats 8000000 in
set_option maxRecDepth 100000 in
theorem lives_any (w : World) (ht : Tab w) : Calls Tryz.prog 10 #[] w (TrueP w) := by
  have HT := Lib.hid (fun W (b : Below w.heap.size w W) => ht.keep b)
  have KA := Lib.hid ((Blk.new w 28 #[.int .i64 1, .int .i64 1, .int .i64 0, .int .i64 0, .int .i64 0, .int .i64 0, .int .i64 0, .int .i64 5, .slice none 0 0, .int .i64 1, .int .i64 0, .int .i64 1, .int .i64 0, .int .i64 0, .int .i64 0, .int .i64 0, .int .i64 7, .slice none 0 0]).alloc (.cells #[.int .i64 2, .int .i64 0, .int .i64 0, .int .i64 0, .int .i64 0, .int .i64 0, .int .i64 0, .int .i64 0, .slice (some ⟨w.heap.size, 0, none⟩) 2 2] 28))
  have KE := Lib.hid (Blk.new (w.alloc (.cells #[.int .i64 1, .int .i64 1, .int .i64 0, .int .i64 0, .int .i64 0, .int .i64 0, .int .i64 0, .int .i64 5, .slice none 0 0, .int .i64 1, .int .i64 0, .int .i64 1, .int .i64 0, .int .i64 0, .int .i64 0, .int .i64 0, .int .i64 7, .slice none 0 0] 28)) 28 #[.int .i64 2, .int .i64 0, .int .i64 0, .int .i64 0, .int .i64 0, .int .i64 0, .int .i64 0, .int .i64 0, .slice (some ⟨w.heap.size, 0, none⟩) 2 2])
  have B1 := Lib.hid ((below_new w (.cells #[.int .i64 1, .int .i64 1, .int .i64 0, .int .i64 0, .int .i64 0, .int .i64 0, .int .i64 0, .int .i64 5, .slice none 0 0, .int .i64 1, .int .i64 0, .int .i64 1, .int .i64 0, .int .i64 0, .int .i64 0, .int .i64 0, .int .i64 7, .slice none 0 0] 28)).alloc (below_new w (.cells #[.int .i64 1, .int .i64 1, .int .i64 0, .int .i64 0, .int .i64 0, .int .i64 0, .int .i64 0, .int .i64 5, .slice none 0 0, .int .i64 1, .int .i64 0, .int .i64 1, .int .i64 0, .int .i64 0, .int .i64 0, .int .i64 0, .int .i64 7, .slice none 0 0] 28)).size (.cells #[.int .i64 2, .int .i64 0, .int .i64 0, .int .i64 0, .int .i64 0, .int .i64 0, .int .i64 0, .int .i64 0, .slice (some ⟨w.heap.size, 0, none⟩) 2 2] 28))
  rw [World.size_alloc] at KE
  go_enter Tryz.func10, Tryz.ntmps10
  go_upto_region 2 with fail
  generalize (w.alloc (.cells #[.int .i64 1, .int .i64 1, .int .i64 0, .int .i64 0, .int .i64 0, .int .i64 0, .int .i64 0, .int .i64 5, .slice none 0 0, .int .i64 1, .int .i64 0, .int .i64 1, .int .i64 0, .int .i64 0, .int .i64 0, .int .i64 0, .int .i64 7, .slice none 0 0] 28)).alloc (.cells #[.int .i64 2, .int .i64 0, .int .i64 0, .int .i64 0, .int .i64 0, .int .i64 0, .int .i64 0, .int .i64 0, .slice (some ⟨w.heap.size, 0, none⟩) 2 2] 28) = w1 at *
  generalize w.heap.size + 1 = y at *
  have KI := Lib.hid (ex_in KA.out)
  have KED := Lib.hid KE.out.drew
  have KID := Lib.hid (KI.out.keep ((Below.refl _ _).drew))
  have BD := Lib.hid (B1.out.drew)
  have HCE := Lib.hid (fun W (d : Below w1.heap.size w1.drew W) => ex_cells (KED.out.below' d))
  have HA1 := ex_cells KE.out
  have HAD := ex_cells KED.out
  have lye := KE.out.lt
  go_region_held3 (fun W => W.cell? ⟨y, 0, none⟩ = some (.int .i64 2) ∧ W.cell? ⟨y, 1, none⟩ = some (.int .i64 0) ∧ W.cell? ⟨y, 2, none⟩ = some (.int .i64 0) ∧ W.cell? ⟨y, 3, none⟩ = some (.int .i64 0) ∧ W.cell? ⟨y, 4, none⟩ = some (.int .i64 0) ∧ W.cell? ⟨y, 5, none⟩ = some (.int .i64 0) ∧ W.cell? ⟨y, 6, none⟩ = some (.int .i64 0) ∧ W.cell? ⟨y, 7, none⟩ = some (.int .i64 0) ∧ W.cell? ⟨y, 8, none⟩ = some (.slice (some ⟨w.heap.size, 0, none⟩) 2 2)) (first | with_reducible exact HAD | with_reducible exact HA1 | with_reducible exact HA3 | with_reducible exact HA2) (first
    | (go_at_call 32; refine (sale_any _).mono ?_; rintro r w2 ⟨b, rfl, hpl, d2⟩; have PL2 := Lib.hid hpl; have HA2 := ex_cells (KED.out.below' d2); have K2 := Lib.hid (KED.out.below' d2); have I2 := Lib.hid (KID.out.keep d2); have B2 := Lib.hid (chain0 BD.out d2); have HS2 := Lib.hid d2.size; clear d2 hpl)
    | (go_at_call 31; refine (e_format b w.heap.size _ PL2.out (HT.out _ B2.out) (I2.out.mono HS2.out)).mono ?_; rintro r w3 ⟨rfl, d3⟩; have HA3 := ex_cells (K2.out.below' d3); have K3 := Lib.hid (K2.out.below' d3); have I3 := Lib.hid (I2.out.keep (d3.mono HS2.out)); have B3 := Lib.hid (chain0 B2.out d3); have HS3 := Lib.hid (Nat.le_trans HS2.out d3.size); clear d3))
  clear HAD HA1 HA2 HA3 HCE lye
  go_wp2_with fail
  refine (sale_any _).mono ?_
  rintro r w4 ⟨b4, rfl, hpl, dd⟩
  have PL4 := Lib.hid hpl
  have K4 := Lib.hid (K3.out.below' dd)
  have I4 := Lib.hid (I3.out.keep (dd.mono HS3.out))
  have B4 := Lib.hid (chain0 B3.out dd)
  have HS4 := Lib.hid (Nat.le_trans HS3.out dd.size)
  clear hpl dd K3 I3 B3 HS3
  go_wp2_with fail
  refine (e_parse1 b4 _ PL4.out).mono ?_
  rintro r w5 ⟨xt, dX, rfl, dd, hi, hx⟩
  obtain ⟨xop, xp, xv, xB, xcb, xks⟩ := xt
  dsimp only [Tree.val, Tree.op, Tree.want, Tree.value, Tree.a, Tree.c, Tree.args]
  have K6 := Lib.hid ((K4.out.below' dd).alloc (.cells #[.int .i64 xop, .int .i64 (xp 0), .int .i64 (xp 1), .int .i64 (xp 2), .int .i64 (xp 3), .int .i64 (xp 4), .int .i64 (xp 5), .int .i64 xv, .slice xB xks.length xcb] 28))
  have I6 := Lib.hid ((I4.out.keep (dd.mono HS4.out)).keep ((below_new w5 (.cells #[.int .i64 xop, .int .i64 (xp 0), .int .i64 (xp 1), .int .i64 (xp 2), .int .i64 (xp 3), .int .i64 (xp 4), .int .i64 (xp 5), .int .i64 xv, .slice xB xks.length xcb] 28)).mono (Nat.le_trans HS4.out dd.size)))
  have B6 := Lib.hid ((chain0 B4.out dd).alloc (chain0 B4.out dd).size (.cells #[.int .i64 xop, .int .i64 (xp 0), .int .i64 (xp 1), .int .i64 (xp 2), .int .i64 (xp 3), .int .i64 (xp 4), .int .i64 (xp 5), .int .i64 xv, .slice xB xks.length xcb] 28))
  have HS6 := Lib.hid (Nat.le_trans (Nat.le_trans HS4.out dd.size) (below_new w5 (.cells #[.int .i64 xop, .int .i64 (xp 0), .int .i64 (xp 1), .int .i64 (xp 2), .int .i64 (xp 3), .int .i64 (xp 4), .int .i64 (xp 5), .int .i64 xv, .slice xB xks.length xcb] 28)).size)
  have KT6 := Lib.hid (Blk.new w5 28 #[.int .i64 xop, .int .i64 (xp 0), .int .i64 (xp 1), .int .i64 (xp 2), .int .i64 (xp 3), .int .i64 (xp 4), .int .i64 (xp 5), .int .i64 xv, .slice xB xks.length xcb])
  have IT6 := Lib.hid (hi.keep (below_new w5 (.cells #[.int .i64 xop, .int .i64 (xp 0), .int .i64 (xp 1), .int .i64 (xp 2), .int .i64 (xp 3), .int .i64 (xp 4), .int .i64 (xp 5), .int .i64 xv, .slice xB xks.length xcb] 28)))
  have HX := Lib.hid hx
  have HT6 := Lib.hid (below_new w5 (.cells #[.int .i64 xop, .int .i64 (xp 0), .int .i64 (xp 1), .int .i64 (xp 2), .int .i64 (xp 3), .int .i64 (xp 4), .int .i64 (xp 5), .int .i64 xv, .slice xB xks.length xcb] 28)).size
  clear hi hx
  clear dd K4 I4 B4 HS4 PL4
  go_upto_region 4 with fail
  generalize w5.alloc (.cells #[.int .i64 xop, .int .i64 (xp 0), .int .i64 (xp 1), .int .i64 (xp 2), .int .i64 (xp 3), .int .i64 (xp 4), .int .i64 (xp 5), .int .i64 xv, .slice xB xks.length xcb] 28) = w6 at *
  generalize w5.heap.size = xb at *
  go_wp2_with fail
  refine (sale_any _).mono ?_
  rintro r w7 ⟨b7, rfl, hpl, dd⟩
  have PL7 := Lib.hid hpl
  have K7 := Lib.hid (K6.out.below' dd)
  have I7 := Lib.hid (I6.out.keep (dd.mono HS6.out))
  have B7 := Lib.hid (chain0 B6.out dd)
  have HS7 := Lib.hid (Nat.le_trans HS6.out dd.size)
  have KT7 := Lib.hid (KT6.out.below' dd)
  have IT7 := Lib.hid (IT6.out.keep (dd.mono HT6.out))
  have HT7 := Lib.hid (Nat.le_trans HT6.out dd.size)
  clear KT6 IT6 HT6
  clear hpl dd K6 I6 B6 HS6
  go_wp2_with fail
  refine (e_parse2 b7 _ PL7.out).mono ?_
  rintro r w8 ⟨yt, rfl, dd⟩
  obtain ⟨yop, yp, yv, yB, ycb, yks⟩ := yt
  dsimp only [Tree.val, Tree.op, Tree.want, Tree.value, Tree.a, Tree.c, Tree.args]
  have K9 := Lib.hid ((K7.out.below' dd).alloc (.cells #[.int .i64 yop, .int .i64 (yp 0), .int .i64 (yp 1), .int .i64 (yp 2), .int .i64 (yp 3), .int .i64 (yp 4), .int .i64 (yp 5), .int .i64 yv, .slice yB yks.length ycb] 28))
  have I9 := Lib.hid ((I7.out.keep (dd.mono HS7.out)).keep ((below_new w8 (.cells #[.int .i64 yop, .int .i64 (yp 0), .int .i64 (yp 1), .int .i64 (yp 2), .int .i64 (yp 3), .int .i64 (yp 4), .int .i64 (yp 5), .int .i64 yv, .slice yB yks.length ycb] 28)).mono (Nat.le_trans HS7.out dd.size)))
  have B9 := Lib.hid ((chain0 B7.out dd).alloc (chain0 B7.out dd).size (.cells #[.int .i64 yop, .int .i64 (yp 0), .int .i64 (yp 1), .int .i64 (yp 2), .int .i64 (yp 3), .int .i64 (yp 4), .int .i64 (yp 5), .int .i64 yv, .slice yB yks.length ycb] 28))
  have HS9 := Lib.hid (Nat.le_trans (Nat.le_trans HS7.out dd.size) (below_new w8 (.cells #[.int .i64 yop, .int .i64 (yp 0), .int .i64 (yp 1), .int .i64 (yp 2), .int .i64 (yp 3), .int .i64 (yp 4), .int .i64 (yp 5), .int .i64 yv, .slice yB yks.length ycb] 28)).size)
  have KT9 := Lib.hid ((KT7.out.below' dd).alloc (.cells #[.int .i64 yop, .int .i64 (yp 0), .int .i64 (yp 1), .int .i64 (yp 2), .int .i64 (yp 3), .int .i64 (yp 4), .int .i64 (yp 5), .int .i64 yv, .slice yB yks.length ycb] 28))
  have IT9 := Lib.hid ((IT7.out.keep (dd.mono HT7.out)).keep ((below_new w8 (.cells #[.int .i64 yop, .int .i64 (yp 0), .int .i64 (yp 1), .int .i64 (yp 2), .int .i64 (yp 3), .int .i64 (yp 4), .int .i64 (yp 5), .int .i64 yv, .slice yB yks.length ycb] 28)).mono (Nat.le_trans HT7.out dd.size)))
  have HT9 := Lib.hid (Nat.le_trans (Nat.le_trans HT7.out dd.size) (below_new w8 (.cells #[.int .i64 yop, .int .i64 (yp 0), .int .i64 (yp 1), .int .i64 (yp 2), .int .i64 (yp 3), .int .i64 (yp 4), .int .i64 (yp 5), .int .i64 yv, .slice yB yks.length ycb] 28)).size)
  clear KT7 IT7 HT7
  clear dd K7 I7 B7 HS7 PL7
  go_upto_region 5 with fail
  generalize w8.alloc (.cells #[.int .i64 yop, .int .i64 (yp 0), .int .i64 (yp 1), .int .i64 (yp 2), .int .i64 (yp 3), .int .i64 (yp 4), .int .i64 (yp 5), .int .i64 yv, .slice yB yks.length ycb] 28) = w9 at *
  go_wp2_with fail
  refine (sale_any _).mono ?_
  rintro r w10 ⟨b10, rfl, hpl, dd⟩
  have PL10 := Lib.hid hpl
  have K10 := Lib.hid (K9.out.below' dd)
  have I10 := Lib.hid (I9.out.keep (dd.mono HS9.out))
  have B10 := Lib.hid (chain0 B9.out dd)
  have HS10 := Lib.hid (Nat.le_trans HS9.out dd.size)
  have KT10 := Lib.hid (KT9.out.below' dd)
  have IT10 := Lib.hid (IT9.out.keep (dd.mono HT9.out))
  have HT10 := Lib.hid (Nat.le_trans HT9.out dd.size)
  clear KT9 IT9 HT9
  clear hpl dd K9 I9 B9 HS9
  go_wp2_with fail
  refine (e_parse3 b10 _ PL10.out).mono ?_
  rintro r w11 ⟨zt, rfl, dd⟩
  obtain ⟨zop, zp, zv, zB, zcb, zks⟩ := zt
  dsimp only [Tree.val, Tree.op, Tree.want, Tree.value, Tree.a, Tree.c, Tree.args]
  have K12 := Lib.hid ((K10.out.below' dd).alloc (.cells #[.int .i64 zop, .int .i64 (zp 0), .int .i64 (zp 1), .int .i64 (zp 2), .int .i64 (zp 3), .int .i64 (zp 4), .int .i64 (zp 5), .int .i64 zv, .slice zB zks.length zcb] 28))
  have I12 := Lib.hid ((I10.out.keep (dd.mono HS10.out)).keep ((below_new w11 (.cells #[.int .i64 zop, .int .i64 (zp 0), .int .i64 (zp 1), .int .i64 (zp 2), .int .i64 (zp 3), .int .i64 (zp 4), .int .i64 (zp 5), .int .i64 zv, .slice zB zks.length zcb] 28)).mono (Nat.le_trans HS10.out dd.size)))
  have B12 := Lib.hid ((chain0 B10.out dd).alloc (chain0 B10.out dd).size (.cells #[.int .i64 zop, .int .i64 (zp 0), .int .i64 (zp 1), .int .i64 (zp 2), .int .i64 (zp 3), .int .i64 (zp 4), .int .i64 (zp 5), .int .i64 zv, .slice zB zks.length zcb] 28))
  have HS12 := Lib.hid (Nat.le_trans (Nat.le_trans HS10.out dd.size) (below_new w11 (.cells #[.int .i64 zop, .int .i64 (zp 0), .int .i64 (zp 1), .int .i64 (zp 2), .int .i64 (zp 3), .int .i64 (zp 4), .int .i64 (zp 5), .int .i64 zv, .slice zB zks.length zcb] 28)).size)
  have KT12 := Lib.hid ((KT10.out.below' dd).alloc (.cells #[.int .i64 zop, .int .i64 (zp 0), .int .i64 (zp 1), .int .i64 (zp 2), .int .i64 (zp 3), .int .i64 (zp 4), .int .i64 (zp 5), .int .i64 zv, .slice zB zks.length zcb] 28))
  have IT12 := Lib.hid ((IT10.out.keep (dd.mono HT10.out)).keep ((below_new w11 (.cells #[.int .i64 zop, .int .i64 (zp 0), .int .i64 (zp 1), .int .i64 (zp 2), .int .i64 (zp 3), .int .i64 (zp 4), .int .i64 (zp 5), .int .i64 zv, .slice zB zks.length zcb] 28)).mono (Nat.le_trans HT10.out dd.size)))
  have HT12 := Lib.hid (Nat.le_trans (Nat.le_trans HT10.out dd.size) (below_new w11 (.cells #[.int .i64 zop, .int .i64 (zp 0), .int .i64 (zp 1), .int .i64 (zp 2), .int .i64 (zp 3), .int .i64 (zp 4), .int .i64 (zp 5), .int .i64 zv, .slice zB zks.length zcb] 28)).size)
  clear KT10 IT10 HT10
  clear dd K10 I10 B10 HS10 PL10
  go_upto_region 6 with fail
  generalize w11.alloc (.cells #[.int .i64 zop, .int .i64 (zp 0), .int .i64 (zp 1), .int .i64 (zp 2), .int .i64 (zp 3), .int .i64 (zp 4), .int .i64 (zp 5), .int .i64 zv, .slice zB zks.length zcb] 28) = w12 at *
  
  have CQ := Lib.hid (Ex.same_yes 2 dX (exT (some ⟨w.heap.size, 0, none⟩)) (.mk xop xp xv xB xcb xks) w12.heap.size w12 (I12.out.mono HS12.out) (IT12.out.mono HT12.out) (Nat.le_refl _) (show 3 ≤ 5000 by decide) HX.out.symm)
  dsimp only [Tree.val, Tree.op, Tree.want, Tree.value, Tree.a, Tree.c, Tree.args] at CQ
  have c0 := K12.out.cell 0
  have c1 := K12.out.cell 1
  have c2 := K12.out.cell 2
  have c3 := K12.out.cell 3
  have c4 := K12.out.cell 4
  have c5 := K12.out.cell 5
  have c6 := K12.out.cell 6
  have c7 := K12.out.cell 7
  have c8 := K12.out.cell 8
  have t0 : w12.cell? ⟨xb, 0, none⟩ = some (.int .i64 xop) := KT12.out.cell 0
  have t1 : w12.cell? ⟨xb, 1, none⟩ = some (.int .i64 (xp 0)) := KT12.out.cell 1
  have t2 : w12.cell? ⟨xb, 2, none⟩ = some (.int .i64 (xp 1)) := KT12.out.cell 2
  have t3 : w12.cell? ⟨xb, 3, none⟩ = some (.int .i64 (xp 2)) := KT12.out.cell 3
  have t4 : w12.cell? ⟨xb, 4, none⟩ = some (.int .i64 (xp 3)) := KT12.out.cell 4
  have t5 : w12.cell? ⟨xb, 5, none⟩ = some (.int .i64 (xp 4)) := KT12.out.cell 5
  have t6 : w12.cell? ⟨xb, 6, none⟩ = some (.int .i64 (xp 5)) := KT12.out.cell 6
  have t7 : w12.cell? ⟨xb, 7, none⟩ = some (.int .i64 xv) := KT12.out.cell 7
  have t8 : w12.cell? ⟨xb, 8, none⟩ = some (.slice xB xks.length xcb) := KT12.out.cell 8
  have lc := K12.out.lt
  have lt := KT12.out.lt
  go_wp2_with fail
  refine (CQ.out).mono ?_
  rintro r w13 ⟨rfl, dd⟩
  have B13 := Lib.hid (chain0 B12.out dd)
  go_wp2_with fail
  go_ret
  exact ⟨rfl, B13.out⟩
end Go.Proofs.YtjjlhihocllgjaaGreatDoor.Ex
