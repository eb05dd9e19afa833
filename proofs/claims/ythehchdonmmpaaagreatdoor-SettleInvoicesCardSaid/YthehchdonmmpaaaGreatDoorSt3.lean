/- Contract of settle.valid. Printed by gen_st3.py. -/
import Derived.Test.YthehchdonmmpaaaGreatDoorStT
import Derived.Test.YthehchdonmmpaaaGreatDoorPs12
import Derived.Test.YthehchdonmmpaaaGreatDoorPs13
import Derived.Test.YthehchdonmmpaaaGreatDoorStC
import Derived.Deep.RegionHeld3
import Derived.Deep.QuietTactic
import Derived.BigQuiet
namespace Go.Proofs.YthehchdonmmpaaaGreatDoor.St
open Go.ChangeShapes Go.WideShapes Go.ChangeAt Go.RowKit Gn Cat Lex Pr Ros Fr
set_option linter.unusedVariables false
set_option linter.unusedSimpArgs false
attribute [local go_sem] later_cell
theorem is_two (w : World) (a b : Int) : So.IS (w.alloc (.cells #[.int .i64 a, .int .i64 b] 2)) (.slice (some ⟨w.heap.size, 0, none⟩) 2 2) [a, b] := by
  have h := is_of_blk (m := 2) (f := fun i => match i with | 0 => a | _ => b) (Blk.new w 2 #[.int .i64 a, .int .i64 b]) (by unfold maxLen; omega)
  exact h
theorem skip_if {c : Bool} {A B : Prop} (hc : c = false) (h : B) : if c = true then A else B := by
  rw [hc, if_neg (by decide)]
  exact h
theorem two_sum (a b : Int) : [a, b].sum = a + b := by simp
/-- the invoice's block and the setup's, at every later world -/
theorem inv_at_w (w : World) (t : TypeId) (x : Inv) : ∀ W, Below (w.alloc (.cells #[.int .i64 x.bidder, .int .i64 (x.want 0), .int .i64 (x.want 1), .int .i64 (x.want 2), .int .i64 (x.want 3), .int .i64 (x.want 4), .int .i64 (x.want 5), .int .i64 x.reserve, .int .i64 x.net, .int .i64 x.due] t)).heap.size (w.alloc (.cells #[.int .i64 x.bidder, .int .i64 (x.want 0), .int .i64 (x.want 1), .int .i64 (x.want 2), .int .i64 (x.want 3), .int .i64 (x.want 4), .int .i64 (x.want 5), .int .i64 x.reserve, .int .i64 x.net, .int .i64 x.due] t)) W →
    W.cell? ⟨w.heap.size, 0, none⟩ = some (.int .i64 x.bidder) ∧ W.cell? ⟨w.heap.size, 1, none⟩ = some (.int .i64 (x.want 0)) ∧ W.cell? ⟨w.heap.size, 2, none⟩ = some (.int .i64 (x.want 1)) ∧ W.cell? ⟨w.heap.size, 3, none⟩ = some (.int .i64 (x.want 2)) ∧ W.cell? ⟨w.heap.size, 4, none⟩ = some (.int .i64 (x.want 3)) ∧ W.cell? ⟨w.heap.size, 5, none⟩ = some (.int .i64 (x.want 4)) ∧ W.cell? ⟨w.heap.size, 6, none⟩ = some (.int .i64 (x.want 5)) ∧ W.cell? ⟨w.heap.size, 7, none⟩ = some (.int .i64 x.reserve) ∧ W.cell? ⟨w.heap.size, 8, none⟩ = some (.int .i64 x.net) ∧ W.cell? ⟨w.heap.size, 9, none⟩ = some (.int .i64 x.due) := fun W bw =>
  inv_cells ((Blk.new w t #[.int .i64 x.bidder, .int .i64 (x.want 0), .int .i64 (x.want 1), .int .i64 (x.want 2), .int .i64 (x.want 3), .int .i64 (x.want 4), .int .i64 (x.want 5), .int .i64 x.reserve, .int .i64 x.net, .int .i64 x.due]).below' bw)
set_option maxHeartbeats 4000000 in
set_option maxRecDepth 100000 in
theorem valid_any (ps : List Prod) (nb : Nat) (x : Inv) (v1 v3 v4 : Value) (A2 : Option Addr) (c2 : Nat) (w : World) (hs : SetP w v1 ps) : Calls Tryz.prog 27 #[.agg #[v1, .slice A2 nb c2, v3, v4], .agg #[.int .i64 x.bidder, .int .i64 (x.want 0), .int .i64 (x.want 1), .int .i64 (x.want 2), .int .i64 (x.want 3), .int .i64 (x.want 4), .int .i64 (x.want 5), .int .i64 x.reserve, .int .i64 x.net, .int .i64 x.due]] w fun e w' => e = .returned (.bool (invOk ps nb x)) ∧ Below w.heap.size w w' := by
  obtain ⟨A1, c1, rfl, _⟩ := ps_cases hs.sl
  have CF := Lib.hid (fun W (b : Below w.heap.size w W) => format_any ps (.slice A1 ps.length c1) x.want W hs.len (hs.sl.keep b) hs.names)
  have CR := Lib.hid (fun W (b : Below w.heap.size w W) => reserve_any ps (.slice A1 ps.length c1) x.want W hs.len (hs.sl.keep b) hs.names)
  have CA := Lib.hid (fun W => So.check_any x.net W)
  have EQ := Lib.hid (fun W => eq27 x.want zero6 W)
  have hsr := sum_range (b := x.want) (l := ps)
  have hOK : Hid (invOk ps nb x = (decide (0 ≤ x.bidder) && (decide (x.bidder < (nb : Int)) && (!eq6 x.want zero6 && (rfitsB x.want ps && (decide (x.reserve = sumE Prod.reserve x.want ps) && (decide (0 ≤ x.net) && (decide (x.net ≤ 1000000) && decide (x.due = x.reserve + x.net))))))))) := rfl
  generalize invOk ps nb x = R at *
  have fm1 := fun h => fmt_some (b := x.want) (l := ps) h
  have fm0 := fun h => fmt_none (b := x.want) (l := ps) h
  obtain ⟨r, hr⟩ : ∃ r, r = sumE Prod.reserve x.want ps := ⟨_, rfl⟩
  rw [← hr] at CR hOK hsr
  obtain ⟨zb, hzb⟩ : ∃ zb, zb = eq6 x.want zero6 := ⟨_, rfl⟩
  rw [← hzb] at EQ hOK
  unfold arr zero6 at EQ
  unfold arr at CF CR
  have e1 : (w.alloc (.cells #[.slice A1 ps.length c1, .slice A2 nb c2, v3, v4] 27)).heap.size = w.heap.size + 1 := World.size_alloc _ _
  have bx := fun W (b : Below ((w.alloc (.cells #[.slice A1 ps.length c1, .slice A2 nb c2, v3, v4] 27)).alloc (.cells #[.int .i64 x.bidder, .int .i64 (x.want 0), .int .i64 (x.want 1), .int .i64 (x.want 2), .int .i64 (x.want 3), .int .i64 (x.want 4), .int .i64 (x.want 5), .int .i64 x.reserve, .int .i64 x.net, .int .i64 x.due] 42)).heap.size ((w.alloc (.cells #[.slice A1 ps.length c1, .slice A2 nb c2, v3, v4] 27)).alloc (.cells #[.int .i64 x.bidder, .int .i64 (x.want 0), .int .i64 (x.want 1), .int .i64 (x.want 2), .int .i64 (x.want 3), .int .i64 (x.want 4), .int .i64 (x.want 5), .int .i64 x.reserve, .int .i64 x.net, .int .i64 x.due] 42)) W) => (((Blk.new w 27 #[.slice A1 ps.length c1, .slice A2 nb c2, v3, v4]).alloc (.cells #[.int .i64 x.bidder, .int .i64 (x.want 0), .int .i64 (x.want 1), .int .i64 (x.want 2), .int .i64 (x.want 3), .int .i64 (x.want 4), .int .i64 (x.want 5), .int .i64 x.reserve, .int .i64 x.net, .int .i64 x.due] 42)).below' b).c4
  have ix := inv_at_w (w.alloc (.cells #[.slice A1 ps.length c1, .slice A2 nb c2, v3, v4] 27)) 42 x
  rw [e1] at ix
  have BX : Hid (Below w.heap.size w ((w.alloc (.cells #[.slice A1 ps.length c1, .slice A2 nb c2, v3, v4] 27)).alloc (.cells #[.int .i64 x.bidder, .int .i64 (x.want 0), .int .i64 (x.want 1), .int .i64 (x.want 2), .int .i64 (x.want 3), .int .i64 (x.want 4), .int .i64 (x.want 5), .int .i64 x.reserve, .int .i64 x.net, .int .i64 x.due] 42))) := (below_new w _).alloc (below_new w _).size _
  have LX : Hid (((w.alloc (.cells #[.slice A1 ps.length c1, .slice A2 nb c2, v3, v4] 27)).alloc (.cells #[.int .i64 x.bidder, .int .i64 (x.want 0), .int .i64 (x.want 1), .int .i64 (x.want 2), .int .i64 (x.want 3), .int .i64 (x.want 4), .int .i64 (x.want 5), .int .i64 x.reserve, .int .i64 x.net, .int .i64 x.due] 42)).heap.size = w.heap.size + 2) := by show _ = _; rw [World.size_alloc, e1]
  clear hs hr e1 hzb
  obtain ⟨W, hW⟩ : ∃ W, W = (w.alloc (.cells #[.slice A1 ps.length c1, .slice A2 nb c2, v3, v4] 27)).alloc (.cells #[.int .i64 x.bidder, .int .i64 (x.want 0), .int .i64 (x.want 1), .int .i64 (x.want 2), .int .i64 (x.want 3), .int .i64 (x.want 4), .int .i64 (x.want 5), .int .i64 x.reserve, .int .i64 x.net, .int .i64 x.due] 42) := ⟨_, rfl⟩
  rw [← hW] at bx ix BX LX
  have HWW := Lib.hid hW
  have HB := Lib.hid bx
  have HI := Lib.hid ix
  clear hW bx ix
  have bc := HB.out W (Below.refl _ _)
  have ic := HI.out W (Below.refl _ _)
  have lb : w.heap.size < W.heap.size := by rw [LX.out]; omega
  have lx : w.heap.size + 1 < W.heap.size := by rw [LX.out]; omega
  have wadd := fun (h0 : 0 ≤ x.reserve) (h1 : x.reserve ≤ 24000000) (h2 : 0 ≤ x.net) (h3 : x.net ≤ 1000000) => (IntWalk.i64_in (x.reserve + x.net) (by omega) : IntKind.i64.wrap (x.reserve + x.net) = x.reserve + x.net)
  by_cases t0 : x.bidder < 0
  case pos =>
    have d0 : decide (x.bidder < 0) = true := decide_eq_true t0
    have HV : Hid (R = false) := by show R = false; rw [hOK.out, decide_eq_false (by omega)]; rfl
    clear hOK fm1 fm0 hsr wadd t0 EQ
    go_enter Tryz.func27, Tryz.ntmps27
    go_wp2_with fail
    rw [← HWW.out]
    go_wp2_with fail
    go_ret
    exact ⟨by rw [HV.out]; rfl, BX.out⟩
  have d0 : decide (x.bidder < 0) = false := decide_eq_false t0
  have p0 : decide (0 ≤ x.bidder) = true := decide_eq_true (by omega)
  by_cases t1 : (nb : Int) ≤ x.bidder
  case pos =>
    have d1 : decide ((nb : Int) ≤ x.bidder) = true := decide_eq_true t1
    have HV : Hid (R = false) := by show R = false; rw [hOK.out, p0, decide_eq_false (by omega)]; rfl
    clear hOK fm1 fm0 hsr wadd t0 t1 EQ p0
    go_enter Tryz.func27, Tryz.ntmps27
    go_wp2_with fail
    rw [← HWW.out]
    go_wp2_with fail
    go_ret
    exact ⟨by rw [HV.out]; rfl, BX.out⟩
  have d1 : decide ((nb : Int) ≤ x.bidder) = false := decide_eq_false t1
  have p1 : decide (x.bidder < (nb : Int)) = true := decide_eq_true (by omega)
  cases hz : zb with
  | true =>
    have HV : Hid (R = false) := by show R = false; rw [hOK.out, p0, p1, hz]; rfl
    have eq := EQ.out
    rw [hz] at eq
    clear hOK fm1 fm0 hsr wadd t0 t1 EQ hz p0 p1
    go_enter Tryz.func27, Tryz.ntmps27
    go_wp2_with fail
    rw [← HWW.out]
    go_wp2_with fail
    go_ret
    exact ⟨by rw [HV.out]; rfl, BX.out⟩
  | false =>
  have eq := EQ.out
  rw [hz] at eq
  cases hf : rfitsB x.want ps with
  | false =>
    have HV : Hid (R = false) := by show R = false; rw [hOK.out, p0, p1, hz, hf]; rfl
    rw [fm0 hf] at CF
    clear hOK fm1 fm0 hsr wadd t0 t1 EQ hz hf p0 p1
    go_enter Tryz.func27, Tryz.ntmps27
    go_wp2_with fail
    rw [← HWW.out]
    go_wp2_with fail
    refine (CF.out _ BX.out).mono ?_
    rintro e w1 ⟨rfl, d1⟩
    have E1 := Lib.hid d1
    have B1 := Lib.hid (chain0 BX.out d1)
    clear d1 bc ic
    have bc := HB.out w1 E1.out
    have ic := HI.out w1 E1.out
    have lb1 : w.heap.size < w1.heap.size := by have := E1.out.size; rw [LX.out] at this; omega
    have lx1 : w.heap.size + 1 < w1.heap.size := by have := E1.out.size; rw [LX.out] at this; omega
    clear lb lx
    go_wp2_with fail
    go_ret
    exact ⟨by rw [HV.out]; rfl, B1.out⟩
  | true =>
  obtain ⟨f1, f2⟩ := fm1 hf
  generalize fmtS x.want ps = s at *
  by_cases t4 : x.reserve = r
  case neg =>
    have d4 : (x.reserve == r) = false := beq_eq_false_iff_ne.2 t4
    have HV : Hid (R = false) := by show R = false; rw [hOK.out, p0, p1, hz, hf, decide_eq_false t4]; rfl
    have CS : Hid True := trivial
    clear hOK fm1 fm0 hsr wadd t0 t1 EQ hz hf t4 p0 p1
    go_enter Tryz.func27, Tryz.ntmps27
    go_wp2_with fail
    rw [← HWW.out]
    go_wp2_with fail
    refine (CF.out _ BX.out).mono ?_
    rintro e w1 ⟨rfl, d1⟩
    have E1 := Lib.hid d1
    have B1 := Lib.hid (chain0 BX.out d1)
    clear d1 bc ic
    have bc := HB.out w1 E1.out
    have ic := HI.out w1 E1.out
    have lb1 : w.heap.size < w1.heap.size := by have := E1.out.size; rw [LX.out] at this; omega
    have lx1 : w.heap.size + 1 < w1.heap.size := by have := E1.out.size; rw [LX.out] at this; omega
    clear lb lx
    go_wp2_with fail
    have FR := Lib.hid (fun y => CR.out (later w1 y) (chain0 B1.out (later_below w1 y)))
    have FA : Hid (∀ y, Calls Tryz.prog 25 #[.int .i64 x.net] (later w1 y) fun e w' => e = .returned (.int .i64 (So.okE x.net)) ∧ Below (later w1 y).heap.size (later w1 y) w') := fun y => (CA.out _).mono (fun e w' ⟨h1, h2⟩ => ⟨h1, by rw [h2]; exact Below.refl _ _⟩)
    refine wp_region_later (by kernel_rfl) (by kernel_rfl) ?_
    repeat (first | go_big_quiet_step (first | (go_at_call 41; exact calls_later (FR.out _)) | (go_at_call 25; exact calls_later (FA.out _))) | quiet_step (first | (go_at_call 41; exact calls_later (FR.out _)) | (go_at_call 25; exact calls_later (FA.out _))))
    refine wpQuiet_nil ?_
    rintro _ ⟨y, rfl⟩
    go_wp2_with fail
    go_ret
    exact ⟨by rw [HV.out]; rfl, chain0 B1.out (later_below _ _)⟩
  have d4 : (x.reserve == r) = true := beq_iff_eq.2 t4
  by_cases t5 : 0 ≤ x.net ∧ x.net ≤ 1000000
  case neg =>
    have d5 : So.okE x.net = 4 := by unfold So.okE; rw [if_neg t5]
    rw [d5] at CA
    have HV : Hid (R = false) := by
      show R = false
      rw [hOK.out, p0, p1, hz, hf, decide_eq_true t4]
      by_cases h : 0 ≤ x.net
      · rw [decide_eq_true h, decide_eq_false (fun h2 => t5 ⟨h, h2⟩)]; rfl
      · rw [decide_eq_false h]; rfl
    have CS : Hid True := trivial
    clear hOK fm1 fm0 hsr wadd t0 t1 EQ hz hf t4 t5 d5 p0 p1
    go_enter Tryz.func27, Tryz.ntmps27
    go_wp2_with fail
    rw [← HWW.out]
    go_wp2_with fail
    refine (CF.out _ BX.out).mono ?_
    rintro e w1 ⟨rfl, d1⟩
    have E1 := Lib.hid d1
    have B1 := Lib.hid (chain0 BX.out d1)
    clear d1 bc ic
    have bc := HB.out w1 E1.out
    have ic := HI.out w1 E1.out
    have lb1 : w.heap.size < w1.heap.size := by have := E1.out.size; rw [LX.out] at this; omega
    have lx1 : w.heap.size + 1 < w1.heap.size := by have := E1.out.size; rw [LX.out] at this; omega
    clear lb lx
    go_wp2_with fail
    have FR := Lib.hid (fun y => CR.out (later w1 y) (chain0 B1.out (later_below w1 y)))
    have FA : Hid (∀ y, Calls Tryz.prog 25 #[.int .i64 x.net] (later w1 y) fun e w' => e = .returned (.int .i64 (4)) ∧ Below (later w1 y).heap.size (later w1 y) w') := fun y => (CA.out _).mono (fun e w' ⟨h1, h2⟩ => ⟨h1, by rw [h2]; exact Below.refl _ _⟩)
    refine wp_region_later (by kernel_rfl) (by kernel_rfl) ?_
    repeat (first | go_big_quiet_step (first | (go_at_call 41; exact calls_later (FR.out _)) | (go_at_call 25; exact calls_later (FA.out _))) | quiet_step (first | (go_at_call 41; exact calls_later (FR.out _)) | (go_at_call 25; exact calls_later (FA.out _))))
    refine wpQuiet_nil ?_
    rintro _ ⟨y, rfl⟩
    go_wp2_with fail
    go_ret
    exact ⟨by rw [HV.out]; rfl, chain0 B1.out (later_below _ _)⟩
  have d5 : So.okE x.net = 0 := by unfold So.okE; rw [if_pos t5]
  rw [d5] at CA
  have CS : Hid (∀ W', Below w.heap.size w W' → Calls Tryz.prog 26 #[.slice (some ⟨W'.heap.size, 0, none⟩) 2 2] (W'.alloc (.cells #[.int .i64 x.reserve, .int .i64 x.net] 2)) fun e w' => e = .returned (.int .i64 (x.reserve + x.net)) ∧ Below (W'.alloc (.cells #[.int .i64 x.reserve, .int .i64 x.net] 2)).heap.size (W'.alloc (.cells #[.int .i64 x.reserve, .int .i64 x.net] 2)) w') := fun W' b => by
    have := sum_any [x.reserve, x.net] _ _ (by simp) (fun y hy => by
      simp only [List.mem_cons, List.not_mem_nil, or_false] at hy
      rcases hy with rfl | rfl <;> omega) (is_two W' x.reserve x.net)
    rw [two_sum] at this
    exact this
  by_cases t6 : x.due = x.reserve + x.net
  case neg =>
    have d6 : (x.due == x.reserve + x.net) = false := beq_eq_false_iff_ne.2 t6
    have HV : Hid (R = false) := by show R = false; rw [hOK.out, p0, p1, hz, hf, decide_eq_true t4, decide_eq_true t5.1, decide_eq_true t5.2, decide_eq_false t6]; rfl
    clear hOK fm1 fm0 hsr wadd t0 t1 EQ hz hf t4 t5 t6 d5 p0 p1
    go_enter Tryz.func27, Tryz.ntmps27
    go_wp2_with fail
    rw [← HWW.out]
    go_wp2_with fail
    refine (CF.out _ BX.out).mono ?_
    rintro e w1 ⟨rfl, d1⟩
    have E1 := Lib.hid d1
    have B1 := Lib.hid (chain0 BX.out d1)
    clear d1 bc ic
    have bc := HB.out w1 E1.out
    have ic := HI.out w1 E1.out
    have lb1 : w.heap.size < w1.heap.size := by have := E1.out.size; rw [LX.out] at this; omega
    have lx1 : w.heap.size + 1 < w1.heap.size := by have := E1.out.size; rw [LX.out] at this; omega
    clear lb lx
    go_wp2_with fail
    have ED := Lib.hid E1.out.drew
    have hb := HB.out _ ED.out
    have hi := HI.out _ ED.out
    clear bc ic
    go_region_held3 (fun w' => (w'.cell? ⟨w.heap.size, 0, none⟩ = some (.slice A1 ps.length c1) ∧ w'.cell? ⟨w.heap.size, 1, none⟩ = some (.slice A2 nb c2)) ∧ w'.cell? ⟨w.heap.size + 1, 1, none⟩ = some (.int .i64 (x.want 0)) ∧ w'.cell? ⟨w.heap.size + 1, 2, none⟩ = some (.int .i64 (x.want 1)) ∧ w'.cell? ⟨w.heap.size + 1, 3, none⟩ = some (.int .i64 (x.want 2)) ∧ w'.cell? ⟨w.heap.size + 1, 4, none⟩ = some (.int .i64 (x.want 3)) ∧ w'.cell? ⟨w.heap.size + 1, 5, none⟩ = some (.int .i64 (x.want 4)) ∧ w'.cell? ⟨w.heap.size + 1, 6, none⟩ = some (.int .i64 (x.want 5)) ∧ w'.cell? ⟨w.heap.size + 1, 7, none⟩ = some (.int .i64 x.reserve) ∧ w'.cell? ⟨w.heap.size + 1, 8, none⟩ = some (.int .i64 x.net) ∧ w'.cell? ⟨w.heap.size + 1, 9, none⟩ = some (.int .i64 x.due)) (first | exact ⟨⟨hb.1, hb.2.1⟩, hi.2⟩ | (have hb2 := HB.out _ ED.out; have hi2 := HI.out _ ED.out; exact ⟨⟨hb2.1, hb2.2.1⟩, hi2.2⟩) | (have hb2 := HB.out _ (ED.out.alloc ED.out.size _); have hi2 := HI.out _ (ED.out.alloc ED.out.size _); exact ⟨⟨hb2.1, hb2.2.1⟩, hi2.2⟩) | go_keep) (first
      | (go_at_call 41; with_reducible refine (CR.out _ (chain0 BX.out ED.out)).mono ?_; rintro e w9 ⟨rfl, dd⟩; replace ED := Lib.hid (chain0 ED.out dd); replace hb := HB.out _ ED.out; replace hi := HI.out _ ED.out; clear dd)
      | (go_at_call 25; with_reducible refine (CA.out _).mono ?_; rintro e w9 ⟨rfl, rfl⟩)
      | (go_at_call 26; with_reducible refine (CS.out _ (chain0 BX.out ED.out)).mono ?_; rintro e w9 ⟨rfl, dd⟩; replace ED := Lib.hid (chain0 (ED.out.alloc ED.out.size _) dd); replace hb := HB.out _ ED.out; replace hi := HI.out _ ED.out; clear dd)
      )
    go_wp2_with fail
    go_ret
    exact ⟨by rw [HV.out]; rfl, chain0 BX.out ED.out⟩
  have d6 : (x.due == x.reserve + x.net) = true := beq_iff_eq.2 t6
  have HV : Hid (R = true) := by show R = true; rw [hOK.out, p0, p1, hz, hf, decide_eq_true t4, decide_eq_true t5.1, decide_eq_true t5.2, decide_eq_true t6]; rfl
  clear hOK fm1 fm0 hsr wadd t0 t1 EQ hz hf t4 t5 t6 d5 p0 p1
  go_enter Tryz.func27, Tryz.ntmps27
  go_wp2_with fail
  rw [← HWW.out]
  go_wp2_with fail
  refine (CF.out _ BX.out).mono ?_
  rintro e w1 ⟨rfl, d1⟩
  have E1 := Lib.hid d1
  have B1 := Lib.hid (chain0 BX.out d1)
  clear d1 bc ic
  have bc := HB.out w1 E1.out
  have ic := HI.out w1 E1.out
  have lb1 : w.heap.size < w1.heap.size := by have := E1.out.size; rw [LX.out] at this; omega
  have lx1 : w.heap.size + 1 < w1.heap.size := by have := E1.out.size; rw [LX.out] at this; omega
  clear lb lx
  go_wp2_with fail
  have ED := Lib.hid E1.out.drew
  have hb := HB.out _ ED.out
  have hi := HI.out _ ED.out
  clear bc ic
  go_region_held3 (fun w' => (w'.cell? ⟨w.heap.size, 0, none⟩ = some (.slice A1 ps.length c1) ∧ w'.cell? ⟨w.heap.size, 1, none⟩ = some (.slice A2 nb c2)) ∧ w'.cell? ⟨w.heap.size + 1, 1, none⟩ = some (.int .i64 (x.want 0)) ∧ w'.cell? ⟨w.heap.size + 1, 2, none⟩ = some (.int .i64 (x.want 1)) ∧ w'.cell? ⟨w.heap.size + 1, 3, none⟩ = some (.int .i64 (x.want 2)) ∧ w'.cell? ⟨w.heap.size + 1, 4, none⟩ = some (.int .i64 (x.want 3)) ∧ w'.cell? ⟨w.heap.size + 1, 5, none⟩ = some (.int .i64 (x.want 4)) ∧ w'.cell? ⟨w.heap.size + 1, 6, none⟩ = some (.int .i64 (x.want 5)) ∧ w'.cell? ⟨w.heap.size + 1, 7, none⟩ = some (.int .i64 x.reserve) ∧ w'.cell? ⟨w.heap.size + 1, 8, none⟩ = some (.int .i64 x.net) ∧ w'.cell? ⟨w.heap.size + 1, 9, none⟩ = some (.int .i64 x.due)) (first | exact ⟨⟨hb.1, hb.2.1⟩, hi.2⟩ | (have hb2 := HB.out _ ED.out; have hi2 := HI.out _ ED.out; exact ⟨⟨hb2.1, hb2.2.1⟩, hi2.2⟩) | (have hb2 := HB.out _ (ED.out.alloc ED.out.size _); have hi2 := HI.out _ (ED.out.alloc ED.out.size _); exact ⟨⟨hb2.1, hb2.2.1⟩, hi2.2⟩) | go_keep) (first
    | (go_at_call 41; with_reducible refine (CR.out _ (chain0 BX.out ED.out)).mono ?_; rintro e w9 ⟨rfl, dd⟩; replace ED := Lib.hid (chain0 ED.out dd); replace hb := HB.out _ ED.out; replace hi := HI.out _ ED.out; clear dd)
    | (go_at_call 25; with_reducible refine (CA.out _).mono ?_; rintro e w9 ⟨rfl, rfl⟩)
    | (go_at_call 26; with_reducible refine (CS.out _ (chain0 BX.out ED.out)).mono ?_; rintro e w9 ⟨rfl, dd⟩; replace ED := Lib.hid (chain0 (ED.out.alloc ED.out.size _) dd); replace hb := HB.out _ ED.out; replace hi := HI.out _ ED.out; clear dd)
    )
  go_wp2_with fail
  go_ret
  exact ⟨by rw [HV.out]; rfl, chain0 BX.out ED.out⟩
end Go.Proofs.YthehchdonmmpaaaGreatDoor.St
