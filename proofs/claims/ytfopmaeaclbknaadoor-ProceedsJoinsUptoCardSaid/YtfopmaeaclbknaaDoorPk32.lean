/- Contracts of proceeds.valid and of the reference's Valid. Printed by gen_pr6.py. -/
import Derived.Test.YtfopmaeaclbknaaDoorPk31
import Derived.Test.YtfopmaeaclbknaaDoorPk21
import Derived.Test.YtfopmaeaclbknaaDoorPk12
import Derived.Deep.QuietTactic
import Derived.BigQuiet
namespace Go.Proofs.YtfopmaeaclbknaaDoor.Pr
open Go.ChangeShapes Go.WideShapes Go.ChangeAt Go.RowKit Go.Maps Go.WideMaps Gn Cat Lex
set_option linter.unusedVariables false
set_option linter.unusedSimpArgs false
attribute [local go_sem] later_cell
def invOk (ps : List Prod) (nb : Nat) (x : Inv) : Bool := decide (0 ≤ x.bidder) && (decide (x.bidder < (nb : Int)) && (!eq6 x.want zero6 && (rfitsB x.want ps && (decide (x.reserve = sumE Prod.reserve x.want ps) && (decide (0 ≤ x.net) && (decide (x.net ≤ 1000000) && decide (x.due = x.reserve + x.net)))))))
theorem inv_cells {w : World} {g : Nat} {t : TypeId} {x : Inv} (h : Blk w g t #[.int .i64 x.bidder, .int .i64 (x.want 0), .int .i64 (x.want 1), .int .i64 (x.want 2), .int .i64 (x.want 3), .int .i64 (x.want 4), .int .i64 (x.want 5), .int .i64 x.reserve, .int .i64 x.net, .int .i64 x.due]) :
    w.cell? ⟨g, 0, none⟩ = some (.int .i64 x.bidder) ∧ w.cell? ⟨g, 1, none⟩ = some (.int .i64 (x.want 0)) ∧ w.cell? ⟨g, 2, none⟩ = some (.int .i64 (x.want 1)) ∧ w.cell? ⟨g, 3, none⟩ = some (.int .i64 (x.want 2)) ∧ w.cell? ⟨g, 4, none⟩ = some (.int .i64 (x.want 3)) ∧ w.cell? ⟨g, 5, none⟩ = some (.int .i64 (x.want 4)) ∧ w.cell? ⟨g, 6, none⟩ = some (.int .i64 (x.want 5)) ∧ w.cell? ⟨g, 7, none⟩ = some (.int .i64 x.reserve) ∧ w.cell? ⟨g, 8, none⟩ = some (.int .i64 x.net) ∧ w.cell? ⟨g, 9, none⟩ = some (.int .i64 x.due) :=
  ⟨h.cell 0, h.cell 1, h.cell 2, h.cell 3, h.cell 4, h.cell 5, h.cell 6, h.cell 7, h.cell 8, h.cell 9⟩
theorem fmt_some {b : Nat → Int} {l : List Prod} (h : rfitsB b l = true) : ((fmtS b l).toList == ([] : List UInt8)) = false ∧ (fmtS b l).toList.isEmpty = false := by
  have : 0 < (fmtS b l).size := by unfold fmtS; rw [if_pos h, ByteArray.size_append, ByteArray.size_append]; show 0 < 1 + _ + 1; omega
  exact ⟨bytes_ne_nil this, bytes_isEmpty this⟩
theorem fmt_none {b : Nat → Int} {l : List Prod} (h : rfitsB b l = false) : fmtS b l = ⟨#[]⟩ := by unfold fmtS; rw [h]; rfl
theorem sum_range {b : Nat → Int} {l : List Prod} : 0 ≤ sumE Prod.reserve b l ∧ sumE Prod.reserve b l ≤ 24000000 := by
  unfold sumE
  split
  · rename_i h
    have hz := checkE_zero h.1
    have := sw_le (f := Prod.reserve) (b := b) (l := l) (validB_iff.1 h.2) (fun p hp => by have := rangeOk_iff.1 (checkGo_range l 0 hz.2.2 p hp).1; omega) hz.2.1 l.length (Nat.le_refl _)
    omega
  · omega
set_option maxHeartbeats 4000000 in
set_option maxRecDepth 100000 in
theorem valid_any (ps : List Prod) (nb : Nat) (x : Inv) (v1 v3 v4 : Value) (A2 : Option Addr) (c2 : Nat) (w : World) (hs : SetP w v1 ps) : Calls Tryd.prog 62 #[.agg #[v1, .slice A2 nb c2, v3, v4], .agg #[.int .i64 x.bidder, .int .i64 (x.want 0), .int .i64 (x.want 1), .int .i64 (x.want 2), .int .i64 (x.want 3), .int .i64 (x.want 4), .int .i64 (x.want 5), .int .i64 x.reserve, .int .i64 x.net, .int .i64 x.due]] w fun e w' => e = .returned (.bool (invOk ps nb x)) ∧ Below w.heap.size w w' := by
  obtain ⟨A1, c1, rfl, _⟩ := ps_cases hs.sl
  have CF := Lib.hid (fun W (b : Below w.heap.size w W) => format_any ps (.slice A1 ps.length c1) x.want W hs.len (hs.sl.keep b) hs.names)
  have CR := Lib.hid (fun W (b : Below w.heap.size w W) => reserve_any ps (.slice A1 ps.length c1) x.want W hs.len (hs.sl.keep b) hs.names)
  have CA := Lib.hid (fun W => So.check_any x.net W)
  have EQ := Lib.hid (fun W => eq27 x.want zero6 W)
  have hsr := sum_range (b := x.want) (l := ps)
  have hOK : Hid (invOk ps nb x = (decide (0 ≤ x.bidder) && (decide (x.bidder < (nb : Int)) && (!eq6 x.want zero6 && (rfitsB x.want ps && (decide (x.reserve = sumE Prod.reserve x.want ps) && (decide (0 ≤ x.net) && (decide (x.net ≤ 1000000) && decide (x.due = x.reserve + x.net))))))))) := rfl
  generalize invOk ps nb x = R at *
  have fm1 := fun h => fmt_some (b := x.want) (l := ps) h
  have fm0 := fun h => fmt_none (b := x.want) (l := ps) h
  obtain ⟨r, hr⟩ : ∃ r, r = sumE Prod.reserve x.want ps := ⟨_, rfl⟩
  rw [← hr] at CR hOK hsr
  obtain ⟨zb, hzb⟩ : ∃ zb, zb = eq6 x.want zero6 := ⟨_, rfl⟩
  rw [← hzb] at EQ hOK
  unfold arr zero6 at EQ
  unfold arr at CF CR
  have e1 : (w.alloc (.cells #[.slice A1 ps.length c1, .slice A2 nb c2, v3, v4] 48)).heap.size = w.heap.size + 1 := World.size_alloc _ _
  have bx := (Blk.new w 48 #[.slice A1 ps.length c1, .slice A2 nb c2, v3, v4]).alloc (.cells #[.int .i64 x.bidder, .int .i64 (x.want 0), .int .i64 (x.want 1), .int .i64 (x.want 2), .int .i64 (x.want 3), .int .i64 (x.want 4), .int .i64 (x.want 5), .int .i64 x.reserve, .int .i64 x.net, .int .i64 x.due] 79)
  have ix := Blk.new (w.alloc (.cells #[.slice A1 ps.length c1, .slice A2 nb c2, v3, v4] 48)) 79 #[.int .i64 x.bidder, .int .i64 (x.want 0), .int .i64 (x.want 1), .int .i64 (x.want 2), .int .i64 (x.want 3), .int .i64 (x.want 4), .int .i64 (x.want 5), .int .i64 x.reserve, .int .i64 x.net, .int .i64 x.due]
  rw [e1] at ix
  have BX : Hid (Below w.heap.size w ((w.alloc (.cells #[.slice A1 ps.length c1, .slice A2 nb c2, v3, v4] 48)).alloc (.cells #[.int .i64 x.bidder, .int .i64 (x.want 0), .int .i64 (x.want 1), .int .i64 (x.want 2), .int .i64 (x.want 3), .int .i64 (x.want 4), .int .i64 (x.want 5), .int .i64 x.reserve, .int .i64 x.net, .int .i64 x.due] 79))) := (below_new w _).alloc (below_new w _).size _
  have HS := Lib.hid hs
  clear hs hr e1 hzb
  obtain ⟨W, hW⟩ : ∃ W, W = (w.alloc (.cells #[.slice A1 ps.length c1, .slice A2 nb c2, v3, v4] 48)).alloc (.cells #[.int .i64 x.bidder, .int .i64 (x.want 0), .int .i64 (x.want 1), .int .i64 (x.want 2), .int .i64 (x.want 3), .int .i64 (x.want 4), .int .i64 (x.want 5), .int .i64 x.reserve, .int .i64 x.net, .int .i64 x.due] 79) := ⟨_, rfl⟩
  rw [← hW] at bx ix BX
  have HWW := Lib.hid hW
  have bc := bx.c4
  have ic := inv_cells ix
  have lb := bx.lt
  have lx := ix.lt
  have wadd := fun (h0 : 0 ≤ x.reserve) (h1 : x.reserve ≤ 24000000) (h2 : 0 ≤ x.net) (h3 : x.net ≤ 1000000) => (IntWalk.i64_in (x.reserve + x.net) (by omega) : IntKind.i64.wrap (x.reserve + x.net) = x.reserve + x.net)
  have FF := Lib.hid (fun y => CF.out (later W y) (chain0 BX.out (later_below W y)))
  have FR := Lib.hid (fun y => CR.out (later W y) (chain0 BX.out (later_below W y)))
  have FA : Hid (∀ y, Calls Tryd.prog 22 #[.int .i64 x.net] (later W y) fun e w' => e = .returned (.int .i64 (So.okE x.net)) ∧ Below (later W y).heap.size (later W y) w') := fun y => (CA.out _).mono (fun e w' ⟨h1, h2⟩ => ⟨h1, by rw [h2]; exact Below.refl _ _⟩)
  clear CF CR CA
  clear hW ix bx
  by_cases t0 : 0 ≤ x.bidder
  case neg =>
    have d0 : decide (0 ≤ x.bidder) = false := decide_eq_false t0
    have HV : Hid (R = false) := by show R = false; rw [hOK.out, d0]; rfl
    clear hOK fm1 fm0 hsr wadd t0 EQ
    go_enter Tryd.func62, Tryd.ntmps62
    go_wp2_with fail
    rw [← HWW.out]
    refine wp_region_later (by kernel_rfl) (by kernel_rfl) ?_
    repeat (first | go_big_quiet_step (first | (go_at_call 83; exact calls_later (FF.out _)) | (go_at_call 84; exact calls_later (FR.out _)) | (go_at_call 22; exact calls_later (FA.out _))) | quiet_step (first | (go_at_call 83; exact calls_later (FF.out _)) | (go_at_call 84; exact calls_later (FR.out _)) | (go_at_call 22; exact calls_later (FA.out _))))
    refine wpQuiet_nil ?_
    rintro _ ⟨y, rfl⟩
    go_wp2_with fail
    go_ret
    exact ⟨by rw [HV.out]; rfl, chain0 BX.out (later_below _ _)⟩
  have d0 : decide (0 ≤ x.bidder) = true := decide_eq_true t0
  by_cases t1 : x.bidder < (nb : Int)
  case neg =>
    have d1 : decide (x.bidder < (nb : Int)) = false := decide_eq_false t1
    have HV : Hid (R = false) := by show R = false; rw [hOK.out, d0, d1]; rfl
    clear hOK fm1 fm0 hsr wadd t0 t1 EQ
    go_enter Tryd.func62, Tryd.ntmps62
    go_wp2_with fail
    rw [← HWW.out]
    refine wp_region_later (by kernel_rfl) (by kernel_rfl) ?_
    repeat (first | go_big_quiet_step (first | (go_at_call 83; exact calls_later (FF.out _)) | (go_at_call 84; exact calls_later (FR.out _)) | (go_at_call 22; exact calls_later (FA.out _))) | quiet_step (first | (go_at_call 83; exact calls_later (FF.out _)) | (go_at_call 84; exact calls_later (FR.out _)) | (go_at_call 22; exact calls_later (FA.out _))))
    refine wpQuiet_nil ?_
    rintro _ ⟨y, rfl⟩
    go_wp2_with fail
    go_ret
    exact ⟨by rw [HV.out]; rfl, chain0 BX.out (later_below _ _)⟩
  have d1 : decide (x.bidder < (nb : Int)) = true := decide_eq_true t1
  cases hz : zb with
  | true =>
    have HV : Hid (R = false) := by show R = false; rw [hOK.out, d0, d1, hz]; rfl
    have eq := EQ.out
    rw [hz] at eq
    clear hOK fm1 fm0 hsr wadd t0 t1 EQ hz
    go_enter Tryd.func62, Tryd.ntmps62
    go_wp2_with fail
    rw [← HWW.out]
    refine wp_region_later (by kernel_rfl) (by kernel_rfl) ?_
    repeat (first | go_big_quiet_step (first | (go_at_call 83; exact calls_later (FF.out _)) | (go_at_call 84; exact calls_later (FR.out _)) | (go_at_call 22; exact calls_later (FA.out _))) | quiet_step (first | (go_at_call 83; exact calls_later (FF.out _)) | (go_at_call 84; exact calls_later (FR.out _)) | (go_at_call 22; exact calls_later (FA.out _))))
    refine wpQuiet_nil ?_
    rintro _ ⟨y, rfl⟩
    go_wp2_with fail
    go_ret
    exact ⟨by rw [HV.out]; rfl, chain0 BX.out (later_below _ _)⟩
  | false =>
  have eq := EQ.out
  rw [hz] at eq
  cases hf : rfitsB x.want ps with
  | false =>
    have HV : Hid (R = false) := by show R = false; rw [hOK.out, d0, d1, hz, hf]; rfl
    rw [fm0 hf] at FF
    clear hOK fm1 fm0 hsr wadd t0 t1 EQ hz hf
    go_enter Tryd.func62, Tryd.ntmps62
    go_wp2_with fail
    rw [← HWW.out]
    refine wp_region_later (by kernel_rfl) (by kernel_rfl) ?_
    repeat (first | go_big_quiet_step (first | (go_at_call 83; exact calls_later (FF.out _)) | (go_at_call 84; exact calls_later (FR.out _)) | (go_at_call 22; exact calls_later (FA.out _))) | quiet_step (first | (go_at_call 83; exact calls_later (FF.out _)) | (go_at_call 84; exact calls_later (FR.out _)) | (go_at_call 22; exact calls_later (FA.out _))))
    refine wpQuiet_nil ?_
    rintro _ ⟨y, rfl⟩
    go_wp2_with fail
    go_ret
    exact ⟨by rw [HV.out]; rfl, chain0 BX.out (later_below _ _)⟩
  | true =>
  obtain ⟨f1, f2⟩ := fm1 hf
  generalize fmtS x.want ps = s at *
  by_cases t4 : x.reserve = r
  case neg =>
    have d4 : (x.reserve == r) = false := beq_eq_false_iff_ne.2 t4
    have HV : Hid (R = false) := by show R = false; rw [hOK.out, d0, d1, hz, hf, decide_eq_false t4]; rfl
    clear hOK fm1 fm0 hsr wadd t0 t1 EQ hz hf t4
    go_enter Tryd.func62, Tryd.ntmps62
    go_wp2_with fail
    rw [← HWW.out]
    refine wp_region_later (by kernel_rfl) (by kernel_rfl) ?_
    repeat (first | go_big_quiet_step (first | (go_at_call 83; exact calls_later (FF.out _)) | (go_at_call 84; exact calls_later (FR.out _)) | (go_at_call 22; exact calls_later (FA.out _))) | quiet_step (first | (go_at_call 83; exact calls_later (FF.out _)) | (go_at_call 84; exact calls_later (FR.out _)) | (go_at_call 22; exact calls_later (FA.out _))))
    refine wpQuiet_nil ?_
    rintro _ ⟨y, rfl⟩
    go_wp2_with fail
    go_ret
    exact ⟨by rw [HV.out]; rfl, chain0 BX.out (later_below _ _)⟩
  have d4 : (x.reserve == r) = true := beq_iff_eq.2 t4
  by_cases t5 : 0 ≤ x.net ∧ x.net ≤ 1000000
  case neg =>
    have d5 : So.okE x.net = 4 := by unfold So.okE; rw [if_neg t5]
    rw [d5] at FA
    have HV : Hid (R = false) := by
      show R = false
      rw [hOK.out, d0, d1, hz, hf, decide_eq_true t4]
      by_cases h : 0 ≤ x.net
      · rw [decide_eq_true h, decide_eq_false (fun h2 => t5 ⟨h, h2⟩)]; rfl
      · rw [decide_eq_false h]; rfl
    clear hOK fm1 fm0 hsr wadd t0 t1 EQ hz hf t4 t5 d5
    go_enter Tryd.func62, Tryd.ntmps62
    go_wp2_with fail
    rw [← HWW.out]
    refine wp_region_later (by kernel_rfl) (by kernel_rfl) ?_
    repeat (first | go_big_quiet_step (first | (go_at_call 83; exact calls_later (FF.out _)) | (go_at_call 84; exact calls_later (FR.out _)) | (go_at_call 22; exact calls_later (FA.out _))) | quiet_step (first | (go_at_call 83; exact calls_later (FF.out _)) | (go_at_call 84; exact calls_later (FR.out _)) | (go_at_call 22; exact calls_later (FA.out _))))
    refine wpQuiet_nil ?_
    rintro _ ⟨y, rfl⟩
    go_wp2_with fail
    go_ret
    exact ⟨by rw [HV.out]; rfl, chain0 BX.out (later_below _ _)⟩
  have d5 : So.okE x.net = 0 := by unfold So.okE; rw [if_pos t5]
  rw [d5] at FA
  have w0 := wadd (by omega) (by omega) t5.1 t5.2
  by_cases t6 : x.due = x.reserve + x.net
  case neg =>
    have d6 : (x.due == x.reserve + x.net) = false := beq_eq_false_iff_ne.2 t6
    have HV : Hid (R = false) := by show R = false; rw [hOK.out, d0, d1, hz, hf, decide_eq_true t4, decide_eq_true t5.1, decide_eq_true t5.2, decide_eq_false t6]; rfl
    clear hOK fm1 fm0 hsr wadd t0 t1 EQ hz hf t4 t5 t6 d5
    go_enter Tryd.func62, Tryd.ntmps62
    go_wp2_with fail
    rw [← HWW.out]
    refine wp_region_later (by kernel_rfl) (by kernel_rfl) ?_
    repeat (first | go_big_quiet_step (first | (go_at_call 83; exact calls_later (FF.out _)) | (go_at_call 84; exact calls_later (FR.out _)) | (go_at_call 22; exact calls_later (FA.out _))) | quiet_step (first | (go_at_call 83; exact calls_later (FF.out _)) | (go_at_call 84; exact calls_later (FR.out _)) | (go_at_call 22; exact calls_later (FA.out _))))
    refine wpQuiet_nil ?_
    rintro _ ⟨y, rfl⟩
    go_wp2_with fail
    go_ret
    exact ⟨by rw [HV.out]; rfl, chain0 BX.out (later_below _ _)⟩
  have d6 : (x.due == x.reserve + x.net) = true := beq_iff_eq.2 t6
  have HV : Hid (R = true) := by show R = true; rw [hOK.out, d0, d1, hz, hf, decide_eq_true t4, decide_eq_true t5.1, decide_eq_true t5.2, decide_eq_true t6]; rfl
  clear hOK fm1 fm0 hsr wadd t0 t1 EQ hz hf t4 t5 t6 d5
  go_enter Tryd.func62, Tryd.ntmps62
  go_wp2_with fail
  rw [← HWW.out]
  refine wp_region_later (by kernel_rfl) (by kernel_rfl) ?_
  repeat (first | go_big_quiet_step (first | (go_at_call 83; exact calls_later (FF.out _)) | (go_at_call 84; exact calls_later (FR.out _)) | (go_at_call 22; exact calls_later (FA.out _))) | quiet_step (first | (go_at_call 83; exact calls_later (FF.out _)) | (go_at_call 84; exact calls_later (FR.out _)) | (go_at_call 22; exact calls_later (FA.out _))))
  refine wpQuiet_nil ?_
  rintro _ ⟨y, rfl⟩
  go_wp2_with fail
  go_ret
  exact ⟨by rw [HV.out]; rfl, chain0 BX.out (later_below _ _)⟩
set_option maxHeartbeats 4000000 in
set_option maxRecDepth 100000 in
theorem rvalid_any (ps : List Prod) (nb : Nat) (x : Inv) (v1 v3 v4 : Value) (A2 : Option Addr) (c2 : Nat) (w : World) (hs : SetP w v1 ps) : Calls Tryd.prog 63 #[.agg #[v1, .slice A2 nb c2, v3, v4], .agg #[.int .i64 x.bidder, .int .i64 (x.want 0), .int .i64 (x.want 1), .int .i64 (x.want 2), .int .i64 (x.want 3), .int .i64 (x.want 4), .int .i64 (x.want 5), .int .i64 x.reserve, .int .i64 x.net, .int .i64 x.due]] w fun e w' => e = .returned (.bool (invOk ps nb x)) ∧ Below w.heap.size w w' := by
  obtain ⟨A1, c1, rfl, _⟩ := ps_cases hs.sl
  have CF := Lib.hid (fun W (b : Below w.heap.size w W) => rfits_any ps (.slice A1 ps.length c1) x.want W hs.len (hs.sl.keep b) hs.names)
  have CR := Lib.hid (fun W (b : Below w.heap.size w W) => rsums_any ps (.slice A1 ps.length c1) 0 x.want W hs.len (hs.sl.keep b) hs.names)
  unfold sums3 at CR
  have EQ := Lib.hid (fun W => eq27 x.want zero6 W)
  have hsr := sum_range (b := x.want) (l := ps)
  have hOK : Hid (invOk ps nb x = (decide (0 ≤ x.bidder) && (decide (x.bidder < (nb : Int)) && (!eq6 x.want zero6 && (rfitsB x.want ps && (decide (x.reserve = sumE Prod.reserve x.want ps) && (decide (0 ≤ x.net) && (decide (x.net ≤ 1000000) && decide (x.due = x.reserve + x.net))))))))) := rfl
  generalize invOk ps nb x = R at *
  have fm1 := fun h => fmt_some (b := x.want) (l := ps) h
  have fm0 := fun h => fmt_none (b := x.want) (l := ps) h
  obtain ⟨r, hr⟩ : ∃ r, r = sumE Prod.reserve x.want ps := ⟨_, rfl⟩
  rw [← hr] at CR hOK hsr
  obtain ⟨zb, hzb⟩ : ∃ zb, zb = eq6 x.want zero6 := ⟨_, rfl⟩
  rw [← hzb] at EQ hOK
  unfold arr zero6 at EQ
  unfold arr at CF CR
  have e1 : (w.alloc (.cells #[.slice A1 ps.length c1, .slice A2 nb c2, v3, v4] 48)).heap.size = w.heap.size + 1 := World.size_alloc _ _
  have bx := (Blk.new w 48 #[.slice A1 ps.length c1, .slice A2 nb c2, v3, v4]).alloc (.cells #[.int .i64 x.bidder, .int .i64 (x.want 0), .int .i64 (x.want 1), .int .i64 (x.want 2), .int .i64 (x.want 3), .int .i64 (x.want 4), .int .i64 (x.want 5), .int .i64 x.reserve, .int .i64 x.net, .int .i64 x.due] 110)
  have ix := Blk.new (w.alloc (.cells #[.slice A1 ps.length c1, .slice A2 nb c2, v3, v4] 48)) 110 #[.int .i64 x.bidder, .int .i64 (x.want 0), .int .i64 (x.want 1), .int .i64 (x.want 2), .int .i64 (x.want 3), .int .i64 (x.want 4), .int .i64 (x.want 5), .int .i64 x.reserve, .int .i64 x.net, .int .i64 x.due]
  rw [e1] at ix
  have BX : Hid (Below w.heap.size w ((w.alloc (.cells #[.slice A1 ps.length c1, .slice A2 nb c2, v3, v4] 48)).alloc (.cells #[.int .i64 x.bidder, .int .i64 (x.want 0), .int .i64 (x.want 1), .int .i64 (x.want 2), .int .i64 (x.want 3), .int .i64 (x.want 4), .int .i64 (x.want 5), .int .i64 x.reserve, .int .i64 x.net, .int .i64 x.due] 110))) := (below_new w _).alloc (below_new w _).size _
  have HS := Lib.hid hs
  clear hs hr e1 hzb
  obtain ⟨W, hW⟩ : ∃ W, W = (w.alloc (.cells #[.slice A1 ps.length c1, .slice A2 nb c2, v3, v4] 48)).alloc (.cells #[.int .i64 x.bidder, .int .i64 (x.want 0), .int .i64 (x.want 1), .int .i64 (x.want 2), .int .i64 (x.want 3), .int .i64 (x.want 4), .int .i64 (x.want 5), .int .i64 x.reserve, .int .i64 x.net, .int .i64 x.due] 110) := ⟨_, rfl⟩
  rw [← hW] at bx ix BX
  have HWW := Lib.hid hW
  have bc := bx.c4
  have ic := inv_cells ix
  have lb := bx.lt
  have lx := ix.lt
  have wadd := fun (h0 : 0 ≤ x.reserve) (h1 : x.reserve ≤ 24000000) (h2 : 0 ≤ x.net) (h3 : x.net ≤ 1000000) => (IntWalk.i64_in (x.reserve + x.net) (by omega) : IntKind.i64.wrap (x.reserve + x.net) = x.reserve + x.net)
  have BXB := Lib.hid bx
  have IXB := Lib.hid ix
  clear hW ix bx
  by_cases t0 : 0 ≤ x.bidder
  case neg =>
    have d0 : decide (0 ≤ x.bidder) = false := decide_eq_false t0
    have HV : Hid (R = false) := by show R = false; rw [hOK.out, d0]; rfl
    clear hOK fm1 fm0 hsr wadd t0 EQ
    go_enter Tryd.func63, Tryd.ntmps63
    go_wp2_with fail
    rw [← HWW.out]
    refine (CR.out _ BX.out).mono ?_
    rintro e w1 ⟨rfl, d1⟩
    have B1 := Lib.hid (chain0 BX.out d1)
    have D1 := Lib.hid d1
    have bc1 := (BXB.out.below' d1).c4
    have ic1 := inv_cells (IXB.out.below' d1)
    have lb1 := (BXB.out.below' d1).lt
    have lx1 := (IXB.out.below' d1).lt
    clear d1 bc ic lb lx
    go_wp2_with fail
    go_ret
    exact ⟨by rw [HV.out]; rfl, B1.out⟩
  have d0 : decide (0 ≤ x.bidder) = true := decide_eq_true t0
  by_cases t1 : x.bidder < (nb : Int)
  case neg =>
    have d1 : decide (x.bidder < (nb : Int)) = false := decide_eq_false t1
    have HV : Hid (R = false) := by show R = false; rw [hOK.out, d0, d1]; rfl
    clear hOK fm1 fm0 hsr wadd t0 t1 EQ
    go_enter Tryd.func63, Tryd.ntmps63
    go_wp2_with fail
    rw [← HWW.out]
    refine (CR.out _ BX.out).mono ?_
    rintro e w1 ⟨rfl, d1⟩
    have B1 := Lib.hid (chain0 BX.out d1)
    have D1 := Lib.hid d1
    have bc1 := (BXB.out.below' d1).c4
    have ic1 := inv_cells (IXB.out.below' d1)
    have lb1 := (BXB.out.below' d1).lt
    have lx1 := (IXB.out.below' d1).lt
    clear d1 bc ic lb lx
    go_wp2_with fail
    go_ret
    exact ⟨by rw [HV.out]; rfl, B1.out⟩
  have d1 : decide (x.bidder < (nb : Int)) = true := decide_eq_true t1
  cases hf : rfitsB x.want ps with
  | false =>
    have HV : Hid (R = false) := by show R = false; rw [hOK.out, d0, d1, hf]; cases zb <;> rfl
    rw [hf] at CF
    clear hOK fm1 fm0 hsr wadd t0 t1 EQ hf
    go_enter Tryd.func63, Tryd.ntmps63
    go_wp2_with fail
    rw [← HWW.out]
    refine (CR.out _ BX.out).mono ?_
    rintro e w1 ⟨rfl, d1⟩
    have B1 := Lib.hid (chain0 BX.out d1)
    have D1 := Lib.hid d1
    have bc1 := (BXB.out.below' d1).c4
    have ic1 := inv_cells (IXB.out.below' d1)
    have lb1 := (BXB.out.below' d1).lt
    have lx1 := (IXB.out.below' d1).lt
    clear d1 bc ic lb lx
    go_wp2_with fail
    refine (CF.out _ B1.out).mono ?_
    rintro e w2 ⟨rfl, d2⟩
    have B2 := Lib.hid (chain0 B1.out d2)
    have d3 := chain0 D1.out d2
    have bc2 := (BXB.out.below' d3).c4
    have ic2 := inv_cells (IXB.out.below' d3)
    have lb2 := (BXB.out.below' d3).lt
    have lx2 := (IXB.out.below' d3).lt
    clear d2 d3 bc1 ic1 lb1 lx1
    go_wp2_with fail
    go_ret
    exact ⟨by rw [HV.out]; rfl, B2.out⟩
  | true =>
  rw [hf] at CF
  clear fm1 fm0
  cases hz : zb with
  | true =>
    have HV : Hid (R = false) := by show R = false; rw [hOK.out, d0, d1, hz]; rfl
    have eq := EQ.out
    rw [hz] at eq
    clear hOK hsr wadd t0 t1 EQ hz hf
    go_enter Tryd.func63, Tryd.ntmps63
    go_wp2_with fail
    rw [← HWW.out]
    refine (CR.out _ BX.out).mono ?_
    rintro e w1 ⟨rfl, d1⟩
    have B1 := Lib.hid (chain0 BX.out d1)
    have D1 := Lib.hid d1
    have bc1 := (BXB.out.below' d1).c4
    have ic1 := inv_cells (IXB.out.below' d1)
    have lb1 := (BXB.out.below' d1).lt
    have lx1 := (IXB.out.below' d1).lt
    clear d1 bc ic lb lx
    go_wp2_with fail
    refine (CF.out _ B1.out).mono ?_
    rintro e w2 ⟨rfl, d2⟩
    have B2 := Lib.hid (chain0 B1.out d2)
    have d3 := chain0 D1.out d2
    have bc2 := (BXB.out.below' d3).c4
    have ic2 := inv_cells (IXB.out.below' d3)
    have lb2 := (BXB.out.below' d3).lt
    have lx2 := (IXB.out.below' d3).lt
    clear d2 d3 bc1 ic1 lb1 lx1
    go_wp2_with fail
    go_ret
    exact ⟨by rw [HV.out]; rfl, B2.out⟩
  | false =>
  have eq := EQ.out
  rw [hz] at eq
  by_cases t4 : x.reserve = r
  case neg =>
    have d4 : (x.reserve == r) = false := beq_eq_false_iff_ne.2 t4
    have HV : Hid (R = false) := by show R = false; rw [hOK.out, d0, d1, hz, hf, decide_eq_false t4]; rfl
    clear hOK hsr wadd t0 t1 EQ hz hf t4
    go_enter Tryd.func63, Tryd.ntmps63
    go_wp2_with fail
    rw [← HWW.out]
    refine (CR.out _ BX.out).mono ?_
    rintro e w1 ⟨rfl, d1⟩
    have B1 := Lib.hid (chain0 BX.out d1)
    have D1 := Lib.hid d1
    have bc1 := (BXB.out.below' d1).c4
    have ic1 := inv_cells (IXB.out.below' d1)
    have lb1 := (BXB.out.below' d1).lt
    have lx1 := (IXB.out.below' d1).lt
    clear d1 bc ic lb lx
    go_wp2_with fail
    refine (CF.out _ B1.out).mono ?_
    rintro e w2 ⟨rfl, d2⟩
    have B2 := Lib.hid (chain0 B1.out d2)
    have d3 := chain0 D1.out d2
    have bc2 := (BXB.out.below' d3).c4
    have ic2 := inv_cells (IXB.out.below' d3)
    have lb2 := (BXB.out.below' d3).lt
    have lx2 := (IXB.out.below' d3).lt
    clear d2 d3 bc1 ic1 lb1 lx1
    go_wp2_with fail
    go_ret
    exact ⟨by rw [HV.out]; rfl, B2.out⟩
  have d4 : (x.reserve == r) = true := beq_iff_eq.2 t4
  by_cases t5 : 0 ≤ x.net
  case neg =>
    have d5 : decide (0 ≤ x.net) = false := decide_eq_false t5
    have HV : Hid (R = false) := by show R = false; rw [hOK.out, d0, d1, hz, hf, decide_eq_true t4, d5]; rfl
    clear hOK hsr wadd t0 t1 EQ hz hf t4 t5
    go_enter Tryd.func63, Tryd.ntmps63
    go_wp2_with fail
    rw [← HWW.out]
    refine (CR.out _ BX.out).mono ?_
    rintro e w1 ⟨rfl, d1⟩
    have B1 := Lib.hid (chain0 BX.out d1)
    have D1 := Lib.hid d1
    have bc1 := (BXB.out.below' d1).c4
    have ic1 := inv_cells (IXB.out.below' d1)
    have lb1 := (BXB.out.below' d1).lt
    have lx1 := (IXB.out.below' d1).lt
    clear d1 bc ic lb lx
    go_wp2_with fail
    refine (CF.out _ B1.out).mono ?_
    rintro e w2 ⟨rfl, d2⟩
    have B2 := Lib.hid (chain0 B1.out d2)
    have d3 := chain0 D1.out d2
    have bc2 := (BXB.out.below' d3).c4
    have ic2 := inv_cells (IXB.out.below' d3)
    have lb2 := (BXB.out.below' d3).lt
    have lx2 := (IXB.out.below' d3).lt
    clear d2 d3 bc1 ic1 lb1 lx1
    go_wp2_with fail
    go_ret
    exact ⟨by rw [HV.out]; rfl, B2.out⟩
  have d5 : decide (0 ≤ x.net) = true := decide_eq_true t5
  by_cases t7 : x.net ≤ 1000000
  case neg =>
    have d7 : decide (x.net ≤ 1000000) = false := decide_eq_false t7
    have HV : Hid (R = false) := by show R = false; rw [hOK.out, d0, d1, hz, hf, decide_eq_true t4, d5, d7]; rfl
    clear hOK hsr wadd t0 t1 EQ hz hf t4 t5 t7
    go_enter Tryd.func63, Tryd.ntmps63
    go_wp2_with fail
    rw [← HWW.out]
    refine (CR.out _ BX.out).mono ?_
    rintro e w1 ⟨rfl, d1⟩
    have B1 := Lib.hid (chain0 BX.out d1)
    have D1 := Lib.hid d1
    have bc1 := (BXB.out.below' d1).c4
    have ic1 := inv_cells (IXB.out.below' d1)
    have lb1 := (BXB.out.below' d1).lt
    have lx1 := (IXB.out.below' d1).lt
    clear d1 bc ic lb lx
    go_wp2_with fail
    refine (CF.out _ B1.out).mono ?_
    rintro e w2 ⟨rfl, d2⟩
    have B2 := Lib.hid (chain0 B1.out d2)
    have d3 := chain0 D1.out d2
    have bc2 := (BXB.out.below' d3).c4
    have ic2 := inv_cells (IXB.out.below' d3)
    have lb2 := (BXB.out.below' d3).lt
    have lx2 := (IXB.out.below' d3).lt
    clear d2 d3 bc1 ic1 lb1 lx1
    go_wp2_with fail
    go_ret
    exact ⟨by rw [HV.out]; rfl, B2.out⟩
  have d7 : decide (x.net ≤ 1000000) = true := decide_eq_true t7
  have w0 := wadd (by omega) (by omega) t5 t7
  by_cases t6 : x.due = x.reserve + x.net
  case neg =>
    have d6 : (x.due == x.reserve + x.net) = false := beq_eq_false_iff_ne.2 t6
    have HV : Hid (R = false) := by show R = false; rw [hOK.out, d0, d1, hz, hf, decide_eq_true t4, d5, d7, decide_eq_false t6]; rfl
    have a0 : 0 ≤ x.reserve := by omega
    have a1 : x.reserve ≤ 24000000 := by omega
    clear hOK hsr wadd t0 t1 EQ hz hf t4 t6
    go_enter Tryd.func63, Tryd.ntmps63
    go_wp2_with fail
    rw [← HWW.out]
    refine (CR.out _ BX.out).mono ?_
    rintro e w1 ⟨rfl, d1⟩
    have B1 := Lib.hid (chain0 BX.out d1)
    have D1 := Lib.hid d1
    have bc1 := (BXB.out.below' d1).c4
    have ic1 := inv_cells (IXB.out.below' d1)
    have lb1 := (BXB.out.below' d1).lt
    have lx1 := (IXB.out.below' d1).lt
    clear d1 bc ic lb lx
    go_wp2_with fail
    refine (CF.out _ B1.out).mono ?_
    rintro e w2 ⟨rfl, d2⟩
    have B2 := Lib.hid (chain0 B1.out d2)
    have d3 := chain0 D1.out d2
    have bc2 := (BXB.out.below' d3).c4
    have ic2 := inv_cells (IXB.out.below' d3)
    have lb2 := (BXB.out.below' d3).lt
    have lx2 := (IXB.out.below' d3).lt
    clear d2 d3 bc1 ic1 lb1 lx1
    go_wp2_with fail
    go_ret
    exact ⟨by rw [HV.out]; rfl, B2.out⟩
  have d6 : (x.due == x.reserve + x.net) = true := beq_iff_eq.2 t6
  have HV : Hid (R = true) := by show R = true; rw [hOK.out, d0, d1, hz, hf, decide_eq_true t4, d5, d7, decide_eq_true t6]; rfl
  have a0 : 0 ≤ x.reserve := by omega
  have a1 : x.reserve ≤ 24000000 := by omega
  clear hOK hsr wadd t0 t1 EQ hz hf t4 t6
  go_enter Tryd.func63, Tryd.ntmps63
  go_wp2_with fail
  rw [← HWW.out]
  refine (CR.out _ BX.out).mono ?_
  rintro e w1 ⟨rfl, d1⟩
  have B1 := Lib.hid (chain0 BX.out d1)
  have D1 := Lib.hid d1
  have bc1 := (BXB.out.below' d1).c4
  have ic1 := inv_cells (IXB.out.below' d1)
  have lb1 := (BXB.out.below' d1).lt
  have lx1 := (IXB.out.below' d1).lt
  clear d1 bc ic lb lx
  go_wp2_with fail
  refine (CF.out _ B1.out).mono ?_
  rintro e w2 ⟨rfl, d2⟩
  have B2 := Lib.hid (chain0 B1.out d2)
  have d3 := chain0 D1.out d2
  have bc2 := (BXB.out.below' d3).c4
  have ic2 := inv_cells (IXB.out.below' d3)
  have lb2 := (BXB.out.below' d3).lt
  have lx2 := (IXB.out.below' d3).lt
  clear d2 d3 bc1 ic1 lb1 lx1
  go_wp2_with fail
  go_ret
  exact ⟨by rw [HV.out]; rfl, B2.out⟩
end Go.Proofs.YtfopmaeaclbknaaDoor.Pr
