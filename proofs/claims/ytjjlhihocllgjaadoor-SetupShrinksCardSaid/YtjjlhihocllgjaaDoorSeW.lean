/- Contracts of bundle.Meet, Within and Sub. Printed by gen_sew.py. -/
import Derived.Test.YtjjlhihocllgjaaDoorPd04
import Derived.Deep.QuietTactic
import Derived.BigQuiet
import Derived.Deep.RegionHeld3
namespace Go.Proofs.YtjjlhihocllgjaaDoor.Se
open Go.ChangeShapes Go.WideShapes Go.ChangeAt Go.RowKit Cat Lex
set_option linter.unusedVariables false
set_option linter.unusedSimpArgs false
def within6 (a b : Nat → Int) : Bool := (List.range 6).all fun i => decide (a i ≤ b i)
theorem within6_iff {a b : Nat → Int} : within6 a b = true ↔ ∀ i, i < 6 → a i ≤ b i := by
  unfold within6
  simp only [List.all_eq_true, List.mem_range, decide_eq_true_eq]
def meetP (k : Nat) (a b : Nat → Int) : Nat → Int := fun j => if j < k then min (a j) (b j) else a j
theorem meet_step (k : Nat) (a b : Nat → Int) (j : Nat) : (if j = k then min (a k) (b k) else meetP k a b j) = meetP (k + 1) a b j := by
  unfold meetP
  by_cases h : j = k
  · subst h; rw [if_pos rfl, if_pos (by omega)]
  · rw [if_neg h]
    by_cases h2 : j < k
    · rw [if_pos h2, if_pos (by omega)]
    · rw [if_neg h2, if_neg (by omega)]
theorem meet_at (k : Nat) (a b : Nat → Int) : meetP k a b k = a k := by unfold meetP; rw [if_neg (by omega)]
theorem within_eq (a b : Nat → Int) : eq6 (meetP 6 a b) a = within6 a b := by
  by_cases h : within6 a b = true
  · rw [h, eq6_iff]
    intro k hk
    have := within6_iff.1 h k hk
    unfold meetP
    rw [if_pos hk]
    omega
  · rw [Bool.not_eq_true] at h
    rw [h]
    cases e : eq6 (meetP 6 a b) a with
    | false => rfl
    | true =>
      rw [← h]
      symm
      apply within6_iff.2
      intro k hk
      have := (eq6_iff _ _).1 e k hk
      unfold meetP at this
      rw [if_pos hk] at this
      omega
structure MMid (w wr : World) (b p : Nat → Int) : Prop where
  a : Box wr w.heap.size p
  b : Box wr (w.heap.size + 1) b
  res : Box wr (w.heap.size + 2) zero6
  bel : Below w.heap.size w wr
theorem mmid_new (w : World) (T1 T2 T3 : TypeId) (a b : Nat → Int) : MMid w (((w.alloc (.cells (arr a) T1)).alloc (.cells (arr b) T2)).alloc (.cells (arr zero6) T3)) b (meetP 0 a b) := by
  have e1 : (w.alloc (.cells (arr a) T1)).heap.size = w.heap.size + 1 := World.size_alloc _ _
  have e2 : ((w.alloc (.cells (arr a) T1)).alloc (.cells (arr b) T2)).heap.size = w.heap.size + 2 := by rw [World.size_alloc, e1]
  refine ⟨(((box_new w a T1).alloc _).alloc _).congr (fun k _ => by unfold meetP; rw [if_neg (by omega)]), ?_, ?_, ?_⟩
  · have := (box_new (w.alloc (.cells (arr a) T1)) b T2).alloc (.cells (arr zero6) T3)
    rw [e1] at this
    exact this
  · have := box_new ((w.alloc (.cells (arr a) T1)).alloc (.cells (arr b) T2)) zero6 T3
    rw [e2] at this
    exact this
  · exact (((Below.refl w.heap.size w).alloc (Nat.le_refl _) _).alloc (by rw [e1]; omega) _).alloc (by rw [e2]; omega) _
theorem MMid.put {w wr : World} {b p : Nat → Int} (h : MMid w wr b p) (k : Nat) (hk : k < 6) (v : Int) : MMid w (wr.setCell ⟨w.heap.size, k, none⟩ (.int .i64 v)) b (fun j => if j = k then v else p j) :=
  ⟨h.a.set k hk v, h.b.other (by omega) _, h.res.other (by omega) _, h.bel.setCell (Nat.le_refl _) _⟩
theorem MMid.same {w wr : World} {b p q : Nat → Int} (h : MMid w wr b p) (he : ∀ k, k < 6 → p k = q k) : MMid w wr b q := ⟨h.a.congr he, h.b, h.res, h.bel⟩
theorem MMid.drew {w wr : World} {b p : Nat → Int} (h : MMid w wr b p) : MMid w wr.drew b p := ⟨h.a.drew, h.b.drew, h.res.drew, h.bel.drew⟩
set_option maxHeartbeats 1000000 in
theorem meet_any (a b : Nat → Int) (w : World) : Calls Tryd.prog 106 #[.agg (arr a), .agg (arr b)] w fun e w' => e = .returned (.agg (arr (meetP 6 a b))) ∧ Below w.heap.size w w' := by
  have R0 := Lib.hid (mmid_new w 24 24 24 a b)
  have HS := Lib.hid (meet_step (a := a) (b := b))
  have HA := Lib.hid (meet_at (a := a) (b := b))
  go_enter Tryd.func106, Tryd.ntmps106
  go_wp2_with fail
  go_loopw [6] (fun i wr => ∃ k : Nat, k ≤ 6 ∧ i = .int .i64 (k : Int) ∧ MMid w wr b (meetP k a b)) (fun i _ => 6 - (intOf i).toNat)
  case atStart => exact ⟨0, by omega, rfl, R0.out⟩
  case round =>
    obtain ⟨k, hk, rfl, R⟩ := hrel
    clear R0
    by_cases hlt : k < 6
    · have hd : decide ((k : Int) < 6) = true := decide_eq_true (by omega)
      have hi0 : (0 : Int) ≤ (k : Int) := by omega
      have hk6 : (k : Int) < 6 := by omega
      have pk := R.a.cell k hlt
      have pf := R.a.free k
      have pq := R.b.cell k hlt
      have z1 := R.a.lt
      have z2 := R.b.lt
      rw [HA.out k] at pk
      generalize hak : a k = ak at *
      generalize hbk : b k = bk at *
      have HAK := Lib.hid hak
      have HBK := Lib.hid hbk
      clear hak hbk
      go_wp2_with fail
      go_region_with (fail)
      all_goals go_wp2_with fail
      all_goals
        go_roundw
        case rel => exact ⟨k + 1, by omega, by go_num, (R.drew.put k hlt _).same fun j _ => by rw [← HS.out k j, HAK.out, HBK.out]; first | done | rfl | (congr 1; split <;> omega) | (congr 1; omega)⟩
        case measure => simp [intOf]; omega
    · obtain rfl : k = 6 := by omega
      have hd : decide (((6 : Nat) : Int) < 6) = false := by decide
      obtain ⟨res, hres⟩ : ∃ r, r = meetP 6 a b := ⟨_, rfl⟩
      rw [← hres] at R
      have HRES := Lib.hid hres
      clear hres
      obtain ⟨Z0, Z1, Z2, Z3, Z4, Z5⟩ := R.res.cells
      have Rf := R.res.free
      obtain ⟨Q0, Q1, Q2, Q3, Q4, Q5⟩ := R.a.cells
      go_wp2_with fail
      have RE := res_end R.res res
      obtain ⟨E0, E1, E2, E3, E4, E5⟩ := RE.cells
      refine bodyPost_ret (v := .agg (arr res)) (by simp [results, Tryd.results106, go_sem, arr, E0, E1, E2, E3, E4, E5]) rfl ⟨by rw [HRES.out], ?_⟩
      have := R.bel
      go_grown
set_option maxHeartbeats 1000000 in
set_option maxRecDepth 100000 in
theorem within_any (a b : Nat → Int) (w : World) : Calls Tryd.prog 82 #[.agg (arr a), .agg (arr b)] w fun e w' => e = .returned (.bool (within6 a b)) ∧ Below w.heap.size w w' := by
  have CM := Lib.hid (fun W => meet_any a b W)
  have EQ := Lib.hid (fun W => eq27 (meetP 6 a b) a W)
  rw [within_eq] at EQ
  generalize within6 a b = R at *
  generalize meetP 6 a b = m at *
  have B1 := Lib.hid ((below_new w (.cells (arr a) 24)).alloc (below_new w (.cells (arr a) 24)).size (.cells (arr b) 24))
  have X1 := Lib.hid ((box_new w a 24).alloc (.cells (arr b) 24))
  have e1 : (w.alloc (.cells (arr a) 24)).heap.size = w.heap.size + 1 := World.size_alloc _ _
  have x2 := box_new (w.alloc (.cells (arr a) 24)) b 24
  rw [e1] at x2
  have X2 := Lib.hid x2
  clear x2 e1
  unfold arr at *
  obtain ⟨W, hW⟩ : ∃ W, W = (w.alloc (.cells #[.int .i64 (a 0), .int .i64 (a 1), .int .i64 (a 2), .int .i64 (a 3), .int .i64 (a 4), .int .i64 (a 5)] 24)).alloc (.cells #[.int .i64 (b 0), .int .i64 (b 1), .int .i64 (b 2), .int .i64 (b 3), .int .i64 (b 4), .int .i64 (b 5)] 24) := ⟨_, rfl⟩
  rw [← hW] at B1 X1 X2
  have HW := Lib.hid hW
  clear hW
  have HA := Lib.hid (fun W' (bw : Below W.heap.size W W') => (X1.out.below bw X1.out.lt).cells)
  have HBB := Lib.hid (fun W' (bw : Below W.heap.size W W') => (X2.out.below bw X2.out.lt).cells)
  go_enter Tryd.func82, Tryd.ntmps82
  go_wp2_with fail
  rw [← HW.out]
  have ED := Lib.hid ((Below.refl W.heap.size W).drew)
  have ha := HA.out _ ED.out
  have hb := HBB.out _ ED.out
  have lx1 := X1.out.lt
  have lx2 := X2.out.lt
  have eq := EQ.out
  go_region_held3 (fun w' => (w'.cell? ⟨w.heap.size, 0, none⟩ = some (.int .i64 (a 0)) ∧ w'.cell? ⟨w.heap.size, 1, none⟩ = some (.int .i64 (a 1)) ∧ w'.cell? ⟨w.heap.size, 2, none⟩ = some (.int .i64 (a 2)) ∧ w'.cell? ⟨w.heap.size, 3, none⟩ = some (.int .i64 (a 3)) ∧ w'.cell? ⟨w.heap.size, 4, none⟩ = some (.int .i64 (a 4)) ∧ w'.cell? ⟨w.heap.size, 5, none⟩ = some (.int .i64 (a 5))) ∧ w'.cell? ⟨w.heap.size + 1, 0, none⟩ = some (.int .i64 (b 0)) ∧ w'.cell? ⟨w.heap.size + 1, 1, none⟩ = some (.int .i64 (b 1)) ∧ w'.cell? ⟨w.heap.size + 1, 2, none⟩ = some (.int .i64 (b 2)) ∧ w'.cell? ⟨w.heap.size + 1, 3, none⟩ = some (.int .i64 (b 3)) ∧ w'.cell? ⟨w.heap.size + 1, 4, none⟩ = some (.int .i64 (b 4)) ∧ w'.cell? ⟨w.heap.size + 1, 5, none⟩ = some (.int .i64 (b 5))) (first | exact ⟨ha, hb⟩ | exact ⟨HA.out _ ED.out, HBB.out _ ED.out⟩ | go_keep) (first
    | (go_at_call 106; with_reducible refine (CM.out _).mono ?_; rintro e w9 ⟨rfl, dd⟩; replace ED := Lib.hid (chain0 ED.out dd); replace ha := HA.out _ ED.out; replace hb := HBB.out _ ED.out; clear dd)
    )
  go_wp2_with fail
  go_ret
  exact ⟨rfl, chain0 B1.out ED.out⟩
def subP (k : Nat) (a b : Nat → Int) : Nat → Int := fun j => if j < k then a j - b j else a j
theorem sub_step (k : Nat) (a b : Nat → Int) (j : Nat) : (if j = k then a k - b k else subP k a b j) = subP (k + 1) a b j := by
  unfold subP
  by_cases h : j = k
  · subst h; rw [if_pos rfl, if_pos (by omega)]
  · rw [if_neg h]
    by_cases h2 : j < k
    · rw [if_pos h2, if_pos (by omega)]
    · rw [if_neg h2, if_neg (by omega)]
theorem sub_at (k : Nat) (a b : Nat → Int) : subP k a b k = a k := by unfold subP; rw [if_neg (by omega)]
theorem smid0_new (w : World) (T1 T2 T3 : TypeId) (a b : Nat → Int) : MMid w (((w.alloc (.cells (arr a) T1)).alloc (.cells (arr b) T2)).alloc (.cells (arr zero6) T3)) b (subP 0 a b) := (mmid_new w T1 T2 T3 a b).same fun k _ => by unfold meetP subP; rw [if_neg (by omega), if_neg (by omega)]
set_option maxHeartbeats 1000000 in
theorem sub_any (a b : Nat → Int) (w : World) (hr : ∀ k, k < 6 → -1000000 ≤ a k ∧ a k ≤ 1000000 ∧ 0 ≤ b k ∧ b k ≤ 1000000) : Calls Tryd.prog 88 #[.agg (arr a), .agg (arr b)] w fun e w' => e = .returned (.agg (arr (subP 6 a b))) ∧ Below w.heap.size w w' := by
  have R0 := Lib.hid (smid0_new w 24 24 24 a b)
  have hr6 := hr
  have HI := Lib.hid (fun k (hk : k < 6) => hr k hk)
  clear hr hr6
  have HS := Lib.hid (sub_step (a := a) (b := b))
  have HA := Lib.hid (sub_at (a := a) (b := b))
  go_enter Tryd.func88, Tryd.ntmps88
  go_wp2_with fail
  go_loopw [6] (fun i wr => ∃ k : Nat, k ≤ 6 ∧ i = .int .i64 (k : Int) ∧ MMid w wr b (subP k a b)) (fun i _ => 6 - (intOf i).toNat)
  case atStart => exact ⟨0, by omega, rfl, R0.out⟩
  case round =>
    obtain ⟨k, hk, rfl, R⟩ := hrel
    clear R0
    by_cases hlt : k < 6
    · have hd : decide ((k : Int) < 6) = true := decide_eq_true (by omega)
      have hi0 : (0 : Int) ≤ (k : Int) := by omega
      have hk6 : (k : Int) < 6 := by omega
      have pk := R.a.cell k hlt
      have pf := R.a.free k
      have pq := R.b.cell k hlt
      have z1 := R.a.lt
      have z2 := R.b.lt
      rw [HA.out k] at pk
      have hi := HI.out k hlt
      generalize hak : a k = ak at *
      generalize hbk : b k = bk at *
      have HAK := Lib.hid hak
      have HBK := Lib.hid hbk
      clear hak hbk
      have wd : IntKind.i64.wrap (ak - bk) = ak - bk := IntWalk.i64_in _ (by omega)
      clear hi
      go_wp2_with fail
      go_region_with (fail)
      all_goals go_wp2_with fail
      all_goals
        go_roundw
        case rel => exact ⟨k + 1, by omega, by go_num, (R.drew.put k hlt _).same fun j _ => by rw [← HS.out k j, HAK.out, HBK.out]; first | done | rfl | (congr 1; split <;> omega) | (congr 1; omega)⟩
        case measure => simp [intOf]; omega
    · obtain rfl : k = 6 := by omega
      have hd : decide (((6 : Nat) : Int) < 6) = false := by decide
      obtain ⟨res, hres⟩ : ∃ r, r = subP 6 a b := ⟨_, rfl⟩
      rw [← hres] at R
      have HRES := Lib.hid hres
      clear hres
      obtain ⟨Z0, Z1, Z2, Z3, Z4, Z5⟩ := R.res.cells
      have Rf := R.res.free
      obtain ⟨Q0, Q1, Q2, Q3, Q4, Q5⟩ := R.a.cells
      go_wp2_with fail
      have RE := res_end R.res res
      obtain ⟨E0, E1, E2, E3, E4, E5⟩ := RE.cells
      refine bodyPost_ret (v := .agg (arr res)) (by simp [results, Tryd.results88, go_sem, arr, E0, E1, E2, E3, E4, E5]) rfl ⟨by rw [HRES.out], ?_⟩
      have := R.bel
      go_grown
end Go.Proofs.YtjjlhihocllgjaaDoor.Se
