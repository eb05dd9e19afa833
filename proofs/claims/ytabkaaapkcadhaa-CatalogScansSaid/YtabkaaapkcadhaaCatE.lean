/- Contracts of (units).sum. Printed by gen_catE.py. -/
import Derived.Test.YtabkaaapkcadhaaCatD
namespace Go.Proofs.Ytabkaaapkcadhaa
open Go.ChangeShapes Go.WideShapes Go.ChangeAt Go.RowKit
set_option linter.unusedVariables false
set_option linter.unusedSimpArgs false
namespace Cat
open Lex
theorem Blk.c7 {w : World} {g : Nat} {t : TypeId} {a b c d e f h : Value} (k : Blk w g t #[a, b, c, d, e, f, h]) :
    w.cell? ⟨g, 0, none⟩ = some a ∧ w.cell? ⟨g, 1, none⟩ = some b ∧ w.cell? ⟨g, 2, none⟩ = some c ∧ w.cell? ⟨g, 3, none⟩ = some d ∧ w.cell? ⟨g, 4, none⟩ = some e ∧ w.cell? ⟨g, 5, none⟩ = some f ∧ w.cell? ⟨g, 6, none⟩ = some h :=
  ⟨k.cell 0, k.cell 1, k.cell 2, k.cell 3, k.cell 4, k.cell 5, k.cell 6⟩
theorem units_cell {w : World} {g : Nat} {t : TypeId} {a : Value} {b : Nat → Int} (h : Blk w g t #[a, .int .i64 (b 0), .int .i64 (b 1), .int .i64 (b 2), .int .i64 (b 3), .int .i64 (b 4), .int .i64 (b 5)]) (k : Nat) (hk : k < 6) : w.cell? ⟨g, 1 + k, none⟩ = some (.int .i64 (b k)) := by
  rw [h.cell (1 + k)]
  obtain h | h | h | h | h | h : k = 0 ∨ k = 1 ∨ k = 2 ∨ k = 3 ∨ k = 4 ∨ k = 5 := by omega
  all_goals subst h; rfl
theorem sum_bad (l : List Prod) (A : Option Addr) (c : Nat) (b : Nat → Int) (fv : Value) (w : World) (hl : l.length ≤ 5000) (h : PS w (.slice A l.length c) l) (hn : ∀ p ∈ l, p.name.size ≤ maxLen) (hz : checkE l ≠ 0) :
    Calls Try.prog 76 #[.agg #[.slice A l.length c, .int .i64 (b 0), .int .i64 (b 1), .int .i64 (b 2), .int .i64 (b 3), .int .i64 (b 4), .int .i64 (b 5)], fv] w fun e w' => e = .returned (.int .i64 0) ∧ Below w.heap.size w w' := by
  have CC := Lib.hid (fun w' (k : Below w.heap.size w w') => check_any l (.slice A l.length c) w' hl (Sl.keep h k) hn)
  have hz2 : (checkE l != 0) = true := by simpa using hz
  clear h hn hz
  go_enter Try.func76, Try.ntmps76
  go_wp2_with fail
  refine (CC.out _ (below_new _ _)).mono ?_
  rintro e w1 ⟨rfl, b1⟩
  have B1 := Lib.hid (chain1 (Below.refl _ _) b1)
  clear b1
  go_wp2_with fail
  go_ret
  exact ⟨rfl, B1.out⟩
theorem sum_bad2 (l : List Prod) (A : Option Addr) (c : Nat) (b : Nat → Int) (fv : Value) (w : World) (hl : l.length ≤ 5000) (h : PS w (.slice A l.length c) l) (hn : ∀ p ∈ l, p.name.size ≤ maxLen) (hz : checkE l = 0) (hv : validB b = false) :
    Calls Try.prog 76 #[.agg #[.slice A l.length c, .int .i64 (b 0), .int .i64 (b 1), .int .i64 (b 2), .int .i64 (b 3), .int .i64 (b 4), .int .i64 (b 5)], fv] w fun e w' => e = .returned (.int .i64 0) ∧ Below w.heap.size w w' := by
  have CC := Lib.hid (fun w' (k : Below w.heap.size w w') => check_any l (.slice A l.length c) w' hl (Sl.keep h k) hn)
  have CB := Lib.hid (fun w => bcheck_no b w hv)
  have hz2 : (checkE l != 0) = false := by simpa using hz
  have HK := Lib.hid (fun w1 (k : Below (w.alloc (.cells #[.slice A l.length c, .int .i64 (b 0), .int .i64 (b 1), .int .i64 (b 2), .int .i64 (b 3), .int .i64 (b 4), .int .i64 (b 5)] 103)).heap.size (w.alloc (.cells #[.slice A l.length c, .int .i64 (b 0), .int .i64 (b 1), .int .i64 (b 2), .int .i64 (b 3), .int .i64 (b 4), .int .i64 (b 5)] 103)) w1) => (Blk.new w 103 #[.slice A l.length c, .int .i64 (b 0), .int .i64 (b 1), .int .i64 (b 2), .int .i64 (b 3), .int .i64 (b 4), .int .i64 (b 5)]).below' k)
  clear h hn hz hv
  unfold arr at CB
  go_enter Try.func76, Try.ntmps76
  go_wp2_with fail
  refine (CC.out _ (below_new _ _)).mono ?_
  rintro e w1 ⟨rfl, b1⟩
  have k1 := (HK.out _ b1)
  have c1 := Blk.c7 k1
  have g1 := k1.lt
  have B1 := Lib.hid (chain1 (Below.refl _ _) b1)
  clear b1 k1
  go_wp2_with fail
  refine (CB.out _).mono ?_
  rintro e w2 ⟨rfl, b2⟩
  have B2 := Lib.hid (chain0 B1.out b2)
  clear b2
  go_wp2_with fail
  go_ret
  exact ⟨rfl, B2.out⟩
set_option maxHeartbeats 800000 in
theorem sum_points (l : List Prod) (b1 o1 c : Nat) (b : Nat → Int) (w : World) (hc : l.length ≤ c) (hm : c ≤ maxLen) (h1 : ProdRow w b1 o1 l) (hn : ∀ p ∈ l, p.name.size ≤ maxLen) (hz : checkE l = 0) (hv : validB b = true) :
    Calls Try.prog 76 #[.agg #[.slice (some ⟨b1, o1, none⟩) l.length c, .int .i64 (b 0), .int .i64 (b 1), .int .i64 (b 2), .int .i64 (b 3), .int .i64 (b 4), .int .i64 (b 5)], .func (.func 77) #[] #[]] w fun e w' => e = .returned (.int .i64 (sw Prod.points b l l.length)) ∧ Below w.heap.size w w' := by
  obtain ⟨h0, h6, hg⟩ := checkE_zero hz
  have hb1 : b1 < w.heap.size := block_lt_of_cell (h1.at_ 0 h0).1
  have HR := Lib.hid fun w' => h1.below (w' := w') hb1
  have CC := Lib.hid (fun w' (k : Below w.heap.size w w') => check_some l b1 o1 c w' h6 h0 hc hm (HR.out w' k) hn)
  have CB := Lib.hid (fun w => bcheck_yes b w hv)
  have hz2 : (checkE l != 0) = false := by simpa using hz
  have HK := Lib.hid (fun w1 (k : Below (w.alloc (.cells #[.slice (some ⟨b1, o1, none⟩) l.length c, .int .i64 (b 0), .int .i64 (b 1), .int .i64 (b 2), .int .i64 (b 3), .int .i64 (b 4), .int .i64 (b 5)] 103)).heap.size (w.alloc (.cells #[.slice (some ⟨b1, o1, none⟩) l.length c, .int .i64 (b 0), .int .i64 (b 1), .int .i64 (b 2), .int .i64 (b 3), .int .i64 (b 4), .int .i64 (b 5)] 103)) w1) => (Blk.new w 103 #[.slice (some ⟨b1, o1, none⟩) l.length c, .int .i64 (b 0), .int .i64 (b 1), .int .i64 (b 2), .int .i64 (b 3), .int .i64 (b 4), .int .i64 (b 5)]).below' k)
  have HV := Lib.hid (validB_iff.1 hv)
  have HP := Lib.hid (fun p hp => rangeOk_iff.1 (checkGo_range l 0 hg p hp).1)
  have HS := Lib.hid (sw_le (f := Prod.points) (b := b) (l := l) (validB_iff.1 hv) (fun p hp => (by have := rangeOk_iff.1 (checkGo_range l 0 hg p hp).1; omega)) h6)
  have HU : Hid (∀ k, sw Prod.points b l (k + 1) = sw Prod.points b l k + b k * Prod.points (l.getD k Prod.none)) := fun _ => rfl
  clear h1 hn hz hv hg
  unfold arr at CB
  unfold maxLen at hm
  go_enter Try.func76, Try.ntmps76
  go_wp2_with fail
  refine (CC.out _ (below_new _ _)).mono ?_
  rintro e w1 ⟨rfl, d1⟩
  have K1 := Lib.hid (HK.out _ d1)
  have c1 := Blk.c7 K1.out
  have g1 := K1.out.lt
  have B1 := Lib.hid (chain1 (Below.refl _ _) d1)
  clear d1
  go_wp2_with fail
  refine (CB.out _).mono ?_
  rintro e w2 ⟨rfl, d2⟩
  have B2 := Lib.hid (chain0 B1.out d2)
  have K2 := Lib.hid (K1.out.below' d2)
  have c2 := Blk.c7 K2.out
  have g2 := K2.out.lt
  clear d2 c1 g1
  go_wp2_with fail
  go_loopw [21, 5] (fun i n wr => ∃ k : Nat, k ≤ l.length ∧ i = .int .i64 (k : Int) ∧ n = .int .i64 (sw Prod.points b l k) ∧ Hid (Blk wr w.heap.size 103 #[.slice (some ⟨b1, o1, none⟩) l.length c, .int .i64 (b 0), .int .i64 (b 1), .int .i64 (b 2), .int .i64 (b 3), .int .i64 (b 4), .int .i64 (b 5)]) ∧ Hid (Below w.heap.size w wr)) (fun i _ _ => l.length - (intOf i).toNat)
  case atStart => exact ⟨0, by omega, rfl, rfl, K2.out, B2.out⟩
  case round =>
    obtain ⟨k, hk, rfl, rfl, K, B⟩ := hrel
    clear c2 g2
    by_cases hlt : k < l.length
    · have hd : decide ((k : Int) < (l.length : Int)) = true := by simp; omega
      have hi0 : (0 : Int) ≤ (k : Int) := by omega
      have hk6 : k < 6 := by omega
      have et := (HR.out _ B.out).at_ k hlt
      have hbr : b1 < wr.heap.size := by have := B.out.size; omega
      have hbk : wr.cell? ⟨w.heap.size, 1 + k, none⟩ = some (.int .i64 (b k)) := by
        exact units_cell K.out k hk6
      have h6k : (k : Int) < 6 := by omega
      have gz := K.out.lt
      have hs1 := HS.out k (by omega)
      have hs2 := HS.out (k + 1) (by omega)
      have hst := HU.out k
      rw [getD_prod l k hlt] at hst
      have hp := HP.out l[k] (List.getElem_mem hlt)
      have hbb := HV.out k hk6
      have wr0 : ∀ q : Int, -1000000000 ≤ q → q ≤ 1000000000 → IntKind.i64.wrap q = q := fun q _ _ => IntWalk.i64_in q (by omega)
      have wr1 := wr0 (sw Prod.points b l (k + 1)) (by omega) (by omega)
      have wr2 := wr0 (b k * Prod.points l[k]) (by omega) (by omega)
      rw [hst] at wr1
      have HST := Lib.hid hst
      clear wr0 hs1 hs2 hst hp hbb
      generalize l[k] = p at *
      generalize sw Prod.points b l k = sk at *
      have KP := Lib.hid (Blk.new wr 98 #[.string p.name, .int .i64 p.supply, .int .i64 p.reserve, .int .i64 p.points, .int .i64 p.group])
      go_wp2_with fail
      go_region_held3 (fun w' => w'.cell? ⟨w.heap.size, 1 + k, none⟩ = some (.int .i64 (b k)) ∧ w'.cell? ⟨wr.heap.size, 0, none⟩ = some (.string p.name) ∧ w'.cell? ⟨wr.heap.size, 1, none⟩ = some (.int .i64 p.supply) ∧ w'.cell? ⟨wr.heap.size, 2, none⟩ = some (.int .i64 p.reserve) ∧ w'.cell? ⟨wr.heap.size, 3, none⟩ = some (.int .i64 p.points) ∧ w'.cell? ⟨wr.heap.size, 4, none⟩ = some (.int .i64 p.group)) (go_keep) ((go_at_call 77; refine (points1_any p _).mono ?_; rintro e w3 ⟨rfl, d3⟩; have B3 := Lib.hid (chain0 ((B.out.alloc B.out.size _).trans (Below.refl _ _).drew) d3); have K3 := Lib.hid ((K.out.alloc _).drew.below' d3); have hb3 := units_cell K3.out k hk6; have e3 := (KP.out.drew.below' d3).c5; clear d3))
      go_wp2_with fail
      go_roundw
      case rel => exact ⟨k + 1, by omega, by go_num, by rw [HST.out], K3.out, B3.out⟩
      case measure => simp [intOf]; omega
    · obtain rfl : k = l.length := by omega
      have hd : decide ((l.length : Int) < (l.length : Int)) = false := by simp
      go_wp2_with fail
      go_ret
      exact ⟨rfl, B.out⟩
set_option maxHeartbeats 800000 in
theorem sum_reserve (l : List Prod) (b1 o1 c : Nat) (b : Nat → Int) (w : World) (hc : l.length ≤ c) (hm : c ≤ maxLen) (h1 : ProdRow w b1 o1 l) (hn : ∀ p ∈ l, p.name.size ≤ maxLen) (hz : checkE l = 0) (hv : validB b = true) :
    Calls Try.prog 76 #[.agg #[.slice (some ⟨b1, o1, none⟩) l.length c, .int .i64 (b 0), .int .i64 (b 1), .int .i64 (b 2), .int .i64 (b 3), .int .i64 (b 4), .int .i64 (b 5)], .func (.func 78) #[] #[]] w fun e w' => e = .returned (.int .i64 (sw Prod.reserve b l l.length)) ∧ Below w.heap.size w w' := by
  obtain ⟨h0, h6, hg⟩ := checkE_zero hz
  have hb1 : b1 < w.heap.size := block_lt_of_cell (h1.at_ 0 h0).1
  have HR := Lib.hid fun w' => h1.below (w' := w') hb1
  have CC := Lib.hid (fun w' (k : Below w.heap.size w w') => check_some l b1 o1 c w' h6 h0 hc hm (HR.out w' k) hn)
  have CB := Lib.hid (fun w => bcheck_yes b w hv)
  have hz2 : (checkE l != 0) = false := by simpa using hz
  have HK := Lib.hid (fun w1 (k : Below (w.alloc (.cells #[.slice (some ⟨b1, o1, none⟩) l.length c, .int .i64 (b 0), .int .i64 (b 1), .int .i64 (b 2), .int .i64 (b 3), .int .i64 (b 4), .int .i64 (b 5)] 103)).heap.size (w.alloc (.cells #[.slice (some ⟨b1, o1, none⟩) l.length c, .int .i64 (b 0), .int .i64 (b 1), .int .i64 (b 2), .int .i64 (b 3), .int .i64 (b 4), .int .i64 (b 5)] 103)) w1) => (Blk.new w 103 #[.slice (some ⟨b1, o1, none⟩) l.length c, .int .i64 (b 0), .int .i64 (b 1), .int .i64 (b 2), .int .i64 (b 3), .int .i64 (b 4), .int .i64 (b 5)]).below' k)
  have HV := Lib.hid (validB_iff.1 hv)
  have HP := Lib.hid (fun p hp => rangeOk_iff.1 (checkGo_range l 0 hg p hp).1)
  have HS := Lib.hid (sw_le (f := Prod.reserve) (b := b) (l := l) (validB_iff.1 hv) (fun p hp => (by have := rangeOk_iff.1 (checkGo_range l 0 hg p hp).1; omega)) h6)
  have HU : Hid (∀ k, sw Prod.reserve b l (k + 1) = sw Prod.reserve b l k + b k * Prod.reserve (l.getD k Prod.none)) := fun _ => rfl
  clear h1 hn hz hv hg
  unfold arr at CB
  unfold maxLen at hm
  go_enter Try.func76, Try.ntmps76
  go_wp2_with fail
  refine (CC.out _ (below_new _ _)).mono ?_
  rintro e w1 ⟨rfl, d1⟩
  have K1 := Lib.hid (HK.out _ d1)
  have c1 := Blk.c7 K1.out
  have g1 := K1.out.lt
  have B1 := Lib.hid (chain1 (Below.refl _ _) d1)
  clear d1
  go_wp2_with fail
  refine (CB.out _).mono ?_
  rintro e w2 ⟨rfl, d2⟩
  have B2 := Lib.hid (chain0 B1.out d2)
  have K2 := Lib.hid (K1.out.below' d2)
  have c2 := Blk.c7 K2.out
  have g2 := K2.out.lt
  clear d2 c1 g1
  go_wp2_with fail
  go_loopw [21, 5] (fun i n wr => ∃ k : Nat, k ≤ l.length ∧ i = .int .i64 (k : Int) ∧ n = .int .i64 (sw Prod.reserve b l k) ∧ Hid (Blk wr w.heap.size 103 #[.slice (some ⟨b1, o1, none⟩) l.length c, .int .i64 (b 0), .int .i64 (b 1), .int .i64 (b 2), .int .i64 (b 3), .int .i64 (b 4), .int .i64 (b 5)]) ∧ Hid (Below w.heap.size w wr)) (fun i _ _ => l.length - (intOf i).toNat)
  case atStart => exact ⟨0, by omega, rfl, rfl, K2.out, B2.out⟩
  case round =>
    obtain ⟨k, hk, rfl, rfl, K, B⟩ := hrel
    clear c2 g2
    by_cases hlt : k < l.length
    · have hd : decide ((k : Int) < (l.length : Int)) = true := by simp; omega
      have hi0 : (0 : Int) ≤ (k : Int) := by omega
      have hk6 : k < 6 := by omega
      have et := (HR.out _ B.out).at_ k hlt
      have hbr : b1 < wr.heap.size := by have := B.out.size; omega
      have hbk : wr.cell? ⟨w.heap.size, 1 + k, none⟩ = some (.int .i64 (b k)) := by
        exact units_cell K.out k hk6
      have h6k : (k : Int) < 6 := by omega
      have gz := K.out.lt
      have hs1 := HS.out k (by omega)
      have hs2 := HS.out (k + 1) (by omega)
      have hst := HU.out k
      rw [getD_prod l k hlt] at hst
      have hp := HP.out l[k] (List.getElem_mem hlt)
      have hbb := HV.out k hk6
      have wr0 : ∀ q : Int, -1000000000 ≤ q → q ≤ 1000000000 → IntKind.i64.wrap q = q := fun q _ _ => IntWalk.i64_in q (by omega)
      have wr1 := wr0 (sw Prod.reserve b l (k + 1)) (by omega) (by omega)
      have wr2 := wr0 (b k * Prod.reserve l[k]) (by omega) (by omega)
      rw [hst] at wr1
      have HST := Lib.hid hst
      clear wr0 hs1 hs2 hst hp hbb
      generalize l[k] = p at *
      generalize sw Prod.reserve b l k = sk at *
      have KP := Lib.hid (Blk.new wr 98 #[.string p.name, .int .i64 p.supply, .int .i64 p.reserve, .int .i64 p.points, .int .i64 p.group])
      go_wp2_with fail
      go_region_held3 (fun w' => w'.cell? ⟨w.heap.size, 1 + k, none⟩ = some (.int .i64 (b k)) ∧ w'.cell? ⟨wr.heap.size, 0, none⟩ = some (.string p.name) ∧ w'.cell? ⟨wr.heap.size, 1, none⟩ = some (.int .i64 p.supply) ∧ w'.cell? ⟨wr.heap.size, 2, none⟩ = some (.int .i64 p.reserve) ∧ w'.cell? ⟨wr.heap.size, 3, none⟩ = some (.int .i64 p.points) ∧ w'.cell? ⟨wr.heap.size, 4, none⟩ = some (.int .i64 p.group)) (go_keep) ((go_at_call 78; refine (reserve1_any p _).mono ?_; rintro e w3 ⟨rfl, d3⟩; have B3 := Lib.hid (chain0 ((B.out.alloc B.out.size _).trans (Below.refl _ _).drew) d3); have K3 := Lib.hid ((K.out.alloc _).drew.below' d3); have hb3 := units_cell K3.out k hk6; have e3 := (KP.out.drew.below' d3).c5; clear d3))
      go_wp2_with fail
      go_roundw
      case rel => exact ⟨k + 1, by omega, by go_num, by rw [HST.out], K3.out, B3.out⟩
      case measure => simp [intOf]; omega
    · obtain rfl : k = l.length := by omega
      have hd : decide ((l.length : Int) < (l.length : Int)) = false := by simp
      go_wp2_with fail
      go_ret
      exact ⟨rfl, B.out⟩
set_option maxHeartbeats 800000 in
theorem sum_units (a : Nat) (gr : Int) (l : List Prod) (b1 o1 c : Nat) (b : Nat → Int) (w : World) (hc : l.length ≤ c) (hm : c ≤ maxLen) (h1 : ProdRow w b1 o1 l) (hn : ∀ p ∈ l, p.name.size ≤ maxLen) (hz : checkE l = 0) (hv : validB b = true) (ha : w.cell? ⟨a, 0, none⟩ = some (.int .i64 gr)) :
    Calls Try.prog 76 #[.agg #[.slice (some ⟨b1, o1, none⟩) l.length c, .int .i64 (b 0), .int .i64 (b 1), .int .i64 (b 2), .int .i64 (b 3), .int .i64 (b 4), .int .i64 (b 5)], .func (.func 79) #[] #[.pointer (some ⟨a, 0, none⟩)]] w fun e w' => e = .returned (.int .i64 (sw (gw gr) b l l.length)) ∧ Below w.heap.size w w' := by
  have ha1 : a < w.heap.size := block_lt_of_cell ha
  have HA := Lib.hid fun w2 (k : Below w.heap.size w w2) => (k.cell (p := ⟨a, 0, none⟩) ha1).trans ha
  clear ha ha1
  obtain ⟨h0, h6, hg⟩ := checkE_zero hz
  have hb1 : b1 < w.heap.size := block_lt_of_cell (h1.at_ 0 h0).1
  have HR := Lib.hid fun w' => h1.below (w' := w') hb1
  have CC := Lib.hid (fun w' (k : Below w.heap.size w w') => check_some l b1 o1 c w' h6 h0 hc hm (HR.out w' k) hn)
  have CB := Lib.hid (fun w => bcheck_yes b w hv)
  have hz2 : (checkE l != 0) = false := by simpa using hz
  have HK := Lib.hid (fun w1 (k : Below (w.alloc (.cells #[.slice (some ⟨b1, o1, none⟩) l.length c, .int .i64 (b 0), .int .i64 (b 1), .int .i64 (b 2), .int .i64 (b 3), .int .i64 (b 4), .int .i64 (b 5)] 103)).heap.size (w.alloc (.cells #[.slice (some ⟨b1, o1, none⟩) l.length c, .int .i64 (b 0), .int .i64 (b 1), .int .i64 (b 2), .int .i64 (b 3), .int .i64 (b 4), .int .i64 (b 5)] 103)) w1) => (Blk.new w 103 #[.slice (some ⟨b1, o1, none⟩) l.length c, .int .i64 (b 0), .int .i64 (b 1), .int .i64 (b 2), .int .i64 (b 3), .int .i64 (b 4), .int .i64 (b 5)]).below' k)
  have HV := Lib.hid (validB_iff.1 hv)
  have HP := Lib.hid (fun p hp => rangeOk_iff.1 (checkGo_range l 0 hg p hp).1)
  have HS := Lib.hid (sw_le (f := (gw gr)) (b := b) (l := l) (validB_iff.1 hv) (fun p hp => (by unfold gw; split <;> omega)) h6)
  have HU : Hid (∀ k, sw (gw gr) b l (k + 1) = sw (gw gr) b l k + b k * (gw gr) (l.getD k Prod.none)) := fun _ => rfl
  clear h1 hn hz hv hg
  unfold arr at CB
  unfold maxLen at hm
  go_enter Try.func76, Try.ntmps76
  go_wp2_with fail
  refine (CC.out _ (below_new _ _)).mono ?_
  rintro e w1 ⟨rfl, d1⟩
  have K1 := Lib.hid (HK.out _ d1)
  have c1 := Blk.c7 K1.out
  have g1 := K1.out.lt
  have B1 := Lib.hid (chain1 (Below.refl _ _) d1)
  clear d1
  go_wp2_with fail
  refine (CB.out _).mono ?_
  rintro e w2 ⟨rfl, d2⟩
  have B2 := Lib.hid (chain0 B1.out d2)
  have K2 := Lib.hid (K1.out.below' d2)
  have c2 := Blk.c7 K2.out
  have g2 := K2.out.lt
  clear d2 c1 g1
  go_wp2_with fail
  go_loopw [21, 5] (fun i n wr => ∃ k : Nat, k ≤ l.length ∧ i = .int .i64 (k : Int) ∧ n = .int .i64 (sw (gw gr) b l k) ∧ Hid (Blk wr w.heap.size 103 #[.slice (some ⟨b1, o1, none⟩) l.length c, .int .i64 (b 0), .int .i64 (b 1), .int .i64 (b 2), .int .i64 (b 3), .int .i64 (b 4), .int .i64 (b 5)]) ∧ Hid (Below w.heap.size w wr)) (fun i _ _ => l.length - (intOf i).toNat)
  case atStart => exact ⟨0, by omega, rfl, rfl, K2.out, B2.out⟩
  case round =>
    obtain ⟨k, hk, rfl, rfl, K, B⟩ := hrel
    clear c2 g2
    by_cases hlt : k < l.length
    · have hd : decide ((k : Int) < (l.length : Int)) = true := by simp; omega
      have hi0 : (0 : Int) ≤ (k : Int) := by omega
      have hk6 : k < 6 := by omega
      have et := (HR.out _ B.out).at_ k hlt
      have hbr : b1 < wr.heap.size := by have := B.out.size; omega
      have hbk : wr.cell? ⟨w.heap.size, 1 + k, none⟩ = some (.int .i64 (b k)) := by
        exact units_cell K.out k hk6
      have h6k : (k : Int) < 6 := by omega
      have gz := K.out.lt
      have hs1 := HS.out k (by omega)
      have hs2 := HS.out (k + 1) (by omega)
      have hst := HU.out k
      rw [getD_prod l k hlt] at hst
      have hp := HP.out l[k] (List.getElem_mem hlt)
      have hbb := HV.out k hk6
      have wr0 : ∀ q : Int, -1000000000 ≤ q → q ≤ 1000000000 → IntKind.i64.wrap q = q := fun q _ _ => IntWalk.i64_in q (by omega)
      have wr1 := wr0 (sw (gw gr) b l (k + 1)) (by omega) (by omega)
      have wr2 := wr0 (b k * (gw gr) l[k]) (by omega) (by omega)
      rw [hst] at wr1
      have HST := Lib.hid hst
      clear wr0 hs1 hs2 hst hp hbb
      generalize l[k] = p at *
      generalize sw (gw gr) b l k = sk at *
      have KP := Lib.hid (Blk.new wr 98 #[.string p.name, .int .i64 p.supply, .int .i64 p.reserve, .int .i64 p.points, .int .i64 p.group])
      go_wp2_with fail
      go_region_held3 (fun w' => w'.cell? ⟨w.heap.size, 1 + k, none⟩ = some (.int .i64 (b k)) ∧ w'.cell? ⟨wr.heap.size, 0, none⟩ = some (.string p.name) ∧ w'.cell? ⟨wr.heap.size, 1, none⟩ = some (.int .i64 p.supply) ∧ w'.cell? ⟨wr.heap.size, 2, none⟩ = some (.int .i64 p.reserve) ∧ w'.cell? ⟨wr.heap.size, 3, none⟩ = some (.int .i64 p.points) ∧ w'.cell? ⟨wr.heap.size, 4, none⟩ = some (.int .i64 p.group)) (go_keep) ((go_at_call 79; refine (units1_any p gr a _ (HA.out _ ((B.out.alloc B.out.size _).trans (Below.refl _ _).drew))).mono ?_; rintro e w3 ⟨rfl, d3⟩; have B3 := Lib.hid (chain0 ((B.out.alloc B.out.size _).trans (Below.refl _ _).drew) d3); have K3 := Lib.hid ((K.out.alloc _).drew.below' d3); have hb3 := units_cell K3.out k hk6; have e3 := (KP.out.drew.below' d3).c5; clear d3))
      go_wp2_with fail
      go_roundw
      case rel => exact ⟨k + 1, by omega, by go_num, by rw [HST.out], K3.out, B3.out⟩
      case measure => simp [intOf]; omega
    · obtain rfl : k = l.length := by omega
      have hd : decide ((l.length : Int) < (l.length : Int)) = false := by simp
      go_wp2_with fail
      go_ret
      exact ⟨rfl, B.out⟩
end Cat
end Go.Proofs.Ytabkaaapkcadhaa
