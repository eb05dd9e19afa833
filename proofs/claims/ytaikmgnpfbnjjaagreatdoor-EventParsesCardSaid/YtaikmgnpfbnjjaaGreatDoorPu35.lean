/- Contract of the reference's Parse. Printed by gen_eve4.py. -/
import Derived.Test.YtaikmgnpfbnjjaaGreatDoorPu26
import Derived.Test.YtaikmgnpfbnjjaaGreatDoorPu33
import Derived.Test.YtaikmgnpfbnjjaaGreatDoorPu12
import Derived.Test.YtaikmgnpfbnjjaaGreatDoorPu13
import Derived.Test.YtaikmgnpfbnjjaaGreatDoorPu15
import Derived.Test.YtaikmgnpfbnjjaaGreatDoorPu34
namespace Go.Proofs.YtaikmgnpfbnjjaaGreatDoor.Ev
open Go.ChangeShapes Go.WideShapes Go.ChangeAt Go.RowKit Gn Cat Lex Ros Se
set_option linter.unusedVariables false
set_option linter.unusedSimpArgs false
theorem PM.put1 {w wx : World} {ge : Nat} {sv cs : Array Value} (h : PM w wx ge sv cs) (i : Nat) (u : Value) : PM w (wx.setCell ⟨ge, i, none⟩ u) ge sv (cs.setIfInBounds i u) := by
  have hs : w.heap.size ≠ ge := by have := h.hg; omega
  have hr : w.heap.size + 1 ≠ ge := by have := h.hg; omega
  exact ⟨h.su.far (p := ⟨ge, i, none⟩) hs u, h.res.far (p := ⟨ge, i, none⟩) hr u, h.ev.put i u, h.hg, h.bl.setCell (p := ⟨ge, i, none⟩) (by have := h.hg; show w.heap.size ≤ ge; omega) u⟩
/-- the kind found below n -/
def kf (k : Int) (n : Nat) : Int := if k < (n : Int) then k else 0
theorem kf_hit (k : Int) (n : Nat) (h : k = (n : Int)) : kf k (n + 1) = (n : Int) := by unfold kf; rw [if_pos (by omega)]; exact h
theorem kf_miss (k : Int) (n : Nat) (h : k ≠ (n : Int)) : kf k (n + 1) = kf k n := by
  unfold kf
  by_cases h1 : k < (n : Int)
  · rw [if_pos h1, if_pos (by omega)]
  · rw [if_neg h1, if_neg (by omega)]
theorem kf_one (k : Int) (h : 0 ≤ k) : kf k 1 = 0 := by
  unfold kf
  split <;> omega
theorem kf_end (k : Int) (n : Nat) (h : k ≤ 10) (hn : 10 < n) : kf k n = k := by unfold kf; rw [if_pos (by omega)]
theorem kind_iff (f : ByteArray) (j : Int) (h1 : 1 ≤ j) (h2 : j ≤ 10) : nameK j = f ↔ kindOf f.data.toList = j := by
  constructor
  · intro h; rw [← h]; exact kindOf_name ⟨h1, h2⟩
  · intro h
    by_cases hx : ∀ i : Int, 1 ≤ i → i ≤ 10 → nameK i ≠ f
    · have := kindOf_none hx; omega
    · obtain ⟨i, hi⟩ := Classical.not_forall.1 hx
      obtain ⟨a1, hi⟩ := Classical.not_forall.1 hi
      obtain ⟨a2, hi⟩ := Classical.not_forall.1 hi
      have h3 : nameK i = f := Classical.not_not.1 hi
      have h4 := kindOf_name (k := i) ⟨a1, a2⟩
      rw [h3, h] at h4
      rw [h4, h3]
theorem rparse_long (S : SetD) (s : ByteArray) (v1 v2 v3 v4 : Value) (w : World) (hs : 4000 < s.size) : Calls Tryz.prog 22 #[.agg #[v1, v2, v3, v4], .string s] w (ParseP (parseV S s) w) := by
  rw [pv_long hs]
  have hd : decide ((4000 : Int) < (s.size : Int)) = true := decide_eq_true (by omega)
  have N0 := Lib.hid (pn_new w #[v1, v2, v3, v4])
  have HS := Lib.hid hs
  have sr := Blk11 N0.out.res
  have lr := N0.out.res.lt
  clear hs
  go_enter Tryz.func22, Tryz.ntmps22
  go_upto_region 1 with fail
  generalize (w.alloc (.cells #[v1, v2, v3, v4] 42)).alloc (.cells #[.int .i64 0, .int .i64 0, .int .i64 0, .int .i64 0, .int .i64 0, .int .i64 0, .int .i64 0, .int .i64 0, .int .i64 0, .string ⟨#[]⟩, .int .u64 0] 26) = w0 at *
  go_wp2_with fail
  exact bodyPost_ret (v := .tuple #[.agg #[.int .i64 0, .int .i64 0, .int .i64 0, .int .i64 0, .int .i64 0, .int .i64 0, .int .i64 0, .int .i64 0, .int .i64 0, .string ⟨#[]⟩, .int .u64 0], .int .i64 3]) (results_blk_tmp rfl rfl (put_all N0.out.res _ _ _ _ _ _ _ _ _ _ _) Tryz.underlying26 rfl (by kernel_rfl) rfl) rfl ⟨rfl, below_all N0.out.bl (Nat.le_succ _) _ _ _ _ _ _ _ _ _ _ _⟩
set_option maxHeartbeats 8000000 in
set_option maxRecDepth 100000 in
theorem rparse_none (S : SetD) (s : ByteArray) (v1 v2 v3 v4 : Value) (w : World) (h : SetW w v1 v2 v3 v4 S) (hs : ¬ 4000 < s.size) (k : Int) (hk : kindOf (cutL s.data.toList).1 = k) (hkk : k = 0) : Calls Tryz.prog 22 #[.agg #[v1, v2, v3, v4], .string s] w (ParseP (parseV S s) w) := by
  have hs5 : s.size ≤ 5000 := by omega
  have hd : decide ((4000 : Int) < (s.size : Int)) = false := decide_eq_false (by omega)
  have CU := Lib.hid (fun W => rcut_any s W hs5)
  have CN := Lib.hid (fun j W => rname_any j W)
  have CC := Lib.hid rcheckE_any
  have HRS := Lib.hid (rest_size s)
  have HS := Lib.hid hs
  have HSW := Lib.hid h
  have hu1 : (ofL (cutL s.data.toList).2.1).size ≤ 5000 := by rw [ofL_size]; have := HRS.out.1; omega
  have HNE : Hid (∀ j : Nat, 1 ≤ j → j ≤ 10 → (nameK (j : Int) = ofL (cutL s.data.toList).1 ↔ k = (j : Int))) := fun j h1 h2 => by
    rw [kind_iff _ (j : Int) (by omega) (by omega), ofL_list, hk]
  have hkr : 0 ≤ k ∧ k ≤ 10 := by omega
  have HKR := Lib.hid hkr
  have HKO : Hid (kf k 1 = 0) := kf_one k hkr.1
  have HV := Lib.hid (pv_kind (S := S) hs (hk.trans hkk))
  have k0 : (k == 0) = true := by rw [hkk]; rfl
  obtain ⟨A1, c1, A2, c2, A3, c3, A4, c4, rfl, rfl, rfl, rfl⟩ := h.forms
  have N0 := Lib.hid (pn_new w #[.slice A1 S.ps.length c1, .slice A2 S.bs.length c2, .slice A3 S.cs.length c3, .slice A4 S.ad.length c4])
  generalize parseV S s = V at *
  generalize ofL (cutL s.data.toList).1 = f1 at *
  clear h hs hk hs5 hkk 
  go_enter Tryz.func22, Tryz.ntmps22
  go_wp2_with fail
  refine (CU.out _).mono ?_
  rintro x w1 ⟨rfl, d1⟩
  have N1 := Lib.hid (N0.out.keep d1)
  have M1 := Lib.hid (N1.out.ev #[.int .i64 0, .int .i64 0, .int .i64 0, .int .i64 0, .int .i64 0, .int .i64 0, .int .i64 0, .int .i64 0, .int .i64 0, .string ⟨#[]⟩, .int .u64 0])
  clear d1 N0 N1
  go_upto_region 5 with fail
  generalize w1.alloc (.cells #[.int .i64 0, .int .i64 0, .int .i64 0, .int .i64 0, .int .i64 0, .int .i64 0, .int .i64 0, .int .i64 0, .int .i64 0, .string ⟨#[]⟩, .int .u64 0] 26) = w2 at *
  generalize w1.heap.size = ge at *
  go_wp2_with fail
  go_loopw [10] (fun iv wr => ∃ n : Nat, 1 ≤ n ∧ n ≤ 11 ∧ iv = .int .i64 (n : Int) ∧ Hid (PM w wr ge #[.slice A1 S.ps.length c1, .slice A2 S.bs.length c2, .slice A3 S.cs.length c3, .slice A4 S.ad.length c4] #[.int .i64 (kf k n), .int .i64 0, .int .i64 0, .int .i64 0, .int .i64 0, .int .i64 0, .int .i64 0, .int .i64 0, .int .i64 0, .string ⟨#[]⟩, .int .u64 0])) (fun iv _ => 11 - (intOf iv).toNat)
  case atStart => exact ⟨1, by omega, by omega, rfl, by show PM _ _ _ _ _; rw [HKO.out]; exact M1.out⟩
  case round =>
    obtain ⟨n, hn1, hn2, rfl, HM⟩ := hrel
    have su := HM.out.su.c4
    have lu := HM.out.su.lt
    have se := Blk11 HM.out.ev
    have le := HM.out.ev.lt
    by_cases hn : n ≤ 10
    · have hdn : decide ((n : Int) ≤ 10) = true := decide_eq_true (by omega)
      go_wp2_with fail
      refine (CN.out _ _).mono ?_
      rintro x w3 ⟨rfl, d3⟩
      have M3 := Lib.hid (HM.out.keep d3)
      clear d3 HM su lu se le
      have su := M3.out.su.c4
      have lu := M3.out.su.lt
      have se := Blk11 M3.out.ev
      have le := M3.out.ev.lt
      by_cases he : k = (n : Int)
      · have hb := eqS_yes ((HNE.out n hn1 hn).2 he)
        have M4 : Hid (PM w (w3.setCell ⟨ge, 0, none⟩ (.int .i64 (n : Int))) ge #[.slice A1 S.ps.length c1, .slice A2 S.bs.length c2, .slice A3 S.cs.length c3, .slice A4 S.ad.length c4] #[.int .i64 (kf k (n + 1)), .int .i64 0, .int .i64 0, .int .i64 0, .int .i64 0, .int .i64 0, .int .i64 0, .int .i64 0, .int .i64 0, .string ⟨#[]⟩, .int .u64 0]) := by
          show PM _ _ _ _ _
          rw [kf_hit k n he]
          exact M3.out.put1 0 (.int .i64 (n : Int))
        clear he
        go_wp2_with fail
        go_roundw
        case rel => exact ⟨n + 1, by omega, by omega, by simp, M4.out⟩
        case measure => simp [intOf]; omega
      · have hb := eqS_no (fun e => he ((HNE.out n hn1 hn).1 e))
        have M4 : Hid (PM w w3 ge #[.slice A1 S.ps.length c1, .slice A2 S.bs.length c2, .slice A3 S.cs.length c3, .slice A4 S.ad.length c4] #[.int .i64 (kf k (n + 1)), .int .i64 0, .int .i64 0, .int .i64 0, .int .i64 0, .int .i64 0, .int .i64 0, .int .i64 0, .int .i64 0, .string ⟨#[]⟩, .int .u64 0]) := by
          show PM _ _ _ _ _
          rw [kf_miss k n he]
          exact M3.out
        clear he
        go_wp2_with fail
        go_roundw
        case rel => exact ⟨n + 1, by omega, by omega, by simp, M4.out⟩
        case measure => simp [intOf]; omega
    · have hdn : decide ((n : Int) ≤ 10) = false := decide_eq_false (by omega)
      have hke := kf_end k n HKR.out.2 (by omega)
      clear su lu se le
      rw [hke] at HM
      clear hke hn hn1 hn2
      have su := HM.out.su.c4
      have lu := HM.out.su.lt
      have se := Blk11 HM.out.ev
      have le := HM.out.ev.lt
      have sr := Blk11 HM.out.res
      have lr := HM.out.res.lt
      go_wp2_with fail
      try dsimp only [Exit.noGoto, Exit.inBlock, Exit.then]
      exact bodyPost_ret (v := .tuple #[.agg #[.int .i64 0, .int .i64 0, .int .i64 0, .int .i64 0, .int .i64 0, .int .i64 0, .int .i64 0, .int .i64 0, .int .i64 0, .string ⟨#[]⟩, .int .u64 0], .int .i64 (22)]) (results_blk_tmp rfl rfl (put_all HM.out.res _ _ _ _ _ _ _ _ _ _ _) Tryz.underlying26 rfl (by kernel_rfl) rfl) rfl ⟨by rw [HV.out]; rfl, below_all HM.out.bl (Nat.le_succ _) _ _ _ _ _ _ _ _ _ _ _⟩
end Go.Proofs.YtaikmgnpfbnjjaaGreatDoor.Ev
