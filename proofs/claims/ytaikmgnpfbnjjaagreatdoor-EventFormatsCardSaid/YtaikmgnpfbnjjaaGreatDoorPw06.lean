/- Contract of event.word. Printed by gen_eva2.py. Contract of event.Parse. Printed by gen_eva3.py. -/
import Derived.Test.YtaikmgnpfbnjjaaGreatDoorPw04
import Derived.Test.YtaikmgnpfbnjjaaGreatDoorPw05
import Derived.Test.YtaikmgnpfbnjjaaGreatDoorPv11
import Derived.Test.YtaikmgnpfbnjjaaGreatDoorPv12
import Derived.Test.YtaikmgnpfbnjjaaGreatDoorPv14
import Derived.Deep.RegionHeld3
import Derived.Deep.RegionLaw
namespace Go.Proofs.YtaikmgnpfbnjjaaGreatDoor.Ev
open Go.ChangeShapes Go.WideShapes Go.ChangeAt Go.RowKit Gn Cat Lex Ros Se
set_option linter.unusedVariables false
set_option linter.unusedSimpArgs false
/-- the boxes of the setup and of the event, the result's block -/
structure WM (w wx : World) (ge gr : Nat) (sv cs : Array Value) : Prop where
  su : Blk wx w.heap.size 42 sv
  ev : Blk wx ge 26 cs
  res : Blk wx gr 26 #[.int .i64 0, .int .i64 0, .int .i64 0, .int .i64 0, .int .i64 0, .int .i64 0, .int .i64 0, .int .i64 0, .int .i64 0, .string ⟨#[]⟩, .int .u64 0]
  he : w.heap.size < ge
  hr : ge < gr
  bl : Below w.heap.size w wx
section
variable {w wx wy : World} {ge gr : Nat} {sv cs : Array Value}
theorem WM.keep (h : WM w wx ge gr sv cs) (b : Below wx.heap.size wx wy) : WM w wy ge gr sv cs := ⟨h.su.below' b, h.ev.below' b, h.res.below' b, h.he, h.hr, chain0 h.bl b⟩
theorem WM.put (h : WM w wx ge gr sv cs) (i : Nat) (u : Value) : WM w (wx.setCell ⟨ge, i, none⟩ u) ge gr sv (cs.setIfInBounds i u) :=
  ⟨h.su.far (p := ⟨ge, i, none⟩) (Nat.ne_of_lt h.he) u, h.ev.put i u, h.res.far (p := ⟨ge, i, none⟩) (Nat.ne_of_gt h.hr) u, h.he, h.hr, h.bl.setCell (p := ⟨ge, i, none⟩) (Nat.le_of_lt h.he) u⟩
end
theorem wm_new (w : World) (sv cs : Array Value) : WM w (((w.alloc (.cells sv 42)).alloc (.cells cs 26)).alloc (.cells #[.int .i64 0, .int .i64 0, .int .i64 0, .int .i64 0, .int .i64 0, .int .i64 0, .int .i64 0, .int .i64 0, .int .i64 0, .string ⟨#[]⟩, .int .u64 0] 26)) (w.heap.size + 1) (w.heap.size + 1 + 1) sv cs := by
  have h1 := Blk.new (w.alloc (.cells sv 42)) 26 cs
  rw [World.size_alloc] at h1
  have h2 := Blk.new ((w.alloc (.cells sv 42)).alloc (.cells cs 26)) 26 #[.int .i64 0, .int .i64 0, .int .i64 0, .int .i64 0, .int .i64 0, .int .i64 0, .int .i64 0, .int .i64 0, .int .i64 0, .string ⟨#[]⟩, .int .u64 0]
  rw [World.size_alloc, World.size_alloc] at h2
  exact ⟨((Blk.new w 42 sv).alloc _).alloc _, h1.alloc _, h2, by omega, by omega, below_three _ _ _ _⟩
theorem blk_third (w : World) (x y : Obj) (t : TypeId) (cs : Array Value) : Blk (((w.alloc x).alloc y).alloc (.cells cs t)) (w.heap.size + 1 + 1) t cs := by
  have h2 := Blk.new ((w.alloc x).alloc y) t cs
  rw [World.size_alloc, World.size_alloc] at h2
  exact h2
abbrev WordPost (e : Evt) (x : Int) (w : World) : Ending → World → Prop := fun r w' => r = .returned (.tuple #[e.val, .int .i64 x]) ∧ Below w.heap.size w w'
theorem find_ok {l : List Bid} {n : ByteArray} {i : Nat} (h : findB l n = some i) : Ros.findI l n = (i : Int) ∧ Ros.findOk l n = true := by
  unfold Ros.findI Ros.findOk
  rw [h]
  exact ⟨rfl, rfl⟩
theorem find_no {l : List Bid} {n : ByteArray} (h : findB l n = none) : Ros.findI l n = 0 ∧ Ros.findOk l n = false := by
  unfold Ros.findI Ros.findOk
  rw [h]
  exact ⟨rfl, rfl⟩
set_option maxHeartbeats 4000000 in
set_option maxRecDepth 100000 in
theorem word_1 (S : SetD) (e : Evt) (u : ByteArray) (v1 v2 v3 v4 : Value) (w : World) (h : SetW w v1 v2 v3 v4 S) (hu : u.size ≤ 5000) : Calls Tryz.prog 57 #[.agg #[v1, v2, v3, v4], e.val, .int .i64 1, .string u] w (WordPost (if findB S.bs u = none then e else { e with bidder := Ros.findI S.bs u }) (if findB S.bs u = none then 6 else 0) w) := by
  have CF := Lib.hid (fun W (bw : Below w.heap.size w W) => Ros.find_any S.bs _ u W h.lb (h.b.keep bw))
  unfold Ros.FindPost at CF
  obtain ⟨A1, c1, A2, c2, A3, c3, A4, c4, rfl, rfl, rfl, rfl⟩ := h.forms
  obtain ⟨k, b, r, p, t, d⟩ := e
  have M0 := Lib.hid (wm_new w #[.slice A1 S.ps.length c1, .slice A2 S.bs.length c2, .slice A3 S.cs.length c3, .slice A4 S.ad.length c4] (cells11 k b r p t d))
  unfold Evt.val at *
  dsimp only at *
  cases hf : findB S.bs u with
  | none =>
    obtain ⟨q1, q2⟩ := find_no hf
    rw [q1, q2] at CF
    rw [if_pos rfl, if_pos rfl]
    clear hf q1 q2 h hu
    go_enter Tryz.func57, Tryz.ntmps57
    go_wp2_with fail
    generalize w.heap.size + 1 + 1 = gr at *
    generalize w.heap.size + 1 = ge at *
    refine (CF.out _ M0.out.bl).mono ?_
    rintro x w1 ⟨rfl, d1⟩
    have M1 := Lib.hid (M0.out.keep d1)
    clear d1 M0 CF
    have sr := Blk11 M1.out.res
    have lr := M1.out.res.lt
    have se := Blk11 M1.out.ev
    have le := M1.out.ev.lt
    have hgr := M1.out.hr
    have hge := M1.out.he
    go_wp2_with fail
    try dsimp only [Exit.noGoto, Exit.inBlock, Exit.then]
    exact bodyPost_ret (v := .tuple #[.agg #[.int .i64 k, .int .i64 b, .int .i64 r, .int .i64 (p 0), .int .i64 (p 1), .int .i64 (p 2), .int .i64 (p 3), .int .i64 (p 4), .int .i64 (p 5), .string t, .int .u64 (d : Int)], .int .i64 6]) (results_blk_tmp rfl rfl (put_all M1.out.res _ _ _ _ _ _ _ _ _ _ _) Tryz.underlying26 rfl (by kernel_rfl) rfl) rfl ⟨rfl, below_all M1.out.bl (Nat.le_of_lt (Nat.lt_trans M1.out.he M1.out.hr)) _ _ _ _ _ _ _ _ _ _ _⟩
  | some i =>
    obtain ⟨q1, q2⟩ := find_ok hf
    rw [q2] at CF
    rw [if_neg (by simp), if_neg (by simp)]
    generalize Ros.findI S.bs u = fi at *
    clear hf q1 q2 h hu
    go_enter Tryz.func57, Tryz.ntmps57
    go_wp2_with fail
    generalize w.heap.size + 1 + 1 = gr at *
    generalize w.heap.size + 1 = ge at *
    refine (CF.out _ M0.out.bl).mono ?_
    rintro x w1 ⟨rfl, d1⟩
    have M1 := Lib.hid (M0.out.keep d1)
    clear d1 M0 CF
    have se := Blk11 M1.out.ev
    have le := M1.out.ev.lt
    go_upto_region 18 with fail
    have M2 : Hid (WM w _ ge gr _ #[.int .i64 k, .int .i64 fi, .int .i64 r, .int .i64 (p 0), .int .i64 (p 1), .int .i64 (p 2), .int .i64 (p 3), .int .i64 (p 4), .int .i64 (p 5), .string t, .int .u64 (d : Int)]) := M1.out.put 1 (.int .i64 fi)
    clear se le M1
    generalize w1.setCell ⟨ge, 1, none⟩ (.int .i64 fi) = w2 at *
    have sr := Blk11 M2.out.res
    have lr := M2.out.res.lt
    have se := Blk11 M2.out.ev
    have le := M2.out.ev.lt
    have hgr := M2.out.hr
    have hge := M2.out.he
    go_wp2_with fail
    try dsimp only [Exit.noGoto, Exit.inBlock, Exit.then]
    exact bodyPost_ret (v := .tuple #[.agg #[.int .i64 k, .int .i64 fi, .int .i64 r, .int .i64 (p 0), .int .i64 (p 1), .int .i64 (p 2), .int .i64 (p 3), .int .i64 (p 4), .int .i64 (p 5), .string t, .int .u64 (d : Int)], .int .i64 0]) (results_blk_tmp rfl rfl (put_all M2.out.res _ _ _ _ _ _ _ _ _ _ _) Tryz.underlying26 rfl (by kernel_rfl) rfl) rfl ⟨rfl, below_all M2.out.bl (Nat.le_of_lt (Nat.lt_trans M2.out.he M2.out.hr)) _ _ _ _ _ _ _ _ _ _ _⟩
set_option maxHeartbeats 4000000 in
set_option maxRecDepth 100000 in
theorem word_2 (S : SetD) (e : Evt) (u : ByteArray) (v1 v2 v3 v4 : Value) (w : World) (h : SetW w v1 v2 v3 v4 S) (hu : u.size ≤ 5000) : Calls Tryz.prog 57 #[.agg #[v1, v2, v3, v4], e.val, .int .i64 2, .string u] w (WordPost { e with want := (parseF S.ps u).1 } (parseF S.ps u).2 w) := by
  have CF := Lib.hid (fun W (bw : Below w.heap.size w W) => Cat.parse_any S.ps _ u W h.lp (h.p.keep bw) h.np hu)
  obtain ⟨A1, c1, A2, c2, A3, c3, A4, c4, rfl, rfl, rfl, rfl⟩ := h.forms
  obtain ⟨k, b, r, p, t, d⟩ := e
  have M0 := Lib.hid (wm_new w #[.slice A1 S.ps.length c1, .slice A2 S.bs.length c2, .slice A3 S.cs.length c3, .slice A4 S.ad.length c4] (cells11 k b r p t d))
  unfold Evt.val at *
  dsimp only at *
  generalize parseF S.ps u = q at *
  obtain ⟨q, x2⟩ := q
  unfold Cat.ParsePost at CF
  dsimp only at *
  clear h hu
  go_enter Tryz.func57, Tryz.ntmps57
  go_wp2_with fail
  generalize w.heap.size + 1 + 1 = gr at *
  generalize w.heap.size + 1 = ge at *
  refine (CF.out _ M0.out.bl).mono ?_
  rintro x w1 ⟨rfl, d1⟩
  have M1 := Lib.hid (M0.out.keep d1)
  clear d1 M0 CF
  have se := Blk11 M1.out.ev
  have le := M1.out.ev.lt
  go_upto_region 18 with fail
  have M2 : Hid (WM w _ ge gr _ #[.int .i64 k, .int .i64 b, .int .i64 r, .int .i64 (q 0), .int .i64 (q 1), .int .i64 (q 2), .int .i64 (q 3), .int .i64 (q 4), .int .i64 (q 5), .string t, .int .u64 (d : Int)]) := ((((((M1.out.put 3 (.int .i64 (q 0))).put 4 (.int .i64 (q 1))).put 5 (.int .i64 (q 2))).put 6 (.int .i64 (q 3))).put 7 (.int .i64 (q 4))).put 8 (.int .i64 (q 5)))
  clear se le M1
  generalize (((((w1.setCell ⟨ge, 3, none⟩ (.int .i64 (q 0))).setCell ⟨ge, 4, none⟩ (.int .i64 (q 1))).setCell ⟨ge, 5, none⟩ (.int .i64 (q 2))).setCell ⟨ge, 6, none⟩ (.int .i64 (q 3))).setCell ⟨ge, 7, none⟩ (.int .i64 (q 4))).setCell ⟨ge, 8, none⟩ (.int .i64 (q 5)) = w9 at *
  have sr := Blk11 M2.out.res
  have lr := M2.out.res.lt
  have se := Blk11 M2.out.ev
  have le := M2.out.ev.lt
  have hgr := M2.out.hr
  have hge := M2.out.he
  go_wp2_with fail
  try dsimp only [Exit.noGoto, Exit.inBlock, Exit.then]
  exact bodyPost_ret (v := .tuple #[.agg #[.int .i64 k, .int .i64 b, .int .i64 r, .int .i64 (q 0), .int .i64 (q 1), .int .i64 (q 2), .int .i64 (q 3), .int .i64 (q 4), .int .i64 (q 5), .string t, .int .u64 (d : Int)], .int .i64 x2]) (results_blk_tmp rfl rfl (put_all M2.out.res _ _ _ _ _ _ _ _ _ _ _) Tryz.underlying26 rfl (by kernel_rfl) rfl) rfl ⟨rfl, below_all M2.out.bl (Nat.le_of_lt (Nat.lt_trans M2.out.he M2.out.hr)) _ _ _ _ _ _ _ _ _ _ _⟩
set_option maxHeartbeats 4000000 in
set_option maxRecDepth 100000 in
theorem word_4_bid (S : SetD) (e : Evt) (u : ByteArray) (v1 v2 v3 v4 : Value) (w : World) (h : SetW w v1 v2 v3 v4 S) (hu : u.size ≤ 5000) (hk : e.kind ≠ 1) : Calls Tryz.prog 57 #[.agg #[v1, v2, v3, v4], e.val, .int .i64 4, .string u] w (WordPost { e with text := u } 0 w) := by
  obtain ⟨A1, c1, A2, c2, A3, c3, A4, c4, rfl, rfl, rfl, rfl⟩ := h.forms
  obtain ⟨k, b, r, p, t, d⟩ := e
  have M0 := Lib.hid (wm_new w #[.slice A1 S.ps.length c1, .slice A2 S.bs.length c2, .slice A3 S.cs.length c3, .slice A4 S.ad.length c4] (cells11 k b r p t d))
  unfold Evt.val at *
  dsimp only at *
  have dk : (k == 1) = false := by simpa using hk
  clear h hu hk
  go_enter Tryz.func57, Tryz.ntmps57
  go_wp2_with fail
  exact bodyPost_ret (v := .tuple #[.agg #[.int .i64 k, .int .i64 b, .int .i64 r, .int .i64 (p 0), .int .i64 (p 1), .int .i64 (p 2), .int .i64 (p 3), .int .i64 (p 4), .int .i64 (p 5), .string u, .int .u64 (d : Int)], .int .i64 0]) (results_blk_tmp rfl rfl (blk_third _ _ _ 26 _) Tryz.underlying26 rfl (by kernel_rfl) rfl) rfl ⟨rfl, below_three _ _ _ _⟩
set_option maxHeartbeats 4000000 in
set_option maxRecDepth 100000 in
theorem word_4_sale (S : SetD) (e : Evt) (u : ByteArray) (v1 v2 v3 v4 : Value) (w : World) (h : SetW w v1 v2 v3 v4 S) (hu : u.size ≤ 5000) (hsh : Sh w) (hk : e.kind = 1) : Calls Tryz.prog 57 #[.agg #[v1, v2, v3, v4], e.val, .int .i64 4, .string u] w (WordPost { e with text := ofL (setT u.data.toList) } 0 w) := by
  have hl : (ofL (replL 59 10 u.data.toList)).size ≤ 5000 := by
    rw [ofL_size, repl_len]
    exact hu
  have hts := trim_len (replL 59 10 u.data.toList)
  have CR := Lib.hid (fun W (b : Below w.heap.size w W) => repl_any u 59 10 W (by decide) (sh_keep hsh b) hu)
  have CT := Lib.hid (fun W => trim_any (ofL (replL 59 10 u.data.toList)) W hl)
  rw [ofL_list] at CT
  have HX : ofL (Lib.trimSuffix (replL 59 10 u.data.toList) [10]) ++ ⟨#[10]⟩ = ofL (setT u.data.toList) := by
    rw [← set_trim, show (⟨#[10]⟩ : ByteArray) = ofL [10] from rfl]
    exact (code_cat _ _).symm
  have hts2 : (ofL (Lib.trimSuffix (replL 59 10 u.data.toList) [10])).size ≤ 5000 := by
    rw [ofL_size]
    rw [repl_len] at hts
    exact Nat.le_trans hts hu
  rw [← HX]
  generalize ofL (Lib.trimSuffix (replL 59 10 u.data.toList) [10]) = y2 at *
  generalize ofL (replL 59 10 u.data.toList) = y1 at *
  have HA := fun W => add_s y2 ⟨#[10]⟩ (by show _ + 1 ≤ _; omega) W
  have HY : y2 ++ ⟨#[10]⟩ = y2 ++ ⟨#[10]⟩ := rfl
  generalize hy3 : y2 ++ ⟨#[10]⟩ = y3 at *
  obtain ⟨A1, c1, A2, c2, A3, c3, A4, c4, rfl, rfl, rfl, rfl⟩ := h.forms
  obtain ⟨k, b, r, p, t, d⟩ := e
  have M0 := Lib.hid (wm_new w #[.slice A1 S.ps.length c1, .slice A2 S.bs.length c2, .slice A3 S.cs.length c3, .slice A4 S.ad.length c4] (cells11 k b r p t d))
  unfold Evt.val at *
  dsimp only at *
  subst hk
  have MU := Lib.hid (wm_new w #[.slice A1 S.ps.length c1, .slice A2 S.bs.length c2, .slice A3 S.cs.length c3, .slice A4 S.ad.length c4] #[.int .i64 1, .int .i64 b, .int .i64 r, .int .i64 (p 0), .int .i64 (p 1), .int .i64 (p 2), .int .i64 (p 3), .int .i64 (p 4), .int .i64 (p 5), .string u, .int .u64 (d : Int)])
  clear h hu hsh HX HY hy3 hl hts M0
  go_enter Tryz.func57, Tryz.ntmps57
  go_wp2_with fail
  generalize w.heap.size + 1 + 1 = gr at *
  generalize w.heap.size + 1 = ge at *
  refine (CR.out _ MU.out.bl).mono ?_
  rintro x w1 ⟨rfl, d1⟩
  have M1 := Lib.hid (MU.out.keep d1)
  clear d1 MU CR
  have se := Blk11 M1.out.ev
  have le := M1.out.ev.lt
  go_wp2_with fail
  refine (CT.out _).mono ?_
  rintro x w2 ⟨rfl, rfl⟩
  go_upto_region 18 with fail
  have M2 : Hid (WM w _ ge gr _ #[.int .i64 1, .int .i64 b, .int .i64 r, .int .i64 (p 0), .int .i64 (p 1), .int .i64 (p 2), .int .i64 (p 3), .int .i64 (p 4), .int .i64 (p 5), .string y3, .int .u64 (d : Int)]) := (M1.out.put 9 (.string y3))
  clear se le M1
  generalize w2.setCell ⟨ge, 9, none⟩ (.string y3) = w9 at *
  have sr := Blk11 M2.out.res
  have lr := M2.out.res.lt
  have se := Blk11 M2.out.ev
  have le := M2.out.ev.lt
  have hgr := M2.out.hr
  have hge := M2.out.he
  go_wp2_with fail
  try dsimp only [Exit.noGoto, Exit.inBlock, Exit.then]
  exact bodyPost_ret (v := .tuple #[.agg #[.int .i64 1, .int .i64 b, .int .i64 r, .int .i64 (p 0), .int .i64 (p 1), .int .i64 (p 2), .int .i64 (p 3), .int .i64 (p 4), .int .i64 (p 5), .string y3, .int .u64 (d : Int)], .int .i64 0]) (results_blk_tmp rfl rfl (put_all M2.out.res _ _ _ _ _ _ _ _ _ _ _) Tryz.underlying26 rfl (by kernel_rfl) rfl) rfl ⟨rfl, below_all M2.out.bl (Nat.le_of_lt (Nat.lt_trans M2.out.he M2.out.hr)) _ _ _ _ _ _ _ _ _ _ _⟩
set_option maxHeartbeats 4000000 in
set_option maxRecDepth 100000 in
theorem word_8 (S : SetD) (e : Evt) (u : ByteArray) (v1 v2 v3 v4 : Value) (w : World) (h : SetW w v1 v2 v3 v4 S) (hu : u.size ≤ 5000) : Calls Tryz.prog 57 #[.agg #[v1, v2, v3, v4], e.val, .int .i64 8, .string u] w (WordPost { e with round := (decR u.data.toList).1 } (decR u.data.toList).2 w) := by
  have CF := Lib.hid (fun W => decimal_any u W hu)
  obtain ⟨A1, c1, A2, c2, A3, c3, A4, c4, rfl, rfl, rfl, rfl⟩ := h.forms
  obtain ⟨k, b, r, p, t, d⟩ := e
  have M0 := Lib.hid (wm_new w #[.slice A1 S.ps.length c1, .slice A2 S.bs.length c2, .slice A3 S.cs.length c3, .slice A4 S.ad.length c4] (cells11 k b r p t d))
  unfold Evt.val at *
  dsimp only at *
  generalize decR u.data.toList = q at *
  obtain ⟨q, x2⟩ := q
  dsimp only at *
  clear h hu
  go_enter Tryz.func57, Tryz.ntmps57
  go_wp2_with fail
  generalize w.heap.size + 1 + 1 = gr at *
  generalize w.heap.size + 1 = ge at *
  refine (CF.out _).mono ?_
  rintro x w1 ⟨rfl, rfl⟩
  generalize (((w.alloc (.cells #[.slice A1 S.ps.length c1, .slice A2 S.bs.length c2, .slice A3 S.cs.length c3, .slice A4 S.ad.length c4] 42)).alloc (.cells #[.int .i64 k, .int .i64 b, .int .i64 r, .int .i64 (p 0), .int .i64 (p 1), .int .i64 (p 2), .int .i64 (p 3), .int .i64 (p 4), .int .i64 (p 5), .string t, .int .u64 (d : Int)] 26)).alloc (.cells #[.int .i64 0, .int .i64 0, .int .i64 0, .int .i64 0, .int .i64 0, .int .i64 0, .int .i64 0, .int .i64 0, .int .i64 0, .string ⟨#[]⟩, .int .u64 0] 26)) = w1 at *
  have se := Blk11 M0.out.ev
  have le := M0.out.ev.lt
  go_upto_region 18 with fail
  have M2 : Hid (WM w _ ge gr _ #[.int .i64 k, .int .i64 b, .int .i64 q, .int .i64 (p 0), .int .i64 (p 1), .int .i64 (p 2), .int .i64 (p 3), .int .i64 (p 4), .int .i64 (p 5), .string t, .int .u64 (d : Int)]) := (M0.out.put 2 (.int .i64 q))
  clear se le M0
  generalize w1.setCell ⟨ge, 2, none⟩ (.int .i64 q) = w9 at *
  have sr := Blk11 M2.out.res
  have lr := M2.out.res.lt
  have se := Blk11 M2.out.ev
  have le := M2.out.ev.lt
  have hgr := M2.out.hr
  have hge := M2.out.he
  go_wp2_with fail
  try dsimp only [Exit.noGoto, Exit.inBlock, Exit.then]
  exact bodyPost_ret (v := .tuple #[.agg #[.int .i64 k, .int .i64 b, .int .i64 q, .int .i64 (p 0), .int .i64 (p 1), .int .i64 (p 2), .int .i64 (p 3), .int .i64 (p 4), .int .i64 (p 5), .string t, .int .u64 (d : Int)], .int .i64 x2]) (results_blk_tmp rfl rfl (put_all M2.out.res _ _ _ _ _ _ _ _ _ _ _) Tryz.underlying26 rfl (by kernel_rfl) rfl) rfl ⟨rfl, below_all M2.out.bl (Nat.le_of_lt (Nat.lt_trans M2.out.he M2.out.hr)) _ _ _ _ _ _ _ _ _ _ _⟩
set_option maxHeartbeats 4000000 in
set_option maxRecDepth 100000 in
theorem word_16 (S : SetD) (e : Evt) (u : ByteArray) (v1 v2 v3 v4 : Value) (w : World) (h : SetW w v1 v2 v3 v4 S) (hu : u.size ≤ 5000) : Calls Tryz.prog 57 #[.agg #[v1, v2, v3, v4], e.val, .int .i64 16, .string u] w (WordPost { e with digest := (Sum.unhV u).1 } (Sum.unhV u).2 w) := by
  have CF := Lib.hid (fun W => Sum.unhex_all u W)
  obtain ⟨A1, c1, A2, c2, A3, c3, A4, c4, rfl, rfl, rfl, rfl⟩ := h.forms
  obtain ⟨k, b, r, p, t, d⟩ := e
  have M0 := Lib.hid (wm_new w #[.slice A1 S.ps.length c1, .slice A2 S.bs.length c2, .slice A3 S.cs.length c3, .slice A4 S.ad.length c4] (cells11 k b r p t d))
  unfold Evt.val at *
  dsimp only at *
  generalize Sum.unhV u = q at *
  obtain ⟨q, x2⟩ := q
  dsimp only at *
  clear h hu
  go_enter Tryz.func57, Tryz.ntmps57
  go_wp2_with fail
  generalize w.heap.size + 1 + 1 = gr at *
  generalize w.heap.size + 1 = ge at *
  refine (CF.out _).mono ?_
  rintro x w1 ⟨rfl, d1⟩
  have M1 := Lib.hid (M0.out.keep d1)
  clear d1 M0 CF
  have se := Blk11 M1.out.ev
  have le := M1.out.ev.lt
  go_upto_region 18 with fail
  have M2 : Hid (WM w _ ge gr _ #[.int .i64 k, .int .i64 b, .int .i64 r, .int .i64 (p 0), .int .i64 (p 1), .int .i64 (p 2), .int .i64 (p 3), .int .i64 (p 4), .int .i64 (p 5), .string t, .int .u64 (q : Int)]) := (M1.out.put 10 (.int .u64 (q : Int)))
  clear se le M1
  generalize w1.setCell ⟨ge, 10, none⟩ (.int .u64 (q : Int)) = w9 at *
  have sr := Blk11 M2.out.res
  have lr := M2.out.res.lt
  have se := Blk11 M2.out.ev
  have le := M2.out.ev.lt
  have hgr := M2.out.hr
  have hge := M2.out.he
  go_wp2_with fail
  try dsimp only [Exit.noGoto, Exit.inBlock, Exit.then]
  exact bodyPost_ret (v := .tuple #[.agg #[.int .i64 k, .int .i64 b, .int .i64 r, .int .i64 (p 0), .int .i64 (p 1), .int .i64 (p 2), .int .i64 (p 3), .int .i64 (p 4), .int .i64 (p 5), .string t, .int .u64 (q : Int)], .int .i64 x2]) (results_blk_tmp rfl rfl (put_all M2.out.res _ _ _ _ _ _ _ _ _ _ _) Tryz.underlying26 rfl (by kernel_rfl) rfl) rfl ⟨rfl, below_all M2.out.bl (Nat.le_of_lt (Nat.lt_trans M2.out.he M2.out.hr)) _ _ _ _ _ _ _ _ _ _ _⟩
end Go.Proofs.YtaikmgnpfbnjjaaGreatDoor.Ev
namespace Go.Proofs.YtaikmgnpfbnjjaaGreatDoor.Ev
open Go.ChangeShapes Go.WideShapes Go.ChangeAt Go.RowKit Gn Cat Lex Ros Se
set_option linter.unusedVariables false
set_option linter.unusedSimpArgs false
/-- the setup's box, the result's block, the event under way -/
structure PM (w wx : World) (ge : Nat) (sv cs : Array Value) : Prop where
  su : Blk wx w.heap.size 42 sv
  res : Blk wx (w.heap.size + 1) 26 #[.int .i64 0, .int .i64 0, .int .i64 0, .int .i64 0, .int .i64 0, .int .i64 0, .int .i64 0, .int .i64 0, .int .i64 0, .string ⟨#[]⟩, .int .u64 0]
  ev : Blk wx ge 26 cs
  hg : w.heap.size + 1 < ge
  bl : Below w.heap.size w wx
section
variable {w wx wy : World} {ge : Nat} {sv cs : Array Value}
theorem PM.keep (h : PM w wx ge sv cs) (b : Below wx.heap.size wx wy) : PM w wy ge sv cs := ⟨h.su.below' b, h.res.below' b, h.ev.below' b, h.hg, chain0 h.bl b⟩
theorem PM.puts {a0 a1 a2 a3 a4 a5 a6 a7 a8 a9 a10 : Value} (h : PM w wx ge sv #[a0, a1, a2, a3, a4, a5, a6, a7, a8, a9, a10]) (b0 b1 b2 b3 b4 b5 b6 b7 b8 b9 b10 : Value) : PM w (((((((((((wx.setCell ⟨ge, 0, none⟩ b0).setCell ⟨ge, 1, none⟩ b1).setCell ⟨ge, 2, none⟩ b2).setCell ⟨ge, 3, none⟩ b3).setCell ⟨ge, 4, none⟩ b4).setCell ⟨ge, 5, none⟩ b5).setCell ⟨ge, 6, none⟩ b6).setCell ⟨ge, 7, none⟩ b7).setCell ⟨ge, 8, none⟩ b8).setCell ⟨ge, 9, none⟩ b9).setCell ⟨ge, 10, none⟩ b10) ge sv #[b0, b1, b2, b3, b4, b5, b6, b7, b8, b9, b10] := by
  have hs : w.heap.size ≠ ge := by have := h.hg; omega
  have hr : w.heap.size + 1 ≠ ge := by have := h.hg; omega
  exact ⟨(((((((((((h.su.far (p := ⟨ge, 0, none⟩) hs b0).far (p := ⟨ge, 1, none⟩) hs b1).far (p := ⟨ge, 2, none⟩) hs b2).far (p := ⟨ge, 3, none⟩) hs b3).far (p := ⟨ge, 4, none⟩) hs b4).far (p := ⟨ge, 5, none⟩) hs b5).far (p := ⟨ge, 6, none⟩) hs b6).far (p := ⟨ge, 7, none⟩) hs b7).far (p := ⟨ge, 8, none⟩) hs b8).far (p := ⟨ge, 9, none⟩) hs b9).far (p := ⟨ge, 10, none⟩) hs b10), (((((((((((h.res.far (p := ⟨ge, 0, none⟩) hr b0).far (p := ⟨ge, 1, none⟩) hr b1).far (p := ⟨ge, 2, none⟩) hr b2).far (p := ⟨ge, 3, none⟩) hr b3).far (p := ⟨ge, 4, none⟩) hr b4).far (p := ⟨ge, 5, none⟩) hr b5).far (p := ⟨ge, 6, none⟩) hr b6).far (p := ⟨ge, 7, none⟩) hr b7).far (p := ⟨ge, 8, none⟩) hr b8).far (p := ⟨ge, 9, none⟩) hr b9).far (p := ⟨ge, 10, none⟩) hr b10), put_all h.ev b0 b1 b2 b3 b4 b5 b6 b7 b8 b9 b10, h.hg, below_all h.bl (by have := h.hg; omega) b0 b1 b2 b3 b4 b5 b6 b7 b8 b9 b10⟩
end
theorem only_puts (wx : World) (ge : Nat) (b0 b1 b2 b3 b4 b5 b6 b7 b8 b9 b10 : Value) : Only ge wx (((((((((((wx.setCell ⟨ge, 0, none⟩ b0).setCell ⟨ge, 1, none⟩ b1).setCell ⟨ge, 2, none⟩ b2).setCell ⟨ge, 3, none⟩ b3).setCell ⟨ge, 4, none⟩ b4).setCell ⟨ge, 5, none⟩ b5).setCell ⟨ge, 6, none⟩ b6).setCell ⟨ge, 7, none⟩ b7).setCell ⟨ge, 8, none⟩ b8).setCell ⟨ge, 9, none⟩ b9).setCell ⟨ge, 10, none⟩ b10) := ((((((((((((Only.refl ge wx).put 0 b0).put 1 b1).put 2 b2).put 3 b3).put 4 b4).put 5 b5).put 6 b6).put 7 b7).put 8 b8).put 9 b9).put 10 b10)
theorem ws_only {w w' : World} {n g c : Nat} {A : Option Addr} {ws : List ByteArray} (h : WS w (.slice A n c) ws) (hA : 0 < n → ∃ b o, A = some ⟨b, o, none⟩ ∧ b ≠ g) (o : Only g w w') : WS w' (.slice A n c) ws := by
  obtain ⟨h0, A', c', h1, h2, h3, h4⟩ := h
  obtain ⟨e1, en, e2⟩ := Value.slice.inj h1
  subst e1 e2
  refine ⟨h0, A, c, by rw [en], h2, h3, fun hn => ?_⟩
  obtain ⟨b, off, e, hlt, hc⟩ := h4 hn
  obtain ⟨b', o', e', hne⟩ := hA (by omega)
  rw [e] at e'
  injection e' with e'
  injection e' with e5 e6
  subst e5 e6
  refine ⟨b, off, e, Nat.lt_of_lt_of_le hlt o.size, fun j u hu => ?_⟩
  rw [← hc j u hu]
  have := o.block b hlt hne
  unfold World.cell?
  simp only [this]
/-- what Parse has made ahead of its event -/
structure PN (w wx : World) (sv : Array Value) : Prop where
  su : Blk wx w.heap.size 42 sv
  res : Blk wx (w.heap.size + 1) 26 #[.int .i64 0, .int .i64 0, .int .i64 0, .int .i64 0, .int .i64 0, .int .i64 0, .int .i64 0, .int .i64 0, .int .i64 0, .string ⟨#[]⟩, .int .u64 0]
  bl : Below w.heap.size w wx
theorem pn_new (w : World) (sv : Array Value) : PN w ((w.alloc (.cells sv 42)).alloc (.cells #[.int .i64 0, .int .i64 0, .int .i64 0, .int .i64 0, .int .i64 0, .int .i64 0, .int .i64 0, .int .i64 0, .int .i64 0, .string ⟨#[]⟩, .int .u64 0] 26)) sv := by
  have h := Blk.new (w.alloc (.cells sv 42)) 26 #[.int .i64 0, .int .i64 0, .int .i64 0, .int .i64 0, .int .i64 0, .int .i64 0, .int .i64 0, .int .i64 0, .int .i64 0, .string ⟨#[]⟩, .int .u64 0]
  rw [World.size_alloc] at h
  exact ⟨(Blk.new w 42 sv).alloc _, h, (below_new w _).alloc (below_new w _).size _⟩
theorem PN.keep {w wx wy : World} {sv : Array Value} (h : PN w wx sv) (b : Below wx.heap.size wx wy) : PN w wy sv := ⟨h.su.below' b, h.res.below' b, chain0 h.bl b⟩
theorem PN.ev {w wx : World} {sv : Array Value} (h : PN w wx sv) (cs : Array Value) : PM w (wx.alloc (.cells cs 26)) wx.heap.size sv cs :=
  ⟨h.su.alloc _, h.res.alloc _, Blk.new wx 26 cs, h.res.lt, h.bl.alloc h.bl.size _⟩
theorem pv_long {S : SetD} {s : ByteArray} (h : 4000 < s.size) : parseV S s = (noEvt, 3) := by unfold parseV; rw [if_pos h]
theorem pv_kind {S : SetD} {s : ByteArray} (h : ¬ 4000 < s.size) (hk : kindOf (cutL s.data.toList).1 = 0) : parseV S s = (noEvt, 22) := by
  unfold parseV
  rw [if_neg h]
  dsimp only
  rw [if_pos hk]
theorem pv_words {S : SetD} {s : ByteArray} {k : Int} (h : ¬ 4000 < s.size) (hk : kindOf (cutL s.data.toList).1 = k) (h0 : k ≠ 0) (hw : isW k s = false) : parseV S s = (noEvt, 2) := by
  subst hk
  unfold parseV
  rw [if_neg h]
  dsimp only
  rw [if_neg h0, if_pos hw]
abbrev nameW (s : ByteArray) : ByteArray := ofL (cutL (cutL s.data.toList).2.1).1
theorem pv_none {S : SetD} {s : ByteArray} {k : Int} (h : ¬ 4000 < s.size) (hk : kindOf (cutL s.data.toList).1 = k) (h0 : k ≠ 0) (hw : isW k s = true) (hb : hasB k) (hn : findB S.bs (nameW s) = none) : parseV S s = (noEvt, 6) := by
  subst hk
  unfold parseV
  rw [if_neg h]
  dsimp only
  rw [if_neg h0, if_neg (by rw [show wordsL _ _ _ = true from hw]; simp), if_pos ⟨hb, hn⟩]
def endV (F : Evt × Int) : Evt × Int := if F.2 ≠ 0 then (noEvt, F.2) else if checkV F.1 ≠ 0 then (noEvt, checkV F.1) else (F.1, 0)
theorem pv_rest {S : SetD} {s : ByteArray} {k : Int} (h : ¬ 4000 < s.size) (hk : kindOf (cutL s.data.toList).1 = k) (h0 : k ≠ 0) (hw : isW k s = true) (hn : ¬ (hasB k ∧ findB S.bs (nameW s) = none)) : parseV S s = endV (fieldV S k (if hasB k then (((findB S.bs (nameW s)).getD 0 : Nat) : Int) else 0) (lastOf k (cutL s.data.toList).2.1)) := by
  subst hk
  unfold parseV endV
  rw [if_neg h]
  dsimp only
  rw [if_neg h0, if_neg (by rw [show wordsL _ _ _ = true from hw]; simp), if_neg hn]
theorem end_err {F : Evt × Int} (h : F.2 ≠ 0) : endV F = (noEvt, F.2) := by unfold endV; rw [if_pos h]
theorem end_chk {F : Evt × Int} (h : F.2 = 0) (h2 : checkV F.1 ≠ 0) : endV F = (noEvt, checkV F.1) := by unfold endV; rw [if_neg (fun x => x h), if_pos h2]
theorem end_ok {F : Evt × Int} (h : F.2 = 0) (h2 : checkV F.1 = 0) : endV F = (F.1, 0) := by unfold endV; rw [if_neg (fun x => x h), if_neg (fun x => x h2)]
theorem only_name {s : ByteArray} {k : Int} (hk : k = 6 ∨ k = 7) (hw : isW k s = true) : ofL (cutL s.data.toList).2.1 = nameW s := by
  have h : ((cutL s.data.toList).2.2 && !(cutL (cutL s.data.toList).2.1).2.2) = true := by
    unfold isW wordsL at hw
    rw [if_neg (by omega), if_neg (by omega), if_neg (by omega), if_neg (by omega)] at hw
    exact hw
  simp only [Bool.and_eq_true, Bool.not_eq_true'] at h
  show _ = ofL _
  rw [(cut_no h.2).2.1]
theorem rest_size (s : ByteArray) : (cutL s.data.toList).2.1.length ≤ s.size ∧ (nameW s).size ≤ s.size ∧ (cutL (cutL s.data.toList).2.1).2.1.length ≤ s.size := by
  have h1 := (cut_size s.data.toList).2
  have h2 := cut_size (cutL s.data.toList).2.1
  have h3 : s.data.toList.length = s.size := rfl
  rw [show (nameW s).size = (cutL (cutL s.data.toList).2.1).1.length from ofL_size _]
  omega
abbrev ParseP (q : Evt × Int) (w : World) : Ending → World → Prop := fun e w' => e = .returned (.tuple #[q.1.val, .int .i64 q.2]) ∧ Below w.heap.size w w'
theorem unhV_lt (s : ByteArray) : (Sum.unhV s).1 < 18446744073709551616 := by
  unfold Sum.unhV
  split
  · rename_i h
    split
    · decide
    · rename_i x hx
      have := Sum.unh_lt _ hx
      have h2 : s.data.toList.length = 16 := h
      rw [h2] at this
      exact Nat.lt_of_lt_of_le this (by decide)
  · decide
theorem fld_10 {S : SetD} {i : Int} {last : List UInt8} : fieldV S 10 i last = ((⟨10, i, 0, zero6, ⟨#[]⟩, (Sum.unhV (ofL last)).1⟩ : Evt), (Sum.unhV (ofL last)).2) := by
  have hsz : (ofL last).size = last.length := ofL_size last
  show (match (if last.length = 16 then Sum.unh 0 last else none) with | none => _ | some n => _) = _
  unfold Sum.unhV
  rw [hsz, ofL_list]
  by_cases h : last.length = 16
  · rw [if_pos h, if_pos h]
    cases Sum.unh 0 last <;> rfl
  · rw [if_neg h, if_neg h]
theorem setT_len (l : List UInt8) : (setT l).length ≤ l.length + 1 := by
  unfold setT
  split
  · rw [repl_len]; omega
  · rw [List.length_append, repl_len]; simp
theorem slice0 (A : Option Addr) (c : Nat) : True := trivial
end Go.Proofs.YtaikmgnpfbnjjaaGreatDoor.Ev
