/- Plain: what Decode accepts is the encoding of what it answers. Contract of event.word. Printed by gen_eva2.py. -/
import Derived.Test.YtaikmgnpfbnjjaaGreatDoorPu19
import Derived.Test.YtaikmgnpfbnjjaaGreatDoorPu29
import Derived.Test.YtaikmgnpfbnjjaaGreatDoorPu31
import Derived.Test.YtaikmgnpfbnjjaaGreatDoorPu12
import Derived.Test.YtaikmgnpfbnjjaaGreatDoorPu13
import Derived.Test.YtaikmgnpfbnjjaaGreatDoorPu15
namespace Go.Proofs.YtaikmgnpfbnjjaaGreatDoor.Ev
open Go.ChangeShapes Go.WideShapes Go.ChangeAt Go.RowKit Gn Cat Lex
set_option linter.unusedVariables false
set_option linter.unusedSimpArgs false
theorem evEq_refl (e : Evt) : evEq e e = true := by
  unfold evEq
  have h1 : eq6 e.want e.want = true := (eq6_iff _ _).2 fun _ _ => rfl
  have h2 : eqB e.text e.text = true := eqB_iff.2 rfl
  rw [h1, h2]
  simp
end Go.Proofs.YtaikmgnpfbnjjaaGreatDoor.Ev
namespace Go.Proofs.YtaikmgnpfbnjjaaGreatDoor.Ev
open Go.ChangeShapes Go.WideShapes Go.ChangeAt Go.RowKit Gn Cat Lex Ros Se
set_option linter.unusedVariables false
set_option linter.unusedSimpArgs false
/-- the boxes of the setup and of the event, the result's block -/
structure WM (w wx : World) (ge gr : Nat) (sv cs : Array Value) : Prop where
  su : Blk wx w.heap.size 42 sv
  ev : Blk wx ge 26 cs
  res : Blk wx gr 26 #[.int .i64 0, .int .i64 0, .int .i64 0, .int .i64 0, .int .i64 0, .int .i64 0, .int .i64 0, .int .i64 0, .int .i64 0, .string ⟨#[]⟩, .int .u64 0]
  he : w.heap.size < ge
  hr : ge < gr
  bl : Below w.heap.size w wx
section
variable {w wx wy : World} {ge gr : Nat} {sv cs : Array Value}
theorem WM.keep (h : WM w wx ge gr sv cs) (b : Below wx.heap.size wx wy) : WM w wy ge gr sv cs := ⟨h.su.below' b, h.ev.below' b, h.res.below' b, h.he, h.hr, chain0 h.bl b⟩
theorem WM.put (h : WM w wx ge gr sv cs) (i : Nat) (u : Value) : WM w (wx.setCell ⟨ge, i, none⟩ u) ge gr sv (cs.setIfInBounds i u) :=
  ⟨h.su.far (p := ⟨ge, i, none⟩) (Nat.ne_of_lt h.he) u, h.ev.put i u, h.res.far (p := ⟨ge, i, none⟩) (Nat.ne_of_gt h.hr) u, h.he, h.hr, h.bl.setCell (p := ⟨ge, i, none⟩) (Nat.le_of_lt h.he) u⟩
end
theorem wm_new (w : World) (sv cs : Array Value) : WM w (((w.alloc (.cells sv 42)).alloc (.cells cs 26)).alloc (.cells #[.int .i64 0, .int .i64 0, .int .i64 0, .int .i64 0, .int .i64 0, .int .i64 0, .int .i64 0, .int .i64 0, .int .i64 0, .string ⟨#[]⟩, .int .u64 0] 26)) (w.heap.size + 1) (w.heap.size + 1 + 1) sv cs := by
  have h1 := Blk.new (w.alloc (.cells sv 42)) 26 cs
  rw [World.size_alloc] at h1
  have h2 := Blk.new ((w.alloc (.cells sv 42)).alloc (.cells cs 26)) 26 #[.int .i64 0, .int .i64 0, .int .i64 0, .int .i64 0, .int .i64 0, .int .i64 0, .int .i64 0, .int .i64 0, .int .i64 0, .string ⟨#[]⟩, .int .u64 0]
  rw [World.size_alloc, World.size_alloc] at h2
  exact ⟨((Blk.new w 42 sv).alloc _).alloc _, h1.alloc _, h2, by omega, by omega, below_three _ _ _ _⟩
theorem blk_third (w : World) (x y : Obj) (t : TypeId) (cs : Array Value) : Blk (((w.alloc x).alloc y).alloc (.cells cs t)) (w.heap.size + 1 + 1) t cs := by
  have h2 := Blk.new ((w.alloc x).alloc y) t cs
  rw [World.size_alloc, World.size_alloc] at h2
  exact h2
abbrev WordPost (e : Evt) (x : Int) (w : World) : Ending → World → Prop := fun r w' => r = .returned (.tuple #[e.val, .int .i64 x]) ∧ Below w.heap.size w w'
theorem find_ok {l : List Bid} {n : ByteArray} {i : Nat} (h : findB l n = some i) : Ros.findI l n = (i : Int) ∧ Ros.findOk l n = true := by
  unfold Ros.findI Ros.findOk
  rw [h]
  exact ⟨rfl, rfl⟩
theorem find_no {l : List Bid} {n : ByteArray} (h : findB l n = none) : Ros.findI l n = 0 ∧ Ros.findOk l n = false := by
  unfold Ros.findI Ros.findOk
  rw [h]
  exact ⟨rfl, rfl⟩
set_option maxHeartbeats 4000000 in
set_option maxRecDepth 100000 in
theorem word_1 (S : SetD) (e : Evt) (u : ByteArray) (v1 v2 v3 v4 : Value) (w : World) (h : SetW w v1 v2 v3 v4 S) (hu : u.size ≤ 5000) : Calls Tryz.prog 57 #[.agg #[v1, v2, v3, v4], e.val, .int .i64 1, .string u] w (WordPost (if findB S.bs u = none then e else { e with bidder := Ros.findI S.bs u }) (if findB S.bs u = none then 6 else 0) w) := by
  have CF := Lib.hid (fun W (bw : Below w.heap.size w W) => Ros.find_any S.bs _ u W h.lb (h.b.keep bw))
  unfold Ros.FindPost at CF
  obtain ⟨A1, c1, A2, c2, A3, c3, A4, c4, rfl, rfl, rfl, rfl⟩ := h.forms
  obtain ⟨k, b, r, p, t, d⟩ := e
  have M0 := Lib.hid (wm_new w #[.slice A1 S.ps.length c1, .slice A2 S.bs.length c2, .slice A3 S.cs.length c3, .slice A4 S.ad.length c4] (cells11 k b r p t d))
  unfold Evt.val at *
  dsimp only at *
  cases hf : findB S.bs u with
  | none =>
    obtain ⟨q1, q2⟩ := find_no hf
    rw [q1, q2] at CF
    rw [if_pos rfl, if_pos rfl]
    clear hf q1 q2 h hu
    go_enter Tryz.func57, Tryz.ntmps57
    go_wp2_with fail
    generalize w.heap.size + 1 + 1 = gr at *
    generalize w.heap.size + 1 = ge at *
    refine (CF.out _ M0.out.bl).mono ?_
    rintro x w1 ⟨rfl, d1⟩
    have M1 := Lib.hid (M0.out.keep d1)
    clear d1 M0 CF
    have sr := Blk11 M1.out.res
    have lr := M1.out.res.lt
    have se := Blk11 M1.out.ev
    have le := M1.out.ev.lt
    have hgr := M1.out.hr
    have hge := M1.out.he
    go_wp2_with fail
    try dsimp only [Exit.noGoto, Exit.inBlock, Exit.then]
    exact bodyPost_ret (v := .tuple #[.agg #[.int .i64 k, .int .i64 b, .int .i64 r, .int .i64 (p 0), .int .i64 (p 1), .int .i64 (p 2), .int .i64 (p 3), .int .i64 (p 4), .int .i64 (p 5), .string t, .int .u64 (d : Int)], .int .i64 6]) (results_blk_tmp rfl rfl (put_all M1.out.res _ _ _ _ _ _ _ _ _ _ _) Tryz.underlying26 rfl (by kernel_rfl) rfl) rfl ⟨rfl, below_all M1.out.bl (Nat.le_of_lt (Nat.lt_trans M1.out.he M1.out.hr)) _ _ _ _ _ _ _ _ _ _ _⟩
  | some i =>
    obtain ⟨q1, q2⟩ := find_ok hf
    rw [q2] at CF
    rw [if_neg (by simp), if_neg (by simp)]
    generalize Ros.findI S.bs u = fi at *
    clear hf q1 q2 h hu
    go_enter Tryz.func57, Tryz.ntmps57
    go_wp2_with fail
    generalize w.heap.size + 1 + 1 = gr at *
    generalize w.heap.size + 1 = ge at *
    refine (CF.out _ M0.out.bl).mono ?_
    rintro x w1 ⟨rfl, d1⟩
    have M1 := Lib.hid (M0.out.keep d1)
    clear d1 M0 CF
    have se := Blk11 M1.out.ev
    have le := M1.out.ev.lt
    go_upto_region 18 with fail
    have M2 : Hid (WM w _ ge gr _ #[.int .i64 k, .int .i64 fi, .int .i64 r, .int .i64 (p 0), .int .i64 (p 1), .int .i64 (p 2), .int .i64 (p 3), .int .i64 (p 4), .int .i64 (p 5), .string t, .int .u64 (d : Int)]) := M1.out.put 1 (.int .i64 fi)
    clear se le M1
    generalize w1.setCell ⟨ge, 1, none⟩ (.int .i64 fi) = w2 at *
    have sr := Blk11 M2.out.res
    have lr := M2.out.res.lt
    have se := Blk11 M2.out.ev
    have le := M2.out.ev.lt
    have hgr := M2.out.hr
    have hge := M2.out.he
    go_wp2_with fail
    try dsimp only [Exit.noGoto, Exit.inBlock, Exit.then]
    exact bodyPost_ret (v := .tuple #[.agg #[.int .i64 k, .int .i64 fi, .int .i64 r, .int .i64 (p 0), .int .i64 (p 1), .int .i64 (p 2), .int .i64 (p 3), .int .i64 (p 4), .int .i64 (p 5), .string t, .int .u64 (d : Int)], .int .i64 0]) (results_blk_tmp rfl rfl (put_all M2.out.res _ _ _ _ _ _ _ _ _ _ _) Tryz.underlying26 rfl (by kernel_rfl) rfl) rfl ⟨rfl, below_all M2.out.bl (Nat.le_of_lt (Nat.lt_trans M2.out.he M2.out.hr)) _ _ _ _ _ _ _ _ _ _ _⟩
set_option maxHeartbeats 4000000 in
set_option maxRecDepth 100000 in
theorem word_2 (S : SetD) (e : Evt) (u : ByteArray) (v1 v2 v3 v4 : Value) (w : World) (h : SetW w v1 v2 v3 v4 S) (hu : u.size ≤ 5000) : Calls Tryz.prog 57 #[.agg #[v1, v2, v3, v4], e.val, .int .i64 2, .string u] w (WordPost { e with want := (parseF S.ps u).1 } (parseF S.ps u).2 w) := by
  have CF := Lib.hid (fun W (bw : Below w.heap.size w W) => Cat.parse_any S.ps _ u W h.lp (h.p.keep bw) h.np hu)
  obtain ⟨A1, c1, A2, c2, A3, c3, A4, c4, rfl, rfl, rfl, rfl⟩ := h.forms
  obtain ⟨k, b, r, p, t, d⟩ := e
  have M0 := Lib.hid (wm_new w #[.slice A1 S.ps.length c1, .slice A2 S.bs.length c2, .slice A3 S.cs.length c3, .slice A4 S.ad.length c4] (cells11 k b r p t d))
  unfold Evt.val at *
  dsimp only at *
  generalize parseF S.ps u = q at *
  obtain ⟨q, x2⟩ := q
  unfold Cat.ParsePost at CF
  dsimp only at *
  clear h hu
  go_enter Tryz.func57, Tryz.ntmps57
  go_wp2_with fail
  generalize w.heap.size + 1 + 1 = gr at *
  generalize w.heap.size + 1 = ge at *
  refine (CF.out _ M0.out.bl).mono ?_
  rintro x w1 ⟨rfl, d1⟩
  have M1 := Lib.hid (M0.out.keep d1)
  clear d1 M0 CF
  have se := Blk11 M1.out.ev
  have le := M1.out.ev.lt
  go_upto_region 18 with fail
  have M2 : Hid (WM w _ ge gr _ #[.int .i64 k, .int .i64 b, .int .i64 r, .int .i64 (q 0), .int .i64 (q 1), .int .i64 (q 2), .int .i64 (q 3), .int .i64 (q 4), .int .i64 (q 5), .string t, .int .u64 (d : Int)]) := ((((((M1.out.put 3 (.int .i64 (q 0))).put 4 (.int .i64 (q 1))).put 5 (.int .i64 (q 2))).put 6 (.int .i64 (q 3))).put 7 (.int .i64 (q 4))).put 8 (.int .i64 (q 5)))
  clear se le M1
  generalize (((((w1.setCell ⟨ge, 3, none⟩ (.int .i64 (q 0))).setCell ⟨ge, 4, none⟩ (.int .i64 (q 1))).setCell ⟨ge, 5, none⟩ (.int .i64 (q 2))).setCell ⟨ge, 6, none⟩ (.int .i64 (q 3))).setCell ⟨ge, 7, none⟩ (.int .i64 (q 4))).setCell ⟨ge, 8, none⟩ (.int .i64 (q 5)) = w9 at *
  have sr := Blk11 M2.out.res
  have lr := M2.out.res.lt
  have se := Blk11 M2.out.ev
  have le := M2.out.ev.lt
  have hgr := M2.out.hr
  have hge := M2.out.he
  go_wp2_with fail
  try dsimp only [Exit.noGoto, Exit.inBlock, Exit.then]
  exact bodyPost_ret (v := .tuple #[.agg #[.int .i64 k, .int .i64 b, .int .i64 r, .int .i64 (q 0), .int .i64 (q 1), .int .i64 (q 2), .int .i64 (q 3), .int .i64 (q 4), .int .i64 (q 5), .string t, .int .u64 (d : Int)], .int .i64 x2]) (results_blk_tmp rfl rfl (put_all M2.out.res _ _ _ _ _ _ _ _ _ _ _) Tryz.underlying26 rfl (by kernel_rfl) rfl) rfl ⟨rfl, below_all M2.out.bl (Nat.le_of_lt (Nat.lt_trans M2.out.he M2.out.hr)) _ _ _ _ _ _ _ _ _ _ _⟩
set_option maxHeartbeats 4000000 in
set_option maxRecDepth 100000 in
theorem word_4_bid (S : SetD) (e : Evt) (u : ByteArray) (v1 v2 v3 v4 : Value) (w : World) (h : SetW w v1 v2 v3 v4 S) (hu : u.size ≤ 5000) (hk : e.kind ≠ 1) : Calls Tryz.prog 57 #[.agg #[v1, v2, v3, v4], e.val, .int .i64 4, .string u] w (WordPost { e with text := u } 0 w) := by
  obtain ⟨A1, c1, A2, c2, A3, c3, A4, c4, rfl, rfl, rfl, rfl⟩ := h.forms
  obtain ⟨k, b, r, p, t, d⟩ := e
  have M0 := Lib.hid (wm_new w #[.slice A1 S.ps.length c1, .slice A2 S.bs.length c2, .slice A3 S.cs.length c3, .slice A4 S.ad.length c4] (cells11 k b r p t d))
  unfold Evt.val at *
  dsimp only at *
  have dk : (k == 1) = false := by simpa using hk
  clear h hu hk
  go_enter Tryz.func57, Tryz.ntmps57
  go_wp2_with fail
  exact bodyPost_ret (v := .tuple #[.agg #[.int .i64 k, .int .i64 b, .int .i64 r, .int .i64 (p 0), .int .i64 (p 1), .int .i64 (p 2), .int .i64 (p 3), .int .i64 (p 4), .int .i64 (p 5), .string u, .int .u64 (d : Int)], .int .i64 0]) (results_blk_tmp rfl rfl (blk_third _ _ _ 26 _) Tryz.underlying26 rfl (by kernel_rfl) rfl) rfl ⟨rfl, below_three _ _ _ _⟩
set_option maxHeartbeats 4000000 in
set_option maxRecDepth 100000 in
theorem word_4_sale (S : SetD) (e : Evt) (u : ByteArray) (v1 v2 v3 v4 : Value) (w : World) (h : SetW w v1 v2 v3 v4 S) (hu : u.size ≤ 5000) (hsh : Sh w) (hk : e.kind = 1) : Calls Tryz.prog 57 #[.agg #[v1, v2, v3, v4], e.val, .int .i64 4, .string u] w (WordPost { e with text := ofL (setT u.data.toList) } 0 w) := by
  have hl : (ofL (replL 59 10 u.data.toList)).size ≤ 5000 := by
    rw [ofL_size, repl_len]
    exact hu
  have hts := trim_len (replL 59 10 u.data.toList)
  have CR := Lib.hid (fun W (b : Below w.heap.size w W) => repl_any u 59 10 W (by decide) (sh_keep hsh b) hu)
  have CT := Lib.hid (fun W => trim_any (ofL (replL 59 10 u.data.toList)) W hl)
  rw [ofL_list] at CT
  have HX : ofL (Lib.trimSuffix (replL 59 10 u.data.toList) [10]) ++ ⟨#[10]⟩ = ofL (setT u.data.toList) := by
    rw [← set_trim, show (⟨#[10]⟩ : ByteArray) = ofL [10] from rfl]
    exact (code_cat _ _).symm
  have hts2 : (ofL (Lib.trimSuffix (replL 59 10 u.data.toList) [10])).size ≤ 5000 := by
    rw [ofL_size]
    rw [repl_len] at hts
    exact Nat.le_trans hts hu
  rw [← HX]
  generalize ofL (Lib.trimSuffix (replL 59 10 u.data.toList) [10]) = y2 at *
  generalize ofL (replL 59 10 u.data.toList) = y1 at *
  have HA := fun W => add_s y2 ⟨#[10]⟩ (by show _ + 1 ≤ _; omega) W
  have HY : y2 ++ ⟨#[10]⟩ = y2 ++ ⟨#[10]⟩ := rfl
  generalize hy3 : y2 ++ ⟨#[10]⟩ = y3 at *
  obtain ⟨A1, c1, A2, c2, A3, c3, A4, c4, rfl, rfl, rfl, rfl⟩ := h.forms
  obtain ⟨k, b, r, p, t, d⟩ := e
  have M0 := Lib.hid (wm_new w #[.slice A1 S.ps.length c1, .slice A2 S.bs.length c2, .slice A3 S.cs.length c3, .slice A4 S.ad.length c4] (cells11 k b r p t d))
  unfold Evt.val at *
  dsimp only at *
  subst hk
  have MU := Lib.hid (wm_new w #[.slice A1 S.ps.length c1, .slice A2 S.bs.length c2, .slice A3 S.cs.length c3, .slice A4 S.ad.length c4] #[.int .i64 1, .int .i64 b, .int .i64 r, .int .i64 (p 0), .int .i64 (p 1), .int .i64 (p 2), .int .i64 (p 3), .int .i64 (p 4), .int .i64 (p 5), .string u, .int .u64 (d : Int)])
  clear h hu hsh HX HY hy3 hl hts M0
  go_enter Tryz.func57, Tryz.ntmps57
  go_wp2_with fail
  generalize w.heap.size + 1 + 1 = gr at *
  generalize w.heap.size + 1 = ge at *
  refine (CR.out _ MU.out.bl).mono ?_
  rintro x w1 ⟨rfl, d1⟩
  have M1 := Lib.hid (MU.out.keep d1)
  clear d1 MU CR
  have se := Blk11 M1.out.ev
  have le := M1.out.ev.lt
  go_wp2_with fail
  refine (CT.out _).mono ?_
  rintro x w2 ⟨rfl, rfl⟩
  go_upto_region 18 with fail
  have M2 : Hid (WM w _ ge gr _ #[.int .i64 1, .int .i64 b, .int .i64 r, .int .i64 (p 0), .int .i64 (p 1), .int .i64 (p 2), .int .i64 (p 3), .int .i64 (p 4), .int .i64 (p 5), .string y3, .int .u64 (d : Int)]) := (M1.out.put 9 (.string y3))
  clear se le M1
  generalize w2.setCell ⟨ge, 9, none⟩ (.string y3) = w9 at *
  have sr := Blk11 M2.out.res
  have lr := M2.out.res.lt
  have se := Blk11 M2.out.ev
  have le := M2.out.ev.lt
  have hgr := M2.out.hr
  have hge := M2.out.he
  go_wp2_with fail
  try dsimp only [Exit.noGoto, Exit.inBlock, Exit.then]
  exact bodyPost_ret (v := .tuple #[.agg #[.int .i64 1, .int .i64 b, .int .i64 r, .int .i64 (p 0), .int .i64 (p 1), .int .i64 (p 2), .int .i64 (p 3), .int .i64 (p 4), .int .i64 (p 5), .string y3, .int .u64 (d : Int)], .int .i64 0]) (results_blk_tmp rfl rfl (put_all M2.out.res _ _ _ _ _ _ _ _ _ _ _) Tryz.underlying26 rfl (by kernel_rfl) rfl) rfl ⟨rfl, below_all M2.out.bl (Nat.le_of_lt (Nat.lt_trans M2.out.he M2.out.hr)) _ _ _ _ _ _ _ _ _ _ _⟩
set_option maxHeartbeats 4000000 in
set_option maxRecDepth 100000 in
theorem word_8 (S : SetD) (e : Evt) (u : ByteArray) (v1 v2 v3 v4 : Value) (w : World) (h : SetW w v1 v2 v3 v4 S) (hu : u.size ≤ 5000) : Calls Tryz.prog 57 #[.agg #[v1, v2, v3, v4], e.val, .int .i64 8, .string u] w (WordPost { e with round := (decR u.data.toList).1 } (decR u.data.toList).2 w) := by
  have CF := Lib.hid (fun W => decimal_any u W hu)
  obtain ⟨A1, c1, A2, c2, A3, c3, A4, c4, rfl, rfl, rfl, rfl⟩ := h.forms
  obtain ⟨k, b, r, p, t, d⟩ := e
  have M0 := Lib.hid (wm_new w #[.slice A1 S.ps.length c1, .slice A2 S.bs.length c2, .slice A3 S.cs.length c3, .slice A4 S.ad.length c4] (cells11 k b r p t d))
  unfold Evt.val at *
  dsimp only at *
  generalize decR u.data.toList = q at *
  obtain ⟨q, x2⟩ := q
  dsimp only at *
  clear h hu
  go_enter Tryz.func57, Tryz.ntmps57
  go_wp2_with fail
  generalize w.heap.size + 1 + 1 = gr at *
  generalize w.heap.size + 1 = ge at *
  refine (CF.out _).mono ?_
  rintro x w1 ⟨rfl, rfl⟩
  generalize (((w.alloc (.cells #[.slice A1 S.ps.length c1, .slice A2 S.bs.length c2, .slice A3 S.cs.length c3, .slice A4 S.ad.length c4] 42)).alloc (.cells #[.int .i64 k, .int .i64 b, .int .i64 r, .int .i64 (p 0), .int .i64 (p 1), .int .i64 (p 2), .int .i64 (p 3), .int .i64 (p 4), .int .i64 (p 5), .string t, .int .u64 (d : Int)] 26)).alloc (.cells #[.int .i64 0, .int .i64 0, .int .i64 0, .int .i64 0, .int .i64 0, .int .i64 0, .int .i64 0, .int .i64 0, .int .i64 0, .string ⟨#[]⟩, .int .u64 0] 26)) = w1 at *
  have se := Blk11 M0.out.ev
  have le := M0.out.ev.lt
  go_upto_region 18 with fail
  have M2 : Hid (WM w _ ge gr _ #[.int .i64 k, .int .i64 b, .int .i64 q, .int .i64 (p 0), .int .i64 (p 1), .int .i64 (p 2), .int .i64 (p 3), .int .i64 (p 4), .int .i64 (p 5), .string t, .int .u64 (d : Int)]) := (M0.out.put 2 (.int .i64 q))
  clear se le M0
  generalize w1.setCell ⟨ge, 2, none⟩ (.int .i64 q) = w9 at *
  have sr := Blk11 M2.out.res
  have lr := M2.out.res.lt
  have se := Blk11 M2.out.ev
  have le := M2.out.ev.lt
  have hgr := M2.out.hr
  have hge := M2.out.he
  go_wp2_with fail
  try dsimp only [Exit.noGoto, Exit.inBlock, Exit.then]
  exact bodyPost_ret (v := .tuple #[.agg #[.int .i64 k, .int .i64 b, .int .i64 q, .int .i64 (p 0), .int .i64 (p 1), .int .i64 (p 2), .int .i64 (p 3), .int .i64 (p 4), .int .i64 (p 5), .string t, .int .u64 (d : Int)], .int .i64 x2]) (results_blk_tmp rfl rfl (put_all M2.out.res _ _ _ _ _ _ _ _ _ _ _) Tryz.underlying26 rfl (by kernel_rfl) rfl) rfl ⟨rfl, below_all M2.out.bl (Nat.le_of_lt (Nat.lt_trans M2.out.he M2.out.hr)) _ _ _ _ _ _ _ _ _ _ _⟩
set_option maxHeartbeats 4000000 in
set_option maxRecDepth 100000 in
theorem word_16 (S : SetD) (e : Evt) (u : ByteArray) (v1 v2 v3 v4 : Value) (w : World) (h : SetW w v1 v2 v3 v4 S) (hu : u.size ≤ 5000) : Calls Tryz.prog 57 #[.agg #[v1, v2, v3, v4], e.val, .int .i64 16, .string u] w (WordPost { e with digest := (Sum.unhV u).1 } (Sum.unhV u).2 w) := by
  have CF := Lib.hid (fun W => Sum.unhex_all u W)
  obtain ⟨A1, c1, A2, c2, A3, c3, A4, c4, rfl, rfl, rfl, rfl⟩ := h.forms
  obtain ⟨k, b, r, p, t, d⟩ := e
  have M0 := Lib.hid (wm_new w #[.slice A1 S.ps.length c1, .slice A2 S.bs.length c2, .slice A3 S.cs.length c3, .slice A4 S.ad.length c4] (cells11 k b r p t d))
  unfold Evt.val at *
  dsimp only at *
  generalize Sum.unhV u = q at *
  obtain ⟨q, x2⟩ := q
  dsimp only at *
  clear h hu
  go_enter Tryz.func57, Tryz.ntmps57
  go_wp2_with fail
  generalize w.heap.size + 1 + 1 = gr at *
  generalize w.heap.size + 1 = ge at *
  refine (CF.out _).mono ?_
  rintro x w1 ⟨rfl, d1⟩
  have M1 := Lib.hid (M0.out.keep d1)
  clear d1 M0 CF
  have se := Blk11 M1.out.ev
  have le := M1.out.ev.lt
  go_upto_region 18 with fail
  have M2 : Hid (WM w _ ge gr _ #[.int .i64 k, .int .i64 b, .int .i64 r, .int .i64 (p 0), .int .i64 (p 1), .int .i64 (p 2), .int .i64 (p 3), .int .i64 (p 4), .int .i64 (p 5), .string t, .int .u64 (q : Int)]) := (M1.out.put 10 (.int .u64 (q : Int)))
  clear se le M1
  generalize w1.setCell ⟨ge, 10, none⟩ (.int .u64 (q : Int)) = w9 at *
  have sr := Blk11 M2.out.res
  have lr := M2.out.res.lt
  have se := Blk11 M2.out.ev
  have le := M2.out.ev.lt
  have hgr := M2.out.hr
  have hge := M2.out.he
  go_wp2_with fail
  try dsimp only [Exit.noGoto, Exit.inBlock, Exit.then]
  exact bodyPost_ret (v := .tuple #[.agg #[.int .i64 k, .int .i64 b, .int .i64 r, .int .i64 (p 0), .int .i64 (p 1), .int .i64 (p 2), .int .i64 (p 3), .int .i64 (p 4), .int .i64 (p 5), .string t, .int .u64 (q : Int)], .int .i64 x2]) (results_blk_tmp rfl rfl (put_all M2.out.res _ _ _ _ _ _ _ _ _ _ _) Tryz.underlying26 rfl (by kernel_rfl) rfl) rfl ⟨rfl, below_all M2.out.bl (Nat.le_of_lt (Nat.lt_trans M2.out.he M2.out.hr)) _ _ _ _ _ _ _ _ _ _ _⟩
end Go.Proofs.YtaikmgnpfbnjjaaGreatDoor.Ev
