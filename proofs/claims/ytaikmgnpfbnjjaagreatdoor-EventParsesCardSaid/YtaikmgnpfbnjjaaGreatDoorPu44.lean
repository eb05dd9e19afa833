/- Contract of event.Decode. Printed by gen_ev7.py. -/
import Derived.Test.YtaikmgnpfbnjjaaGreatDoorPu28
namespace Go.Proofs.YtaikmgnpfbnjjaaGreatDoor.Ev
open Go.ChangeShapes Go.WideShapes Go.ChangeAt Go.RowKit Gn Cat Lex Se
set_option linter.unusedVariables false
set_option linter.unusedSimpArgs false
abbrev DecPost (q : Evt × Int) (w : World) : Ending → World → Prop := fun e w' => e = .returned (.tuple #[q.1.val, .int .i64 q.2]) ∧ Below w.heap.size w w'
/-- the reader, the event under way, the result's block -/
structure DM (w wx : World) (g x : Nat) (s : ByteArray) (e : Int) (cs : Array Value) : Prop where
  rb : RB wx g s e
  ev : Blk wx x 26 cs
  res : Blk wx w.heap.size 26 #[.int .i64 0, .int .i64 0, .int .i64 0, .int .i64 0, .int .i64 0, .int .i64 0, .int .i64 0, .int .i64 0, .int .i64 0, .string ⟨#[]⟩, .int .u64 0]
  hg : w.heap.size < g
  hx : w.heap.size < x
  ne : g ≠ x
  bl : Below w.heap.size w wx
section
variable {w wx wy : World} {g x : Nat} {s s' : ByteArray} {e e' : Int} {cs : Array Value}
theorem DM.read (h : DM w wx g x s e cs) (k : RB wy g s' e') (o : Only g wx wy) : DM w wy g x s' e' cs :=
  ⟨k, h.ev.only o (Ne.symm h.ne), h.res.only o (by have := h.hg; omega), h.hg, h.hx, h.ne, h.bl.trans (o.below (Nat.le_of_lt h.hg) h.bl.size)⟩
theorem DM.put (h : DM w wx g x s e cs) (i : Nat) (u : Value) : DM w (wx.setCell ⟨x, i, none⟩ u) g x s e (cs.setIfInBounds i u) :=
  ⟨h.rb.far (p := ⟨x, i, none⟩) h.ne u, h.ev.put i u, h.res.far (p := ⟨x, i, none⟩) (by have := h.hx; show w.heap.size ≠ x; omega) u, h.hg, h.hx, h.ne, h.bl.setCell (p := ⟨x, i, none⟩) (Nat.le_of_lt h.hx) u⟩
end
theorem dm_new {w w1 w2 : World} {s' : ByteArray} {e' : Int} {cs : Array Value} (h1 : Below (w.alloc (.cells #[.int .i64 0, .int .i64 0, .int .i64 0, .int .i64 0, .int .i64 0, .int .i64 0, .int .i64 0, .int .i64 0, .int .i64 0, .string ⟨#[]⟩, .int .u64 0] 26)).heap.size (w.alloc (.cells #[.int .i64 0, .int .i64 0, .int .i64 0, .int .i64 0, .int .i64 0, .int .i64 0, .int .i64 0, .int .i64 0, .int .i64 0, .string ⟨#[]⟩, .int .u64 0] 26)) w1) (g : Nat) (hg : g = (w.alloc (.cells #[.int .i64 0, .int .i64 0, .int .i64 0, .int .i64 0, .int .i64 0, .int .i64 0, .int .i64 0, .int .i64 0, .int .i64 0, .string ⟨#[]⟩, .int .u64 0] 26)).heap.size) (k : RB w2 g s' e') (o : Only g w1 w2) : DM w (w2.alloc (.cells cs 26)) g w2.heap.size s' e' cs := by
  have hr := ((Blk.new w 26 #[.int .i64 0, .int .i64 0, .int .i64 0, .int .i64 0, .int .i64 0, .int .i64 0, .int .i64 0, .int .i64 0, .int .i64 0, .string ⟨#[]⟩, .int .u64 0]).below' h1).only o (by rw [hg, World.size_alloc]; omega)
  rw [World.size_alloc] at hg
  have hb : Below w.heap.size w w2 := (chain1 (Below.refl _ _) h1).trans (o.below (by omega) (chain1 (Below.refl _ _) h1).size)
  exact ⟨k.alloc _, Blk.new w2 26 cs, hr.alloc _, by omega, hr.lt, by have := k.lt; omega, hb.alloc hb.size _⟩
/-- a read of a number -/
theorem read_any (most : Nat) (s : ByteArray) (e : Int) (g : Nat) (W : World) (h : RB W g s e) (hm : most < 18446744073709551616) (hs : s.size ≤ 5000) : Calls Tryz.prog 33 #[.pointer (some ⟨g, 0, none⟩), .int .u64 (most : Int)] W fun r w' => ∃ (n : Nat) (s' : ByteArray) (e' : Int), r = .returned (.int .u64 (n : Int)) ∧ (n, rd s' e') = rdU most (rd s e) ∧ n ≤ most ∧ s'.size ≤ 5000 ∧ RB w' g s' e' ∧ Only g W w' := by
  refine (ruint_any most s e g W h hm hs).mono ?_
  rintro r w' ⟨s', e', rfl, h1, h2, h3⟩
  exact ⟨_, s', e', rfl, by rw [h2], rdU_le most (rd s e), Nat.le_trans (rd_size h2) hs, h1, h3⟩
theorem readT_any (s : ByteArray) (e : Int) (g : Nat) (W : World) (h : RB W g s e) (hs : s.size ≤ 5000) : Calls Tryz.prog 36 #[.pointer (some ⟨g, 0, none⟩), .int .i64 4000] W fun r w' => ∃ (t : ByteArray) (s' : ByteArray) (e' : Int), r = .returned (.string t) ∧ (t, rd s' e') = rdT 4000 (rd s e) ∧ RB w' g s' e' ∧ Only g W w' := by
  refine (rtext_any 4000 s e g W h (by decide) (by decide) hs).mono ?_
  rintro r w' ⟨s', e', rfl, h1, h2, h3⟩
  exact ⟨_, s', e', rfl, by rw [h2], h1, h3⟩
theorem DM.last {w wx wy : World} {g x : Nat} {s : ByteArray} {e : Int} {cs : Array Value} (h : DM w wx g x s e cs) (o : Only g wx wy) : Blk wy x 26 cs ∧ Blk wy w.heap.size 26 #[.int .i64 0, .int .i64 0, .int .i64 0, .int .i64 0, .int .i64 0, .int .i64 0, .int .i64 0, .int .i64 0, .int .i64 0, .string ⟨#[]⟩, .int .u64 0] ∧ Below w.heap.size w wy :=
  ⟨h.ev.only o (Ne.symm h.ne), h.res.only o (by have := h.hg; omega), h.bl.trans (o.below (Nat.le_of_lt h.hg) h.bl.size)⟩
theorem dec_long {s : ByteArray} (h : 4000 < s.size) : decodeV s = (noEvt, 3) := by unfold decodeV; rw [if_pos h]
theorem dec_fail {s : ByteArray} (h : ¬ 4000 < s.size) (D : Evt × Rd) (hD : decodeR s = D) (hE : rdEnd D.2 ≠ 0) : decodeV s = (noEvt, rdEnd D.2) := by subst hD; unfold decodeV; rw [if_neg h, if_pos hE]
theorem dec_fine {s : ByteArray} (h : ¬ 4000 < s.size) (D : Evt × Rd) (hD : decodeR s = D) (hE : rdEnd D.2 = 0) : decodeV s = (D.1, 0) := by subst hD; unfold decodeV; rw [if_neg h, if_neg (fun x => x hE)]
theorem decR_0 {s : ByteArray} {R : Rd} (h : rdU 10 (rd s 0) = (0, R)) : decodeR s = ((⟨0, 0, 0, zero6, ⟨#[]⟩, 0⟩ : Evt), (rdFail R 2)) := by
  unfold decodeR kindR
  rw [show rdU 10 (⟨s.data.toList, 0⟩ : Rd) = (0, R) from h]
  rfl
theorem decR_1 {s : ByteArray} {R : Rd} (h : rdU 10 (rd s 0) = (1, R)) : decodeR s = ((⟨1, 0, 0, zero6, (rdT 4000 R).1, 0⟩ : Evt), (rdT 4000 R).2) := by
  unfold decodeR kindR
  rw [show rdU 10 (⟨s.data.toList, 0⟩ : Rd) = (1, R) from h]
  rfl
theorem decR_2 {s : ByteArray} {R : Rd} (h : rdU 10 (rd s 0) = (2, R)) : decodeR s = ((⟨2, (rdU 7 R).1, 0, (rd6 (rdU 7 R).2).1, ⟨#[]⟩, 0⟩ : Evt), (rd6 (rdU 7 R).2).2) := by
  unfold decodeR kindR
  rw [show rdU 10 (⟨s.data.toList, 0⟩ : Rd) = (2, R) from h]
  rfl
theorem decR_3 {s : ByteArray} {R : Rd} (h : rdU 10 (rd s 0) = (3, R)) : decodeR s = ((⟨3, 0, 0, zero6, ⟨#[]⟩, 0⟩ : Evt), R) := by
  unfold decodeR kindR
  rw [show rdU 10 (⟨s.data.toList, 0⟩ : Rd) = (3, R) from h]
  rfl
theorem decR_4 {s : ByteArray} {R : Rd} (h : rdU 10 (rd s 0) = (4, R)) : decodeR s = ((⟨4, 0, 0, zero6, ⟨#[]⟩, 0⟩ : Evt), R) := by
  unfold decodeR kindR
  rw [show rdU 10 (⟨s.data.toList, 0⟩ : Rd) = (4, R) from h]
  rfl
theorem decR_5 {s : ByteArray} {R : Rd} (h : rdU 10 (rd s 0) = (5, R)) : decodeR s = ((⟨5, (rdU 7 R).1, 0, zero6, (rdT 4000 (rdU 7 R).2).1, 0⟩ : Evt), (rdT 4000 (rdU 7 R).2).2) := by
  unfold decodeR kindR
  rw [show rdU 10 (⟨s.data.toList, 0⟩ : Rd) = (5, R) from h]
  rfl
theorem decR_6 {s : ByteArray} {R : Rd} (h : rdU 10 (rd s 0) = (6, R)) : decodeR s = ((⟨6, (rdU 7 R).1, 0, zero6, ⟨#[]⟩, 0⟩ : Evt), (rdU 7 R).2) := by
  unfold decodeR kindR
  rw [show rdU 10 (⟨s.data.toList, 0⟩ : Rd) = (6, R) from h]
  rfl
theorem decR_7 {s : ByteArray} {R : Rd} (h : rdU 10 (rd s 0) = (7, R)) : decodeR s = ((⟨7, (rdU 7 R).1, 0, zero6, ⟨#[]⟩, 0⟩ : Evt), (rdU 7 R).2) := by
  unfold decodeR kindR
  rw [show rdU 10 (⟨s.data.toList, 0⟩ : Rd) = (7, R) from h]
  rfl
theorem decR_8 {s : ByteArray} {R : Rd} (h : rdU 10 (rd s 0) = (8, R)) : decodeR s = ((⟨8, 0, (rdU 29 R).1, zero6, ⟨#[]⟩, 0⟩ : Evt), (rdU 29 R).2) := by
  unfold decodeR kindR
  rw [show rdU 10 (⟨s.data.toList, 0⟩ : Rd) = (8, R) from h]
  rfl
theorem decR_9 {s : ByteArray} {R : Rd} (h : rdU 10 (rd s 0) = (9, R)) : decodeR s = ((⟨9, 0, 0, zero6, ⟨#[]⟩, 0⟩ : Evt), R) := by
  unfold decodeR kindR
  rw [show rdU 10 (⟨s.data.toList, 0⟩ : Rd) = (9, R) from h]
  rfl
theorem decR_10 {s : ByteArray} {R : Rd} (h : rdU 10 (rd s 0) = (10, R)) : decodeR s = ((⟨10, 0, 0, zero6, ⟨#[]⟩, (rdU 18446744073709551615 R).1⟩ : Evt), (rdU 18446744073709551615 R).2) := by
  unfold decodeR kindR
  rw [show rdU 10 (⟨s.data.toList, 0⟩ : Rd) = (10, R) from h]
  rfl
set_option maxHeartbeats 4000000 in
set_option maxRecDepth 100000 in
theorem dec_at_0 (s : ByteArray) (w : World) (hs : ¬ 4000 < s.size) (hk : (rdU 10 (rd s 0)).1 = 0) : Calls Tryz.prog 16 #[.string s] w (DecPost (decodeV s) w) := by
  have hs5 : s.size ≤ 5000 := by omega
  have CU := Lib.hid read_any
  have CT := Lib.hid readT_any
  have CE := Lib.hid rend_any
  have CF := Lib.hid rfail_any
  have CK := Lib.hid (fun W => fields_any 0 W)
  have hfk : fieldsK 0 = 0 := by decide
  rw [hfk] at CK
  have HF := Lib.hid (dec_fail hs)
  have HG := Lib.hid (dec_fine hs)
  have HK := Lib.hid hk
  have hd : decide ((4000 : Int) < (s.size : Int)) = false := decide_eq_false (by omega)
  have t1 : (bits BinOp.and IntKind.i64 0 1 != 0) = false := by decide +kernel
  have t2 : (bits BinOp.and IntKind.i64 0 2 != 0) = false := by decide +kernel
  have t4 : (bits BinOp.and IntKind.i64 0 4 != 0) = false := by decide +kernel
  have t8 : (bits BinOp.and IntKind.i64 0 8 != 0) = false := by decide +kernel
  have t16 : (bits BinOp.and IntKind.i64 0 16 != 0) = false := by decide +kernel
  generalize decodeV s = V at *
  obtain ⟨V1, V2⟩ := V
  obtain ⟨v1, v2, v3, v4, v5, v6⟩ := V1
  have HS5 := Lib.hid hs5
  clear hk hfk hs hs5
  go_enter Tryz.func16, Tryz.ntmps16
  go_wp2_with fail
  refine (newR_any s _).mono ?_
  rintro q w1 ⟨rfl, h1, b1⟩
  have H1 := Lib.hid h1
  have B1 := Lib.hid b1
  clear h1 b1
  obtain ⟨g, hg⟩ : ∃ g, g = (w.alloc (.cells #[.int .i64 0, .int .i64 0, .int .i64 0, .int .i64 0, .int .i64 0, .int .i64 0, .int .i64 0, .int .i64 0, .int .i64 0, .string ⟨#[]⟩, .int .u64 0] 26)).heap.size := ⟨_, rfl⟩
  rw [← hg] at H1
  try rw [← hg]
  have hg2 : g = w.heap.size + 1 := by rw [hg, World.size_alloc]
  have HGG := Lib.hid hg
  clear hg
  go_wp2_with fail
  try rw [← hg2]
  refine (CU.out 10 s 0 g _ H1.out (by decide) HS5.out).mono ?_
  rintro q w2 ⟨n1, s1, e1, rfl, Q1, L1, S1, h2, o2⟩
  have QH1 := Lib.hid Q1
  have hn : n1 = 0 := by rw [← HK.out, ← Q1]
  subst hn
  have D1 := Lib.hid (dm_new (cs := #[.int .i64 0, .int .i64 0, .int .i64 0, .int .i64 0, .int .i64 0, .int .i64 0, .int .i64 0, .int .i64 0, .int .i64 0, .string ⟨#[]⟩, .int .u64 0]) B1.out g HGG.out h2 o2)
  have HS1 := Lib.hid S1
  clear L1 S1 h2 o2 H1 B1 HGG HK Q1 hg2
  go_wp2_with fail
  generalize w2.alloc (.cells #[.int .i64 0, .int .i64 0, .int .i64 0, .int .i64 0, .int .i64 0, .int .i64 0, .int .i64 0, .int .i64 0, .int .i64 0, .string ⟨#[]⟩, .int .u64 0] 26) = w3 at *
  generalize w2.heap.size = x at *
  refine (CF.out s1 e1 2 g _ D1.out.rb).mono ?_
  rintro q w4 ⟨rfl, h3, o3⟩
  have D2 := Lib.hid (D1.out.read h3 o3)
  clear h3 o3 D1
  have c2 := Blk11 D2.out.ev
  have lx2 := D2.out.ev.lt
  go_wp2_with fail
  refine (CK.out _).mono ?_
  rintro q w5 ⟨rfl, rfl⟩
  go_wp2_with fail
  refine (CE.out s1 (failE e1 2) g _ D2.out.rb).mono ?_
  rintro q wz ⟨rfl, oz⟩
  obtain ⟨le, lr, lb⟩ := D2.out.last oz
  have KE := Lib.hid le
  have KR := Lib.hid lr
  have BZ := Lib.hid lb
  have HHX := Lib.hid (D2.out.hx)
  have HD : Hid (decodeR s = ((⟨0, 0, 0, zero6, ⟨#[]⟩, 0⟩ : Evt), rd s1 (failE e1 2))) := ((decR_0 QH1.out.symm).trans (by rw [← fail_rd]))
  clear le lr lb oz D2 c2 lx2 CU CT CF CK CE
  have F1 := Lib.hid (HF.out _ HD.out)
  have F2 := Lib.hid (HG.out _ HD.out)
  have ce := Blk11 KE.out
  have le := KE.out.lt
  have cr := Blk11 KR.out
  have lr := KR.out.lt
  try dsimp only at F1 F2
  generalize rdEnd (rd s1 (failE e1 2)) = E at *
  by_cases hE : E = 0
  · subst hE
    obtain ⟨a1, a2⟩ := Prod.mk.inj (F2.out rfl)
    have A1 := Lib.hid a1
    have A2 := Lib.hid a2
    have dE : ((0 : Int) != 0) = false := rfl
    clear a1 a2 F1 F2 HF HG HD
    go_wp2_with fail
    exact bodyPost_ret (v := .tuple #[.agg #[.int .i64 0, .int .i64 0, .int .i64 0, .int .i64 0, .int .i64 0, .int .i64 0, .int .i64 0, .int .i64 0, .int .i64 0, .string ⟨#[]⟩, .int .u64 0], .int .i64 0]) (results_blk_tmp rfl rfl (put_all KR.out _ _ _ _ _ _ _ _ _ _ _) Tryz.underlying26 rfl (by kernel_rfl) rfl) rfl ⟨by rw [A1.out, A2.out]; rfl, below_all BZ.out (Nat.le_refl _) _ _ _ _ _ _ _ _ _ _ _⟩
  · obtain ⟨a1, a2⟩ := Prod.mk.inj (F1.out hE)
    have A1 := Lib.hid a1
    have A2 := Lib.hid a2
    have dE : (E != 0) = true := by simpa using hE
    clear a1 a2 F1 F2 HF HG HD hE
    go_wp2_with fail
    exact bodyPost_ret (v := .tuple #[.agg #[.int .i64 0, .int .i64 0, .int .i64 0, .int .i64 0, .int .i64 0, .int .i64 0, .int .i64 0, .int .i64 0, .int .i64 0, .string ⟨#[]⟩, .int .u64 0], .int .i64 E]) (results_blk_tmp rfl rfl (put_all KR.out _ _ _ _ _ _ _ _ _ _ _) Tryz.underlying26 rfl (by kernel_rfl) rfl) rfl ⟨by rw [A1.out, A2.out]; rfl, below_all BZ.out (Nat.le_refl _) _ _ _ _ _ _ _ _ _ _ _⟩
set_option maxHeartbeats 4000000 in
set_option maxRecDepth 100000 in
theorem dec_at_1 (s : ByteArray) (w : World) (hs : ¬ 4000 < s.size) (hk : (rdU 10 (rd s 0)).1 = 1) : Calls Tryz.prog 16 #[.string s] w (DecPost (decodeV s) w) := by
  have hs5 : s.size ≤ 5000 := by omega
  have CU := Lib.hid read_any
  have CT := Lib.hid readT_any
  have CE := Lib.hid rend_any
  have CF := Lib.hid rfail_any
  have CK := Lib.hid (fun W => fields_any 1 W)
  have hfk : fieldsK 1 = 4 := by decide
  rw [hfk] at CK
  have HF := Lib.hid (dec_fail hs)
  have HG := Lib.hid (dec_fine hs)
  have HK := Lib.hid hk
  have hd : decide ((4000 : Int) < (s.size : Int)) = false := decide_eq_false (by omega)
  have t1 : (bits BinOp.and IntKind.i64 4 1 != 0) = false := by decide +kernel
  have t2 : (bits BinOp.and IntKind.i64 4 2 != 0) = false := by decide +kernel
  have t4 : (bits BinOp.and IntKind.i64 4 4 != 0) = true := by decide +kernel
  have t8 : (bits BinOp.and IntKind.i64 4 8 != 0) = false := by decide +kernel
  have t16 : (bits BinOp.and IntKind.i64 4 16 != 0) = false := by decide +kernel
  generalize decodeV s = V at *
  obtain ⟨V1, V2⟩ := V
  obtain ⟨v1, v2, v3, v4, v5, v6⟩ := V1
  have HS5 := Lib.hid hs5
  clear hk hfk hs hs5
  go_enter Tryz.func16, Tryz.ntmps16
  go_wp2_with fail
  refine (newR_any s _).mono ?_
  rintro q w1 ⟨rfl, h1, b1⟩
  have H1 := Lib.hid h1
  have B1 := Lib.hid b1
  clear h1 b1
  obtain ⟨g, hg⟩ : ∃ g, g = (w.alloc (.cells #[.int .i64 0, .int .i64 0, .int .i64 0, .int .i64 0, .int .i64 0, .int .i64 0, .int .i64 0, .int .i64 0, .int .i64 0, .string ⟨#[]⟩, .int .u64 0] 26)).heap.size := ⟨_, rfl⟩
  rw [← hg] at H1
  try rw [← hg]
  have hg2 : g = w.heap.size + 1 := by rw [hg, World.size_alloc]
  have HGG := Lib.hid hg
  clear hg
  go_wp2_with fail
  try rw [← hg2]
  refine (CU.out 10 s 0 g _ H1.out (by decide) HS5.out).mono ?_
  rintro q w2 ⟨n1, s1, e1, rfl, Q1, L1, S1, h2, o2⟩
  have QH1 := Lib.hid Q1
  have hn : n1 = 1 := by rw [← HK.out, ← Q1]
  subst hn
  have D1 := Lib.hid (dm_new (cs := #[.int .i64 1, .int .i64 0, .int .i64 0, .int .i64 0, .int .i64 0, .int .i64 0, .int .i64 0, .int .i64 0, .int .i64 0, .string ⟨#[]⟩, .int .u64 0]) B1.out g HGG.out h2 o2)
  have HS1 := Lib.hid S1
  clear L1 S1 h2 o2 H1 B1 HGG HK Q1 hg2
  go_wp2_with fail
  refine (CK.out _).mono ?_
  rintro q w3 ⟨rfl, rfl⟩
  generalize w2.alloc (.cells #[.int .i64 1, .int .i64 0, .int .i64 0, .int .i64 0, .int .i64 0, .int .i64 0, .int .i64 0, .int .i64 0, .int .i64 0, .string ⟨#[]⟩, .int .u64 0] 26) = w3 at *
  generalize w2.heap.size = x at *
  have c1 := Blk11 D1.out.ev
  have lx1 := D1.out.ev.lt
  go_wp2_with fail
  refine (CT.out s1 e1 g _ D1.out.rb HS1.out).mono ?_
  rintro q w4 ⟨n2, s2, e2, rfl, Q, h2, o2⟩
  have QH2 := Lib.hid Q
  have D2 := Lib.hid (D1.out.read h2 o2)
  clear h2 o2 Q D1 c1 lx1
  have c2 := Blk11 D2.out.ev
  have lx2 := D2.out.ev.lt
  go_wp2_with fail
  have D3 : Hid (DM w _ g x s2 e2 #[.int .i64 1, .int .i64 0, .int .i64 0, .int .i64 0, .int .i64 0, .int .i64 0, .int .i64 0, .int .i64 0, .int .i64 0, .string n2, .int .u64 0]) := D2.out.put 9 (.string n2)
  generalize w4.setCell ⟨x, 9, none⟩ (.string n2) = w5 at *
  clear c2 lx2 D2
  have c3 := Blk11 D3.out.ev
  have lx3 := D3.out.ev.lt
  refine (CE.out s2 e2 g _ D3.out.rb).mono ?_
  rintro q wz ⟨rfl, oz⟩
  obtain ⟨le, lr, lb⟩ := D3.out.last oz
  have KE := Lib.hid le
  have KR := Lib.hid lr
  have BZ := Lib.hid lb
  have HHX := Lib.hid (D3.out.hx)
  have HD : Hid (decodeR s = ((⟨1, 0, 0, zero6, n2, 0⟩ : Evt), rd s2 e2)) := (decR_1 QH1.out.symm).trans (by rw [← QH2.out])
  clear le lr lb oz D3 c3 lx3 CU CT CF CK CE
  have F1 := Lib.hid (HF.out _ HD.out)
  have F2 := Lib.hid (HG.out _ HD.out)
  have ce := Blk11 KE.out
  have le := KE.out.lt
  have cr := Blk11 KR.out
  have lr := KR.out.lt
  try dsimp only at F1 F2
  generalize rdEnd (rd s2 e2) = E at *
  by_cases hE : E = 0
  · subst hE
    obtain ⟨a1, a2⟩ := Prod.mk.inj (F2.out rfl)
    have A1 := Lib.hid a1
    have A2 := Lib.hid a2
    have dE : ((0 : Int) != 0) = false := rfl
    clear a1 a2 F1 F2 HF HG HD
    go_wp2_with fail
    exact bodyPost_ret (v := .tuple #[.agg #[.int .i64 1, .int .i64 0, .int .i64 0, .int .i64 0, .int .i64 0, .int .i64 0, .int .i64 0, .int .i64 0, .int .i64 0, .string n2, .int .u64 0], .int .i64 0]) (results_blk_tmp rfl rfl (put_all KR.out _ _ _ _ _ _ _ _ _ _ _) Tryz.underlying26 rfl (by kernel_rfl) rfl) rfl ⟨by rw [A1.out, A2.out]; rfl, below_all BZ.out (Nat.le_refl _) _ _ _ _ _ _ _ _ _ _ _⟩
  · obtain ⟨a1, a2⟩ := Prod.mk.inj (F1.out hE)
    have A1 := Lib.hid a1
    have A2 := Lib.hid a2
    have dE : (E != 0) = true := by simpa using hE
    clear a1 a2 F1 F2 HF HG HD hE
    go_wp2_with fail
    exact bodyPost_ret (v := .tuple #[.agg #[.int .i64 0, .int .i64 0, .int .i64 0, .int .i64 0, .int .i64 0, .int .i64 0, .int .i64 0, .int .i64 0, .int .i64 0, .string ⟨#[]⟩, .int .u64 0], .int .i64 E]) (results_blk_tmp rfl rfl (put_all KR.out _ _ _ _ _ _ _ _ _ _ _) Tryz.underlying26 rfl (by kernel_rfl) rfl) rfl ⟨by rw [A1.out, A2.out]; rfl, below_all BZ.out (Nat.le_refl _) _ _ _ _ _ _ _ _ _ _ _⟩
set_option maxHeartbeats 4000000 in
set_option maxRecDepth 100000 in
theorem dec_at_2 (s : ByteArray) (w : World) (hs : ¬ 4000 < s.size) (hk : (rdU 10 (rd s 0)).1 = 2) : Calls Tryz.prog 16 #[.string s] w (DecPost (decodeV s) w) := by
  have hs5 : s.size ≤ 5000 := by omega
  have CU := Lib.hid read_any
  have CT := Lib.hid readT_any
  have CE := Lib.hid rend_any
  have CF := Lib.hid rfail_any
  have CK := Lib.hid (fun W => fields_any 2 W)
  have hfk : fieldsK 2 = 3 := by decide
  rw [hfk] at CK
  have HF := Lib.hid (dec_fail hs)
  have HG := Lib.hid (dec_fine hs)
  have HK := Lib.hid hk
  have hd : decide ((4000 : Int) < (s.size : Int)) = false := decide_eq_false (by omega)
  have t1 : (bits BinOp.and IntKind.i64 3 1 != 0) = true := by decide +kernel
  have t2 : (bits BinOp.and IntKind.i64 3 2 != 0) = true := by decide +kernel
  have t4 : (bits BinOp.and IntKind.i64 3 4 != 0) = false := by decide +kernel
  have t8 : (bits BinOp.and IntKind.i64 3 8 != 0) = false := by decide +kernel
  have t16 : (bits BinOp.and IntKind.i64 3 16 != 0) = false := by decide +kernel
  generalize decodeV s = V at *
  obtain ⟨V1, V2⟩ := V
  obtain ⟨v1, v2, v3, v4, v5, v6⟩ := V1
  have HS5 := Lib.hid hs5
  clear hk hfk hs hs5
  go_enter Tryz.func16, Tryz.ntmps16
  go_wp2_with fail
  refine (newR_any s _).mono ?_
  rintro q w1 ⟨rfl, h1, b1⟩
  have H1 := Lib.hid h1
  have B1 := Lib.hid b1
  clear h1 b1
  obtain ⟨g, hg⟩ : ∃ g, g = (w.alloc (.cells #[.int .i64 0, .int .i64 0, .int .i64 0, .int .i64 0, .int .i64 0, .int .i64 0, .int .i64 0, .int .i64 0, .int .i64 0, .string ⟨#[]⟩, .int .u64 0] 26)).heap.size := ⟨_, rfl⟩
  rw [← hg] at H1
  try rw [← hg]
  have hg2 : g = w.heap.size + 1 := by rw [hg, World.size_alloc]
  have HGG := Lib.hid hg
  clear hg
  go_wp2_with fail
  try rw [← hg2]
  refine (CU.out 10 s 0 g _ H1.out (by decide) HS5.out).mono ?_
  rintro q w2 ⟨n1, s1, e1, rfl, Q1, L1, S1, h2, o2⟩
  have QH1 := Lib.hid Q1
  have hn : n1 = 2 := by rw [← HK.out, ← Q1]
  subst hn
  have D1 := Lib.hid (dm_new (cs := #[.int .i64 2, .int .i64 0, .int .i64 0, .int .i64 0, .int .i64 0, .int .i64 0, .int .i64 0, .int .i64 0, .int .i64 0, .string ⟨#[]⟩, .int .u64 0]) B1.out g HGG.out h2 o2)
  have HS1 := Lib.hid S1
  clear L1 S1 h2 o2 H1 B1 HGG HK Q1 hg2
  go_wp2_with fail
  refine (CK.out _).mono ?_
  rintro q w3 ⟨rfl, rfl⟩
  generalize w2.alloc (.cells #[.int .i64 2, .int .i64 0, .int .i64 0, .int .i64 0, .int .i64 0, .int .i64 0, .int .i64 0, .int .i64 0, .int .i64 0, .string ⟨#[]⟩, .int .u64 0] 26) = w3 at *
  generalize w2.heap.size = x at *
  have c1 := Blk11 D1.out.ev
  have lx1 := D1.out.ev.lt
  go_wp2_with fail
  refine (CU.out 7 s1 e1 g _ D1.out.rb (by decide) HS1.out).mono ?_
  rintro q w4 ⟨n2, s2, e2, rfl, Q, L, S, h2, o2⟩
  have QH2 := Lib.hid Q
  have HS2 := Lib.hid S
  have v2_ := IntWalk.i64_in (n2 : Int) ⟨by omega, by omega⟩
  have D2 := Lib.hid (D1.out.read h2 o2)
  clear h2 o2 Q S D1 c1 lx1
  have c2 := Blk11 D2.out.ev
  have lx2 := D2.out.ev.lt
  go_wp2_with fail
  have D3 : Hid (DM w _ g x s2 e2 #[.int .i64 2, .int .i64 (n2 : Int), .int .i64 0, .int .i64 0, .int .i64 0, .int .i64 0, .int .i64 0, .int .i64 0, .int .i64 0, .string ⟨#[]⟩, .int .u64 0]) := D2.out.put 1 (.int .i64 (n2 : Int))
  have HS3 := HS2
  generalize w4.setCell ⟨x, 1, none⟩ (.int .i64 (n2 : Int)) = w5 at *
  clear c2 lx2 D2
  have c3 := Blk11 D3.out.ev
  have lx3 := D3.out.ev.lt
  refine wp_loop_rounds 7 ?_
  rw [rounds_succ]
  go_wp2_with fail
  refine (CU.out 4 s2 e2 g _ D3.out.rb (by decide) HS3.out).mono ?_
  rintro q w6 ⟨n3, s3, e3, rfl, Q, L, S, h2, o2⟩
  have QH3 := Lib.hid Q
  have HS4 := Lib.hid S
  have v3_ := IntWalk.i64_in (n3 : Int) ⟨by omega, by omega⟩
  have D4 := Lib.hid (D3.out.read h2 o2)
  clear h2 o2 Q S D3 c3 lx3
  have c4 := Blk11 D4.out.ev
  have lx4 := D4.out.ev.lt
  go_wp2_with fail
  rw [rounds_succ]
  go_wp2_with fail
  have D5 : Hid (DM w _ g x s3 e3 #[.int .i64 2, .int .i64 (n2 : Int), .int .i64 0, .int .i64 (n3 : Int), .int .i64 0, .int .i64 0, .int .i64 0, .int .i64 0, .int .i64 0, .string ⟨#[]⟩, .int .u64 0]) := D4.out.put 3 (.int .i64 (n3 : Int))
  have HS5 := HS4
  generalize w6.setCell ⟨x, 3, none⟩ (.int .i64 (n3 : Int)) = w7 at *
  clear c4 lx4 D4
  have c5 := Blk11 D5.out.ev
  have lx5 := D5.out.ev.lt
  refine (CU.out 4 s3 e3 g _ D5.out.rb (by decide) HS5.out).mono ?_
  rintro q w8 ⟨n4, s4, e4, rfl, Q, L, S, h2, o2⟩
  have QH4 := Lib.hid Q
  have HS6 := Lib.hid S
  have v4_ := IntWalk.i64_in (n4 : Int) ⟨by omega, by omega⟩
  have D6 := Lib.hid (D5.out.read h2 o2)
  clear h2 o2 Q S D5 c5 lx5
  have c6 := Blk11 D6.out.ev
  have lx6 := D6.out.ev.lt
  go_wp2_with fail
  rw [rounds_succ]
  go_wp2_with fail
  have D7 : Hid (DM w _ g x s4 e4 #[.int .i64 2, .int .i64 (n2 : Int), .int .i64 0, .int .i64 (n3 : Int), .int .i64 (n4 : Int), .int .i64 0, .int .i64 0, .int .i64 0, .int .i64 0, .string ⟨#[]⟩, .int .u64 0]) := D6.out.put 4 (.int .i64 (n4 : Int))
  have HS7 := HS6
  generalize w8.setCell ⟨x, 4, none⟩ (.int .i64 (n4 : Int)) = w9 at *
  clear c6 lx6 D6
  have c7 := Blk11 D7.out.ev
  have lx7 := D7.out.ev.lt
  refine (CU.out 4 s4 e4 g _ D7.out.rb (by decide) HS7.out).mono ?_
  rintro q w10 ⟨n5, s5, e5, rfl, Q, L, S, h2, o2⟩
  have QH5 := Lib.hid Q
  have HS8 := Lib.hid S
  have v5_ := IntWalk.i64_in (n5 : Int) ⟨by omega, by omega⟩
  have D8 := Lib.hid (D7.out.read h2 o2)
  clear h2 o2 Q S D7 c7 lx7
  have c8 := Blk11 D8.out.ev
  have lx8 := D8.out.ev.lt
  go_wp2_with fail
  rw [rounds_succ]
  go_wp2_with fail
  have D9 : Hid (DM w _ g x s5 e5 #[.int .i64 2, .int .i64 (n2 : Int), .int .i64 0, .int .i64 (n3 : Int), .int .i64 (n4 : Int), .int .i64 (n5 : Int), .int .i64 0, .int .i64 0, .int .i64 0, .string ⟨#[]⟩, .int .u64 0]) := D8.out.put 5 (.int .i64 (n5 : Int))
  have HS9 := HS8
  generalize w10.setCell ⟨x, 5, none⟩ (.int .i64 (n5 : Int)) = w11 at *
  clear c8 lx8 D8
  have c9 := Blk11 D9.out.ev
  have lx9 := D9.out.ev.lt
  refine (CU.out 4 s5 e5 g _ D9.out.rb (by decide) HS9.out).mono ?_
  rintro q w12 ⟨n6, s6, e6, rfl, Q, L, S, h2, o2⟩
  have QH6 := Lib.hid Q
  have HS10 := Lib.hid S
  have v6_ := IntWalk.i64_in (n6 : Int) ⟨by omega, by omega⟩
  have D10 := Lib.hid (D9.out.read h2 o2)
  clear h2 o2 Q S D9 c9 lx9
  have c10 := Blk11 D10.out.ev
  have lx10 := D10.out.ev.lt
  go_wp2_with fail
  rw [rounds_succ]
  go_wp2_with fail
  have D11 : Hid (DM w _ g x s6 e6 #[.int .i64 2, .int .i64 (n2 : Int), .int .i64 0, .int .i64 (n3 : Int), .int .i64 (n4 : Int), .int .i64 (n5 : Int), .int .i64 (n6 : Int), .int .i64 0, .int .i64 0, .string ⟨#[]⟩, .int .u64 0]) := D10.out.put 6 (.int .i64 (n6 : Int))
  have HS11 := HS10
  generalize w12.setCell ⟨x, 6, none⟩ (.int .i64 (n6 : Int)) = w13 at *
  clear c10 lx10 D10
  have c11 := Blk11 D11.out.ev
  have lx11 := D11.out.ev.lt
  refine (CU.out 4 s6 e6 g _ D11.out.rb (by decide) HS11.out).mono ?_
  rintro q w14 ⟨n7, s7, e7, rfl, Q, L, S, h2, o2⟩
  have QH7 := Lib.hid Q
  have HS12 := Lib.hid S
  have v7_ := IntWalk.i64_in (n7 : Int) ⟨by omega, by omega⟩
  have D12 := Lib.hid (D11.out.read h2 o2)
  clear h2 o2 Q S D11 c11 lx11
  have c12 := Blk11 D12.out.ev
  have lx12 := D12.out.ev.lt
  go_wp2_with fail
  rw [rounds_succ]
  go_wp2_with fail
  have D13 : Hid (DM w _ g x s7 e7 #[.int .i64 2, .int .i64 (n2 : Int), .int .i64 0, .int .i64 (n3 : Int), .int .i64 (n4 : Int), .int .i64 (n5 : Int), .int .i64 (n6 : Int), .int .i64 (n7 : Int), .int .i64 0, .string ⟨#[]⟩, .int .u64 0]) := D12.out.put 7 (.int .i64 (n7 : Int))
  have HS13 := HS12
  generalize w14.setCell ⟨x, 7, none⟩ (.int .i64 (n7 : Int)) = w15 at *
  clear c12 lx12 D12
  have c13 := Blk11 D13.out.ev
  have lx13 := D13.out.ev.lt
  refine (CU.out 4 s7 e7 g _ D13.out.rb (by decide) HS13.out).mono ?_
  rintro q w16 ⟨n8, s8, e8, rfl, Q, L, S, h2, o2⟩
  have QH8 := Lib.hid Q
  have HS14 := Lib.hid S
  have v8_ := IntWalk.i64_in (n8 : Int) ⟨by omega, by omega⟩
  have D14 := Lib.hid (D13.out.read h2 o2)
  clear h2 o2 Q S D13 c13 lx13
  have c14 := Blk11 D14.out.ev
  have lx14 := D14.out.ev.lt
  go_wp2_with fail
  rw [rounds_succ]
  go_wp2_with fail
  have D15 : Hid (DM w _ g x s8 e8 #[.int .i64 2, .int .i64 (n2 : Int), .int .i64 0, .int .i64 (n3 : Int), .int .i64 (n4 : Int), .int .i64 (n5 : Int), .int .i64 (n6 : Int), .int .i64 (n7 : Int), .int .i64 (n8 : Int), .string ⟨#[]⟩, .int .u64 0]) := D14.out.put 8 (.int .i64 (n8 : Int))
  have HS15 := HS14
  generalize w16.setCell ⟨x, 8, none⟩ (.int .i64 (n8 : Int)) = w17 at *
  clear c14 lx14 D14
  have c15 := Blk11 D15.out.ev
  have lx15 := D15.out.ev.lt
  refine (CE.out s8 e8 g _ D15.out.rb).mono ?_
  rintro q wz ⟨rfl, oz⟩
  obtain ⟨le, lr, lb⟩ := D15.out.last oz
  have KE := Lib.hid le
  have KR := Lib.hid lr
  have BZ := Lib.hid lb
  have HHX := Lib.hid (D15.out.hx)
  have HD : Hid (decodeR s = ((⟨2, (n2 : Int), 0, (fun k => if k = 0 then (n3 : Int) else if k = 1 then (n4 : Int) else if k = 2 then (n5 : Int) else if k = 3 then (n6 : Int) else if k = 4 then (n7 : Int) else (n8 : Int)), ⟨#[]⟩, 0⟩ : Evt), rd s8 e8)) := ((decR_2 QH1.out.symm).trans (by rw [← QH2.out]; unfold rd6; dsimp only; rw [← QH3.out]; dsimp only; rw [← QH4.out]; dsimp only; rw [← QH5.out]; dsimp only; rw [← QH6.out]; dsimp only; rw [← QH7.out]; dsimp only; rw [← QH8.out]; try rfl))
  clear le lr lb oz D15 c15 lx15 CU CT CF CK CE
  have F1 := Lib.hid (HF.out _ HD.out)
  have F2 := Lib.hid (HG.out _ HD.out)
  have ce := Blk11 KE.out
  have le := KE.out.lt
  have cr := Blk11 KR.out
  have lr := KR.out.lt
  try dsimp only at F1 F2
  generalize rdEnd (rd s8 e8) = E at *
  by_cases hE : E = 0
  · subst hE
    obtain ⟨a1, a2⟩ := Prod.mk.inj (F2.out rfl)
    have A1 := Lib.hid a1
    have A2 := Lib.hid a2
    have dE : ((0 : Int) != 0) = false := rfl
    clear a1 a2 F1 F2 HF HG HD
    go_wp2_with fail
    exact bodyPost_ret (v := .tuple #[.agg #[.int .i64 2, .int .i64 (n2 : Int), .int .i64 0, .int .i64 (n3 : Int), .int .i64 (n4 : Int), .int .i64 (n5 : Int), .int .i64 (n6 : Int), .int .i64 (n7 : Int), .int .i64 (n8 : Int), .string ⟨#[]⟩, .int .u64 0], .int .i64 0]) (results_blk_tmp rfl rfl (put_all KR.out _ _ _ _ _ _ _ _ _ _ _) Tryz.underlying26 rfl (by kernel_rfl) rfl) rfl ⟨by rw [A1.out, A2.out]; rfl, below_all BZ.out (Nat.le_refl _) _ _ _ _ _ _ _ _ _ _ _⟩
  · obtain ⟨a1, a2⟩ := Prod.mk.inj (F1.out hE)
    have A1 := Lib.hid a1
    have A2 := Lib.hid a2
    have dE : (E != 0) = true := by simpa using hE
    clear a1 a2 F1 F2 HF HG HD hE
    go_wp2_with fail
    exact bodyPost_ret (v := .tuple #[.agg #[.int .i64 0, .int .i64 0, .int .i64 0, .int .i64 0, .int .i64 0, .int .i64 0, .int .i64 0, .int .i64 0, .int .i64 0, .string ⟨#[]⟩, .int .u64 0], .int .i64 E]) (results_blk_tmp rfl rfl (put_all KR.out _ _ _ _ _ _ _ _ _ _ _) Tryz.underlying26 rfl (by kernel_rfl) rfl) rfl ⟨by rw [A1.out, A2.out]; rfl, below_all BZ.out (Nat.le_refl _) _ _ _ _ _ _ _ _ _ _ _⟩
set_option maxHeartbeats 4000000 in
set_option maxRecDepth 100000 in
theorem dec_at_3 (s : ByteArray) (w : World) (hs : ¬ 4000 < s.size) (hk : (rdU 10 (rd s 0)).1 = 3) : Calls Tryz.prog 16 #[.string s] w (DecPost (decodeV s) w) := by
  have hs5 : s.size ≤ 5000 := by omega
  have CU := Lib.hid read_any
  have CT := Lib.hid readT_any
  have CE := Lib.hid rend_any
  have CF := Lib.hid rfail_any
  have CK := Lib.hid (fun W => fields_any 3 W)
  have hfk : fieldsK 3 = 0 := by decide
  rw [hfk] at CK
  have HF := Lib.hid (dec_fail hs)
  have HG := Lib.hid (dec_fine hs)
  have HK := Lib.hid hk
  have hd : decide ((4000 : Int) < (s.size : Int)) = false := decide_eq_false (by omega)
  have t1 : (bits BinOp.and IntKind.i64 0 1 != 0) = false := by decide +kernel
  have t2 : (bits BinOp.and IntKind.i64 0 2 != 0) = false := by decide +kernel
  have t4 : (bits BinOp.and IntKind.i64 0 4 != 0) = false := by decide +kernel
  have t8 : (bits BinOp.and IntKind.i64 0 8 != 0) = false := by decide +kernel
  have t16 : (bits BinOp.and IntKind.i64 0 16 != 0) = false := by decide +kernel
  generalize decodeV s = V at *
  obtain ⟨V1, V2⟩ := V
  obtain ⟨v1, v2, v3, v4, v5, v6⟩ := V1
  have HS5 := Lib.hid hs5
  clear hk hfk hs hs5
  go_enter Tryz.func16, Tryz.ntmps16
  go_wp2_with fail
  refine (newR_any s _).mono ?_
  rintro q w1 ⟨rfl, h1, b1⟩
  have H1 := Lib.hid h1
  have B1 := Lib.hid b1
  clear h1 b1
  obtain ⟨g, hg⟩ : ∃ g, g = (w.alloc (.cells #[.int .i64 0, .int .i64 0, .int .i64 0, .int .i64 0, .int .i64 0, .int .i64 0, .int .i64 0, .int .i64 0, .int .i64 0, .string ⟨#[]⟩, .int .u64 0] 26)).heap.size := ⟨_, rfl⟩
  rw [← hg] at H1
  try rw [← hg]
  have hg2 : g = w.heap.size + 1 := by rw [hg, World.size_alloc]
  have HGG := Lib.hid hg
  clear hg
  go_wp2_with fail
  try rw [← hg2]
  refine (CU.out 10 s 0 g _ H1.out (by decide) HS5.out).mono ?_
  rintro q w2 ⟨n1, s1, e1, rfl, Q1, L1, S1, h2, o2⟩
  have QH1 := Lib.hid Q1
  have hn : n1 = 3 := by rw [← HK.out, ← Q1]
  subst hn
  have D1 := Lib.hid (dm_new (cs := #[.int .i64 3, .int .i64 0, .int .i64 0, .int .i64 0, .int .i64 0, .int .i64 0, .int .i64 0, .int .i64 0, .int .i64 0, .string ⟨#[]⟩, .int .u64 0]) B1.out g HGG.out h2 o2)
  have HS1 := Lib.hid S1
  clear L1 S1 h2 o2 H1 B1 HGG HK Q1 hg2
  go_wp2_with fail
  refine (CK.out _).mono ?_
  rintro q w3 ⟨rfl, rfl⟩
  generalize w2.alloc (.cells #[.int .i64 3, .int .i64 0, .int .i64 0, .int .i64 0, .int .i64 0, .int .i64 0, .int .i64 0, .int .i64 0, .int .i64 0, .string ⟨#[]⟩, .int .u64 0] 26) = w3 at *
  generalize w2.heap.size = x at *
  have c1 := Blk11 D1.out.ev
  have lx1 := D1.out.ev.lt
  go_wp2_with fail
  refine (CE.out s1 e1 g _ D1.out.rb).mono ?_
  rintro q wz ⟨rfl, oz⟩
  obtain ⟨le, lr, lb⟩ := D1.out.last oz
  have KE := Lib.hid le
  have KR := Lib.hid lr
  have BZ := Lib.hid lb
  have HHX := Lib.hid (D1.out.hx)
  have HD : Hid (decodeR s = ((⟨3, 0, 0, zero6, ⟨#[]⟩, 0⟩ : Evt), rd s1 e1)) := (decR_3 QH1.out.symm)
  clear le lr lb oz D1 c1 lx1 CU CT CF CK CE
  have F1 := Lib.hid (HF.out _ HD.out)
  have F2 := Lib.hid (HG.out _ HD.out)
  have ce := Blk11 KE.out
  have le := KE.out.lt
  have cr := Blk11 KR.out
  have lr := KR.out.lt
  try dsimp only at F1 F2
  generalize rdEnd (rd s1 e1) = E at *
  by_cases hE : E = 0
  · subst hE
    obtain ⟨a1, a2⟩ := Prod.mk.inj (F2.out rfl)
    have A1 := Lib.hid a1
    have A2 := Lib.hid a2
    have dE : ((0 : Int) != 0) = false := rfl
    clear a1 a2 F1 F2 HF HG HD
    go_wp2_with fail
    exact bodyPost_ret (v := .tuple #[.agg #[.int .i64 3, .int .i64 0, .int .i64 0, .int .i64 0, .int .i64 0, .int .i64 0, .int .i64 0, .int .i64 0, .int .i64 0, .string ⟨#[]⟩, .int .u64 0], .int .i64 0]) (results_blk_tmp rfl rfl (put_all KR.out _ _ _ _ _ _ _ _ _ _ _) Tryz.underlying26 rfl (by kernel_rfl) rfl) rfl ⟨by rw [A1.out, A2.out]; rfl, below_all BZ.out (Nat.le_refl _) _ _ _ _ _ _ _ _ _ _ _⟩
  · obtain ⟨a1, a2⟩ := Prod.mk.inj (F1.out hE)
    have A1 := Lib.hid a1
    have A2 := Lib.hid a2
    have dE : (E != 0) = true := by simpa using hE
    clear a1 a2 F1 F2 HF HG HD hE
    go_wp2_with fail
    exact bodyPost_ret (v := .tuple #[.agg #[.int .i64 0, .int .i64 0, .int .i64 0, .int .i64 0, .int .i64 0, .int .i64 0, .int .i64 0, .int .i64 0, .int .i64 0, .string ⟨#[]⟩, .int .u64 0], .int .i64 E]) (results_blk_tmp rfl rfl (put_all KR.out _ _ _ _ _ _ _ _ _ _ _) Tryz.underlying26 rfl (by kernel_rfl) rfl) rfl ⟨by rw [A1.out, A2.out]; rfl, below_all BZ.out (Nat.le_refl _) _ _ _ _ _ _ _ _ _ _ _⟩
set_option maxHeartbeats 4000000 in
set_option maxRecDepth 100000 in
theorem dec_at_4 (s : ByteArray) (w : World) (hs : ¬ 4000 < s.size) (hk : (rdU 10 (rd s 0)).1 = 4) : Calls Tryz.prog 16 #[.string s] w (DecPost (decodeV s) w) := by
  have hs5 : s.size ≤ 5000 := by omega
  have CU := Lib.hid read_any
  have CT := Lib.hid readT_any
  have CE := Lib.hid rend_any
  have CF := Lib.hid rfail_any
  have CK := Lib.hid (fun W => fields_any 4 W)
  have hfk : fieldsK 4 = 0 := by decide
  rw [hfk] at CK
  have HF := Lib.hid (dec_fail hs)
  have HG := Lib.hid (dec_fine hs)
  have HK := Lib.hid hk
  have hd : decide ((4000 : Int) < (s.size : Int)) = false := decide_eq_false (by omega)
  have t1 : (bits BinOp.and IntKind.i64 0 1 != 0) = false := by decide +kernel
  have t2 : (bits BinOp.and IntKind.i64 0 2 != 0) = false := by decide +kernel
  have t4 : (bits BinOp.and IntKind.i64 0 4 != 0) = false := by decide +kernel
  have t8 : (bits BinOp.and IntKind.i64 0 8 != 0) = false := by decide +kernel
  have t16 : (bits BinOp.and IntKind.i64 0 16 != 0) = false := by decide +kernel
  generalize decodeV s = V at *
  obtain ⟨V1, V2⟩ := V
  obtain ⟨v1, v2, v3, v4, v5, v6⟩ := V1
  have HS5 := Lib.hid hs5
  clear hk hfk hs hs5
  go_enter Tryz.func16, Tryz.ntmps16
  go_wp2_with fail
  refine (newR_any s _).mono ?_
  rintro q w1 ⟨rfl, h1, b1⟩
  have H1 := Lib.hid h1
  have B1 := Lib.hid b1
  clear h1 b1
  obtain ⟨g, hg⟩ : ∃ g, g = (w.alloc (.cells #[.int .i64 0, .int .i64 0, .int .i64 0, .int .i64 0, .int .i64 0, .int .i64 0, .int .i64 0, .int .i64 0, .int .i64 0, .string ⟨#[]⟩, .int .u64 0] 26)).heap.size := ⟨_, rfl⟩
  rw [← hg] at H1
  try rw [← hg]
  have hg2 : g = w.heap.size + 1 := by rw [hg, World.size_alloc]
  have HGG := Lib.hid hg
  clear hg
  go_wp2_with fail
  try rw [← hg2]
  refine (CU.out 10 s 0 g _ H1.out (by decide) HS5.out).mono ?_
  rintro q w2 ⟨n1, s1, e1, rfl, Q1, L1, S1, h2, o2⟩
  have QH1 := Lib.hid Q1
  have hn : n1 = 4 := by rw [← HK.out, ← Q1]
  subst hn
  have D1 := Lib.hid (dm_new (cs := #[.int .i64 4, .int .i64 0, .int .i64 0, .int .i64 0, .int .i64 0, .int .i64 0, .int .i64 0, .int .i64 0, .int .i64 0, .string ⟨#[]⟩, .int .u64 0]) B1.out g HGG.out h2 o2)
  have HS1 := Lib.hid S1
  clear L1 S1 h2 o2 H1 B1 HGG HK Q1 hg2
  go_wp2_with fail
  refine (CK.out _).mono ?_
  rintro q w3 ⟨rfl, rfl⟩
  generalize w2.alloc (.cells #[.int .i64 4, .int .i64 0, .int .i64 0, .int .i64 0, .int .i64 0, .int .i64 0, .int .i64 0, .int .i64 0, .int .i64 0, .string ⟨#[]⟩, .int .u64 0] 26) = w3 at *
  generalize w2.heap.size = x at *
  have c1 := Blk11 D1.out.ev
  have lx1 := D1.out.ev.lt
  go_wp2_with fail
  refine (CE.out s1 e1 g _ D1.out.rb).mono ?_
  rintro q wz ⟨rfl, oz⟩
  obtain ⟨le, lr, lb⟩ := D1.out.last oz
  have KE := Lib.hid le
  have KR := Lib.hid lr
  have BZ := Lib.hid lb
  have HHX := Lib.hid (D1.out.hx)
  have HD : Hid (decodeR s = ((⟨4, 0, 0, zero6, ⟨#[]⟩, 0⟩ : Evt), rd s1 e1)) := (decR_4 QH1.out.symm)
  clear le lr lb oz D1 c1 lx1 CU CT CF CK CE
  have F1 := Lib.hid (HF.out _ HD.out)
  have F2 := Lib.hid (HG.out _ HD.out)
  have ce := Blk11 KE.out
  have le := KE.out.lt
  have cr := Blk11 KR.out
  have lr := KR.out.lt
  try dsimp only at F1 F2
  generalize rdEnd (rd s1 e1) = E at *
  by_cases hE : E = 0
  · subst hE
    obtain ⟨a1, a2⟩ := Prod.mk.inj (F2.out rfl)
    have A1 := Lib.hid a1
    have A2 := Lib.hid a2
    have dE : ((0 : Int) != 0) = false := rfl
    clear a1 a2 F1 F2 HF HG HD
    go_wp2_with fail
    exact bodyPost_ret (v := .tuple #[.agg #[.int .i64 4, .int .i64 0, .int .i64 0, .int .i64 0, .int .i64 0, .int .i64 0, .int .i64 0, .int .i64 0, .int .i64 0, .string ⟨#[]⟩, .int .u64 0], .int .i64 0]) (results_blk_tmp rfl rfl (put_all KR.out _ _ _ _ _ _ _ _ _ _ _) Tryz.underlying26 rfl (by kernel_rfl) rfl) rfl ⟨by rw [A1.out, A2.out]; rfl, below_all BZ.out (Nat.le_refl _) _ _ _ _ _ _ _ _ _ _ _⟩
  · obtain ⟨a1, a2⟩ := Prod.mk.inj (F1.out hE)
    have A1 := Lib.hid a1
    have A2 := Lib.hid a2
    have dE : (E != 0) = true := by simpa using hE
    clear a1 a2 F1 F2 HF HG HD hE
    go_wp2_with fail
    exact bodyPost_ret (v := .tuple #[.agg #[.int .i64 0, .int .i64 0, .int .i64 0, .int .i64 0, .int .i64 0, .int .i64 0, .int .i64 0, .int .i64 0, .int .i64 0, .string ⟨#[]⟩, .int .u64 0], .int .i64 E]) (results_blk_tmp rfl rfl (put_all KR.out _ _ _ _ _ _ _ _ _ _ _) Tryz.underlying26 rfl (by kernel_rfl) rfl) rfl ⟨by rw [A1.out, A2.out]; rfl, below_all BZ.out (Nat.le_refl _) _ _ _ _ _ _ _ _ _ _ _⟩
set_option maxHeartbeats 4000000 in
set_option maxRecDepth 100000 in
theorem dec_at_5 (s : ByteArray) (w : World) (hs : ¬ 4000 < s.size) (hk : (rdU 10 (rd s 0)).1 = 5) : Calls Tryz.prog 16 #[.string s] w (DecPost (decodeV s) w) := by
  have hs5 : s.size ≤ 5000 := by omega
  have CU := Lib.hid read_any
  have CT := Lib.hid readT_any
  have CE := Lib.hid rend_any
  have CF := Lib.hid rfail_any
  have CK := Lib.hid (fun W => fields_any 5 W)
  have hfk : fieldsK 5 = 5 := by decide
  rw [hfk] at CK
  have HF := Lib.hid (dec_fail hs)
  have HG := Lib.hid (dec_fine hs)
  have HK := Lib.hid hk
  have hd : decide ((4000 : Int) < (s.size : Int)) = false := decide_eq_false (by omega)
  have t1 : (bits BinOp.and IntKind.i64 5 1 != 0) = true := by decide +kernel
  have t2 : (bits BinOp.and IntKind.i64 5 2 != 0) = false := by decide +kernel
  have t4 : (bits BinOp.and IntKind.i64 5 4 != 0) = true := by decide +kernel
  have t8 : (bits BinOp.and IntKind.i64 5 8 != 0) = false := by decide +kernel
  have t16 : (bits BinOp.and IntKind.i64 5 16 != 0) = false := by decide +kernel
  generalize decodeV s = V at *
  obtain ⟨V1, V2⟩ := V
  obtain ⟨v1, v2, v3, v4, v5, v6⟩ := V1
  have HS5 := Lib.hid hs5
  clear hk hfk hs hs5
  go_enter Tryz.func16, Tryz.ntmps16
  go_wp2_with fail
  refine (newR_any s _).mono ?_
  rintro q w1 ⟨rfl, h1, b1⟩
  have H1 := Lib.hid h1
  have B1 := Lib.hid b1
  clear h1 b1
  obtain ⟨g, hg⟩ : ∃ g, g = (w.alloc (.cells #[.int .i64 0, .int .i64 0, .int .i64 0, .int .i64 0, .int .i64 0, .int .i64 0, .int .i64 0, .int .i64 0, .int .i64 0, .string ⟨#[]⟩, .int .u64 0] 26)).heap.size := ⟨_, rfl⟩
  rw [← hg] at H1
  try rw [← hg]
  have hg2 : g = w.heap.size + 1 := by rw [hg, World.size_alloc]
  have HGG := Lib.hid hg
  clear hg
  go_wp2_with fail
  try rw [← hg2]
  refine (CU.out 10 s 0 g _ H1.out (by decide) HS5.out).mono ?_
  rintro q w2 ⟨n1, s1, e1, rfl, Q1, L1, S1, h2, o2⟩
  have QH1 := Lib.hid Q1
  have hn : n1 = 5 := by rw [← HK.out, ← Q1]
  subst hn
  have D1 := Lib.hid (dm_new (cs := #[.int .i64 5, .int .i64 0, .int .i64 0, .int .i64 0, .int .i64 0, .int .i64 0, .int .i64 0, .int .i64 0, .int .i64 0, .string ⟨#[]⟩, .int .u64 0]) B1.out g HGG.out h2 o2)
  have HS1 := Lib.hid S1
  clear L1 S1 h2 o2 H1 B1 HGG HK Q1 hg2
  go_wp2_with fail
  refine (CK.out _).mono ?_
  rintro q w3 ⟨rfl, rfl⟩
  generalize w2.alloc (.cells #[.int .i64 5, .int .i64 0, .int .i64 0, .int .i64 0, .int .i64 0, .int .i64 0, .int .i64 0, .int .i64 0, .int .i64 0, .string ⟨#[]⟩, .int .u64 0] 26) = w3 at *
  generalize w2.heap.size = x at *
  have c1 := Blk11 D1.out.ev
  have lx1 := D1.out.ev.lt
  go_wp2_with fail
  refine (CU.out 7 s1 e1 g _ D1.out.rb (by decide) HS1.out).mono ?_
  rintro q w4 ⟨n2, s2, e2, rfl, Q, L, S, h2, o2⟩
  have QH2 := Lib.hid Q
  have HS2 := Lib.hid S
  have v2_ := IntWalk.i64_in (n2 : Int) ⟨by omega, by omega⟩
  have D2 := Lib.hid (D1.out.read h2 o2)
  clear h2 o2 Q S D1 c1 lx1
  have c2 := Blk11 D2.out.ev
  have lx2 := D2.out.ev.lt
  go_wp2_with fail
  have D3 : Hid (DM w _ g x s2 e2 #[.int .i64 5, .int .i64 (n2 : Int), .int .i64 0, .int .i64 0, .int .i64 0, .int .i64 0, .int .i64 0, .int .i64 0, .int .i64 0, .string ⟨#[]⟩, .int .u64 0]) := D2.out.put 1 (.int .i64 (n2 : Int))
  have HS3 := HS2
  generalize w4.setCell ⟨x, 1, none⟩ (.int .i64 (n2 : Int)) = w5 at *
  clear c2 lx2 D2
  have c3 := Blk11 D3.out.ev
  have lx3 := D3.out.ev.lt
  refine (CT.out s2 e2 g _ D3.out.rb HS3.out).mono ?_
  rintro q w6 ⟨n3, s3, e3, rfl, Q, h2, o2⟩
  have QH3 := Lib.hid Q
  have D4 := Lib.hid (D3.out.read h2 o2)
  clear h2 o2 Q D3 c3 lx3
  have c4 := Blk11 D4.out.ev
  have lx4 := D4.out.ev.lt
  go_wp2_with fail
  have D5 : Hid (DM w _ g x s3 e3 #[.int .i64 5, .int .i64 (n2 : Int), .int .i64 0, .int .i64 0, .int .i64 0, .int .i64 0, .int .i64 0, .int .i64 0, .int .i64 0, .string n3, .int .u64 0]) := D4.out.put 9 (.string n3)
  generalize w6.setCell ⟨x, 9, none⟩ (.string n3) = w7 at *
  clear c4 lx4 D4
  have c5 := Blk11 D5.out.ev
  have lx5 := D5.out.ev.lt
  refine (CE.out s3 e3 g _ D5.out.rb).mono ?_
  rintro q wz ⟨rfl, oz⟩
  obtain ⟨le, lr, lb⟩ := D5.out.last oz
  have KE := Lib.hid le
  have KR := Lib.hid lr
  have BZ := Lib.hid lb
  have HHX := Lib.hid (D5.out.hx)
  have HD : Hid (decodeR s = ((⟨5, (n2 : Int), 0, zero6, n3, 0⟩ : Evt), rd s3 e3)) := ((decR_5 QH1.out.symm).trans (by rw [← QH2.out, ← QH3.out]; try rfl))
  clear le lr lb oz D5 c5 lx5 CU CT CF CK CE
  have F1 := Lib.hid (HF.out _ HD.out)
  have F2 := Lib.hid (HG.out _ HD.out)
  have ce := Blk11 KE.out
  have le := KE.out.lt
  have cr := Blk11 KR.out
  have lr := KR.out.lt
  try dsimp only at F1 F2
  generalize rdEnd (rd s3 e3) = E at *
  by_cases hE : E = 0
  · subst hE
    obtain ⟨a1, a2⟩ := Prod.mk.inj (F2.out rfl)
    have A1 := Lib.hid a1
    have A2 := Lib.hid a2
    have dE : ((0 : Int) != 0) = false := rfl
    clear a1 a2 F1 F2 HF HG HD
    go_wp2_with fail
    exact bodyPost_ret (v := .tuple #[.agg #[.int .i64 5, .int .i64 (n2 : Int), .int .i64 0, .int .i64 0, .int .i64 0, .int .i64 0, .int .i64 0, .int .i64 0, .int .i64 0, .string n3, .int .u64 0], .int .i64 0]) (results_blk_tmp rfl rfl (put_all KR.out _ _ _ _ _ _ _ _ _ _ _) Tryz.underlying26 rfl (by kernel_rfl) rfl) rfl ⟨by rw [A1.out, A2.out]; rfl, below_all BZ.out (Nat.le_refl _) _ _ _ _ _ _ _ _ _ _ _⟩
  · obtain ⟨a1, a2⟩ := Prod.mk.inj (F1.out hE)
    have A1 := Lib.hid a1
    have A2 := Lib.hid a2
    have dE : (E != 0) = true := by simpa using hE
    clear a1 a2 F1 F2 HF HG HD hE
    go_wp2_with fail
    exact bodyPost_ret (v := .tuple #[.agg #[.int .i64 0, .int .i64 0, .int .i64 0, .int .i64 0, .int .i64 0, .int .i64 0, .int .i64 0, .int .i64 0, .int .i64 0, .string ⟨#[]⟩, .int .u64 0], .int .i64 E]) (results_blk_tmp rfl rfl (put_all KR.out _ _ _ _ _ _ _ _ _ _ _) Tryz.underlying26 rfl (by kernel_rfl) rfl) rfl ⟨by rw [A1.out, A2.out]; rfl, below_all BZ.out (Nat.le_refl _) _ _ _ _ _ _ _ _ _ _ _⟩
set_option maxHeartbeats 4000000 in
set_option maxRecDepth 100000 in
theorem dec_at_6 (s : ByteArray) (w : World) (hs : ¬ 4000 < s.size) (hk : (rdU 10 (rd s 0)).1 = 6) : Calls Tryz.prog 16 #[.string s] w (DecPost (decodeV s) w) := by
  have hs5 : s.size ≤ 5000 := by omega
  have CU := Lib.hid read_any
  have CT := Lib.hid readT_any
  have CE := Lib.hid rend_any
  have CF := Lib.hid rfail_any
  have CK := Lib.hid (fun W => fields_any 6 W)
  have hfk : fieldsK 6 = 1 := by decide
  rw [hfk] at CK
  have HF := Lib.hid (dec_fail hs)
  have HG := Lib.hid (dec_fine hs)
  have HK := Lib.hid hk
  have hd : decide ((4000 : Int) < (s.size : Int)) = false := decide_eq_false (by omega)
  have t1 : (bits BinOp.and IntKind.i64 1 1 != 0) = true := by decide +kernel
  have t2 : (bits BinOp.and IntKind.i64 1 2 != 0) = false := by decide +kernel
  have t4 : (bits BinOp.and IntKind.i64 1 4 != 0) = false := by decide +kernel
  have t8 : (bits BinOp.and IntKind.i64 1 8 != 0) = false := by decide +kernel
  have t16 : (bits BinOp.and IntKind.i64 1 16 != 0) = false := by decide +kernel
  generalize decodeV s = V at *
  obtain ⟨V1, V2⟩ := V
  obtain ⟨v1, v2, v3, v4, v5, v6⟩ := V1
  have HS5 := Lib.hid hs5
  clear hk hfk hs hs5
  go_enter Tryz.func16, Tryz.ntmps16
  go_wp2_with fail
  refine (newR_any s _).mono ?_
  rintro q w1 ⟨rfl, h1, b1⟩
  have H1 := Lib.hid h1
  have B1 := Lib.hid b1
  clear h1 b1
  obtain ⟨g, hg⟩ : ∃ g, g = (w.alloc (.cells #[.int .i64 0, .int .i64 0, .int .i64 0, .int .i64 0, .int .i64 0, .int .i64 0, .int .i64 0, .int .i64 0, .int .i64 0, .string ⟨#[]⟩, .int .u64 0] 26)).heap.size := ⟨_, rfl⟩
  rw [← hg] at H1
  try rw [← hg]
  have hg2 : g = w.heap.size + 1 := by rw [hg, World.size_alloc]
  have HGG := Lib.hid hg
  clear hg
  go_wp2_with fail
  try rw [← hg2]
  refine (CU.out 10 s 0 g _ H1.out (by decide) HS5.out).mono ?_
  rintro q w2 ⟨n1, s1, e1, rfl, Q1, L1, S1, h2, o2⟩
  have QH1 := Lib.hid Q1
  have hn : n1 = 6 := by rw [← HK.out, ← Q1]
  subst hn
  have D1 := Lib.hid (dm_new (cs := #[.int .i64 6, .int .i64 0, .int .i64 0, .int .i64 0, .int .i64 0, .int .i64 0, .int .i64 0, .int .i64 0, .int .i64 0, .string ⟨#[]⟩, .int .u64 0]) B1.out g HGG.out h2 o2)
  have HS1 := Lib.hid S1
  clear L1 S1 h2 o2 H1 B1 HGG HK Q1 hg2
  go_wp2_with fail
  refine (CK.out _).mono ?_
  rintro q w3 ⟨rfl, rfl⟩
  generalize w2.alloc (.cells #[.int .i64 6, .int .i64 0, .int .i64 0, .int .i64 0, .int .i64 0, .int .i64 0, .int .i64 0, .int .i64 0, .int .i64 0, .string ⟨#[]⟩, .int .u64 0] 26) = w3 at *
  generalize w2.heap.size = x at *
  have c1 := Blk11 D1.out.ev
  have lx1 := D1.out.ev.lt
  go_wp2_with fail
  refine (CU.out 7 s1 e1 g _ D1.out.rb (by decide) HS1.out).mono ?_
  rintro q w4 ⟨n2, s2, e2, rfl, Q, L, S, h2, o2⟩
  have QH2 := Lib.hid Q
  have HS2 := Lib.hid S
  have v2_ := IntWalk.i64_in (n2 : Int) ⟨by omega, by omega⟩
  have D2 := Lib.hid (D1.out.read h2 o2)
  clear h2 o2 Q S D1 c1 lx1
  have c2 := Blk11 D2.out.ev
  have lx2 := D2.out.ev.lt
  go_wp2_with fail
  have D3 : Hid (DM w _ g x s2 e2 #[.int .i64 6, .int .i64 (n2 : Int), .int .i64 0, .int .i64 0, .int .i64 0, .int .i64 0, .int .i64 0, .int .i64 0, .int .i64 0, .string ⟨#[]⟩, .int .u64 0]) := D2.out.put 1 (.int .i64 (n2 : Int))
  have HS3 := HS2
  generalize w4.setCell ⟨x, 1, none⟩ (.int .i64 (n2 : Int)) = w5 at *
  clear c2 lx2 D2
  have c3 := Blk11 D3.out.ev
  have lx3 := D3.out.ev.lt
  refine (CE.out s2 e2 g _ D3.out.rb).mono ?_
  rintro q wz ⟨rfl, oz⟩
  obtain ⟨le, lr, lb⟩ := D3.out.last oz
  have KE := Lib.hid le
  have KR := Lib.hid lr
  have BZ := Lib.hid lb
  have HHX := Lib.hid (D3.out.hx)
  have HD : Hid (decodeR s = ((⟨6, (n2 : Int), 0, zero6, ⟨#[]⟩, 0⟩ : Evt), rd s2 e2)) := (decR_6 QH1.out.symm).trans (by rw [← QH2.out])
  clear le lr lb oz D3 c3 lx3 CU CT CF CK CE
  have F1 := Lib.hid (HF.out _ HD.out)
  have F2 := Lib.hid (HG.out _ HD.out)
  have ce := Blk11 KE.out
  have le := KE.out.lt
  have cr := Blk11 KR.out
  have lr := KR.out.lt
  try dsimp only at F1 F2
  generalize rdEnd (rd s2 e2) = E at *
  by_cases hE : E = 0
  · subst hE
    obtain ⟨a1, a2⟩ := Prod.mk.inj (F2.out rfl)
    have A1 := Lib.hid a1
    have A2 := Lib.hid a2
    have dE : ((0 : Int) != 0) = false := rfl
    clear a1 a2 F1 F2 HF HG HD
    go_wp2_with fail
    exact bodyPost_ret (v := .tuple #[.agg #[.int .i64 6, .int .i64 (n2 : Int), .int .i64 0, .int .i64 0, .int .i64 0, .int .i64 0, .int .i64 0, .int .i64 0, .int .i64 0, .string ⟨#[]⟩, .int .u64 0], .int .i64 0]) (results_blk_tmp rfl rfl (put_all KR.out _ _ _ _ _ _ _ _ _ _ _) Tryz.underlying26 rfl (by kernel_rfl) rfl) rfl ⟨by rw [A1.out, A2.out]; rfl, below_all BZ.out (Nat.le_refl _) _ _ _ _ _ _ _ _ _ _ _⟩
  · obtain ⟨a1, a2⟩ := Prod.mk.inj (F1.out hE)
    have A1 := Lib.hid a1
    have A2 := Lib.hid a2
    have dE : (E != 0) = true := by simpa using hE
    clear a1 a2 F1 F2 HF HG HD hE
    go_wp2_with fail
    exact bodyPost_ret (v := .tuple #[.agg #[.int .i64 0, .int .i64 0, .int .i64 0, .int .i64 0, .int .i64 0, .int .i64 0, .int .i64 0, .int .i64 0, .int .i64 0, .string ⟨#[]⟩, .int .u64 0], .int .i64 E]) (results_blk_tmp rfl rfl (put_all KR.out _ _ _ _ _ _ _ _ _ _ _) Tryz.underlying26 rfl (by kernel_rfl) rfl) rfl ⟨by rw [A1.out, A2.out]; rfl, below_all BZ.out (Nat.le_refl _) _ _ _ _ _ _ _ _ _ _ _⟩
set_option maxHeartbeats 4000000 in
set_option maxRecDepth 100000 in
theorem dec_at_7 (s : ByteArray) (w : World) (hs : ¬ 4000 < s.size) (hk : (rdU 10 (rd s 0)).1 = 7) : Calls Tryz.prog 16 #[.string s] w (DecPost (decodeV s) w) := by
  have hs5 : s.size ≤ 5000 := by omega
  have CU := Lib.hid read_any
  have CT := Lib.hid readT_any
  have CE := Lib.hid rend_any
  have CF := Lib.hid rfail_any
  have CK := Lib.hid (fun W => fields_any 7 W)
  have hfk : fieldsK 7 = 1 := by decide
  rw [hfk] at CK
  have HF := Lib.hid (dec_fail hs)
  have HG := Lib.hid (dec_fine hs)
  have HK := Lib.hid hk
  have hd : decide ((4000 : Int) < (s.size : Int)) = false := decide_eq_false (by omega)
  have t1 : (bits BinOp.and IntKind.i64 1 1 != 0) = true := by decide +kernel
  have t2 : (bits BinOp.and IntKind.i64 1 2 != 0) = false := by decide +kernel
  have t4 : (bits BinOp.and IntKind.i64 1 4 != 0) = false := by decide +kernel
  have t8 : (bits BinOp.and IntKind.i64 1 8 != 0) = false := by decide +kernel
  have t16 : (bits BinOp.and IntKind.i64 1 16 != 0) = false := by decide +kernel
  generalize decodeV s = V at *
  obtain ⟨V1, V2⟩ := V
  obtain ⟨v1, v2, v3, v4, v5, v6⟩ := V1
  have HS5 := Lib.hid hs5
  clear hk hfk hs hs5
  go_enter Tryz.func16, Tryz.ntmps16
  go_wp2_with fail
  refine (newR_any s _).mono ?_
  rintro q w1 ⟨rfl, h1, b1⟩
  have H1 := Lib.hid h1
  have B1 := Lib.hid b1
  clear h1 b1
  obtain ⟨g, hg⟩ : ∃ g, g = (w.alloc (.cells #[.int .i64 0, .int .i64 0, .int .i64 0, .int .i64 0, .int .i64 0, .int .i64 0, .int .i64 0, .int .i64 0, .int .i64 0, .string ⟨#[]⟩, .int .u64 0] 26)).heap.size := ⟨_, rfl⟩
  rw [← hg] at H1
  try rw [← hg]
  have hg2 : g = w.heap.size + 1 := by rw [hg, World.size_alloc]
  have HGG := Lib.hid hg
  clear hg
  go_wp2_with fail
  try rw [← hg2]
  refine (CU.out 10 s 0 g _ H1.out (by decide) HS5.out).mono ?_
  rintro q w2 ⟨n1, s1, e1, rfl, Q1, L1, S1, h2, o2⟩
  have QH1 := Lib.hid Q1
  have hn : n1 = 7 := by rw [← HK.out, ← Q1]
  subst hn
  have D1 := Lib.hid (dm_new (cs := #[.int .i64 7, .int .i64 0, .int .i64 0, .int .i64 0, .int .i64 0, .int .i64 0, .int .i64 0, .int .i64 0, .int .i64 0, .string ⟨#[]⟩, .int .u64 0]) B1.out g HGG.out h2 o2)
  have HS1 := Lib.hid S1
  clear L1 S1 h2 o2 H1 B1 HGG HK Q1 hg2
  go_wp2_with fail
  refine (CK.out _).mono ?_
  rintro q w3 ⟨rfl, rfl⟩
  generalize w2.alloc (.cells #[.int .i64 7, .int .i64 0, .int .i64 0, .int .i64 0, .int .i64 0, .int .i64 0, .int .i64 0, .int .i64 0, .int .i64 0, .string ⟨#[]⟩, .int .u64 0] 26) = w3 at *
  generalize w2.heap.size = x at *
  have c1 := Blk11 D1.out.ev
  have lx1 := D1.out.ev.lt
  go_wp2_with fail
  refine (CU.out 7 s1 e1 g _ D1.out.rb (by decide) HS1.out).mono ?_
  rintro q w4 ⟨n2, s2, e2, rfl, Q, L, S, h2, o2⟩
  have QH2 := Lib.hid Q
  have HS2 := Lib.hid S
  have v2_ := IntWalk.i64_in (n2 : Int) ⟨by omega, by omega⟩
  have D2 := Lib.hid (D1.out.read h2 o2)
  clear h2 o2 Q S D1 c1 lx1
  have c2 := Blk11 D2.out.ev
  have lx2 := D2.out.ev.lt
  go_wp2_with fail
  have D3 : Hid (DM w _ g x s2 e2 #[.int .i64 7, .int .i64 (n2 : Int), .int .i64 0, .int .i64 0, .int .i64 0, .int .i64 0, .int .i64 0, .int .i64 0, .int .i64 0, .string ⟨#[]⟩, .int .u64 0]) := D2.out.put 1 (.int .i64 (n2 : Int))
  have HS3 := HS2
  generalize w4.setCell ⟨x, 1, none⟩ (.int .i64 (n2 : Int)) = w5 at *
  clear c2 lx2 D2
  have c3 := Blk11 D3.out.ev
  have lx3 := D3.out.ev.lt
  refine (CE.out s2 e2 g _ D3.out.rb).mono ?_
  rintro q wz ⟨rfl, oz⟩
  obtain ⟨le, lr, lb⟩ := D3.out.last oz
  have KE := Lib.hid le
  have KR := Lib.hid lr
  have BZ := Lib.hid lb
  have HHX := Lib.hid (D3.out.hx)
  have HD : Hid (decodeR s = ((⟨7, (n2 : Int), 0, zero6, ⟨#[]⟩, 0⟩ : Evt), rd s2 e2)) := (decR_7 QH1.out.symm).trans (by rw [← QH2.out])
  clear le lr lb oz D3 c3 lx3 CU CT CF CK CE
  have F1 := Lib.hid (HF.out _ HD.out)
  have F2 := Lib.hid (HG.out _ HD.out)
  have ce := Blk11 KE.out
  have le := KE.out.lt
  have cr := Blk11 KR.out
  have lr := KR.out.lt
  try dsimp only at F1 F2
  generalize rdEnd (rd s2 e2) = E at *
  by_cases hE : E = 0
  · subst hE
    obtain ⟨a1, a2⟩ := Prod.mk.inj (F2.out rfl)
    have A1 := Lib.hid a1
    have A2 := Lib.hid a2
    have dE : ((0 : Int) != 0) = false := rfl
    clear a1 a2 F1 F2 HF HG HD
    go_wp2_with fail
    exact bodyPost_ret (v := .tuple #[.agg #[.int .i64 7, .int .i64 (n2 : Int), .int .i64 0, .int .i64 0, .int .i64 0, .int .i64 0, .int .i64 0, .int .i64 0, .int .i64 0, .string ⟨#[]⟩, .int .u64 0], .int .i64 0]) (results_blk_tmp rfl rfl (put_all KR.out _ _ _ _ _ _ _ _ _ _ _) Tryz.underlying26 rfl (by kernel_rfl) rfl) rfl ⟨by rw [A1.out, A2.out]; rfl, below_all BZ.out (Nat.le_refl _) _ _ _ _ _ _ _ _ _ _ _⟩
  · obtain ⟨a1, a2⟩ := Prod.mk.inj (F1.out hE)
    have A1 := Lib.hid a1
    have A2 := Lib.hid a2
    have dE : (E != 0) = true := by simpa using hE
    clear a1 a2 F1 F2 HF HG HD hE
    go_wp2_with fail
    exact bodyPost_ret (v := .tuple #[.agg #[.int .i64 0, .int .i64 0, .int .i64 0, .int .i64 0, .int .i64 0, .int .i64 0, .int .i64 0, .int .i64 0, .int .i64 0, .string ⟨#[]⟩, .int .u64 0], .int .i64 E]) (results_blk_tmp rfl rfl (put_all KR.out _ _ _ _ _ _ _ _ _ _ _) Tryz.underlying26 rfl (by kernel_rfl) rfl) rfl ⟨by rw [A1.out, A2.out]; rfl, below_all BZ.out (Nat.le_refl _) _ _ _ _ _ _ _ _ _ _ _⟩
set_option maxHeartbeats 4000000 in
set_option maxRecDepth 100000 in
theorem dec_at_8 (s : ByteArray) (w : World) (hs : ¬ 4000 < s.size) (hk : (rdU 10 (rd s 0)).1 = 8) : Calls Tryz.prog 16 #[.string s] w (DecPost (decodeV s) w) := by
  have hs5 : s.size ≤ 5000 := by omega
  have CU := Lib.hid read_any
  have CT := Lib.hid readT_any
  have CE := Lib.hid rend_any
  have CF := Lib.hid rfail_any
  have CK := Lib.hid (fun W => fields_any 8 W)
  have hfk : fieldsK 8 = 8 := by decide
  rw [hfk] at CK
  have HF := Lib.hid (dec_fail hs)
  have HG := Lib.hid (dec_fine hs)
  have HK := Lib.hid hk
  have hd : decide ((4000 : Int) < (s.size : Int)) = false := decide_eq_false (by omega)
  have t1 : (bits BinOp.and IntKind.i64 8 1 != 0) = false := by decide +kernel
  have t2 : (bits BinOp.and IntKind.i64 8 2 != 0) = false := by decide +kernel
  have t4 : (bits BinOp.and IntKind.i64 8 4 != 0) = false := by decide +kernel
  have t8 : (bits BinOp.and IntKind.i64 8 8 != 0) = true := by decide +kernel
  have t16 : (bits BinOp.and IntKind.i64 8 16 != 0) = false := by decide +kernel
  generalize decodeV s = V at *
  obtain ⟨V1, V2⟩ := V
  obtain ⟨v1, v2, v3, v4, v5, v6⟩ := V1
  have HS5 := Lib.hid hs5
  clear hk hfk hs hs5
  go_enter Tryz.func16, Tryz.ntmps16
  go_wp2_with fail
  refine (newR_any s _).mono ?_
  rintro q w1 ⟨rfl, h1, b1⟩
  have H1 := Lib.hid h1
  have B1 := Lib.hid b1
  clear h1 b1
  obtain ⟨g, hg⟩ : ∃ g, g = (w.alloc (.cells #[.int .i64 0, .int .i64 0, .int .i64 0, .int .i64 0, .int .i64 0, .int .i64 0, .int .i64 0, .int .i64 0, .int .i64 0, .string ⟨#[]⟩, .int .u64 0] 26)).heap.size := ⟨_, rfl⟩
  rw [← hg] at H1
  try rw [← hg]
  have hg2 : g = w.heap.size + 1 := by rw [hg, World.size_alloc]
  have HGG := Lib.hid hg
  clear hg
  go_wp2_with fail
  try rw [← hg2]
  refine (CU.out 10 s 0 g _ H1.out (by decide) HS5.out).mono ?_
  rintro q w2 ⟨n1, s1, e1, rfl, Q1, L1, S1, h2, o2⟩
  have QH1 := Lib.hid Q1
  have hn : n1 = 8 := by rw [← HK.out, ← Q1]
  subst hn
  have D1 := Lib.hid (dm_new (cs := #[.int .i64 8, .int .i64 0, .int .i64 0, .int .i64 0, .int .i64 0, .int .i64 0, .int .i64 0, .int .i64 0, .int .i64 0, .string ⟨#[]⟩, .int .u64 0]) B1.out g HGG.out h2 o2)
  have HS1 := Lib.hid S1
  clear L1 S1 h2 o2 H1 B1 HGG HK Q1 hg2
  go_wp2_with fail
  refine (CK.out _).mono ?_
  rintro q w3 ⟨rfl, rfl⟩
  generalize w2.alloc (.cells #[.int .i64 8, .int .i64 0, .int .i64 0, .int .i64 0, .int .i64 0, .int .i64 0, .int .i64 0, .int .i64 0, .int .i64 0, .string ⟨#[]⟩, .int .u64 0] 26) = w3 at *
  generalize w2.heap.size = x at *
  have c1 := Blk11 D1.out.ev
  have lx1 := D1.out.ev.lt
  go_wp2_with fail
  refine (CU.out 29 s1 e1 g _ D1.out.rb (by decide) HS1.out).mono ?_
  rintro q w4 ⟨n2, s2, e2, rfl, Q, L, S, h2, o2⟩
  have QH2 := Lib.hid Q
  have HS2 := Lib.hid S
  have v2_ := IntWalk.i64_in (n2 : Int) ⟨by omega, by omega⟩
  have D2 := Lib.hid (D1.out.read h2 o2)
  clear h2 o2 Q S D1 c1 lx1
  have c2 := Blk11 D2.out.ev
  have lx2 := D2.out.ev.lt
  go_wp2_with fail
  have D3 : Hid (DM w _ g x s2 e2 #[.int .i64 8, .int .i64 0, .int .i64 (n2 : Int), .int .i64 0, .int .i64 0, .int .i64 0, .int .i64 0, .int .i64 0, .int .i64 0, .string ⟨#[]⟩, .int .u64 0]) := D2.out.put 2 (.int .i64 (n2 : Int))
  have HS3 := HS2
  generalize w4.setCell ⟨x, 2, none⟩ (.int .i64 (n2 : Int)) = w5 at *
  clear c2 lx2 D2
  have c3 := Blk11 D3.out.ev
  have lx3 := D3.out.ev.lt
  refine (CE.out s2 e2 g _ D3.out.rb).mono ?_
  rintro q wz ⟨rfl, oz⟩
  obtain ⟨le, lr, lb⟩ := D3.out.last oz
  have KE := Lib.hid le
  have KR := Lib.hid lr
  have BZ := Lib.hid lb
  have HHX := Lib.hid (D3.out.hx)
  have HD : Hid (decodeR s = ((⟨8, 0, (n2 : Int), zero6, ⟨#[]⟩, 0⟩ : Evt), rd s2 e2)) := (decR_8 QH1.out.symm).trans (by rw [← QH2.out])
  clear le lr lb oz D3 c3 lx3 CU CT CF CK CE
  have F1 := Lib.hid (HF.out _ HD.out)
  have F2 := Lib.hid (HG.out _ HD.out)
  have ce := Blk11 KE.out
  have le := KE.out.lt
  have cr := Blk11 KR.out
  have lr := KR.out.lt
  try dsimp only at F1 F2
  generalize rdEnd (rd s2 e2) = E at *
  by_cases hE : E = 0
  · subst hE
    obtain ⟨a1, a2⟩ := Prod.mk.inj (F2.out rfl)
    have A1 := Lib.hid a1
    have A2 := Lib.hid a2
    have dE : ((0 : Int) != 0) = false := rfl
    clear a1 a2 F1 F2 HF HG HD
    go_wp2_with fail
    exact bodyPost_ret (v := .tuple #[.agg #[.int .i64 8, .int .i64 0, .int .i64 (n2 : Int), .int .i64 0, .int .i64 0, .int .i64 0, .int .i64 0, .int .i64 0, .int .i64 0, .string ⟨#[]⟩, .int .u64 0], .int .i64 0]) (results_blk_tmp rfl rfl (put_all KR.out _ _ _ _ _ _ _ _ _ _ _) Tryz.underlying26 rfl (by kernel_rfl) rfl) rfl ⟨by rw [A1.out, A2.out]; rfl, below_all BZ.out (Nat.le_refl _) _ _ _ _ _ _ _ _ _ _ _⟩
  · obtain ⟨a1, a2⟩ := Prod.mk.inj (F1.out hE)
    have A1 := Lib.hid a1
    have A2 := Lib.hid a2
    have dE : (E != 0) = true := by simpa using hE
    clear a1 a2 F1 F2 HF HG HD hE
    go_wp2_with fail
    exact bodyPost_ret (v := .tuple #[.agg #[.int .i64 0, .int .i64 0, .int .i64 0, .int .i64 0, .int .i64 0, .int .i64 0, .int .i64 0, .int .i64 0, .int .i64 0, .string ⟨#[]⟩, .int .u64 0], .int .i64 E]) (results_blk_tmp rfl rfl (put_all KR.out _ _ _ _ _ _ _ _ _ _ _) Tryz.underlying26 rfl (by kernel_rfl) rfl) rfl ⟨by rw [A1.out, A2.out]; rfl, below_all BZ.out (Nat.le_refl _) _ _ _ _ _ _ _ _ _ _ _⟩
set_option maxHeartbeats 4000000 in
set_option maxRecDepth 100000 in
theorem dec_at_9 (s : ByteArray) (w : World) (hs : ¬ 4000 < s.size) (hk : (rdU 10 (rd s 0)).1 = 9) : Calls Tryz.prog 16 #[.string s] w (DecPost (decodeV s) w) := by
  have hs5 : s.size ≤ 5000 := by omega
  have CU := Lib.hid read_any
  have CT := Lib.hid readT_any
  have CE := Lib.hid rend_any
  have CF := Lib.hid rfail_any
  have CK := Lib.hid (fun W => fields_any 9 W)
  have hfk : fieldsK 9 = 0 := by decide
  rw [hfk] at CK
  have HF := Lib.hid (dec_fail hs)
  have HG := Lib.hid (dec_fine hs)
  have HK := Lib.hid hk
  have hd : decide ((4000 : Int) < (s.size : Int)) = false := decide_eq_false (by omega)
  have t1 : (bits BinOp.and IntKind.i64 0 1 != 0) = false := by decide +kernel
  have t2 : (bits BinOp.and IntKind.i64 0 2 != 0) = false := by decide +kernel
  have t4 : (bits BinOp.and IntKind.i64 0 4 != 0) = false := by decide +kernel
  have t8 : (bits BinOp.and IntKind.i64 0 8 != 0) = false := by decide +kernel
  have t16 : (bits BinOp.and IntKind.i64 0 16 != 0) = false := by decide +kernel
  generalize decodeV s = V at *
  obtain ⟨V1, V2⟩ := V
  obtain ⟨v1, v2, v3, v4, v5, v6⟩ := V1
  have HS5 := Lib.hid hs5
  clear hk hfk hs hs5
  go_enter Tryz.func16, Tryz.ntmps16
  go_wp2_with fail
  refine (newR_any s _).mono ?_
  rintro q w1 ⟨rfl, h1, b1⟩
  have H1 := Lib.hid h1
  have B1 := Lib.hid b1
  clear h1 b1
  obtain ⟨g, hg⟩ : ∃ g, g = (w.alloc (.cells #[.int .i64 0, .int .i64 0, .int .i64 0, .int .i64 0, .int .i64 0, .int .i64 0, .int .i64 0, .int .i64 0, .int .i64 0, .string ⟨#[]⟩, .int .u64 0] 26)).heap.size := ⟨_, rfl⟩
  rw [← hg] at H1
  try rw [← hg]
  have hg2 : g = w.heap.size + 1 := by rw [hg, World.size_alloc]
  have HGG := Lib.hid hg
  clear hg
  go_wp2_with fail
  try rw [← hg2]
  refine (CU.out 10 s 0 g _ H1.out (by decide) HS5.out).mono ?_
  rintro q w2 ⟨n1, s1, e1, rfl, Q1, L1, S1, h2, o2⟩
  have QH1 := Lib.hid Q1
  have hn : n1 = 9 := by rw [← HK.out, ← Q1]
  subst hn
  have D1 := Lib.hid (dm_new (cs := #[.int .i64 9, .int .i64 0, .int .i64 0, .int .i64 0, .int .i64 0, .int .i64 0, .int .i64 0, .int .i64 0, .int .i64 0, .string ⟨#[]⟩, .int .u64 0]) B1.out g HGG.out h2 o2)
  have HS1 := Lib.hid S1
  clear L1 S1 h2 o2 H1 B1 HGG HK Q1 hg2
  go_wp2_with fail
  refine (CK.out _).mono ?_
  rintro q w3 ⟨rfl, rfl⟩
  generalize w2.alloc (.cells #[.int .i64 9, .int .i64 0, .int .i64 0, .int .i64 0, .int .i64 0, .int .i64 0, .int .i64 0, .int .i64 0, .int .i64 0, .string ⟨#[]⟩, .int .u64 0] 26) = w3 at *
  generalize w2.heap.size = x at *
  have c1 := Blk11 D1.out.ev
  have lx1 := D1.out.ev.lt
  go_wp2_with fail
  refine (CE.out s1 e1 g _ D1.out.rb).mono ?_
  rintro q wz ⟨rfl, oz⟩
  obtain ⟨le, lr, lb⟩ := D1.out.last oz
  have KE := Lib.hid le
  have KR := Lib.hid lr
  have BZ := Lib.hid lb
  have HHX := Lib.hid (D1.out.hx)
  have HD : Hid (decodeR s = ((⟨9, 0, 0, zero6, ⟨#[]⟩, 0⟩ : Evt), rd s1 e1)) := (decR_9 QH1.out.symm)
  clear le lr lb oz D1 c1 lx1 CU CT CF CK CE
  have F1 := Lib.hid (HF.out _ HD.out)
  have F2 := Lib.hid (HG.out _ HD.out)
  have ce := Blk11 KE.out
  have le := KE.out.lt
  have cr := Blk11 KR.out
  have lr := KR.out.lt
  try dsimp only at F1 F2
  generalize rdEnd (rd s1 e1) = E at *
  by_cases hE : E = 0
  · subst hE
    obtain ⟨a1, a2⟩ := Prod.mk.inj (F2.out rfl)
    have A1 := Lib.hid a1
    have A2 := Lib.hid a2
    have dE : ((0 : Int) != 0) = false := rfl
    clear a1 a2 F1 F2 HF HG HD
    go_wp2_with fail
    exact bodyPost_ret (v := .tuple #[.agg #[.int .i64 9, .int .i64 0, .int .i64 0, .int .i64 0, .int .i64 0, .int .i64 0, .int .i64 0, .int .i64 0, .int .i64 0, .string ⟨#[]⟩, .int .u64 0], .int .i64 0]) (results_blk_tmp rfl rfl (put_all KR.out _ _ _ _ _ _ _ _ _ _ _) Tryz.underlying26 rfl (by kernel_rfl) rfl) rfl ⟨by rw [A1.out, A2.out]; rfl, below_all BZ.out (Nat.le_refl _) _ _ _ _ _ _ _ _ _ _ _⟩
  · obtain ⟨a1, a2⟩ := Prod.mk.inj (F1.out hE)
    have A1 := Lib.hid a1
    have A2 := Lib.hid a2
    have dE : (E != 0) = true := by simpa using hE
    clear a1 a2 F1 F2 HF HG HD hE
    go_wp2_with fail
    exact bodyPost_ret (v := .tuple #[.agg #[.int .i64 0, .int .i64 0, .int .i64 0, .int .i64 0, .int .i64 0, .int .i64 0, .int .i64 0, .int .i64 0, .int .i64 0, .string ⟨#[]⟩, .int .u64 0], .int .i64 E]) (results_blk_tmp rfl rfl (put_all KR.out _ _ _ _ _ _ _ _ _ _ _) Tryz.underlying26 rfl (by kernel_rfl) rfl) rfl ⟨by rw [A1.out, A2.out]; rfl, below_all BZ.out (Nat.le_refl _) _ _ _ _ _ _ _ _ _ _ _⟩
set_option maxHeartbeats 4000000 in
set_option maxRecDepth 100000 in
theorem dec_at_10 (s : ByteArray) (w : World) (hs : ¬ 4000 < s.size) (hk : (rdU 10 (rd s 0)).1 = 10) : Calls Tryz.prog 16 #[.string s] w (DecPost (decodeV s) w) := by
  have hs5 : s.size ≤ 5000 := by omega
  have CU := Lib.hid read_any
  have CT := Lib.hid readT_any
  have CE := Lib.hid rend_any
  have CF := Lib.hid rfail_any
  have CK := Lib.hid (fun W => fields_any 10 W)
  have hfk : fieldsK 10 = 16 := by decide
  rw [hfk] at CK
  have HF := Lib.hid (dec_fail hs)
  have HG := Lib.hid (dec_fine hs)
  have HK := Lib.hid hk
  have hd : decide ((4000 : Int) < (s.size : Int)) = false := decide_eq_false (by omega)
  have t1 : (bits BinOp.and IntKind.i64 16 1 != 0) = false := by decide +kernel
  have t2 : (bits BinOp.and IntKind.i64 16 2 != 0) = false := by decide +kernel
  have t4 : (bits BinOp.and IntKind.i64 16 4 != 0) = false := by decide +kernel
  have t8 : (bits BinOp.and IntKind.i64 16 8 != 0) = false := by decide +kernel
  have t16 : (bits BinOp.and IntKind.i64 16 16 != 0) = true := by decide +kernel
  generalize decodeV s = V at *
  obtain ⟨V1, V2⟩ := V
  obtain ⟨v1, v2, v3, v4, v5, v6⟩ := V1
  have HS5 := Lib.hid hs5
  clear hk hfk hs hs5
  go_enter Tryz.func16, Tryz.ntmps16
  go_wp2_with fail
  refine (newR_any s _).mono ?_
  rintro q w1 ⟨rfl, h1, b1⟩
  have H1 := Lib.hid h1
  have B1 := Lib.hid b1
  clear h1 b1
  obtain ⟨g, hg⟩ : ∃ g, g = (w.alloc (.cells #[.int .i64 0, .int .i64 0, .int .i64 0, .int .i64 0, .int .i64 0, .int .i64 0, .int .i64 0, .int .i64 0, .int .i64 0, .string ⟨#[]⟩, .int .u64 0] 26)).heap.size := ⟨_, rfl⟩
  rw [← hg] at H1
  try rw [← hg]
  have hg2 : g = w.heap.size + 1 := by rw [hg, World.size_alloc]
  have HGG := Lib.hid hg
  clear hg
  go_wp2_with fail
  try rw [← hg2]
  refine (CU.out 10 s 0 g _ H1.out (by decide) HS5.out).mono ?_
  rintro q w2 ⟨n1, s1, e1, rfl, Q1, L1, S1, h2, o2⟩
  have QH1 := Lib.hid Q1
  have hn : n1 = 10 := by rw [← HK.out, ← Q1]
  subst hn
  have D1 := Lib.hid (dm_new (cs := #[.int .i64 10, .int .i64 0, .int .i64 0, .int .i64 0, .int .i64 0, .int .i64 0, .int .i64 0, .int .i64 0, .int .i64 0, .string ⟨#[]⟩, .int .u64 0]) B1.out g HGG.out h2 o2)
  have HS1 := Lib.hid S1
  clear L1 S1 h2 o2 H1 B1 HGG HK Q1 hg2
  go_wp2_with fail
  refine (CK.out _).mono ?_
  rintro q w3 ⟨rfl, rfl⟩
  generalize w2.alloc (.cells #[.int .i64 10, .int .i64 0, .int .i64 0, .int .i64 0, .int .i64 0, .int .i64 0, .int .i64 0, .int .i64 0, .int .i64 0, .string ⟨#[]⟩, .int .u64 0] 26) = w3 at *
  generalize w2.heap.size = x at *
  have c1 := Blk11 D1.out.ev
  have lx1 := D1.out.ev.lt
  go_wp2_with fail
  refine (CU.out 18446744073709551615 s1 e1 g _ D1.out.rb (by decide) HS1.out).mono ?_
  rintro q w4 ⟨n2, s2, e2, rfl, Q, L, S, h2, o2⟩
  have QH2 := Lib.hid Q
  have D2 := Lib.hid (D1.out.read h2 o2)
  clear h2 o2 Q S L D1 c1 lx1
  have c2 := Blk11 D2.out.ev
  have lx2 := D2.out.ev.lt
  go_wp2_with fail
  have D3 : Hid (DM w _ g x s2 e2 #[.int .i64 10, .int .i64 0, .int .i64 0, .int .i64 0, .int .i64 0, .int .i64 0, .int .i64 0, .int .i64 0, .int .i64 0, .string ⟨#[]⟩, .int .u64 (n2 : Int)]) := D2.out.put 10 (.int .u64 (n2 : Int))
  generalize w4.setCell ⟨x, 10, none⟩ (.int .u64 (n2 : Int)) = w5 at *
  clear c2 lx2 D2
  have c3 := Blk11 D3.out.ev
  have lx3 := D3.out.ev.lt
  refine (CE.out s2 e2 g _ D3.out.rb).mono ?_
  rintro q wz ⟨rfl, oz⟩
  obtain ⟨le, lr, lb⟩ := D3.out.last oz
  have KE := Lib.hid le
  have KR := Lib.hid lr
  have BZ := Lib.hid lb
  have HHX := Lib.hid (D3.out.hx)
  have HD : Hid (decodeR s = ((⟨10, 0, 0, zero6, ⟨#[]⟩, n2⟩ : Evt), rd s2 e2)) := (decR_10 QH1.out.symm).trans (by rw [← QH2.out])
  clear le lr lb oz D3 c3 lx3 CU CT CF CK CE
  have F1 := Lib.hid (HF.out _ HD.out)
  have F2 := Lib.hid (HG.out _ HD.out)
  have ce := Blk11 KE.out
  have le := KE.out.lt
  have cr := Blk11 KR.out
  have lr := KR.out.lt
  try dsimp only at F1 F2
  generalize rdEnd (rd s2 e2) = E at *
  by_cases hE : E = 0
  · subst hE
    obtain ⟨a1, a2⟩ := Prod.mk.inj (F2.out rfl)
    have A1 := Lib.hid a1
    have A2 := Lib.hid a2
    have dE : ((0 : Int) != 0) = false := rfl
    clear a1 a2 F1 F2 HF HG HD
    go_wp2_with fail
    exact bodyPost_ret (v := .tuple #[.agg #[.int .i64 10, .int .i64 0, .int .i64 0, .int .i64 0, .int .i64 0, .int .i64 0, .int .i64 0, .int .i64 0, .int .i64 0, .string ⟨#[]⟩, .int .u64 (n2 : Int)], .int .i64 0]) (results_blk_tmp rfl rfl (put_all KR.out _ _ _ _ _ _ _ _ _ _ _) Tryz.underlying26 rfl (by kernel_rfl) rfl) rfl ⟨by rw [A1.out, A2.out]; rfl, below_all BZ.out (Nat.le_refl _) _ _ _ _ _ _ _ _ _ _ _⟩
  · obtain ⟨a1, a2⟩ := Prod.mk.inj (F1.out hE)
    have A1 := Lib.hid a1
    have A2 := Lib.hid a2
    have dE : (E != 0) = true := by simpa using hE
    clear a1 a2 F1 F2 HF HG HD hE
    go_wp2_with fail
    exact bodyPost_ret (v := .tuple #[.agg #[.int .i64 0, .int .i64 0, .int .i64 0, .int .i64 0, .int .i64 0, .int .i64 0, .int .i64 0, .int .i64 0, .int .i64 0, .string ⟨#[]⟩, .int .u64 0], .int .i64 E]) (results_blk_tmp rfl rfl (put_all KR.out _ _ _ _ _ _ _ _ _ _ _) Tryz.underlying26 rfl (by kernel_rfl) rfl) rfl ⟨by rw [A1.out, A2.out]; rfl, below_all BZ.out (Nat.le_refl _) _ _ _ _ _ _ _ _ _ _ _⟩
set_option maxHeartbeats 4000000 in
set_option maxRecDepth 100000 in
theorem dec_long_any (s : ByteArray) (w : World) (hs : 4000 < s.size) (h5 : s.size ≤ 5000) : Calls Tryz.prog 16 #[.string s] w (DecPost (decodeV s) w) := by
  rw [dec_long hs]
  have hd : decide ((4000 : Int) < (s.size : Int)) = true := decide_eq_true (by omega)
  have HS := Lib.hid hs
  clear hs
  go_enter Tryz.func16, Tryz.ntmps16
  go_wp2_with fail
  exact bodyPost_ret (v := .tuple #[.agg #[.int .i64 0, .int .i64 0, .int .i64 0, .int .i64 0, .int .i64 0, .int .i64 0, .int .i64 0, .int .i64 0, .int .i64 0, .string ⟨#[]⟩, .int .u64 0], .int .i64 3]) (results_blk_tmp rfl rfl (Blk.new _ _ _) Tryz.underlying26 rfl (by kernel_rfl) rfl) rfl ⟨rfl, below_new _ _⟩
theorem decode_any (s : ByteArray) (w : World) (h5 : s.size ≤ 5000) : Calls Tryz.prog 16 #[.string s] w (DecPost (decodeV s) w) := by
  by_cases hs : 4000 < s.size
  · exact dec_long_any s w hs h5
  · have hn := rdU_le 10 (rd s 0)
    have hk : (rdU 10 (rd s 0)).1 = 0 ∨ (rdU 10 (rd s 0)).1 = 1 ∨ (rdU 10 (rd s 0)).1 = 2 ∨ (rdU 10 (rd s 0)).1 = 3 ∨ (rdU 10 (rd s 0)).1 = 4 ∨ (rdU 10 (rd s 0)).1 = 5 ∨ (rdU 10 (rd s 0)).1 = 6 ∨ (rdU 10 (rd s 0)).1 = 7 ∨ (rdU 10 (rd s 0)).1 = 8 ∨ (rdU 10 (rd s 0)).1 = 9 ∨ (rdU 10 (rd s 0)).1 = 10 := by omega
    rcases hk with h | h | h | h | h | h | h | h | h | h | h
    · exact dec_at_0 s w hs h
    · exact dec_at_1 s w hs h
    · exact dec_at_2 s w hs h
    · exact dec_at_3 s w hs h
    · exact dec_at_4 s w hs h
    · exact dec_at_5 s w hs h
    · exact dec_at_6 s w hs h
    · exact dec_at_7 s w hs h
    · exact dec_at_8 s w hs h
    · exact dec_at_9 s w hs h
    · exact dec_at_10 s w hs h
end Go.Proofs.YtaikmgnpfbnjjaaGreatDoor.Ev
