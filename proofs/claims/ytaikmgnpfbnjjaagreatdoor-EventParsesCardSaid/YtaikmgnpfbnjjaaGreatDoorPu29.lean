/- Contract of event.Format. Printed by gen_ev9.py. -/
import Derived.Test.YtaikmgnpfbnjjaaGreatDoorPu28
import Derived.Test.YtaikmgnpfbnjjaaGreatDoorPu24
import Derived.Test.YtaikmgnpfbnjjaaGreatDoorPu23
import Derived.Test.YtaikmgnpfbnjjaaGreatDoorPu09
import Derived.Test.YtaikmgnpfbnjjaaGreatDoorPu15
import Derived.Test.YtaikmgnpfbnjjaaGreatDoorPu18
namespace Go.Proofs.YtaikmgnpfbnjjaaGreatDoor.Ev
open Go.ChangeShapes Go.WideShapes Go.ChangeAt Go.RowKit Gn Cat Lex Ros Se
set_option linter.unusedVariables false
set_option linter.unusedSimpArgs false
/-- the boxes of the setup and of the event -/
structure FM (w wx : World) (g : Nat) (sv cs : Array Value) : Prop where
  su : Blk wx w.heap.size 42 sv
  ev : Blk wx g 26 cs
  bl : Below w.heap.size w wx
theorem FM.keep {w wx wy : World} {g : Nat} {sv cs : Array Value} (h : FM w wx g sv cs) (b : Below wx.heap.size wx wy) : FM w wy g sv cs := ⟨h.su.below' b, h.ev.below' b, chain0 h.bl b⟩
theorem fm_new (w : World) (sv cs : Array Value) : FM w ((w.alloc (.cells sv 42)).alloc (.cells cs 26)) (w.heap.size + 1) sv cs := by
  have h := Blk.new (w.alloc (.cells sv 42)) 26 cs
  rw [World.size_alloc] at h
  exact ⟨(Blk.new w 42 sv).alloc _, h, (below_new w _).alloc (below_new w _).size _⟩
theorem cap_big {v : ByteArray} (h : 4000 < v.size) : capV v = ⟨#[]⟩ := if_pos h
theorem cap_small {v : ByteArray} (h : ¬ 4000 < v.size) : capV v = v := if_neg h
/-- a word is put behind a space -/
theorem add_word (a x : ByteArray) (ha : a.size ≤ 20000) (hx : x.size ≤ 20000) : ∃ t o : ByteArray, (∀ W, (Op.stringOp .add ⟨#[32]⟩ x).run Tryz.prog W = .ok (.string t) W) ∧ (∀ W, (Op.stringOp .add a t).run Tryz.prog W = .ok (.string o) W) ∧ o = line2 a x ∧ o.size ≤ a.size + 1 + x.size := by
  refine ⟨⟨#[32]⟩ ++ x, line2 a x, fun W => add_s _ _ (by show 1 + _ ≤ _; omega) W, fun W => ?_, rfl, Nat.le_of_eq (line2_size a x)⟩
  have h2 : (⟨#[32]⟩ ++ x : ByteArray).size = 1 + x.size := by rw [ByteArray.size_append]; rfl
  exact add_s _ _ (by omega) W
theorem bid_small {S : SetD} {i : Nat} (hE : S.err = 0) (hi : i < S.bs.length) : S.bs[i].name.size ≤ 12 := by
  obtain ⟨_, s2, _, _⟩ := setE_parts hE
  have hro : rosGo S.bs S.bs 0 = 0 := (rosE_zero s2).2.2
  exact nameOk_size (rosGo_all S.bs 0 hro _ (List.getElem_mem hi)).2
theorem bidN_at {S : SetD} {i : Nat} (hi : i < S.bs.length) : bidN S (i : Int) = S.bs[i].name := by
  unfold bidN
  rw [Int.toNat_natCast, List.getD_eq_getElem?_getD, List.getElem?_eq_getElem hi]
  rfl
theorem fmtS_size (b : Nat → Int) (l : List Prod) : (fmtS b l).size ≤ 200 := by
  cases h : rfitsB b l with
  | true => exact fmt_small h
  | false =>
    have : fmtS b l = ⟨#[]⟩ := by unfold fmtS; rw [if_neg (by rw [h]; simp)]
    rw [this]
    exact Nat.zero_le _
theorem fmtS_none {b : Nat → Int} {l : List Prod} (h : rfitsB b l = false) : fmtS b l = ⟨#[]⟩ := by unfold fmtS; rw [if_neg (by rw [h]; simp)]
theorem fmtS_some {b : Nat → Int} {l : List Prod} (h : rfitsB b l = true) : 0 < (fmtS b l).size := by
  unfold fmtS
  rw [if_pos h]
  simp only [ByteArray.size_append]
  show 0 < 1 + _ + 1
  omega
/-- a bidder's name in memory -/
theorem bid_at {w : World} {A : Option Addr} {n c i : Nat} {l : List Bid} (h : BidS w (.slice A n c) l) (hi : i < l.length) : n = l.length ∧ ∃ b o, A = some ⟨b, o, none⟩ ∧ b < w.heap.size ∧ ∀ W, Below w.heap.size w W → W.cell? ⟨b, o + i * 4, none⟩ = some (.string l[i].name) := by
  obtain ⟨A', c', e', k1, k2, hr⟩ := sl_parts h
  injection e' with e1 e2 e3
  subst e1 e3
  obtain ⟨b, o, e4, hlt, hrow⟩ := hr (by omega)
  exact ⟨e2, b, o, e4, hlt, fun W bw => (BidRow.at_ (show BidRow W b o l from hrow.below hlt bw) i hi).1⟩
set_option maxHeartbeats 4000000 in
set_option maxRecDepth 100000 in
theorem fmt_at_0 (S : SetD) (e : Evt) (v1 v2 v3 v4 : Value) (w : World) (h : SetW w v1 v2 v3 v4 S) (hsh : Sh w) (ht : e.text.size ≤ 5000) (hdg : e.digest < 18446744073709551616) (hc : checkV e = 0) (hk : e.kind = 3 ∨ e.kind = 4 ∨ e.kind = 9) : Calls Tryz.prog 19 #[.agg #[v1, v2, v3, v4], e.val] w (StrPost (formatV S e) w) := by
  have CC := Lib.hid (fun W => check_any e W ht hdg)
  rw [hc] at CC
  have HFk : fieldsK e.kind = 0 := fields_none (by omega)
  have CK := Lib.hid (fun W => fields_any e.kind W)
  rw [HFk] at CK
  have CN := Lib.hid (fun W => name_any e.kind W)
  have hns : (nameK e.kind).size ≤ 10 := (name_some (check_parts hc).1).2
  obtain ⟨A1, c1, A2, c2, A3, c3, A4, c4, rfl, rfl, rfl, rfl⟩ := h.forms
  have BR := Lib.hid (check_parts hc).2.2.1
  have RR := Lib.hid (check_parts hc).2.2.2.1
  have HF := Lib.hid (fmt_plain hc hk (S := S))
  generalize formatV S e = V at *
  have htS : e.text.size ≤ 20000 := by omega
  generalize nameK e.kind = nk at *
  obtain ⟨k, b, r, p, t, d⟩ := e
  unfold Evt.val at *
  dsimp only at *
  have M0 := Lib.hid (fm_new w #[.slice A1 S.ps.length c1, .slice A2 S.bs.length c2, .slice A3 S.cs.length c3, .slice A4 S.ad.length c4] (cells11 k b r p t d))
  have HLB := Lib.hid h.lb
  have t1 : (bits BinOp.and IntKind.i64 0 1 != 0) = false := by decide +kernel
  have t2 : (bits BinOp.and IntKind.i64 0 2 != 0) = false := by decide +kernel
  have t4 : (bits BinOp.and IntKind.i64 0 4 != 0) = false := by decide +kernel
  have t8 : (bits BinOp.and IntKind.i64 0 8 != 0) = false := by decide +kernel
  have t16 : (bits BinOp.and IntKind.i64 0 16 != 0) = false := by decide +kernel
  clear h hsh hc hk ht hdg  HFk
  go_enter Tryz.func19, Tryz.ntmps19
  go_wp2_with fail
  generalize w.heap.size + 1 = ge at *
  refine (CC.out _).mono ?_
  rintro x w1 ⟨rfl, d1⟩
  have M1 := Lib.hid (M0.out.keep d1)
  clear d1 M0
  have s1 := M1.out.su.c4
  have e1 := Blk11 M1.out.ev
  have l1 := M1.out.su.lt
  have y1 := M1.out.ev.lt
  go_wp2_with fail
  refine (CK.out _).mono ?_
  rintro x w2 ⟨rfl, rfl⟩
  go_wp2_with fail
  refine (CN.out _).mono ?_
  rintro x w3 ⟨rfl, d3⟩
  have M3 := Lib.hid (M1.out.keep d3)
  clear d3 M1 s1 e1 l1 y1
  have s3 := M3.out.su.c4
  have e3 := Blk11 M3.out.ev
  have l3 := M3.out.su.lt
  have y3 := M3.out.ev.lt
  have HV := Lib.hid HF.out
  have h4 : ¬ 4000 < nk.size := by omega
  have HX := Lib.hid (HV.out.trans (cap_small h4))
  have d4 : decide ((4000 : Int) < (nk.size : Int)) = false := decide_eq_false (by omega)
  clear HV
  go_wp2_with fail
  go_ret
  exact ⟨by rw [HX.out]; rfl, M3.out.bl⟩
set_option maxHeartbeats 4000000 in
set_option maxRecDepth 100000 in
theorem fmt_at_4 (S : SetD) (e : Evt) (v1 v2 v3 v4 : Value) (w : World) (h : SetW w v1 v2 v3 v4 S) (hsh : Sh w) (ht : e.text.size ≤ 5000) (hdg : e.digest < 18446744073709551616) (hc : checkV e = 0) (hk : e.kind = 1) : Calls Tryz.prog 19 #[.agg #[v1, v2, v3, v4], e.val] w (StrPost (formatV S e) w) := by
  have CC := Lib.hid (fun W => check_any e W ht hdg)
  rw [hc] at CC
  have HFk : fieldsK e.kind = 4 := fields_4 hk
  have CK := Lib.hid (fun W => fields_any e.kind W)
  rw [HFk] at CK
  have CN := Lib.hid (fun W => name_any e.kind W)
  have hns : (nameK e.kind).size ≤ 10 := (name_some (check_parts hc).1).2
  obtain ⟨A1, c1, A2, c2, A3, c3, A4, c4, rfl, rfl, rfl, rfl⟩ := h.forms
  have BR := Lib.hid (check_parts hc).2.2.1
  have RR := Lib.hid (check_parts hc).2.2.2.1
  have CX := Lib.hid (fun W (bw : Below w.heap.size w W) => text_sale e W (sh_keep hsh bw) ht hk)
  have HF := Lib.hid (fmt_sale hc hk (S := S))
  have HXS : (ofL (replL 10 59 (Lib.trimSuffix e.text.data.toList [10]))).size ≤ 5000 := by
    rw [ofL_size, repl_len]
    have := trim_len e.text.data.toList
    have h2 : e.text.data.toList.length = e.text.size := rfl
    omega
  generalize ofL (replL 10 59 (Lib.trimSuffix e.text.data.toList [10])) = tv at *
  generalize saleB e.text.data.toList = tb at *
  generalize formatV S e = V at *
  have htS : e.text.size ≤ 20000 := by omega
  have hnk : nameK 1 = nameK e.kind := by rw [hk]
  rw [hnk] at HF
  clear hnk
  generalize nameK e.kind = nk at *
  obtain ⟨k, b, r, p, t, d⟩ := e
  unfold Evt.val at *
  dsimp only at *
  have M0 := Lib.hid (fm_new w #[.slice A1 S.ps.length c1, .slice A2 S.bs.length c2, .slice A3 S.cs.length c3, .slice A4 S.ad.length c4] (cells11 k b r p t d))
  have HLB := Lib.hid h.lb
  have t1 : (bits BinOp.and IntKind.i64 4 1 != 0) = false := by decide +kernel
  have t2 : (bits BinOp.and IntKind.i64 4 2 != 0) = false := by decide +kernel
  have t4 : (bits BinOp.and IntKind.i64 4 4 != 0) = true := by decide +kernel
  have t8 : (bits BinOp.and IntKind.i64 4 8 != 0) = false := by decide +kernel
  have t16 : (bits BinOp.and IntKind.i64 4 16 != 0) = false := by decide +kernel
  clear h hsh hc hk ht hdg  HFk
  go_enter Tryz.func19, Tryz.ntmps19
  go_wp2_with fail
  generalize w.heap.size + 1 = ge at *
  refine (CC.out _).mono ?_
  rintro x w1 ⟨rfl, d1⟩
  have M1 := Lib.hid (M0.out.keep d1)
  clear d1 M0
  have s1 := M1.out.su.c4
  have e1 := Blk11 M1.out.ev
  have l1 := M1.out.su.lt
  have y1 := M1.out.ev.lt
  go_wp2_with fail
  refine (CK.out _).mono ?_
  rintro x w2 ⟨rfl, rfl⟩
  go_wp2_with fail
  refine (CN.out _).mono ?_
  rintro x w3 ⟨rfl, d3⟩
  have M3 := Lib.hid (M1.out.keep d3)
  clear d3 M1 s1 e1 l1 y1
  have s3 := M3.out.su.c4
  have e3 := Blk11 M3.out.ev
  have l3 := M3.out.su.lt
  have y3 := M3.out.ev.lt
  go_wp2_with fail
  refine (CX.out _ M3.out.bl).mono ?_
  rintro x w5 ⟨rfl, d5⟩
  have M5 := Lib.hid (M3.out.keep d5)
  clear d5 M3 s3 e3 l3 y3
  have s5 := M5.out.su.c4
  have e5 := Blk11 M5.out.ev
  have l5 := M5.out.su.lt
  have y5 := M5.out.ev.lt
  cases htb : tb with
  | false =>
    have HV := Lib.hid HF.out
    rw [htb, if_neg (by simp)] at HV
    clear htb
    go_wp2_with fail
    go_ret
    exact ⟨by rw [HV.out]; rfl, M5.out.bl⟩
  | true =>
    have HV := Lib.hid HF.out
    rw [htb, if_pos rfl] at HV
    obtain ⟨u2, o2, a3, a4, q2, z2⟩ := add_word nk tv (by omega) (by omega)
    rw [← q2] at HV
    clear htb q2
    by_cases h4 : 4000 < o2.size
    · have HX := Lib.hid (HV.out.trans (cap_big h4))
      have d4 : decide ((4000 : Int) < (o2.size : Int)) = true := decide_eq_true (by omega)
      clear HV
      go_wp2_with fail
      go_ret
      exact ⟨by rw [HX.out]; rfl, M5.out.bl⟩
    · have HX := Lib.hid (HV.out.trans (cap_small h4))
      have d4 : decide ((4000 : Int) < (o2.size : Int)) = false := decide_eq_false (by omega)
      clear HV
      go_wp2_with fail
      go_ret
      exact ⟨by rw [HX.out]; rfl, M5.out.bl⟩
set_option maxHeartbeats 4000000 in
set_option maxRecDepth 100000 in
theorem fmt_at_3 (S : SetD) (e : Evt) (v1 v2 v3 v4 : Value) (w : World) (h : SetW w v1 v2 v3 v4 S) (hsh : Sh w) (ht : e.text.size ≤ 5000) (hdg : e.digest < 18446744073709551616) (hc : checkV e = 0) (hk : e.kind = 2) : Calls Tryz.prog 19 #[.agg #[v1, v2, v3, v4], e.val] w (StrPost (formatV S e) w) := by
  have CC := Lib.hid (fun W => check_any e W ht hdg)
  rw [hc] at CC
  have HFk : fieldsK e.kind = 3 := fields_3 hk
  have CK := Lib.hid (fun W => fields_any e.kind W)
  rw [HFk] at CK
  have CN := Lib.hid (fun W => name_any e.kind W)
  have hns : (nameK e.kind).size ≤ 10 := (name_some (check_parts hc).1).2
  obtain ⟨A1, c1, A2, c2, A3, c3, A4, c4, rfl, rfl, rfl, rfl⟩ := h.forms
  have BR := Lib.hid (check_parts hc).2.2.1
  have RR := Lib.hid (check_parts hc).2.2.2.1
  have CS := Lib.hid (fun W (bw : Below w.heap.size w W) => Se.check_any S _ _ _ _ W (h.keep bw))
  have HO := Lib.hid (fun x : outB S e => fmt_out (S := S) (e := e) (by exact .inl hk) x)
  have HBA := Lib.hid (fun (i : Nat) (hi : i < S.bs.length) => bid_at h.b hi)
  have HBN := Lib.hid (fun (i : Nat) (hi : i < S.bs.length) => bidN_at hi)
  have HBS := Lib.hid (fun (i : Nat) (hE : S.err = 0) (hi : i < S.bs.length) => bid_small hE hi)
  have CW := Lib.hid (fun W (bw : Below w.heap.size w W) => Cat.format_any S.ps _ e.want W (by have := h.lp; omega) (h.p.keep bw) h.np)
  have HF := Lib.hid (fun x => fmt_demand hc hk (S := S) x)
  have HWS := fmtS_size e.want S.ps
  have HW0 := Lib.hid (fun x => fmtS_none (b := e.want) (l := S.ps) x)
  have HW1 := Lib.hid (fun x => fmtS_some (b := e.want) (l := S.ps) x)
  generalize formatV S e = V at *
  generalize fmtS e.want S.ps = fw at *
  generalize rfitsB e.want S.ps = fb at *
  have htS : e.text.size ≤ 20000 := by omega
  have hnk : nameK 2 = nameK e.kind := by rw [hk]
  rw [hnk] at HF
  clear hnk
  generalize nameK e.kind = nk at *
  unfold outB at *
  obtain ⟨k, b, r, p, t, d⟩ := e
  unfold Evt.val at *
  dsimp only at *
  obtain ⟨i, hi⟩ : ∃ i : Nat, b = (i : Int) := ⟨b.toNat, by have := BR.out; omega⟩
  subst hi
  generalize hE : S.err = E at *
  have HEE := Lib.hid hE
  have M0 := Lib.hid (fm_new w #[.slice A1 S.ps.length c1, .slice A2 S.bs.length c2, .slice A3 S.cs.length c3, .slice A4 S.ad.length c4] (cells11 k (i : Int) r p t d))
  have HLB := Lib.hid h.lb
  have t1 : (bits BinOp.and IntKind.i64 3 1 != 0) = true := by decide +kernel
  have t2 : (bits BinOp.and IntKind.i64 3 2 != 0) = true := by decide +kernel
  have t4 : (bits BinOp.and IntKind.i64 3 4 != 0) = false := by decide +kernel
  have t8 : (bits BinOp.and IntKind.i64 3 8 != 0) = false := by decide +kernel
  have t16 : (bits BinOp.and IntKind.i64 3 16 != 0) = false := by decide +kernel
  clear h hsh hc hk ht hdg hE HFk
  go_enter Tryz.func19, Tryz.ntmps19
  go_wp2_with fail
  generalize w.heap.size + 1 = ge at *
  refine (CC.out _).mono ?_
  rintro x w1 ⟨rfl, d1⟩
  have M1 := Lib.hid (M0.out.keep d1)
  clear d1 M0
  have s1 := M1.out.su.c4
  have e1 := Blk11 M1.out.ev
  have l1 := M1.out.su.lt
  have y1 := M1.out.ev.lt
  go_wp2_with fail
  refine (CK.out _).mono ?_
  rintro x w2 ⟨rfl, rfl⟩
  go_wp2_with fail
  refine (CN.out _).mono ?_
  rintro x w3 ⟨rfl, d3⟩
  have M3 := Lib.hid (M1.out.keep d3)
  clear d3 M1 s1 e1 l1 y1
  have s3 := M3.out.su.c4
  have e3 := Blk11 M3.out.ev
  have l3 := M3.out.su.lt
  have y3 := M3.out.ev.lt
  go_wp2_with fail
  refine (CS.out _ M3.out.bl).mono ?_
  rintro x w4 ⟨rfl, d4⟩
  have M4 := Lib.hid (M3.out.keep d4)
  clear d4 M3 s3 e3 l3 y3
  have s4 := M4.out.su.c4
  have e4 := Blk11 M4.out.ev
  have l4 := M4.out.su.lt
  have y4 := M4.out.ev.lt
  by_cases h0 : E ≠ 0
  · have HV := Lib.hid (HO.out (.inl h0))
    have dE : (E != 0) = true := by simpa using h0
    go_wp2_with fail
    go_ret
    exact ⟨by rw [HV.out]; rfl, M4.out.bl⟩
  have h00 : E = 0 := Classical.not_not.1 h0
  have dE : (E != 0) = false := by rw [h00]; rfl
  by_cases hB : (S.bs.length : Int) ≤ (i : Int)
  · have HV := Lib.hid (HO.out (.inr hB))
    have dB : decide ((S.bs.length : Int) ≤ (i : Int)) = true := decide_eq_true hB
    have hBn : S.bs.length ≤ i := by omega
    clear h0 h00
    go_wp2_with fail
    go_ret
    exact ⟨by rw [HV.out]; rfl, M4.out.bl⟩
  have hB2 : i < S.bs.length := by omega
  have hnb : ¬ (E ≠ 0 ∨ (S.bs.length : Int) ≤ (i : Int)) := by rintro (x | x); exact h0 x; exact hB x
  have dB : decide ((S.bs.length : Int) ≤ (i : Int)) = false := decide_eq_false hB
  obtain ⟨_, bb, bo, rfl, hbb, hcell⟩ := HBA.out i hB2
  have HVB := Lib.hid (HF.out hnb)
  have HNM := Lib.hid (HBN.out i hB2)
  rw [HNM.out] at HVB
  have hbs := HBS.out i h00 hB2
  have hcl := hcell _ M4.out.bl
  generalize S.bs[i].name = bn at *
  have hbw := Nat.lt_of_lt_of_le hbb M4.out.bl.size
  have hB2i : (i : Int) < (S.bs.length : Int) := by omega
  have hi0 : (0 : Int) ≤ (i : Int) := by omega
  have hBn : ¬ S.bs.length ≤ i := by omega
  obtain ⟨u1, o1, a1, a2, q1, z1⟩ := add_word nk bn (by omega) (by omega)
  rw [← q1] at HVB
  have Q1 := Lib.hid q1
  clear q1 h0 h00 hnb hB HF HO HBA HBN HBS hcell HNM HEE
  go_wp2_with fail
  refine (CW.out _ M4.out.bl).mono ?_
  rintro x w5 ⟨rfl, d5⟩
  have M5 := Lib.hid (M4.out.keep d5)
  clear d5 M4 s4 e4 l4 y4 hcl hbw
  have s5 := M5.out.su.c4
  have e5 := Blk11 M5.out.ev
  have l5 := M5.out.su.lt
  have y5 := M5.out.ev.lt
  cases hfb : fb with
  | false =>
    have HV := Lib.hid HVB.out
    rw [hfb, if_neg (by simp)] at HV
    have hfe := HW0.out hfb
    have hz : fw.toList.isEmpty = true := by rw [hfe]; decide +kernel
    clear hfb hfe
    go_wp2_with fail
    go_ret
    exact ⟨by rw [HV.out]; rfl, M5.out.bl⟩
  | true =>
    have HV := Lib.hid HVB.out
    rw [hfb, if_pos rfl] at HV
    have hz := tl_ne (HW1.out hfb)
    obtain ⟨u2, o2, a3, a4, q2, z2⟩ := add_word o1 fw (by omega) (by omega)
    rw [← q2] at HV
    clear hfb q2
    have h4 : ¬ 4000 < o2.size := by omega
    have HX := Lib.hid (HV.out.trans (cap_small h4))
    have d4 : decide ((4000 : Int) < (o2.size : Int)) = false := decide_eq_false (by omega)
    clear HV
    go_wp2_with fail
    go_ret
    exact ⟨by rw [HX.out]; rfl, M5.out.bl⟩
set_option maxHeartbeats 4000000 in
set_option maxRecDepth 100000 in
theorem fmt_at_5 (S : SetD) (e : Evt) (v1 v2 v3 v4 : Value) (w : World) (h : SetW w v1 v2 v3 v4 S) (hsh : Sh w) (ht : e.text.size ≤ 5000) (hdg : e.digest < 18446744073709551616) (hc : checkV e = 0) (hk : e.kind = 5) : Calls Tryz.prog 19 #[.agg #[v1, v2, v3, v4], e.val] w (StrPost (formatV S e) w) := by
  have CC := Lib.hid (fun W => check_any e W ht hdg)
  rw [hc] at CC
  have HFk : fieldsK e.kind = 5 := fields_5 hk
  have CK := Lib.hid (fun W => fields_any e.kind W)
  rw [HFk] at CK
  have CN := Lib.hid (fun W => name_any e.kind W)
  have hns : (nameK e.kind).size ≤ 10 := (name_some (check_parts hc).1).2
  obtain ⟨A1, c1, A2, c2, A3, c3, A4, c4, rfl, rfl, rfl, rfl⟩ := h.forms
  have BR := Lib.hid (check_parts hc).2.2.1
  have RR := Lib.hid (check_parts hc).2.2.2.1
  have CS := Lib.hid (fun W (bw : Below w.heap.size w W) => Se.check_any S _ _ _ _ W (h.keep bw))
  have HO := Lib.hid (fun x : outB S e => fmt_out (S := S) (e := e) (by exact .inr (.inl hk)) x)
  have HBA := Lib.hid (fun (i : Nat) (hi : i < S.bs.length) => bid_at h.b hi)
  have HBN := Lib.hid (fun (i : Nat) (hi : i < S.bs.length) => bidN_at hi)
  have HBS := Lib.hid (fun (i : Nat) (hE : S.err = 0) (hi : i < S.bs.length) => bid_small hE hi)
  have CX := Lib.hid (fun W => text_bid e W (by omega))
  have HF := Lib.hid (fun x => fmt_bid hc hk (S := S) x)
  generalize bidT e.text.data.toList = tb at *
  generalize formatV S e = V at *
  have htS : e.text.size ≤ 20000 := by omega
  have hnk : nameK 5 = nameK e.kind := by rw [hk]
  rw [hnk] at HF
  clear hnk
  generalize nameK e.kind = nk at *
  unfold outB at *
  obtain ⟨k, b, r, p, t, d⟩ := e
  unfold Evt.val at *
  dsimp only at *
  obtain ⟨i, hi⟩ : ∃ i : Nat, b = (i : Int) := ⟨b.toNat, by have := BR.out; omega⟩
  subst hi
  generalize hE : S.err = E at *
  have HEE := Lib.hid hE
  have M0 := Lib.hid (fm_new w #[.slice A1 S.ps.length c1, .slice A2 S.bs.length c2, .slice A3 S.cs.length c3, .slice A4 S.ad.length c4] (cells11 k (i : Int) r p t d))
  have HLB := Lib.hid h.lb
  have t1 : (bits BinOp.and IntKind.i64 5 1 != 0) = true := by decide +kernel
  have t2 : (bits BinOp.and IntKind.i64 5 2 != 0) = false := by decide +kernel
  have t4 : (bits BinOp.and IntKind.i64 5 4 != 0) = true := by decide +kernel
  have t8 : (bits BinOp.and IntKind.i64 5 8 != 0) = false := by decide +kernel
  have t16 : (bits BinOp.and IntKind.i64 5 16 != 0) = false := by decide +kernel
  clear h hsh hc hk ht hdg hE HFk
  go_enter Tryz.func19, Tryz.ntmps19
  go_wp2_with fail
  generalize w.heap.size + 1 = ge at *
  refine (CC.out _).mono ?_
  rintro x w1 ⟨rfl, d1⟩
  have M1 := Lib.hid (M0.out.keep d1)
  clear d1 M0
  have s1 := M1.out.su.c4
  have e1 := Blk11 M1.out.ev
  have l1 := M1.out.su.lt
  have y1 := M1.out.ev.lt
  go_wp2_with fail
  refine (CK.out _).mono ?_
  rintro x w2 ⟨rfl, rfl⟩
  go_wp2_with fail
  refine (CN.out _).mono ?_
  rintro x w3 ⟨rfl, d3⟩
  have M3 := Lib.hid (M1.out.keep d3)
  clear d3 M1 s1 e1 l1 y1
  have s3 := M3.out.su.c4
  have e3 := Blk11 M3.out.ev
  have l3 := M3.out.su.lt
  have y3 := M3.out.ev.lt
  go_wp2_with fail
  refine (CS.out _ M3.out.bl).mono ?_
  rintro x w4 ⟨rfl, d4⟩
  have M4 := Lib.hid (M3.out.keep d4)
  clear d4 M3 s3 e3 l3 y3
  have s4 := M4.out.su.c4
  have e4 := Blk11 M4.out.ev
  have l4 := M4.out.su.lt
  have y4 := M4.out.ev.lt
  by_cases h0 : E ≠ 0
  · have HV := Lib.hid (HO.out (.inl h0))
    have dE : (E != 0) = true := by simpa using h0
    go_wp2_with fail
    go_ret
    exact ⟨by rw [HV.out]; rfl, M4.out.bl⟩
  have h00 : E = 0 := Classical.not_not.1 h0
  have dE : (E != 0) = false := by rw [h00]; rfl
  by_cases hB : (S.bs.length : Int) ≤ (i : Int)
  · have HV := Lib.hid (HO.out (.inr hB))
    have dB : decide ((S.bs.length : Int) ≤ (i : Int)) = true := decide_eq_true hB
    have hBn : S.bs.length ≤ i := by omega
    clear h0 h00
    go_wp2_with fail
    go_ret
    exact ⟨by rw [HV.out]; rfl, M4.out.bl⟩
  have hB2 : i < S.bs.length := by omega
  have hnb : ¬ (E ≠ 0 ∨ (S.bs.length : Int) ≤ (i : Int)) := by rintro (x | x); exact h0 x; exact hB x
  have dB : decide ((S.bs.length : Int) ≤ (i : Int)) = false := decide_eq_false hB
  obtain ⟨_, bb, bo, rfl, hbb, hcell⟩ := HBA.out i hB2
  have HVB := Lib.hid (HF.out hnb)
  have HNM := Lib.hid (HBN.out i hB2)
  rw [HNM.out] at HVB
  have hbs := HBS.out i h00 hB2
  have hcl := hcell _ M4.out.bl
  generalize S.bs[i].name = bn at *
  have hbw := Nat.lt_of_lt_of_le hbb M4.out.bl.size
  have hB2i : (i : Int) < (S.bs.length : Int) := by omega
  have hi0 : (0 : Int) ≤ (i : Int) := by omega
  have hBn : ¬ S.bs.length ≤ i := by omega
  obtain ⟨u1, o1, a1, a2, q1, z1⟩ := add_word nk bn (by omega) (by omega)
  rw [← q1] at HVB
  have Q1 := Lib.hid q1
  clear q1 h0 h00 hnb hB HF HO HBA HBN HBS hcell HNM HEE
  go_wp2_with fail
  refine (CX.out _).mono ?_
  rintro x w5 ⟨rfl, d5⟩
  have M5 := Lib.hid (M4.out.keep d5)
  clear d5 M4 s4 e4 l4 y4
  have s5 := M5.out.su.c4
  have e5 := Blk11 M5.out.ev
  have l5 := M5.out.su.lt
  have y5 := M5.out.ev.lt
  cases htb : tb with
  | false =>
    have HV := Lib.hid HVB.out
    rw [htb, if_neg (by simp)] at HV
    clear htb
    go_wp2_with fail
    go_ret
    exact ⟨by rw [HV.out]; rfl, M5.out.bl⟩
  | true =>
    have HV := Lib.hid HVB.out
    rw [htb, if_pos rfl] at HV
    obtain ⟨u2, o2, a3, a4, q2, z2⟩ := add_word o1 t (by omega) (by omega)
    rw [← q2] at HV
    clear htb q2
    by_cases h4 : 4000 < o2.size
    · have HX := Lib.hid (HV.out.trans (cap_big h4))
      have d4 : decide ((4000 : Int) < (o2.size : Int)) = true := decide_eq_true (by omega)
      clear HV
      go_wp2_with fail
      go_ret
      exact ⟨by rw [HX.out]; rfl, M5.out.bl⟩
    · have HX := Lib.hid (HV.out.trans (cap_small h4))
      have d4 : decide ((4000 : Int) < (o2.size : Int)) = false := decide_eq_false (by omega)
      clear HV
      go_wp2_with fail
      go_ret
      exact ⟨by rw [HX.out]; rfl, M5.out.bl⟩
set_option maxHeartbeats 4000000 in
set_option maxRecDepth 100000 in
theorem fmt_at_1 (S : SetD) (e : Evt) (v1 v2 v3 v4 : Value) (w : World) (h : SetW w v1 v2 v3 v4 S) (hsh : Sh w) (ht : e.text.size ≤ 5000) (hdg : e.digest < 18446744073709551616) (hc : checkV e = 0) (hk : e.kind = 6 ∨ e.kind = 7) : Calls Tryz.prog 19 #[.agg #[v1, v2, v3, v4], e.val] w (StrPost (formatV S e) w) := by
  have CC := Lib.hid (fun W => check_any e W ht hdg)
  rw [hc] at CC
  have HFk : fieldsK e.kind = 1 := fields_1 hk
  have CK := Lib.hid (fun W => fields_any e.kind W)
  rw [HFk] at CK
  have CN := Lib.hid (fun W => name_any e.kind W)
  have hns : (nameK e.kind).size ≤ 10 := (name_some (check_parts hc).1).2
  obtain ⟨A1, c1, A2, c2, A3, c3, A4, c4, rfl, rfl, rfl, rfl⟩ := h.forms
  have BR := Lib.hid (check_parts hc).2.2.1
  have RR := Lib.hid (check_parts hc).2.2.2.1
  have CS := Lib.hid (fun W (bw : Below w.heap.size w W) => Se.check_any S _ _ _ _ W (h.keep bw))
  have HO := Lib.hid (fun x : outB S e => fmt_out (S := S) (e := e) (by rcases hk with x | x; exact .inr (.inr (.inl x)); exact .inr (.inr (.inr x))) x)
  have HBA := Lib.hid (fun (i : Nat) (hi : i < S.bs.length) => bid_at h.b hi)
  have HBN := Lib.hid (fun (i : Nat) (hi : i < S.bs.length) => bidN_at hi)
  have HBS := Lib.hid (fun (i : Nat) (hE : S.err = 0) (hi : i < S.bs.length) => bid_small hE hi)
  have HF := Lib.hid (fun x => fmt_out1 hc hk (S := S) x)
  generalize formatV S e = V at *
  have htS : e.text.size ≤ 20000 := by omega
  generalize nameK e.kind = nk at *
  unfold outB at *
  obtain ⟨k, b, r, p, t, d⟩ := e
  unfold Evt.val at *
  dsimp only at *
  obtain ⟨i, hi⟩ : ∃ i : Nat, b = (i : Int) := ⟨b.toNat, by have := BR.out; omega⟩
  subst hi
  generalize hE : S.err = E at *
  have HEE := Lib.hid hE
  have M0 := Lib.hid (fm_new w #[.slice A1 S.ps.length c1, .slice A2 S.bs.length c2, .slice A3 S.cs.length c3, .slice A4 S.ad.length c4] (cells11 k (i : Int) r p t d))
  have HLB := Lib.hid h.lb
  have t1 : (bits BinOp.and IntKind.i64 1 1 != 0) = true := by decide +kernel
  have t2 : (bits BinOp.and IntKind.i64 1 2 != 0) = false := by decide +kernel
  have t4 : (bits BinOp.and IntKind.i64 1 4 != 0) = false := by decide +kernel
  have t8 : (bits BinOp.and IntKind.i64 1 8 != 0) = false := by decide +kernel
  have t16 : (bits BinOp.and IntKind.i64 1 16 != 0) = false := by decide +kernel
  clear h hsh hc hk ht hdg hE HFk
  go_enter Tryz.func19, Tryz.ntmps19
  go_wp2_with fail
  generalize w.heap.size + 1 = ge at *
  refine (CC.out _).mono ?_
  rintro x w1 ⟨rfl, d1⟩
  have M1 := Lib.hid (M0.out.keep d1)
  clear d1 M0
  have s1 := M1.out.su.c4
  have e1 := Blk11 M1.out.ev
  have l1 := M1.out.su.lt
  have y1 := M1.out.ev.lt
  go_wp2_with fail
  refine (CK.out _).mono ?_
  rintro x w2 ⟨rfl, rfl⟩
  go_wp2_with fail
  refine (CN.out _).mono ?_
  rintro x w3 ⟨rfl, d3⟩
  have M3 := Lib.hid (M1.out.keep d3)
  clear d3 M1 s1 e1 l1 y1
  have s3 := M3.out.su.c4
  have e3 := Blk11 M3.out.ev
  have l3 := M3.out.su.lt
  have y3 := M3.out.ev.lt
  go_wp2_with fail
  refine (CS.out _ M3.out.bl).mono ?_
  rintro x w4 ⟨rfl, d4⟩
  have M4 := Lib.hid (M3.out.keep d4)
  clear d4 M3 s3 e3 l3 y3
  have s4 := M4.out.su.c4
  have e4 := Blk11 M4.out.ev
  have l4 := M4.out.su.lt
  have y4 := M4.out.ev.lt
  by_cases h0 : E ≠ 0
  · have HV := Lib.hid (HO.out (.inl h0))
    have dE : (E != 0) = true := by simpa using h0
    go_wp2_with fail
    go_ret
    exact ⟨by rw [HV.out]; rfl, M4.out.bl⟩
  have h00 : E = 0 := Classical.not_not.1 h0
  have dE : (E != 0) = false := by rw [h00]; rfl
  by_cases hB : (S.bs.length : Int) ≤ (i : Int)
  · have HV := Lib.hid (HO.out (.inr hB))
    have dB : decide ((S.bs.length : Int) ≤ (i : Int)) = true := decide_eq_true hB
    have hBn : S.bs.length ≤ i := by omega
    clear h0 h00
    go_wp2_with fail
    go_ret
    exact ⟨by rw [HV.out]; rfl, M4.out.bl⟩
  have hB2 : i < S.bs.length := by omega
  have hnb : ¬ (E ≠ 0 ∨ (S.bs.length : Int) ≤ (i : Int)) := by rintro (x | x); exact h0 x; exact hB x
  have dB : decide ((S.bs.length : Int) ≤ (i : Int)) = false := decide_eq_false hB
  obtain ⟨_, bb, bo, rfl, hbb, hcell⟩ := HBA.out i hB2
  have HVB := Lib.hid (HF.out hnb)
  have HNM := Lib.hid (HBN.out i hB2)
  rw [HNM.out] at HVB
  have hbs := HBS.out i h00 hB2
  have hcl := hcell _ M4.out.bl
  generalize S.bs[i].name = bn at *
  have hbw := Nat.lt_of_lt_of_le hbb M4.out.bl.size
  have hB2i : (i : Int) < (S.bs.length : Int) := by omega
  have hi0 : (0 : Int) ≤ (i : Int) := by omega
  have hBn : ¬ S.bs.length ≤ i := by omega
  obtain ⟨u1, o1, a1, a2, q1, z1⟩ := add_word nk bn (by omega) (by omega)
  rw [← q1] at HVB
  have Q1 := Lib.hid q1
  clear q1 h0 h00 hnb hB HF HO HBA HBN HBS hcell HNM HEE
  have HV := Lib.hid HVB.out
  have h4 : ¬ 4000 < o1.size := by omega
  have HX := Lib.hid (HV.out.trans (cap_small h4))
  have d4 : decide ((4000 : Int) < (o1.size : Int)) = false := decide_eq_false (by omega)
  clear HV
  go_wp2_with fail
  go_ret
  exact ⟨by rw [HX.out]; rfl, M4.out.bl⟩
set_option maxHeartbeats 4000000 in
set_option maxRecDepth 100000 in
theorem fmt_at_8 (S : SetD) (e : Evt) (v1 v2 v3 v4 : Value) (w : World) (h : SetW w v1 v2 v3 v4 S) (hsh : Sh w) (ht : e.text.size ≤ 5000) (hdg : e.digest < 18446744073709551616) (hc : checkV e = 0) (hk : e.kind = 8) : Calls Tryz.prog 19 #[.agg #[v1, v2, v3, v4], e.val] w (StrPost (formatV S e) w) := by
  have CC := Lib.hid (fun W => check_any e W ht hdg)
  rw [hc] at CC
  have HFk : fieldsK e.kind = 8 := fields_8 hk
  have CK := Lib.hid (fun W => fields_any e.kind W)
  rw [HFk] at CK
  have CN := Lib.hid (fun W => name_any e.kind W)
  have hns : (nameK e.kind).size ≤ 10 := (name_some (check_parts hc).1).2
  obtain ⟨A1, c1, A2, c2, A3, c3, A4, c4, rfl, rfl, rfl, rfl⟩ := h.forms
  have BR := Lib.hid (check_parts hc).2.2.1
  have RR := Lib.hid (check_parts hc).2.2.2.1
  have HF := Lib.hid (fmt_rerun hc hk (S := S))
  generalize formatV S e = V at *
  have htS : e.text.size ≤ 20000 := by omega
  have hnk : nameK 8 = nameK e.kind := by rw [hk]
  rw [hnk] at HF
  clear hnk
  generalize nameK e.kind = nk at *
  have CD := Lib.hid (fun W => number_any e.round.toNat (by have := RR.out; omega) W)
  have HDS : (ofL (Lib.decDigits e.round.toNat)).size ≤ 2 := by rw [ofL_size]; exact dec2 (by have := RR.out; omega)
  rw [Int.toNat_of_nonneg RR.out.1] at CD
  generalize ofL (Lib.decDigits e.round.toNat) = dv at *
  obtain ⟨k, b, r, p, t, d⟩ := e
  unfold Evt.val at *
  dsimp only at *
  have M0 := Lib.hid (fm_new w #[.slice A1 S.ps.length c1, .slice A2 S.bs.length c2, .slice A3 S.cs.length c3, .slice A4 S.ad.length c4] (cells11 k b r p t d))
  have HLB := Lib.hid h.lb
  have t1 : (bits BinOp.and IntKind.i64 8 1 != 0) = false := by decide +kernel
  have t2 : (bits BinOp.and IntKind.i64 8 2 != 0) = false := by decide +kernel
  have t4 : (bits BinOp.and IntKind.i64 8 4 != 0) = false := by decide +kernel
  have t8 : (bits BinOp.and IntKind.i64 8 8 != 0) = true := by decide +kernel
  have t16 : (bits BinOp.and IntKind.i64 8 16 != 0) = false := by decide +kernel
  clear h hsh hc hk ht hdg  HFk
  go_enter Tryz.func19, Tryz.ntmps19
  go_wp2_with fail
  generalize w.heap.size + 1 = ge at *
  refine (CC.out _).mono ?_
  rintro x w1 ⟨rfl, d1⟩
  have M1 := Lib.hid (M0.out.keep d1)
  clear d1 M0
  have s1 := M1.out.su.c4
  have e1 := Blk11 M1.out.ev
  have l1 := M1.out.su.lt
  have y1 := M1.out.ev.lt
  go_wp2_with fail
  refine (CK.out _).mono ?_
  rintro x w2 ⟨rfl, rfl⟩
  go_wp2_with fail
  refine (CN.out _).mono ?_
  rintro x w3 ⟨rfl, d3⟩
  have M3 := Lib.hid (M1.out.keep d3)
  clear d3 M1 s1 e1 l1 y1
  have s3 := M3.out.su.c4
  have e3 := Blk11 M3.out.ev
  have l3 := M3.out.su.lt
  have y3 := M3.out.ev.lt
  go_wp2_with fail
  refine (CD.out _).mono ?_
  rintro x w5 ⟨rfl, d5⟩
  have M5 := Lib.hid (M3.out.keep d5)
  clear d5 M3 s3 e3 l3 y3
  obtain ⟨u2, o2, a3, a4, q2, z2⟩ := add_word nk dv (by omega) (by omega)
  have HV := Lib.hid HF.out
  rw [← q2] at HV
  clear q2
  have h4 : ¬ 4000 < o2.size := by omega
  have HX := Lib.hid (HV.out.trans (cap_small h4))
  have d4 : decide ((4000 : Int) < (o2.size : Int)) = false := decide_eq_false (by omega)
  clear HV
  go_wp2_with fail
  go_ret
  exact ⟨by rw [HX.out]; rfl, M5.out.bl⟩
set_option maxHeartbeats 4000000 in
set_option maxRecDepth 100000 in
theorem fmt_at_16 (S : SetD) (e : Evt) (v1 v2 v3 v4 : Value) (w : World) (h : SetW w v1 v2 v3 v4 S) (hsh : Sh w) (ht : e.text.size ≤ 5000) (hdg : e.digest < 18446744073709551616) (hc : checkV e = 0) (hk : e.kind = 10) : Calls Tryz.prog 19 #[.agg #[v1, v2, v3, v4], e.val] w (StrPost (formatV S e) w) := by
  have CC := Lib.hid (fun W => check_any e W ht hdg)
  rw [hc] at CC
  have HFk : fieldsK e.kind = 16 := fields_16 hk
  have CK := Lib.hid (fun W => fields_any e.kind W)
  rw [HFk] at CK
  have CN := Lib.hid (fun W => name_any e.kind W)
  have hns : (nameK e.kind).size ≤ 10 := (name_some (check_parts hc).1).2
  obtain ⟨A1, c1, A2, c2, A3, c3, A4, c4, rfl, rfl, rfl, rfl⟩ := h.forms
  have BR := Lib.hid (check_parts hc).2.2.1
  have RR := Lib.hid (check_parts hc).2.2.2.1
  have HF := Lib.hid (fmt_decide hc hk (S := S))
  have CH := Lib.hid (fun W => Sum.hex_any e.digest W hdg)
  have HHS : (Sum.hexS e.digest).size ≤ 16 := by
    show (Sum.hexL e.digest 16).toArray.size ≤ 16
    rw [List.size_toArray, Sum.hexL_length]
    exact Nat.le_refl _
  generalize formatV S e = V at *
  have htS : e.text.size ≤ 20000 := by omega
  have hnk : nameK 10 = nameK e.kind := by rw [hk]
  rw [hnk] at HF
  clear hnk
  generalize nameK e.kind = nk at *
  have HFD : Hid (V = capV (line2 nk (Sum.hexS e.digest))) := HF.out
  generalize Sum.hexS e.digest = hx at *
  obtain ⟨k, b, r, p, t, d⟩ := e
  unfold Evt.val at *
  dsimp only at *
  have M0 := Lib.hid (fm_new w #[.slice A1 S.ps.length c1, .slice A2 S.bs.length c2, .slice A3 S.cs.length c3, .slice A4 S.ad.length c4] (cells11 k b r p t d))
  have HLB := Lib.hid h.lb
  have t1 : (bits BinOp.and IntKind.i64 16 1 != 0) = false := by decide +kernel
  have t2 : (bits BinOp.and IntKind.i64 16 2 != 0) = false := by decide +kernel
  have t4 : (bits BinOp.and IntKind.i64 16 4 != 0) = false := by decide +kernel
  have t8 : (bits BinOp.and IntKind.i64 16 8 != 0) = false := by decide +kernel
  have t16 : (bits BinOp.and IntKind.i64 16 16 != 0) = true := by decide +kernel
  clear h hsh hc hk ht hdg  HFk
  go_enter Tryz.func19, Tryz.ntmps19
  go_wp2_with fail
  generalize w.heap.size + 1 = ge at *
  refine (CC.out _).mono ?_
  rintro x w1 ⟨rfl, d1⟩
  have M1 := Lib.hid (M0.out.keep d1)
  clear d1 M0
  have s1 := M1.out.su.c4
  have e1 := Blk11 M1.out.ev
  have l1 := M1.out.su.lt
  have y1 := M1.out.ev.lt
  go_wp2_with fail
  refine (CK.out _).mono ?_
  rintro x w2 ⟨rfl, rfl⟩
  go_wp2_with fail
  refine (CN.out _).mono ?_
  rintro x w3 ⟨rfl, d3⟩
  have M3 := Lib.hid (M1.out.keep d3)
  clear d3 M1 s1 e1 l1 y1
  have s3 := M3.out.su.c4
  have e3 := Blk11 M3.out.ev
  have l3 := M3.out.su.lt
  have y3 := M3.out.ev.lt
  go_wp2_with fail
  refine (CH.out _).mono ?_
  rintro x w5 ⟨rfl, d5⟩
  have M5 := Lib.hid (M3.out.keep d5)
  clear d5 M3 s3 e3 l3 y3
  obtain ⟨u2, o2, a3, a4, q2, z2⟩ := add_word nk hx (by omega) (by omega)
  have HV := Lib.hid HFD.out
  rw [← q2] at HV
  clear q2
  have h4 : ¬ 4000 < o2.size := by omega
  have HX := Lib.hid (HV.out.trans (cap_small h4))
  have d4 : decide ((4000 : Int) < (o2.size : Int)) = false := decide_eq_false (by omega)
  clear HV
  go_wp2_with fail
  go_ret
  exact ⟨by rw [HX.out]; rfl, M5.out.bl⟩
set_option maxRecDepth 100000 in
theorem fmt_bad (S : SetD) (e : Evt) (v1 v2 v3 v4 : Value) (w : World) (ht : e.text.size ≤ 5000) (hdg : e.digest < 18446744073709551616) (hc : checkV e ≠ 0) : Calls Tryz.prog 19 #[.agg #[v1, v2, v3, v4], e.val] w (StrPost (formatV S e) w) := by
  have HV := Lib.hid (fmt_check (S := S) hc)
  have CC := Lib.hid (fun W => check_any e W ht hdg)
  have dc : (checkV e != 0) = true := by simpa using hc
  generalize formatV S e = V at *
  generalize checkV e = E at *
  obtain ⟨k, b, r, p, t, d⟩ := e
  unfold Evt.val at *
  dsimp only at *
  clear hc ht hdg
  go_enter Tryz.func19, Tryz.ntmps19
  go_wp2_with fail
  refine (CC.out _).mono ?_
  rintro x w1 ⟨rfl, d1⟩
  have B1 := Lib.hid (chain2 (Below.refl _ _) d1)
  clear d1
  go_wp2_with fail
  go_ret
  exact ⟨by rw [HV.out]; rfl, B1.out⟩
theorem format_any (S : SetD) (e : Evt) (v1 v2 v3 v4 : Value) (w : World) (h : SetW w v1 v2 v3 v4 S) (hsh : Sh w) (ht : e.text.size ≤ 5000) (hdg : e.digest < 18446744073709551616) : Calls Tryz.prog 19 #[.agg #[v1, v2, v3, v4], e.val] w (StrPost (formatV S e) w) := by
  by_cases hc : checkV e = 0
  · have hk := (check_parts hc).1
    have hq : (e.kind = 3 ∨ e.kind = 4 ∨ e.kind = 9) ∨ e.kind = 1 ∨ e.kind = 2 ∨ e.kind = 5 ∨ (e.kind = 6 ∨ e.kind = 7) ∨ e.kind = 8 ∨ e.kind = 10 := by omega
    rcases hq with x | x | x | x | x | x | x
    · exact fmt_at_0 S e v1 v2 v3 v4 w h hsh ht hdg hc x
    · exact fmt_at_4 S e v1 v2 v3 v4 w h hsh ht hdg hc x
    · exact fmt_at_3 S e v1 v2 v3 v4 w h hsh ht hdg hc x
    · exact fmt_at_5 S e v1 v2 v3 v4 w h hsh ht hdg hc x
    · exact fmt_at_1 S e v1 v2 v3 v4 w h hsh ht hdg hc x
    · exact fmt_at_8 S e v1 v2 v3 v4 w h hsh ht hdg hc x
    · exact fmt_at_16 S e v1 v2 v3 v4 w h hsh ht hdg hc x
  · exact fmt_bad S e v1 v2 v3 v4 w ht hdg hc
end Go.Proofs.YtaikmgnpfbnjjaaGreatDoor.Ev
